/- Plain facts on the printed functions of package digit: what digits say. -/
import Derived.Test.YtjefmcfkhalagaaQ0ZScaledWrites
import Derived.Laws.BitsAllLaws
import Derived.Laws.Bits64
namespace Go.Proofs.Ytjefmcfkhalagaa.Dig
open Go.RowKit Go.Proofs.Ytjefmcfkhalagaa.Q Go.Proofs.YtjefmcfkhalagaaW.PrintWords Go.Proofs.YtjefmcfkhalagaaW.PrintLast

theorem w64 (n : Int) : IntKind.u64.wrap n = n % 18446744073709551616 := IntKind.wrap_u64 n
theorem wrap64_id {x : Int} (h : -9223372036854775808 ≤ x) (h' : x < 9223372036854775808) : wrap64 x = x := by unfold wrap64; omega
/-- A digit's byte. -/
def IsD (c : Int) : Prop := 48 ≤ c ∧ c ≤ 57
instance (c : Int) : Decidable (IsD c) := inferInstanceAs (Decidable (_ ∧ _))
def AllD (l : List Int) : Prop := ∀ c ∈ l, IsD c
/-- What digits say, from a number that stands ahead of them. -/
def dv : Int → List Int → Int
  | a, [] => a
  | a, c :: l => dv (10 * a + (c - 48)) l
def dval (l : List Int) : Int := dv 0 l
theorem dv_append (a : Int) (l m : List Int) : dv a (l ++ m) = dv (dv a l) m := by
  induction l generalizing a with
  | nil => rfl
  | cons c l ih => exact ih _
theorem dv_snoc (a : Int) (l : List Int) (c : Int) : dv a (l ++ [c]) = 10 * dv a l + (c - 48) := by rw [dv_append]; rfl
theorem dv_pow (a : Int) (l : List Int) : dv a l = a * 10 ^ l.length + dval l := by
  unfold dval
  induction l generalizing a with
  | nil => simp [dv]
  | cons c l ih =>
    simp only [dv, List.length_cons]
    rw [ih, ih (10 * 0 + (c - 48)), Int.pow_succ]
    grind
theorem dval_cons (c : Int) (l : List Int) : dval (c :: l) = (c - 48) * 10 ^ l.length + dval l := by
  have := dv_pow (10 * 0 + (c - 48)) l
  simp only [dval, dv] at this ⊢
  rw [this]; grind
theorem dval_append (l m : List Int) : dval (l ++ m) = dval l * 10 ^ m.length + dval m := by
  unfold dval; rw [dv_append, dv_pow]; rfl
theorem dval_bounds {l : List Int} (h : AllD l) : 0 ≤ dval l ∧ dval l < 10 ^ l.length := by
  induction l with
  | nil => exact ⟨by simp [dval, dv], by simp [dval, dv]⟩
  | cons c l ih =>
    have hl := ih (fun x hx => h x (List.mem_cons_of_mem _ hx))
    have hc : IsD c := h c List.mem_cons_self
    rw [dval_cons, List.length_cons, Int.pow_succ]
    unfold IsD at hc
    have p : (0 : Int) < 10 ^ l.length := Int.pow_pos (by decide)
    have m1 : 0 ≤ (c - 48) * 10 ^ l.length := Int.mul_nonneg (by omega) (by omega)
    have m2 : (c - 48) * 10 ^ l.length ≤ 9 * 10 ^ l.length := Int.mul_le_mul_of_nonneg_right (by omega) (by omega)
    omega

/-! ### Pad's digits -/
theorem dg_of {x : Int} (h : 0 ≤ x) : digit_Pad.dg x = 48 + x % 10 := by
  unfold digit_Pad.dg
  rw [Int.tmod_eq_emod_of_nonneg h, w64]; omega
theorem nx_of {x : Int} (h : 0 ≤ x) (h' : x < 18446744073709551616) : digit_Pad.nx x = x / 10 := by
  unfold digit_Pad.nx
  rw [Int.tdiv_eq_ediv_of_nonneg h, w64]; omega
theorem D_all : ∀ (n : Nat) {x : Int}, 0 ≤ x → x < 18446744073709551616 → AllD (digit_Pad.D n x)
  | 0, _, _, _ => fun _ h => by simp [digit_Pad.D] at h
  | n + 1, x, h, h' => by
    intro c hc
    simp only [digit_Pad.D, List.mem_append, List.mem_singleton] at hc
    rcases hc with hc | rfl
    · rw [nx_of h h'] at hc
      exact D_all n (by omega) (by omega) c hc
    · rw [dg_of h]; unfold IsD; omega
theorem mod_succ (x : Int) (n : Nat) : x % 10 ^ (n + 1) = 10 * (x / 10 % 10 ^ n) + x % 10 := by
  have p : (0 : Int) < 10 ^ n := Int.pow_pos (by decide)
  have e1 := Int.emod_add_mul_ediv (x / 10) (10 ^ n)
  have e2 : x = (10 * (x / 10 % 10 ^ n) + x % 10) + 10 ^ (n + 1) * (x / 10 / 10 ^ n) := by
    rw [Int.pow_succ]
    have e3 : x = 10 * (x / 10) + x % 10 := by omega
    conv => lhs; rw [e3, ← e1]
    grind
  conv => lhs; rw [e2]
  rw [Int.add_mul_emod_self_left]
  apply Int.emod_eq_of_lt
  · have := Int.emod_nonneg (x / 10) (show (10 : Int) ^ n ≠ 0 by omega); omega
  · have := Int.emod_lt_of_pos (x / 10) p
    rw [Int.pow_succ]; omega
theorem D_val : ∀ (n : Nat) {x : Int}, 0 ≤ x → x < 18446744073709551616 → dval (digit_Pad.D n x) = x % 10 ^ n
  | 0, x, _, _ => by simp [digit_Pad.D, dval, dv, Int.emod_one]
  | n + 1, x, h, h' => by
    simp only [digit_Pad.D]
    unfold dval
    rw [dv_snoc, dg_of h, nx_of h h']
    have := D_val n (x := x / 10) (by omega) (by omega)
    unfold dval at this
    rw [this, mod_succ]; omega

/-! ### Count -/
theorem count_loop (d : Nat) : ∀ (x n : Int), 0 ≤ x → x < 18446744073709551616 → x < 10 ^ (d + 1) → 0 ≤ n → n + d < 1000 →
    ∃ c : Nat, Ev (fun k => digit_Count.l0 k x n) (n + c) ∧ c ≤ d ∧ x < 10 ^ (c + 1) ∧ (c = 0 ∨ 10 ^ c ≤ x) := by
  induction d with
  | zero =>
    intro x n h h' hx hn hl
    refine ⟨0, ?_, Nat.le_refl _, hx, .inl rfl⟩
    refine Ev.step (fun k => by simp only [digit_Count.l0]; rfl) ?_
    simp only [if_neg (show ¬ x > 9 by simp at hx; omega)]
    simpa using Ev.now n
  | succ d ih =>
    intro x n h h' hx hn hl
    by_cases h9 : x > 9
    · have e : IntKind.u64.wrap (Int.tdiv x 10) = x / 10 := nx_of h h'
      obtain ⟨c, hc, c1, c2, c3⟩ := ih (x / 10) (n + 1) (by omega) (by omega) (by rw [Int.pow_succ] at hx; omega) (by omega) (by omega)
      refine ⟨c + 1, ?_, by omega, by rw [Int.pow_succ]; omega, .inr ?_⟩
      · refine Ev.step (fun k => by simp only [digit_Count.l0]; rfl) ?_
        simp only [if_pos h9, e]
        rw [wrap64_id (by omega) (by omega)]
        have : n + ((c + 1 : Nat) : Int) = n + 1 + c := by omega
        rw [this]; exact hc
      · rw [Int.pow_succ]
        rcases c3 with rfl | c3
        · simp; omega
        · omega
    · refine ⟨0, ?_, by omega, by simp; omega, .inl rfl⟩
      refine Ev.step (fun k => by simp only [digit_Count.l0]; rfl) ?_
      simp only [if_neg h9]
      simpa using Ev.now n
/-- How many digits: c + 1. -/
theorem count_ev {x : Int} (h : 0 ≤ x) (h' : x < 18446744073709551616) :
    ∃ c : Nat, Ev (fun k => digit_Count.f k x) ((c : Int) + 1) ∧ c ≤ 19 ∧ x < 10 ^ (c + 1) ∧ (c = 0 ∨ 10 ^ c ≤ x) := by
  obtain ⟨c, h1, h2, h3, h4⟩ := count_loop 19 x 1 h h' (by have : (10 : Int) ^ (19 + 1) = 100000000000000000000 := by rfl
                                                           omega) (by omega) (by omega)
  refine ⟨c, ?_, h2, h3, h4⟩
  rw [Int.add_comm]; exact h1
theorem pow10_lt {a b : Nat} {x : Int} (h1 : (10 : Int) ^ a ≤ x) (h2 : x < 10 ^ b) : a < b := by
  rcases Nat.lt_or_ge a b with h | h
  · exact h
  · exfalso
    have : (10 : Int) ^ b ≤ 10 ^ a := by
      obtain ⟨j, rfl⟩ : ∃ j, a = b + j := ⟨a - b, by omega⟩
      rw [Int.pow_add]
      have p : (0 : Int) < 10 ^ b := Int.pow_pos (by decide)
      have q : (1 : Int) ≤ 10 ^ j := Int.pow_pos (by decide)
      have := Int.mul_le_mul_of_nonneg_left q (show (0 : Int) ≤ 10 ^ b by omega)
      omega
    omega
theorem count_unique {x : Int} {c d : Nat} (h1 : x < 10 ^ (c + 1)) (h2 : c = 0 ∨ 10 ^ c ≤ x) (h3 : x < 10 ^ (d + 1)) (h4 : d = 0 ∨ 10 ^ d ≤ x) : c = d := by
  rcases h2 with rfl | h2 <;> rcases h4 with rfl | h4
  · rfl
  · have := pow10_lt h4 h1; omega
  · have := pow10_lt h2 h3; omega
  · have := pow10_lt h2 h3; have := pow10_lt h4 h1; omega

theorem pad_ev {x : Int} {c : Nat} (hc : Ev (fun k => digit_Count.f k x) ((c : Int) + 1)) {wd : Nat} (h1 : 1 ≤ wd) (h2 : wd ≤ 20) (h3 : c + 1 ≤ wd) :
    Ev (fun k => digit_Pad.f k x (wd : Int)) (digit_Pad.D wd x, 0) := by
  unfold digit_Pad.f
  simp only [if_neg (show ¬ (wd : Int) < 1 by omega), if_neg (show ¬ (wd : Int) > 20 by omega)]
  refine Ev.bind hc ?_
  simp only [if_neg (show ¬ (c : Int) + 1 > (wd : Int) by omega), Int.toNat_natCast]
  exact Ev.now _

end Go.Proofs.Ytjefmcfkhalagaa.Dig
