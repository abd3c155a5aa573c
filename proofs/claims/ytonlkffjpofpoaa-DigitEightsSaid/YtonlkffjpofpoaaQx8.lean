-- PRINTED by print.py (a twelfth state) out of the translation. Not trusted: Lean checks it.
import Derived.Test.YtonlkffjpofpoaaQx0
import Derived.Test.YtonlkffjpofpoaaQx7
namespace Go.Proofs.Ytonlkffjpofpoaa.Q
open Go.RowKit Go.Proofs.YtonlkffjpofpoaaW.PrintWords Go.Proofs.YtonlkffjpofpoaaW.PrintLast Go.Proofs.YtonlkffjpofpoaaW.PrintMore
attribute [local go_sem] max2_int min2_int max_two min_two max_three min_three max_four min_four   -- for this text's walks alone
set_option linter.unusedVariables false
set_option linter.unusedSimpArgs false

/-! ### digit_Eight: function 24 -/
section
/-- Is the byte a digit's. -/
def digit_Eight.dig (c : Int) : Bool := decide (48 ≤ c ∧ c ≤ 57)
def digit_Eight.allD (l : List Int) : Bool := (l.take 8).all digit_Eight.dig
/-- The first n bytes as digits in one word, the first one lowest. -/
def digit_Eight.word (l : List Int) : Nat → Int
  | 0 => 0
  | n + 1 => digit_Eight.word l n + (l.getD n 0 - 48) * 256 ^ n
def digit_Eight.joined (x : Int) : Int :=
  let a := Go.bits .and .u64 (IntKind.u64.wrap (IntKind.u64.wrap (x * 10) + x / 256)) 71777214294589695
  let b := Go.bits .and .u64 (IntKind.u64.wrap (IntKind.u64.wrap (a * 100) + a / 65536)) 281470681808895
  Go.bits .and .u64 (IntKind.u64.wrap (IntKind.u64.wrap (b * 10000) + b / 4294967296)) 4294967295
def digit_Eight.f (l0 : List Int) : Option (Int × Bool) :=
  if (l0.length : Int) < 8 then some (0, false) else if digit_Eight.allD l0 = true then some (digit_Eight.joined (digit_Eight.word l0 8), true) else some (0, false)
set_option maxHeartbeats 1000000 in
theorem digit_Eight.callsA (A0 : Option Addr) (c0 : Nat) (l0 : List Int) (w : World) (h1 : l0.length < 8) :
    Calls Try.prog 24 #[.slice A0 l0.length c0] w fun e w' => e = .returned (.tuple #[.int .u64 0, .bool false]) ∧ Below w.heap.size w w' := by
  have h2 : decide ((l0.length : Int) < 8) = true := by simp; omega
  go_enter Try.func24, Try.ntmps24
  go_wp2_with fail
  go_ret2
  exact ⟨rfl, Below.refl _ _⟩
/-- The cells of the first eight bytes, as the walk asks for them. -/
def digit_Eight.Cells (w : World) (ad : Addr) (y : Nat → Int) : Prop := w.cell? ad = some (.int .u8 (y 0)) ∧ ∀ j, 0 < j → j < 8 → w.cell? ⟨ad.block, ad.off + j, none⟩ = some (.int .u8 (y j))
theorem digit_Eight.arr (ad : Addr) (c0 : Nat) (W : World) : (Instr.arrayAt 59 (.slice (some ad) 8 c0)).run Try.prog W = .ok (.pointer (some ad)) W := by
  simp [Instr.arrayAt, run_underlying Try.underlying59]
theorem digit_Eight.idx (y : Nat → Int) (j : Nat) (hj : j < 8) (W : World) :
    (Instr.index 59 (.agg #[.int .u8 (y 0), .int .u8 (y 1), .int .u8 (y 2), .int .u8 (y 3), .int .u8 (y 4), .int .u8 (y 5), .int .u8 (y 6), .int .u8 (y 7)]) (.int .i64 (j : Int))).run Try.prog W = .ok (.int .u8 (y j)) W := by
  match j, hj with
  | 0, _ => rfl
  | 1, _ => rfl
  | 2, _ => rfl
  | 3, _ => rfl
  | 4, _ => rfl
  | 5, _ => rfl
  | 6, _ => rfl
  | 7, _ => rfl
/-- The word, by a function. -/
def digit_Eight.wordF (y : Nat → Int) : Nat → Int
  | 0 => 0
  | n + 1 => digit_Eight.wordF y n + (y n - 48) * 256 ^ n
theorem digit_Eight.wordF_bound (y : Nat → Int) (n : Nat) (h : ∀ j, j < n → 48 ≤ y j ∧ y j ≤ 57) : 0 ≤ digit_Eight.wordF y n ∧ digit_Eight.wordF y n < 256 ^ n := by
  induction n with
  | zero => simp [digit_Eight.wordF]
  | succ n ih =>
    have a := ih (fun j hj => h j (by omega))
    have b := h n (by omega)
    have p : (0 : Int) < 256 ^ n := Int.pow_pos (by decide)
    have m1 : 0 ≤ (y n - 48) * 256 ^ n := Int.mul_nonneg (by omega) (by omega)
    have m2 : (y n - 48) * 256 ^ n ≤ 9 * 256 ^ n := Int.mul_le_mul_of_nonneg_right (by omega) (by omega)
    simp only [digit_Eight.wordF, Int.pow_succ]
    omega
theorem digit_Eight.step (y : Nat → Int) (n : Nat) (hn : n < 8) (h : ∀ j, j < n + 1 → 48 ≤ y j ∧ y j ≤ 57) :
    Go.bits .or .u64 (digit_Eight.wordF y n) (IntKind.u64.wrap ((y n - 48) * 2 ^ (8 * (n : Int)).toNat)) = digit_Eight.wordF y (n + 1) := by
  have a := digit_Eight.wordF_bound y n (fun j hj => h j (by omega))
  have b := h n (by omega)
  have e : (2 : Int) ^ (8 * (n : Int)).toNat = 256 ^ n := by
    have : (8 * (n : Int)).toNat = 8 * n := by omega
    rw [this, Int.pow_mul]; rfl
  have p : (0 : Int) < 256 ^ n := Int.pow_pos (by decide)
  have m1 : 0 ≤ (y n - 48) * 256 ^ n := Int.mul_nonneg (by omega) (by omega)
  have m2 : (y n - 48) * 256 ^ n ≤ 9 * 256 ^ n := Int.mul_le_mul_of_nonneg_right (by omega) (by omega)
  have p8 : (256 : Int) ^ n * 256 ^ (7 - n) = 72057594037927936 := by
    rw [← Int.pow_add]
    have : n + (7 - n) = 7 := by omega
    rw [this]; rfl
  have q : (1 : Int) ≤ 256 ^ (7 - n) := Int.pow_pos (by decide)
  have p9 : (256 : Int) ^ n ≤ 72057594037927936 := by
    have := Int.mul_le_mul_of_nonneg_left q (show (0 : Int) ≤ 256 ^ n by omega)
    omega
  rw [e, show IntKind.u64.wrap ((y n - 48) * 256 ^ n) = ((y n - 48) * 256 ^ n) % 18446744073709551616 by simp [IntKind.wrap, IntKind.bits, IntKind.signed], Int.emod_eq_of_lt m1 (by omega)]
  rw [u64_or _ _ a.1 (by omega) m1 (by omega), Nat.or_comm]
  have ha : (digit_Eight.wordF y n).toNat < 2 ^ (8 * n) := by
    have : ((2 ^ (8 * n) : Nat) : Int) = 256 ^ n := by rw [Nat.pow_mul]; simp
    omega
  have hm : ((y n - 48) * 256 ^ n).toNat % 2 ^ (8 * n) = 0 := by
    have e1 : ((y n - 48) * 256 ^ n).toNat = (y n - 48).toNat * 2 ^ (8 * n) := by
      have e2 : (256 : Int) ^ n = ((2 ^ (8 * n) : Nat) : Int) := by rw [Nat.pow_mul]; simp
      rw [e2, Int.toNat_mul (by omega) (by omega), Int.toNat_natCast]
    rw [e1, Nat.mul_mod_left]
  rw [nat_join (8 * n) _ _ hm ha]
  simp only [digit_Eight.wordF]
  omega
set_option maxHeartbeats 4000000 in
set_option maxRecDepth 100000 in
theorem digit_Eight.callsB (ad : Addr) (c0 n m : Nat) (y : Nat → Int) (w : World) (h1 : 8 ≤ n) (hc0 : n ≤ c0) (hy : digit_Eight.Cells w ad y) (hm : m < 8) (hgood : ∀ j, j < m → digit_Is.f (y j) = some true) (hbad : digit_Is.f (y m) = some false) :
    Calls Try.prog 24 #[.slice (some ad) n c0] w fun e w' => e = .returned (.tuple #[.int .u64 0, .bool false]) ∧ Below w.heap.size w w' := by
  have h2 : decide ((n : Int) < 8) = false := by simp; omega
  have h3 : (8 : Int) ≤ n := by omega
  have h4 : (8 : Int) ≤ c0 := by omega
  have e0 := hy.1
  have e1 := hy.2 1 (by omega) (by omega)
  have e2 := hy.2 2 (by omega) (by omega)
  have e3 := hy.2 3 (by omega) (by omega)
  have e4 := hy.2 4 (by omega) (by omega)
  have e5 := hy.2 5 (by omega) (by omega)
  have e6 := hy.2 6 (by omega) (by omega)
  have e7 := hy.2 7 (by omega) (by omega)
  have harr := digit_Eight.arr ad c0
  have HG := Aside0.mk hgood
  have HBD := Aside0.mk hbad
  clear hy hgood hbad
  go_enter Try.func24, Try.ntmps24
  go_wp2_with fail
  clear e0 e1 e2 e3 e4 e5 e6 e7 harr h2 h3 h4
  go_loopw [4, 14] (fun x i wr => ∃ (k : Nat) (v : Int), k ≤ m ∧ x = .int .u64 v ∧ i = .int .i64 k ∧ Drawn0 w wr) (fun _ i _ => 8 - (intOf i).toNat)
  case atStart => exact ⟨0, 0, Nat.zero_le _, rfl, rfl, Drawn0.refl _⟩
  case round =>
    obtain ⟨k, v, hk, rfl, rfl, hd⟩ := hrel
    have hk8 : (k : Int) < 8 := by omega
    have hk0 : (0 : Int) ≤ k := by omega
    have hidx := digit_Eight.idx y k (by omega)
    have HD := Aside0.mk hd
    clear hd
    by_cases hkm : k < m
    · have hg := HG.out k hkm
      have HG1 := Aside0.mk hg
      clear hg
      go_wp2_with (first | (go_at_call 30; refine (digit_Is.calls (y k) true _ HG1.out).mono ?_; rintro e w1 ⟨rfl, ⟨nd, rfl⟩⟩))
      all_goals
        go_roundw
        case rel => exact ⟨k + 1, _, by omega, rfl, by go_num, HD.out.step nd⟩
        case measure => (simp [intOf] <;> omega)
    · obtain rfl : k = m := by omega
      go_wp2_with (first | (go_at_call 30; refine (digit_Is.calls (y k) false _ HBD.out).mono ?_; rintro e w1 ⟨rfl, ⟨nd, rfl⟩⟩))
      go_ret2
      exact ⟨rfl, (HD.out.step nd).below⟩
set_option maxHeartbeats 4000000 in
set_option maxRecDepth 100000 in
theorem digit_Eight.callsC (ad : Addr) (c0 n : Nat) (y : Nat → Int) (w : World) (h1 : 8 ≤ n) (hc0 : n ≤ c0) (hy : digit_Eight.Cells w ad y) (hgood : ∀ j, j < 8 → digit_Is.f (y j) = some true) (hb : ∀ j, j < 8 → 48 ≤ y j ∧ y j ≤ 57) :
    Calls Try.prog 24 #[.slice (some ad) n c0] w fun e w' => e = .returned (.tuple #[.int .u64 (digit_Eight.joined (digit_Eight.wordF y 8)), .bool true]) ∧ Below w.heap.size w w' := by
  have h2 : decide ((n : Int) < 8) = false := by simp; omega
  have h3 : (8 : Int) ≤ n := by omega
  have h4 : (8 : Int) ≤ c0 := by omega
  have e0 := hy.1
  have e1 := hy.2 1 (by omega) (by omega)
  have e2 := hy.2 2 (by omega) (by omega)
  have e3 := hy.2 3 (by omega) (by omega)
  have e4 := hy.2 4 (by omega) (by omega)
  have e5 := hy.2 5 (by omega) (by omega)
  have e6 := hy.2 6 (by omega) (by omega)
  have e7 := hy.2 7 (by omega) (by omega)
  have harr := digit_Eight.arr ad c0
  have HG := Aside0.mk hgood
  have HBD := Aside0.mk hb
  clear hy hgood hb
  go_enter Try.func24, Try.ntmps24
  go_wp2_with fail
  clear e0 e1 e2 e3 e4 e5 e6 e7 harr h2 h3 h4
  go_loopw [4, 14] (fun x i wr => ∃ k : Nat, k ≤ 8 ∧ x = .int .u64 (digit_Eight.wordF y k) ∧ i = .int .i64 k ∧ Drawn0 w wr) (fun _ i _ => 8 - (intOf i).toNat)
  case atStart => exact ⟨0, Nat.zero_le _, rfl, rfl, Drawn0.refl _⟩
  case round =>
    obtain ⟨k, hk, rfl, rfl, hd⟩ := hrel
    have hk0 : (0 : Int) ≤ k := by omega
    have HD := Aside0.mk hd
    clear hd
    by_cases hk8 : k < 8
    · have hk8' : (k : Int) < 8 := by omega
      have hidx := digit_Eight.idx y k hk8
      have hg := HG.out k hk8
      have HG1 := Aside0.mk hg
      have hr := HBD.out k hk8
      obtain ⟨hr1, hr2⟩ := hr
      clear hg
      go_wp2_with (first | (go_at_call 30; refine (digit_Is.calls (y k) true _ HG1.out).mono ?_; rintro e w1 ⟨rfl, ⟨nd, rfl⟩⟩))
      go_roundw
      case rel =>
        refine ⟨k + 1, by omega, ?_, by go_num, HD.out.step nd⟩
        rw [← digit_Eight.step y k hk8 (fun j hj => HBD.out j (by omega))]
        have e8 : (8 * (k : Int)).toNat = 8 * k := by omega
        rw [e8]
      case measure => (simp [intOf] <;> omega)
    · obtain rfl : k = 8 := by omega
      go_wp2_with fail
      go_ret2
      refine ⟨?_, HD.out.below⟩
      simp only [digit_Eight.joined]
      generalize digit_Eight.wordF y 8 = X
      generalize Go.bits .and .u64 (IntKind.u64.wrap (IntKind.u64.wrap (X * 10) + X / 256)) 71777214294589695 = Y
      generalize Go.bits .and .u64 (IntKind.u64.wrap (IntKind.u64.wrap (Y * 100) + Y / 65536)) 281470681808895 = Z
      generalize Go.bits .and .u64 (IntKind.u64.wrap (IntKind.u64.wrap (Z * 10000) + Z / 4294967296)) 4294967295 = V
      rfl
theorem digit_Eight.wordF_word (l : List Int) : ∀ n, digit_Eight.wordF (fun j => l.getD j 0) n = digit_Eight.word l n
  | 0 => rfl
  | n + 1 => by simp only [digit_Eight.wordF, digit_Eight.word, digit_Eight.wordF_word l n]
theorem digit_Eight.cells_of {w : World} {ad : Addr} {l0 : List Int} (hr : ReadsInt w .u8 (some ad) l0.length l0) (h8 : 8 ≤ l0.length) : digit_Eight.Cells w ad (fun j => l0.getD j 0) := by
  obtain ⟨ad', e, hc⟩ := hr.2.2 (by omega)
  cases e
  refine ⟨?_, fun j h0 hj => ?_⟩
  · have := hc 0 (by omega)
    simpa [Addr.add] using this
  · have := hc j (by omega)
    simpa [Addr.add, show j ≠ 0 by omega] using this
theorem digit_Eight.is_true {c : Int} (h : digit_Eight.dig c = true) : digit_Is.f c = some true := by
  simp [digit_Eight.dig] at h
  unfold digit_Is.f
  rw [if_pos h.1]; simp [h.2]
theorem digit_Eight.is_false {c : Int} (h : ¬ (digit_Eight.dig c = true)) : digit_Is.f c = some false := by
  simp [digit_Eight.dig] at h
  unfold digit_Is.f
  by_cases h1 : c ≥ 48
  · rw [if_pos h1]; have := h h1; simp; omega
  · rw [if_neg h1]
theorem digit_Eight.first_bad (y : Nat → Int) (n : Nat) : (∀ j, j < n → digit_Eight.dig (y j) = true) ∨ ∃ m, m < n ∧ (∀ j, j < m → digit_Eight.dig (y j) = true) ∧ ¬ (digit_Eight.dig (y m) = true) := by
  induction n with
  | zero => left; intro j hj; omega
  | succ n ih =>
    rcases ih with h | ⟨m, h1, h2, h3⟩
    · by_cases hb : digit_Eight.dig (y n) = true
      · left; intro j hj
        rcases Nat.lt_or_ge j n with h' | h'
        · exact h j h'
        · rw [show j = n by omega]; exact hb
      · right; exact ⟨n, by omega, h, hb⟩
    · right; exact ⟨m, by omega, h2, h3⟩
theorem digit_Eight.all_iff (l : List Int) (h8 : 8 ≤ l.length) : digit_Eight.allD l = true ↔ ∀ j, j < 8 → digit_Eight.dig (l.getD j 0) = true := by
  unfold digit_Eight.allD
  rw [List.all_eq_true]
  constructor
  · intro h j hj
    refine h _ ?_
    rw [List.getD_eq_getElem?_getD, List.getElem?_eq_getElem (by omega)]
    exact List.mem_take_iff_getElem.2 ⟨j, by omega, rfl⟩
  · intro h x hx
    obtain ⟨j, hj, rfl⟩ := List.mem_take_iff_getElem.1 hx
    have := h j (by omega)
    rw [List.getD_eq_getElem?_getD, List.getElem?_eq_getElem (by omega)] at this
    exact this
theorem digit_Eight.calls (A0 : Option Addr) (c0 : Nat) (l0 : List Int) (r1 : Int) (r2 : Bool) (w : World) (hr0 : Kd.C (Kd.int .u8) w A0 l0.length l0) (hc0 : l0.length ≤ c0) (h : digit_Eight.f l0 = some (r1, r2)) :
    Calls Try.prog 24 #[.slice A0 l0.length c0] w fun e w' => e = .returned (.tuple #[.int .u64 r1, .bool r2]) ∧ Below w.heap.size w w' := by
  unfold digit_Eight.f at h
  by_cases h1 : (l0.length : Int) < 8
  · rw [if_pos h1] at h; simp only [Option.some.injEq, Prod.mk.injEq] at h; obtain ⟨rfl, rfl⟩ := h
    exact digit_Eight.callsA A0 c0 l0 w (by omega)
  · rw [if_neg h1] at h
    have hri : ReadsInt w .u8 A0 l0.length l0 := by
      have := Kd.reads_of_C (d := (0 : Int)) (h1 := fun _ => rfl) hr0
      exact this
    obtain ⟨ad, rfl, -⟩ := hri.2.2 (by omega)
    have hcs := digit_Eight.cells_of hri (by omega)
    rcases digit_Eight.first_bad (fun j => l0.getD j 0) 8 with hall | ⟨m, hm, hg, hb⟩
    · rw [if_pos ((digit_Eight.all_iff l0 (by omega)).2 hall)] at h; simp only [Option.some.injEq, Prod.mk.injEq] at h; obtain ⟨rfl, rfl⟩ := h
      rw [← digit_Eight.wordF_word l0 8]
      exact digit_Eight.callsC ad c0 l0.length _ w (by omega) hc0 hcs (fun j hj => digit_Eight.is_true (hall j hj)) (fun j hj => by have := hall j hj; simpa [digit_Eight.dig] using this)
    · rw [if_neg (fun e => hb ((digit_Eight.all_iff l0 (by omega)).1 e m hm))] at h; simp only [Option.some.injEq, Prod.mk.injEq] at h; obtain ⟨rfl, rfl⟩ := h
      exact digit_Eight.callsB ad c0 l0.length m _ w (by omega) hc0 hcs hm (fun j hj => digit_Eight.is_true (hg j hj)) (digit_Eight.is_false hb)

end

end Go.Proofs.Ytonlkffjpofpoaa.Q
