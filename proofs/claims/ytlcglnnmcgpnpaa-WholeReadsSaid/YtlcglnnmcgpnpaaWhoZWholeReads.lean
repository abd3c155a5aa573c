/- Plain facts on the printed functions of package whole. -/
import Derived.Test.YtlcglnnmcgpnpaaRunZWholeReads
import Derived.Test.YtlcglnnmcgpnpaaQ0ZWholeReads
namespace Go.Proofs.Ytlcglnnmcgpnpaa.Dig
open Go.RowKit Go.Proofs.Ytlcglnnmcgpnpaa.Q Go.Proofs.YtlcglnnmcgpnpaaW.PrintWords Go.Proofs.YtlcglnnmcgpnpaaW.PrintLast Go.Proofs.YtlcglnnmcgpnpaaW.PrintMore

def Wd (w : Nat) : Prop := w = 8 ∨ w = 16 ∨ w = 32 ∨ w = 64
theorem width_ev {k : Int} (h : 1 ≤ k ∧ k ≤ 8) : ∃ (w : Nat) (s : Bool), whole_width.f k = some ((w : Int), s, true) ∧ Wd w ∧ s = decide (k ≤ 4) := by
  have hk : k = 1 ∨ k = 2 ∨ k = 3 ∨ k = 4 ∨ k = 5 ∨ k = 6 ∨ k = 7 ∨ k = 8 := by omega
  unfold Wd
  rcases hk with rfl | rfl | rfl | rfl | rfl | rfl | rfl | rfl
  · exact ⟨8, true, rfl, by omega, rfl⟩
  · exact ⟨16, true, rfl, by omega, rfl⟩
  · exact ⟨32, true, rfl, by omega, rfl⟩
  · exact ⟨64, true, rfl, by omega, rfl⟩
  · exact ⟨8, false, rfl, by omega, rfl⟩
  · exact ⟨16, false, rfl, by omega, rfl⟩
  · exact ⟨32, false, rfl, by omega, rfl⟩
  · exact ⟨64, false, rfl, by omega, rfl⟩
def lim (w : Nat) (s neg : Bool) : Int := if s = true then (if neg = true then 2 ^ (w - 1) else 2 ^ (w - 1) - 1) else 2 ^ w - 1
theorem most_ev {w : Nat} (h : Wd w) (s neg : Bool) : whole_most.f (w : Int) s neg = some (lim w s neg) := by
  unfold Wd at h
  rcases h with rfl | rfl | rfl | rfl <;> cases s <;> cases neg <;> decide +kernel
theorem lim_bounds {w : Nat} (h : Wd w) (s neg : Bool) : 127 ≤ lim w s neg ∧ lim w s neg < 18446744073709551616 := by
  unfold Wd at h
  rcases h with rfl | rfl | rfl | rfl <;> cases s <;> cases neg <;> decide +kernel
theorem mask_ev {w : Nat} (h : Wd w) : IntKind.u64.wrap ((IntKind.u64.wrap ((shl .u64 1 (wrap64 ((w : Int) - 1))) * 2)) - 1) = 2 ^ w - 1 := by
  unfold Wd at h
  rcases h with rfl | rfl | rfl | rfl <;> decide +kernel
theorem and_mask {w : Nat} (hw : w ≤ 64) {x : Int} (h : 0 ≤ x) (h' : x < 18446744073709551616) : Go.bits .and .u64 x (2 ^ w - 1) = x % 2 ^ w := by
  have p : (2 : Int) ^ w ≤ 18446744073709551616 := by
    have e : (2 : Int) ^ 64 = 2 ^ w * 2 ^ (64 - w) := by rw [← Int.pow_add]; congr 1; omega
    have e2 : (2 : Int) ^ 64 = 18446744073709551616 := by rfl
    have q : (1 : Int) ≤ 2 ^ (64 - w) := Int.pow_pos (by decide)
    have pw : (0 : Int) < 2 ^ w := Int.pow_pos (by decide)
    have := Int.mul_le_mul_of_nonneg_left q (Int.le_of_lt pw)
    omega
  have p1 : (1 : Int) ≤ 2 ^ w := Int.pow_pos (by decide)
  rw [u64_and _ _ h h' (by omega) (by omega)]
  have e : ((2 : Int) ^ w - 1).toNat = 2 ^ w - 1 := by
    have : (2 : Int) ^ w = ((2 ^ w : Nat) : Int) := by simp
    rw [this]; omega
  obtain ⟨n, rfl⟩ := Int.eq_ofNat_of_zero_le h
  rw [e, Nat.and_two_pow_sub_one_eq_mod]
  have : (2 : Int) ^ w = ((2 ^ w : Nat) : Int) := by simp
  rw [this, Int.toNat_natCast]
  exact Int.natCast_emod _ _
theorem neg_mask {w : Nat} (h : Wd w) {x : Int} (_hx : 0 ≤ x) (_hx' : x < 18446744073709551616) :
    Go.bits .and .u64 (IntKind.u64.wrap (-x)) (IntKind.u64.wrap ((IntKind.u64.wrap ((shl .u64 1 (wrap64 ((w : Int) - 1))) * 2)) - 1)) = (-x) % 2 ^ w := by
  rw [mask_ev h, w64, and_mask (by unfold Wd at h; omega) (by omega) (by omega)]
  unfold Wd at h
  rcases h with rfl | rfl | rfl | rfl <;> simp only [show (2 : Int) ^ 8 = 256 from rfl, show (2 : Int) ^ 16 = 65536 from rfl, show (2 : Int) ^ 32 = 4294967296 from rfl, show (2 : Int) ^ 64 = 18446744073709551616 from rfl] <;> omega

/-- Where digits go beyond L. -/
def over (L : Int) : Int → List Int → Nat → Option Nat
  | _, [], _ => none
  | a, c :: l, i => if 10 * a + (c - 48) > L then some i else over L (10 * a + (c - 48)) l (i + 1)
theorem over_none {L : Int} : ∀ (l : List Int) (a : Int) (i : Nat), AllD l → 0 ≤ a → dv a l ≤ L → over L a l i = none := by
  intro l
  induction l with
  | nil => intros; rfl
  | cons c l ih =>
    intro a i h ha hv
    have hc := h c List.mem_cons_self
    unfold IsD at hc
    have hl : AllD l := fun z hz => h z (List.mem_cons_of_mem _ hz)
    have g := dv_geR (a := 10 * a + (c - 48)) (by omega) hl
    have e : dv a (c :: l) = dv (10 * a + (c - 48)) l := rfl
    simp only [over]
    rw [if_neg (by omega)]
    exact ih _ _ hl (by omega) (by omega)
theorem over_append {L : Int} : ∀ (l m : List Int) (a : Int) (i p : Nat), over L a l i = some p → over L a (l ++ m) i = some p := by
  intro l
  induction l with
  | nil => intro m a i p h; cases h
  | cons c l ih =>
    intro m a i p h
    simp only [over, List.cons_append] at h ⊢
    by_cases hc : 10 * a + (c - 48) > L
    · rw [if_pos hc] at h ⊢; exact h
    · rw [if_neg hc] at h ⊢; exact ih _ _ _ _ h
theorem over_take {L : Int} : ∀ (l : List Int) (a : Int) (i p : Nat), over L a l i = some p → i ≤ p ∧ p - i < l.length ∧ over L a (l.take (p - i)) i = none := by
  intro l
  induction l with
  | nil => intro a i p h; cases h
  | cons c l ih =>
    intro a i p h
    simp only [over] at h
    by_cases hc : 10 * a + (c - 48) > L
    · rw [if_pos hc] at h
      cases h
      exact ⟨Nat.le_refl _, by simp, by simp [over]⟩
    · rw [if_neg hc] at h
      obtain ⟨h1, h2, h3⟩ := ih _ _ _ h
      refine ⟨by omega, by simp only [List.length_cons]; omega, ?_⟩
      rw [show p - i = (p - (i + 1)) + 1 by omega, List.take_succ_cons]
      simp only [over]
      rw [if_neg hc]; exact h3
theorem over_dv {L : Int} : ∀ (l : List Int) (a : Int) (i : Nat), a ≤ L → over L a l i = none → dv a l ≤ L := by
  intro l
  induction l with
  | nil => intro a i ha _; exact ha
  | cons c l ih =>
    intro a i ha h
    simp only [over] at h
    by_cases hc : 10 * a + (c - 48) > L
    · rw [if_pos hc] at h; cases h
    · rw [if_neg hc] at h
      exact ih _ _ (by omega) h
/-- What Parse answers when all behind the sign is digits. -/
def fin (w : Nat) (neg : Bool) (frm : Nat) (v : Int) : Option Nat → Int × Int × Int
  | some p => (0, ((frm + p : Nat) : Int), 53)
  | none => (if neg = true then (-v) % 2 ^ w else v, 0, 0)
theorem parse_loop {w : Nat} (hw : Wd w) {frm : Nat} (hf : frm ≤ 1) (neg : Bool) {L : Int} (hL : 9 ≤ L) (hL' : L < 18446744073709551616) {big : List Int} (hb : big.length < 9223372036854775000) (hall : AllD big) :
    ∀ (d i : Nat) (a : Int), i + d = big.length → 0 ≤ a → a ≤ L →
      Ev (fun k => whole_Parse.l0 k w frm neg a L big big.length i) (fin w neg frm (dv a (big.drop i)) (over L a (big.drop i) i)) := by
  intro d
  induction d with
  | zero =>
    intro i a hi ha haL
    refine Ev.step (fun k => by simp only [whole_Parse.l0]; rfl) ?_
    simp only [if_neg (show ¬ (i : Int) < big.length by omega)]
    rw [List.drop_of_length_le (show big.length ≤ i by omega)]
    simp only [over, fin, dv]
    cases neg with
    | false => simp only [Bool.false_eq_true, if_false]; exact Ev.now _
    | true =>
      simp only [if_true]
      have h0 : (0 : Int) ≤ wrap64 ((w : Int) - 1) := by unfold Wd at hw; rcases hw with rfl | rfl | rfl | rfl <;> decide +kernel
      simp only [if_pos h0]
      rw [neg_mask hw ha (by omega)]
      exact Ev.now _
  | succ d ih =>
    intro i a hi ha haL
    have hlt : i < big.length := by omega
    have hc : IsD (rd big i) := hall _ (by
      have : rd big (i : Int) = big[i] := by simp [rd, hlt]
      rw [this]; exact List.getElem_mem hlt)
    unfold IsD at hc
    refine Ev.step (fun k => by simp only [whole_Parse.l0]; rfl) ?_
    simp only [if_pos (show (i : Int) < big.length by omega), if_pos (show (0 : Int) ≤ i by omega)]
    rw [drop_cons hlt]
    have m1 : (rd big i - 48) % 256 = rd big i - 48 := by omega
    simp only [m1, if_neg (show ¬ rd big i - 48 > L by omega)]
    have e1 : IntKind.u64.wrap (Int.tdiv (IntKind.u64.wrap (L - (rd big i - 48))) 10) = (L - (rd big i - 48)) / 10 := by
      rw [w64, w64, Int.emod_eq_of_lt (show 0 ≤ L - (rd big i - 48) by omega) (by omega), Int.tdiv_eq_ediv_of_nonneg (by omega)]
      omega
    rw [e1]
    simp only [over]
    by_cases ho : 10 * a + (rd big i - 48) > L
    · simp only [if_pos ho, if_pos (show a > (L - (rd big i - 48)) / 10 by omega), fin]
      rw [wrap64_id (by omega) (by omega), Int.natCast_add]
      exact Ev.now _
    · simp only [if_neg ho, if_neg (show ¬ a > (L - (rd big i - 48)) / 10 by omega)]
      rw [wrap64_id (by omega) (by omega), w64, w64, show (10 * a % 18446744073709551616 + (rd big i - 48)) % 18446744073709551616 = 10 * a + (rd big i - 48) by omega]
      have := ih (i + 1) (10 * a + (rd big i - 48)) (by omega) (by omega) (by omega)
      exact_mod_cast this
/-- The sign's place. -/
def frm (s : Bool) : List Int → Nat
  | [] => 0
  | c :: _ => if c = 43 ∨ (c = 45 ∧ s = true) then 1 else 0
theorem frm_le (s : Bool) (l : List Int) : frm s l ≤ 1 := by
  cases l with
  | nil => exact Nat.zero_le _
  | cons c l => simp only [frm]; split <;> omega
theorem frm_len (s : Bool) (l : List Int) : frm s l ≤ l.length := by
  cases l with
  | nil => exact Nat.le_refl _
  | cons c l => have := frm_le s (c :: l); simp only [List.length_cons]; omega
def ng (l : List Int) : Bool := rd l 0 == 45
theorem parse_from {k : Int} {w : Nat} {s : Bool} (hk : whole_width.f k = some ((w : Int), s, true)) {l : List Int} {R : Int × Int × Int} (h : Ev (fun n => whole_Parse.j1 n l w s (frm s l)) R) :
    Ev (fun n => whole_Parse.f n k l) R := by
  unfold whole_Parse.f
  simp only [hk, Option.bind_some, if_true]
  match l, h with
  | [], h =>
    simp only [List.length_nil]
    refine Ev.step (fun k => by simp only [whole_Parse.j0]; rfl) ?_
    simp only [Bool.false_eq_true, if_false]
    exact h
  | c :: m, h =>
    simp only [List.length_cons, if_pos (show ((m.length + 1 : Nat) : Int) > 0 by omega), show rd (c :: m) 0 = c from rfl]
    by_cases h43 : c = 43
    · simp only [if_pos h43]
      refine Ev.step (fun k => by simp only [whole_Parse.j0]; rfl) ?_
      simp only [if_true]
      rw [show frm s (c :: m) = 1 by simp [frm, h43]] at h
      exact h
    · simp only [if_neg h43]
      by_cases h45 : c = 45
      · simp only [if_pos h45]
        refine Ev.step (fun k => by simp only [whole_Parse.j0]; rfl) ?_
        cases s with
        | true =>
          simp only [if_true]
          rw [show frm true (c :: m) = 1 by simp [frm, h45]] at h
          exact h
        | false =>
          simp only [Bool.false_eq_true, if_false]
          rw [show frm false (c :: m) = 0 by simp [frm, h43]] at h
          exact h
      · simp only [if_neg h45]
        refine Ev.step (fun k => by simp only [whole_Parse.j0]; rfl) ?_
        simp only [Bool.false_eq_true, if_false]
        rw [show frm s (c :: m) = 0 by simp [frm, h43, h45]] at h
        exact h
/-- A byte that is no digit, told at its place. -/
theorem parse_form {k : Int} {w : Nat} {s : Bool} (hk : whole_width.f k = some ((w : Int), s, true)) {l : List Int} (hl : l.length < 9223372036854775000) (h : frm s l + lead (l.drop (frm s l)) < l.length) :
    Ev (fun n => whole_Parse.f n k l) (0, ((frm s l + lead (l.drop (frm s l)) : Nat) : Int), 52) := by
  refine parse_from hk ?_
  refine Ev.step (fun k => by simp only [whole_Parse.j1]; rfl) ?_
  refine Ev.bind (runs_ev (by omega) _) ?_
  rw [wrap64_id (by omega) (by omega)]
  simp only [if_pos (show ((frm s l : Nat) : Int) + (lead (l.drop (frm s l)) : Int) < l.length by omega)]
  rw [Int.natCast_add]
  exact Ev.now _
/-- No digit at all. -/
theorem parse_empty {k : Int} {w : Nat} {s : Bool} (hk : whole_width.f k = some ((w : Int), s, true)) {l : List Int} (hl : l.length < 9223372036854775000) (h : l.length = frm s l) :
    Ev (fun n => whole_Parse.f n k l) (0, (frm s l : Int), 51) := by
  refine parse_from hk ?_
  refine Ev.step (fun k => by simp only [whole_Parse.j1]; rfl) ?_
  refine Ev.bind (runs_ev (by omega) _) ?_
  rw [List.drop_of_length_le (show l.length ≤ frm s l by omega), lead_nil]
  rw [wrap64_id (by omega) (by omega)]
  simp only [if_neg (show ¬ ((frm s l : Nat) : Int) + ((0 : Nat) : Int) < l.length by omega), if_pos (show ((frm s l : Nat) : Int) + ((0 : Nat) : Int) = (frm s l : Nat) by omega)]
  rw [show ((frm s l : Nat) : Int) + ((0 : Nat) : Int) = (frm s l : Nat) by omega]
  exact Ev.now _
/-- Digits behind the sign. -/
theorem parse_digits {k : Int} {w : Nat} {s : Bool} (hk : whole_width.f k = some ((w : Int), s, true)) (hw : Wd w) {l : List Int} (hl : l.length < 9223372036854775000) (h0 : frm s l < l.length) (h : AllD (l.drop (frm s l))) :
    Ev (fun n => whole_Parse.f n k l) (fin w (ng l) (frm s l) (dval (l.drop (frm s l))) (over (lim w s (ng l)) 0 (l.drop (frm s l)) 0)) := by
  refine parse_from hk ?_
  refine Ev.step (fun k => by simp only [whole_Parse.j1]; rfl) ?_
  refine Ev.bind (runs_ev (by omega) _) ?_
  rw [lead_all h, List.length_drop]
  have L := lim_bounds hw s (ng l)
  rw [wrap64_id (by omega) (by omega)]
  simp only [if_neg (show ¬ ((frm s l : Nat) : Int) + ((l.length - frm s l : Nat) : Int) < l.length by omega), if_neg (show ¬ ((frm s l : Nat) : Int) + ((l.length - frm s l : Nat) : Int) = (frm s l : Nat) by omega), if_pos (show (0 : Int) < (l.length : Int) by omega)]
  have hm := most_ev hw s (ng l)
  unfold ng at hm
  simp only [hm, Option.bind_some, if_pos (show (0 : Int) ≤ ((frm s l : Nat) : Int) by omega), if_pos (show ((frm s l : Nat) : Int) ≤ l.length by omega), Int.toNat_natCast]
  have := parse_loop hw (frm_le s l) (ng l) (L := lim w s (ng l)) (by omega) L.2 (big := l.drop (frm s l)) (by rw [List.length_drop]; omega) h (l.drop (frm s l)).length 0 0 (by omega) (by omega) (by omega)
  simpa [ng, dval] using this
end Go.Proofs.Ytlcglnnmcgpnpaa.Dig
