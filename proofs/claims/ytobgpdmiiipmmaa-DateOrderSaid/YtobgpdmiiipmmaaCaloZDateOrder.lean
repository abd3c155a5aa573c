/- Texts of days stand in the order of the days. -/
import Derived.Test.YtobgpdmiiipmmaaCalpZDateOrder
import Derived.Test.YtobgpdmiiipmmaaOrdZDateOrder
namespace Go.Proofs.Ytobgpdmiiipmmaa.Cal
set_option linter.unusedVariables false
open Go.RowKit Go.Proofs.Ytobgpdmiiipmmaa.Q Go.Proofs.Ytobgpdmiiipmmaa.Dig Go.Proofs.YtobgpdmiiipmmaaW.PrintWords Go.Proofs.YtobgpdmiiipmmaaW.PrintLast

abbrev Less (a b : List Int) : Bool := Op.bytesLess (strOfNums a).toList (strOfNums b).toList
theorem less_app : ∀ (l m x y : List Int), l.length = m.length → AllD l → AllD m → Less (l ++ x) (m ++ y) = (decide (dval l < dval m) || (decide (dval l = dval m) && Less x y))
  | [], [], x, y, _, _, _ => by simp
  | a :: l, b :: m, x, y, hl, h, h' => by
    have ha := h a List.mem_cons_self
    have hb := h' b List.mem_cons_self
    have hl' : l.length = m.length := by simpa using hl
    have hal : AllD l := fun z hz => h z (List.mem_cons_of_mem _ hz)
    have hbm : AllD m := fun z hz => h' z (List.mem_cons_of_mem _ hz)
    have ih := less_app l m x y hl' hal hbm
    have b1 := dval_bounds hal
    have b2 := dval_bounds hbm
    unfold IsD at ha hb
    have e0 : Less ((a :: l) ++ x) ((b :: m) ++ y) = (decide (a < b) || (decide (a = b) && Less (l ++ x) (m ++ y))) := less_cons a b (by omega) (by omega) (l ++ x) (m ++ y)
    rw [e0, dval_cons, dval_cons, hl']
    rw [ih]
    rw [hl'] at b1
    generalize Less x y = q
    rcases Int.lt_trichotomy a b with c | c | c
    · have : (a - 48) * 10 ^ m.length + 10 ^ m.length ≤ (b - 48) * 10 ^ m.length := by
        have := Int.mul_le_mul_of_nonneg_right (show (a - 48) + 1 ≤ b - 48 by omega) (show (0 : Int) ≤ 10 ^ m.length by omega)
        rw [Int.add_mul, Int.one_mul] at this; exact this
      rw [decide_eq_true c, decide_eq_true (show (a - 48) * 10 ^ m.length + dval l < (b - 48) * 10 ^ m.length + dval m by omega)]
      rfl
    · subst c
      have e1 : decide ((a - 48) * 10 ^ m.length + dval l < (a - 48) * 10 ^ m.length + dval m) = decide (dval l < dval m) := decide_eq_decide.2 (by omega)
      have e2 : decide ((a - 48) * 10 ^ m.length + dval l = (a - 48) * 10 ^ m.length + dval m) = decide (dval l = dval m) := decide_eq_decide.2 (by omega)
      rw [e1, e2, decide_eq_false (show ¬ a < a by omega), decide_eq_true (rfl : a = a)]
      simp
    · have : (b - 48) * 10 ^ m.length + 10 ^ m.length ≤ (a - 48) * 10 ^ m.length := by
        have := Int.mul_le_mul_of_nonneg_right (show (b - 48) + 1 ≤ a - 48 by omega) (show (0 : Int) ≤ 10 ^ m.length by omega)
        rw [Int.add_mul, Int.one_mul] at this; exact this
      rw [decide_eq_false (show ¬ a < b by omega), decide_eq_false (show ¬ a = b by omega), decide_eq_false (show ¬ (a - 48) * 10 ^ m.length + dval l < (b - 48) * 10 ^ m.length + dval m by omega), decide_eq_false (show ¬ (a - 48) * 10 ^ m.length + dval l = (b - 48) * 10 ^ m.length + dval m by omega)]
      simp
  | [], _ :: _, _, _, hl, _, _ => by simp at hl
  | _ :: _, [], _, _, hl, _, _ => by simp at hl
theorem less_same (c : Int) (h : 0 ≤ c ∧ c < 256) (x y : List Int) : Less (c :: x) (c :: y) = Less x y := by
  have := less_cons c c h h x y
  have e : Less (c :: x) (c :: y) = (decide (c < c) || (decide (c = c) && Less x y)) := this
  rw [e, decide_eq_false (show ¬ c < c by omega), decide_eq_true (rfl : c = c)]; simp
theorem less_D (n : Nat) {x y : Int} (x0 : 0 ≤ x) (x1 : x < 10 ^ n) (y0 : 0 ≤ y) (y1 : y < 10 ^ n) (hn : n ≤ 18) (s t : List Int) : Less (digit_Pad.D n x ++ s) (digit_Pad.D n y ++ t) = (decide (x < y) || (decide (x = y) && Less s t)) := by
  have hp : (10 : Int) ^ n ≤ 10 ^ 18 := pow_le hn
  have e18 : (10 : Int) ^ 18 = 1000000000000000000 := by decide
  rw [less_app _ _ _ _ (by rw [D_len, D_len]) (D_all n x0 (by omega)) (D_all n y0 (by omega)), D_val n x0 (by omega), D_val n y0 (by omega), Int.emod_eq_of_lt x0 x1, Int.emod_eq_of_lt y0 y1]
theorem less_nilnil : Less [] [] = false := less_nil
theorem less_day {y z d e : Int} {m k : Nat} (h : Ok y m d) (g : Ok z k e) (s t : List Int) : Less (day y ((m : Int) + 1) d ++ s) (day z ((k : Int) + 1) e ++ t) = (decide (num y m d < num z k e) || (decide (num y m d = num z k e) && Less s t)) := by
  have hs := h.small
  have gs := g.small
  have hy := h.y0
  have hy1 := h.y1
  have gy := g.y0
  have gy1 := g.y1
  have e4 : (10 : Int) ^ 4 = 10000 := by decide
  have e2 : (10 : Int) ^ 2 = 100 := by decide
  unfold day
  simp only [List.append_assoc, List.cons_append, List.nil_append]
  rw [less_D 4 hy (by omega) gy (by omega) (by decide), less_same 45 (by omega), less_D 2 hs.1 (by omega) gs.1 (by omega) (by decide), less_same 45 (by omega), less_D 2 hs.2.2.1 (by omega) gs.2.2.1 (by omega) (by decide)]
  have key := num_lt h g
  have inj := num_inj h g
  generalize Less s t = q
  by_cases c1 : y < z
  · rw [decide_eq_true (key.2 (.inl c1)), decide_eq_true c1]; rfl
  · rw [decide_eq_false c1]
    by_cases c2 : y = z
    · subst c2
      rw [decide_eq_true (rfl : y = y)]
      by_cases c3 : m < k
      · rw [decide_eq_true (show (m : Int) + 1 < (k : Int) + 1 by omega), decide_eq_true (key.2 (.inr ⟨rfl, .inl c3⟩))]; rfl
      · rw [decide_eq_false (show ¬ (m : Int) + 1 < (k : Int) + 1 by omega)]
        by_cases c4 : m = k
        · subst c4
          rw [decide_eq_true (rfl : (m : Int) + 1 = (m : Int) + 1)]
          have e1 : decide (num y m d < num y m e) = decide (d < e) := decide_eq_decide.2 (by unfold num; omega)
          have e2 : decide (num y m d = num y m e) = decide (d = e) := decide_eq_decide.2 (by unfold num; omega)
          rw [e1, e2]; simp
        · rw [decide_eq_false (show ¬ (m : Int) + 1 = (k : Int) + 1 by omega), decide_eq_false (show ¬ num y m d < num y k e from fun q => by have := key.1 q; omega), decide_eq_false (show ¬ num y m d = num y k e from fun q => c4 (inj q).2.1)]; rfl
    · rw [decide_eq_false c2, decide_eq_false (show ¬ num y m d < num z k e from fun q => by have := key.1 q; omega), decide_eq_false (show ¬ num y m d = num z k e from fun q => c2 (inj q).1)]; rfl
end Go.Proofs.Ytobgpdmiiipmmaa.Cal
