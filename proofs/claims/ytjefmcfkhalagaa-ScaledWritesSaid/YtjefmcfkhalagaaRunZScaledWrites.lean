/- Plain facts: Run counts the digits that lead. -/
import Derived.Test.YtjefmcfkhalagaaDigZScaledWrites
import Derived.Test.YtjefmcfkhalagaaQ0ZScaledWrites
namespace Go.Proofs.Ytjefmcfkhalagaa.Dig
open Go.RowKit Go.Proofs.Ytjefmcfkhalagaa.Q Go.Proofs.YtjefmcfkhalagaaW.PrintWords Go.Proofs.YtjefmcfkhalagaaW.PrintLast
def lead (l : List Int) : Nat := (l.takeWhile (fun c => decide (IsD c))).length
theorem lead_nil : lead [] = 0 := rfl
theorem lead_yes {c : Int} (h : IsD c) (l : List Int) : lead (c :: l) = lead l + 1 := by
  unfold lead; rw [List.takeWhile_cons, if_pos (decide_eq_true h)]; rfl
theorem lead_no {c : Int} (h : ¬ IsD c) (l : List Int) : lead (c :: l) = 0 := by
  unfold lead; rw [List.takeWhile_cons, if_neg (by simp [h])]; rfl
theorem lead_le (l : List Int) : lead l ≤ l.length := by
  induction l with
  | nil => exact Nat.le_refl _
  | cons c l ih =>
    by_cases h : IsD c
    · rw [lead_yes h]; simp; exact ih
    · rw [lead_no h]; omega
theorem lead_all {l : List Int} (h : AllD l) : lead l = l.length := by
  induction l with
  | nil => rfl
  | cons c l ih => rw [lead_yes (h c List.mem_cons_self), ih (fun z hz => h z (List.mem_cons_of_mem _ hz))]; rfl
theorem lead_append {l m : List Int} (h : AllD l) : lead (l ++ m) = l.length + lead m := by
  induction l with
  | nil => simp
  | cons c l ih =>
    rw [List.cons_append, lead_yes (h c List.mem_cons_self), ih (fun z hz => h z (List.mem_cons_of_mem _ hz))]
    simp; omega
theorem all_of_lead {l : List Int} (h : lead l = l.length) : AllD l := by
  induction l with
  | nil => intro c hc; simp at hc
  | cons c l ih =>
    by_cases hc : IsD c
    · rw [lead_yes hc] at h
      intro z hz
      rcases List.mem_cons.1 hz with rfl | hz
      · exact hc
      · exact ih (by simpa using h) z hz
    · rw [lead_no hc] at h; simp at h
theorem isd_ev (c : Int) : digit_Is.f c = some (decide (IsD c)) := by
  unfold IsD digit_Is.f
  by_cases h : c ≥ 48
  · rw [if_pos h]; simp [show (48 : Int) ≤ c from h]
  · rw [if_neg h]; simp [show ¬ (48 : Int) ≤ c from h]
theorem drop_cons {l : List Int} {i : Nat} (h : i < l.length) : l.drop i = rd l (i : Int) :: l.drop (i + 1) := by
  rw [List.drop_eq_getElem_cons h]
  congr 1
  simp [rd, h]
theorem runs_loop {l : List Int} (hl : l.length < 9223372036854775807) : ∀ (d i j : Nat), i + d = l.length → j ≤ i → Ev (fun k => digit_Run.l0 k j l l.length i) ((j + lead (l.drop i) : Nat) : Int) := by
  intro d
  induction d with
  | zero =>
    intro i j hi hj
    refine Ev.step (fun k => by simp only [digit_Run.l0]; rfl) ?_
    simp only [if_neg (show ¬ (i : Int) < l.length by omega)]
    rw [List.drop_of_length_le (by omega), lead_nil]
    exact Ev.now _
  | succ d ih =>
    intro i j hi hj
    refine Ev.step (fun k => by simp only [digit_Run.l0]; rfl) ?_
    simp only [if_pos (show (i : Int) < l.length by omega), if_pos (show (0 : Int) ≤ i by omega), isd_ev, Option.bind_some]
    rw [drop_cons (show i < l.length by omega)]
    by_cases h : IsD (rd l i)
    · simp only [decide_eq_true h, if_true]
      rw [lead_yes h, wrap64_id (by omega) (by omega), wrap64_id (by omega) (by omega)]
      have := ih (i + 1) (j + 1) (by omega) (by omega)
      rw [show j + (lead (l.drop (i + 1)) + 1) = j + 1 + lead (l.drop (i + 1)) by omega]
      exact_mod_cast this
    · simp only [decide_eq_false h, Bool.false_eq_true, if_false]
      rw [lead_no h]; exact Ev.now _
theorem runs_ev {l : List Int} (hl : l.length < 9223372036854775807) (at_ : Nat) : Ev (fun k => digit_Run.f k l (at_ : Int)) (lead (l.drop at_) : Int) := by
  unfold digit_Run.f
  simp only [if_neg (show ¬ (at_ : Int) < 0 by omega)]
  by_cases h : (at_ : Int) ≥ l.length
  · simp only [decide_eq_true h]
    refine Ev.step (fun k => by simp only [digit_Run.j0]; rfl) ?_
    have e : lead (l.drop at_) = 0 := by rw [List.drop_of_length_le (by omega)]; rfl
    rw [e]
    exact Ev.now _
  · simp only [decide_eq_false h]
    refine Ev.step (fun k => by simp only [digit_Run.j0]; rfl) ?_
    simp only [Bool.false_eq_true, if_false, if_pos (show (0 : Int) ≤ at_ by omega), if_pos (show (at_ : Int) ≤ l.length by omega), Int.toNat_natCast]
    have := runs_loop (l := l.drop at_) (by rw [List.length_drop]; omega) (l.drop at_).length 0 0 (by omega) (Nat.le_refl _)
    simpa using this
theorem dv_geR {a : Int} (ha : 0 ≤ a) {l : List Int} (h : AllD l) : a ≤ dv a l := by
  rw [dv_pow]
  have := (dval_bounds h).1
  have p : (1 : Int) ≤ 10 ^ l.length := Int.pow_pos (by decide)
  have := Int.mul_le_mul_of_nonneg_left p ha
  omega
end Go.Proofs.Ytjefmcfkhalagaa.Dig
