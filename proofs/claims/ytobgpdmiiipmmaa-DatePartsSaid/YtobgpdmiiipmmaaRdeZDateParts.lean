/- Days and moments, read: numbers, the calendar's sums. -/
import Derived.Test.YtobgpdmiiipmmaaRdZDateParts
namespace Go.Proofs.Ytobgpdmiiipmmaa.Cal
set_option linter.unusedVariables false
set_option linter.unusedSimpArgs false
open Go.RowKit Go.Proofs.Ytobgpdmiiipmmaa.Q Go.Proofs.Ytobgpdmiiipmmaa.Dig Go.Proofs.YtobgpdmiiipmmaaW.PrintWords Go.Proofs.YtobgpdmiiipmmaaW.PrintLast

/-- A piece of a text. -/
def pc (l : List Int) (a b : Nat) : List Int := (l.take b).drop a
theorem pc_len {l : List Int} {a b : Nat} (h : b ≤ l.length) : (pc l a b).length = b - a := by unfold pc; rw [List.length_drop, List.length_take]; omega
theorem pc_mem {l : List Int} {a b : Nat} (h : b ≤ l.length) {c : Int} (hc : c ∈ pc l a b) : ∃ i : Nat, a ≤ i ∧ i < b ∧ c = rd l (i : Int) := by
  have hp := pc_len (a := a) h
  unfold pc at hc hp
  obtain ⟨j, hj, rfl⟩ := List.getElem_of_mem hc
  rw [hp] at hj
  refine ⟨a + j, by omega, by omega, ?_⟩
  rw [List.getElem_drop, List.getElem_take]
  unfold rd
  rw [Int.toNat_natCast, List.getD_eq_getElem?_getD, List.getElem?_eq_getElem (show a + j < l.length by omega)]; rfl
theorem pc_all {l : List Int} {a b : Nat} (h : b ≤ l.length) (hd : ∀ i : Nat, a ≤ i → i < b → IsD (rd l (i : Int))) : AllD (pc l a b) := by
  intro c hc
  obtain ⟨i, h1, h2, rfl⟩ := pc_mem h hc
  exact hd i h1 h2
theorem small_bd {l : List Int} {n : Nat} (h : AllD l) (hn : l.length ≤ n) (hn' : n ≤ 18) : 0 ≤ dval l ∧ dval l < 10 ^ n := by
  have h1 := dval_bounds h
  have h2 : (10 : Int) ^ l.length ≤ 10 ^ n := by exact_mod_cast Nat.pow_le_pow_right (by decide) hn
  exact ⟨h1.1, Int.lt_of_lt_of_le h1.2 h2⟩
theorem number_ev {l : List Int} {a b : Nat} (hab : a < b) (h : b ≤ l.length) (hw : b - a ≤ 18) (hd : AllD (pc l a b)) : Ev (fun k => date_number.f k l (a : Int) (b : Int)) (dval (pc l a b)) := by
  have hl := pc_len (a := a) h
  have hb := small_bd hd (n := 18) (by omega) (by omega)
  refine Ev.congr (fun k => by unfold date_number.f; rw [if_pos (by omega), if_pos (by omega), if_pos (by omega)]) ?_
  simp only [Int.toNat_natCast]
  show Ev (fun k => (digit_Value.f k (pc l a b)).bind fun bt => some (wrap64 bt.1)) _
  refine Ev.bind (val_ev hd (by intro e; rw [e] at hl; simp at hl; omega) (by omega) (by omega)) ?_
  rw [wrap64_id (by omega) (by omega)]
  exact Ev.now _
theorem rnumber_loop {l : List Int} (hd : AllD l) (hl : l.length ≤ 18) : ∀ (d i : Nat) (x : Int), i + d = l.length → 0 ≤ x → dv x (l.drop i) < 1000000000000000000 → Ev (fun k => mintageref13_number.l0 k l x (i : Int)) (dv x (l.drop i)) := by
  intro d
  induction d with
  | zero =>
    intro i x hi h0 hx
    rw [List.drop_of_length_le (by omega)]
    refine Ev.step (fun k => by simp only [mintageref13_number.l0]; rw [if_neg (by omega)]) ?_
    exact Ev.now _
  | succ d ih =>
    intro i x hi h0 hx
    have hL : i < l.length := by omega
    rw [drop_cons hL] at hx ⊢
    have hdg : IsD (rd l (i : Int)) := hd _ (rd_mem hL)
    unfold IsD at hdg
    simp only [dv] at hx ⊢
    have hge := dv_ge (a := 10 * x + (rd l (i : Int) - 48)) (by omega) (allD_drop hd (i + 1))
    have w1 : wrap64 (10 * x) = 10 * x := wrap64_id (by omega) (by omega)
    have w2 : wrap64 (10 * x + (rd l (i : Int) - 48) % 256) = 10 * x + (rd l (i : Int) - 48) := by rw [wrap64_id (by omega) (by omega)]; omega
    have w3 : wrap64 ((i : Int) + 1) = ((i + 1 : Nat) : Int) := by rw [wrap64_id (by omega) (by omega)]; omega
    refine Ev.step (fun k => by simp only [mintageref13_number.l0]; rw [if_pos (by omega), if_pos (by omega), w1, w2, w3]) ?_
    exact ih (i + 1) _ (by omega) (by omega) hx
theorem rnumber_ev {l : List Int} (hd : AllD l) (hl : l.length ≤ 18) : Ev (fun k => mintageref13_number.f k l) (dval l) := by
  have hb := small_bd hd hl (by omega)
  have h := rnumber_loop hd hl l.length 0 0 (by omega) (by omega) (by simp only [List.drop_zero]; exact (show dval l < 1000000000000000000 by omega))
  simp only [List.drop_zero] at h
  exact Ev.congr (fun k => by unfold mintageref13_number.f; rfl) h

/-! ### the calendar -/
theorem rleap_eq {y : Int} (h : 0 ≤ y) (h' : y ≤ 9999) : mintageref13_Leap.f y = some (leap y) := by
  unfold mintageref13_Leap.f leap date_date.leap
  rw [if_pos h, if_pos h', Int.tmod_eq_emod_of_nonneg h, Int.tmod_eq_emod_of_nonneg h, Int.tmod_eq_emod_of_nonneg h]
  by_cases h4 : y % 4 = 0
  · rw [if_pos h4]
    by_cases h1 : y % 100 = 0
    · rw [if_pos h1]; simp [h4, h1]; rfl
    · rw [if_neg h1]; simp [h4, h1]
  · rw [if_neg h4]; simp [h4]
theorem len_cases (b : Bool) (m : Nat) (h : m < 12) : len b m = if m = 1 then (if b = true then 29 else 28) else if m = 3 ∨ m = 5 ∨ m = 8 ∨ m = 10 then 30 else 31 := by
  have hk : m = 0 ∨ m = 1 ∨ m = 2 ∨ m = 3 ∨ m = 4 ∨ m = 5 ∨ m = 6 ∨ m = 7 ∨ m = 8 ∨ m = 9 ∨ m = 10 ∨ m = 11 := by omega
  rcases hk with rfl | rfl | rfl | rfl | rfl | rfl | rfl | rfl | rfl | rfl | rfl | rfl <;> cases b <;> rfl
theorem rlength_ok {y : Int} {m : Nat} (h : 0 ≤ y) (h' : y ≤ 9999) (hm : m < 12) : Ev (fun k => mintageref13_Length.f k y ((m : Int) + 1)) (len (leap y) m) := by
  rw [len_cases _ _ hm]
  have hl := rleap_eq h h'
  refine Ev.congr (fun k => by unfold mintageref13_Length.f; rw [if_neg (by omega), if_neg (by omega), if_neg (by omega), decide_eq_false (by omega)]) ?_
  refine Ev.step (fun k => by simp only [mintageref13_Length.j0]; rw [if_neg (by decide), hl]) ?_
  simp only [Option.bind_some]
  by_cases c1 : m = 1
  · subst c1
    simp only [if_pos (show ((1 : Nat) : Int) + 1 = 2 by omega), if_true]
    cases leap y <;> exact Ev.now _
  rw [if_neg c1]
  simp only [if_neg (show ¬ (m : Int) + 1 = 2 by omega)]
  by_cases c3 : m = 3
  · subst c3; simp; exact Ev.now _
  by_cases c5 : m = 5
  · subst c5; simp; exact Ev.now _
  by_cases c8 : m = 8
  · subst c8; simp; exact Ev.now _
  by_cases c10 : m = 10
  · subst c10; simp; exact Ev.now _
  simp only [if_neg (show ¬ (m = 3 ∨ m = 5 ∨ m = 8 ∨ m = 10) by omega), if_neg (show ¬ (m : Int) + 1 = 4 by omega), if_neg (show ¬ (m : Int) + 1 = 6 by omega), if_neg (show ¬ (m : Int) + 1 = 9 by omega), if_neg (show ¬ (m : Int) + 1 = 11 by omega)]
  exact Ev.now _
theorem rlength_no {y m : Int} (h : y < 0 ∨ y > 9999 ∨ m < 1 ∨ m > 12) : Ev (fun k => mintageref13_Length.f k y m) 0 := by
  have key : Ev (fun k => mintageref13_Length.j0 k y m true) 0 := Ev.step (fun k => by simp only [mintageref13_Length.j0]; rw [if_pos trivial]) (Ev.now _)
  by_cases c1 : y < 0
  · exact Ev.congr (fun k => by unfold mintageref13_Length.f; rw [if_pos c1]) key
  by_cases c2 : y > 9999
  · exact Ev.congr (fun k => by unfold mintageref13_Length.f; rw [if_neg c1, if_pos c2]) key
  by_cases c3 : m < 1
  · exact Ev.congr (fun k => by unfold mintageref13_Length.f; rw [if_neg c1, if_neg c2, if_pos c3]) key
  exact Ev.congr (fun k => by unfold mintageref13_Length.f; rw [if_neg c1, if_neg c2, if_neg c3, decide_eq_true (by omega)]) key
/-- What a day's numbers say. -/
def dayV (y m d : Int) : Int × Int × Int :=
  if m < 1 ∨ m > 12 then (0, 5, 131) else if d < 1 ∨ d > len (leap y) (m - 1).toNat then (0, 8, 131) else (num y (m - 1).toNat d - 719528, 0, 0)
theorem dayV_bd {y m d : Int} (h : 0 ≤ y) (h' : y ≤ 9999) : -719528 ≤ (dayV y m d).1 ∧ (dayV y m d).1 ≤ 2932896 := by
  unfold dayV
  split
  · simp
  split
  · simp
  · rename_i c1 c2
    have ok : Ok y (m - 1).toNat d := ⟨h, h', by omega, by omega, by omega⟩
    have h1 := num_pos ok
    have h2 := num_top ok
    simp only; omega
theorem mon_loop {y : Int} (h : 0 ≤ y) (h' : y ≤ 9999) {m : Nat} (hm : m < 12) {x0 : Int} (hx : -10000000 ≤ x0) (hx' : x0 ≤ 10000000) : ∀ (d i : Nat), i + d = m → Ev (fun k => date_days.l0 k (x0 + cum (leap y) i) y ((m : Int) + 1) ((i : Int) + 1)) (x0 + cum (leap y) m, 0, 0) := by
  intro d
  induction d with
  | zero =>
    intro i hi
    obtain rfl : i = m := by omega
    refine Ev.step (fun k => by simp only [date_days.l0]; rw [if_neg (by omega)]) ?_
    exact Ev.now _
  | succ d ih =>
    intro i hi
    have hc := cum_succ (leap y) i (by omega)
    have hb := cum_bd (leap y) i (by omega)
    have hl := len_lo (leap y) i (by omega)
    have w1 : wrap64 (x0 + cum (leap y) i + len (leap y) i) = x0 + cum (leap y) (i + 1) := by rw [wrap64_id (by omega) (by omega)]; omega
    have w2 : wrap64 ((i : Int) + 1 + 1) = ((i + 1 : Nat) : Int) + 1 := by rw [wrap64_id (by omega) (by omega)]; omega
    refine Ev.step (fun k => by simp only [date_days.l0]; rw [if_pos (by omega), length_ok h h' (by omega)]) ?_
    simp only [Option.bind_some]
    rw [w1, w2]
    exact ih (i + 1) (by omega)
theorem days_ev {l : List Int} (hl : 10 ≤ l.length) (hY : AllD (pc l 0 4)) (hM : AllD (pc l 5 7)) (hD : AllD (pc l 8 10)) : Ev (fun k => date_days.f k l) (dayV (dval (pc l 0 4)) (dval (pc l 5 7)) (dval (pc l 8 10))) := by
  have bY := small_bd hY (n := 4) (by rw [pc_len (by omega)]; omega) (by omega)
  have bM := small_bd hM (n := 2) (by rw [pc_len (by omega)]; omega) (by omega)
  have bD := small_bd hD (n := 2) (by rw [pc_len (by omega)]; omega) (by omega)
  refine Ev.congr (fun k => by unfold date_days.f; rfl) ?_
  refine Ev.bind (number_ev (a := 0) (b := 4) (by omega) (by omega) (by omega) hY) ?_
  refine Ev.bind (number_ev (a := 5) (b := 7) (by omega) (by omega) (by omega) hM) ?_
  refine Ev.bind (number_ev (a := 8) (b := 10) (by omega) (by omega) (by omega) hD) ?_
  generalize dval (pc l 0 4) = y at *
  generalize dval (pc l 5 7) = m at *
  generalize dval (pc l 8 10) = d at *
  have key : m < 1 ∨ m > 12 → Ev (fun k => date_days.j0 k y m d true) (dayV y m d) := fun c => by
    unfold dayV
    rw [if_pos c]
    exact Ev.step (fun k => by simp only [date_days.j0]; rw [if_pos trivial]) (Ev.now _)
  by_cases c1 : m < 1
  · simp only [if_pos c1]; exact key (.inl c1)
  simp only [if_neg c1]
  by_cases c2 : m > 12
  · simp only [decide_eq_true c2]; exact key (.inr c2)
  simp only [decide_eq_false c2]
  unfold dayV
  rw [if_neg (by omega)]
  refine Ev.step (fun k => by simp only [date_days.j0]; rw [if_neg (by decide)]) ?_
  by_cases c3 : d < 1
  · simp only [if_pos c3, if_pos (show d < 1 ∨ d > len (leap y) (m - 1).toNat from .inl c3)]; exact Ev.now _
  simp only [if_neg c3]
  obtain ⟨n, rfl⟩ : ∃ n : Nat, m = (n : Int) + 1 := ⟨(m - 1).toNat, by omega⟩
  have e1 : ((n : Int) + 1 - 1).toNat = n := by omega
  rw [e1]
  simp only [length_ok bY.1 (show y ≤ 9999 by omega) (show n < 12 by omega), Option.bind_some]
  by_cases c4 : d > len (leap y) n
  · simp only [if_pos c4, if_pos (show d < 1 ∨ d > len (leap y) n from .inr c4)]; exact Ev.now _
  simp only [if_neg c4, if_neg (show ¬ (d < 1 ∨ d > len (leap y) n) by omega)]
  simp only [date_date.ahead_ev bY.1 (show y ≤ 10000 by omega), Option.bind_some]
  have hA := A_le bY.1
  have hA' : A y = date_date.A y := rfl
  have hl := len_lo (leap y) n (by omega)
  have w1 : wrap64 (wrap64 (wrap64 (-719528 + date_date.A y) + d) - 1) = (A y + d - 1 - 719528) + cum (leap y) 0 := by
    have : cum (leap y) 0 = 0 := rfl
    rw [this, wrap64_id (x := -719528 + date_date.A y) (by omega) (by omega), wrap64_id (x := -719528 + date_date.A y + d) (by omega) (by omega), wrap64_id (by omega) (by omega)]; omega
  rw [w1]
  have h := mon_loop bY.1 (show y ≤ 9999 by omega) (m := n) (by omega) (x0 := A y + d - 1 - 719528) (by omega) (by omega) n 0 (by omega)
  have e2 : num y n d - 719528 = (A y + d - 1 - 719528) + cum (leap y) n := by unfold num; omega
  rw [e2]
  exact h
end Go.Proofs.Ytobgpdmiiipmmaa.Cal
