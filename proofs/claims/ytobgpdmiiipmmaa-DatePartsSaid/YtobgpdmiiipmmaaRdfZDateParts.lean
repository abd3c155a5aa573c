/- Days and moments, read: what Day and Moment answer; the document's answer is the same. -/
import Derived.Test.YtobgpdmiiipmmaaRdeZDateParts
namespace Go.Proofs.Ytobgpdmiiipmmaa.Cal
set_option linter.unusedVariables false
set_option linter.unusedSimpArgs false
open Go.RowKit Go.Proofs.Ytobgpdmiiipmmaa.Q Go.Proofs.Ytobgpdmiiipmmaa.Dig Go.Proofs.YtobgpdmiiipmmaaW.PrintWords Go.Proofs.YtobgpdmiiipmmaaW.PrintLast

theorem year_ev {y : Int} (h : 0 ≤ y) (h' : y ≤ 9999) : mintageref13_year.f y = some (cum (leap y) 12) := by
  unfold mintageref13_year.f
  rw [rleap_eq h h', cum_all]
  simp only [Option.bind_some]
  cases leap y <;> rfl
theorem rmon_loop {y : Int} (h : 0 ≤ y) (h' : y ≤ 9999) {m : Nat} (hm : m < 12) {x0 D : Int} (hx : -10000000 ≤ x0) (hx' : x0 ≤ 10000000) (hD : -1000 ≤ D ∧ D ≤ 1000) : ∀ (d i : Nat), i + d = m →
    Ev (fun k => mintageref13_count.l1 k y ((m : Int) + 1) D (x0 + cum (leap y) i) ((i : Int) + 1)) (x0 + cum (leap y) m + D - 1) := by
  intro d
  induction d with
  | zero =>
    intro i hi
    obtain rfl : i = m := by omega
    have hb := cum_bd (leap y) i (by omega)
    refine Ev.step (fun k => by simp only [mintageref13_count.l1]; rw [if_neg (by omega)]) ?_
    rw [wrap64_id (x := x0 + cum (leap y) i + D) (by omega) (by omega), wrap64_id (by omega) (by omega)]
    exact Ev.now _
  | succ d ih =>
    intro i hi
    have hi12 : i < 12 := by omega
    have hc := cum_succ (leap y) i (by omega)
    have hb := cum_bd (leap y) i (by omega)
    have hl := len_lo (leap y) i (by omega)
    have w1 : wrap64 (x0 + cum (leap y) i + len (leap y) i) = x0 + cum (leap y) (i + 1) := by rw [wrap64_id (by omega) (by omega)]; omega
    have w2 : wrap64 ((i : Int) + 1 + 1) = ((i + 1 : Nat) : Int) + 1 := by rw [wrap64_id (by omega) (by omega)]; omega
    refine Ev.step (fun k => by simp only [mintageref13_count.l1]; rw [if_pos (by omega)]) ?_
    refine Ev.bind (rlength_ok (m := i) h h' hi12) ?_
    rw [w1, w2]
    exact ih (i + 1) (by omega)
theorem ryear_loop {y : Int} (h : 0 ≤ y) (h' : y ≤ 9999) {m : Nat} (hm : m < 12) {D : Int} (hD : -1000 ≤ D ∧ D ≤ 1000) : ∀ (d i : Nat), (i : Int) + d = y →
    Ev (fun k => mintageref13_count.l0 k y ((m : Int) + 1) D (A i - 719528) (i : Int)) (A y - 719528 + cum (leap y) m + D - 1) := by
  intro d
  induction d with
  | zero =>
    intro i hi
    obtain rfl : y = (i : Int) := by omega
    have hA := A_le h
    have e : A (i : Int) - 719528 + cum (leap (i : Int)) 0 = A (i : Int) - 719528 := by have : cum (leap (i : Int)) 0 = 0 := rfl; omega
    refine Ev.step (fun k => by simp only [mintageref13_count.l0]; rw [if_neg (by omega)]) ?_
    have := rmon_loop h h' hm (x0 := A (i : Int) - 719528) (by omega) (by omega) hD m 0 (by omega)
    rw [e] at this
    exact this
  | succ d ih =>
    intro i hi
    have q0 : (0 : Int) ≤ (i : Int) := by omega
    have q1 : (i : Int) ≤ 9999 := by omega
    have q2 : (i : Int) < y := by omega
    have hs := A_step (y := (i : Int)) (by omega)
    have hA := A_le (y := (i : Int)) (by omega)
    have hA2 := A_le (y := (i : Int) + 1) (by omega)
    have w1 : wrap64 (A (i : Int) - 719528 + cum (leap (i : Int)) 12) = A ((i + 1 : Nat) : Int) - 719528 := by
      have e : ((i + 1 : Nat) : Int) = (i : Int) + 1 := by omega
      rw [e, wrap64_id (by omega) (by omega)]; omega
    have w2 : wrap64 ((i : Int) + 1) = ((i + 1 : Nat) : Int) := by rw [wrap64_id (by omega) (by omega)]; omega
    refine Ev.step (fun k => by simp only [mintageref13_count.l0]; rw [if_pos q2, year_ev (y := (i : Int)) q0 q1]) ?_
    simp only [Option.bind_some]
    rw [w1, w2]
    exact ih (i + 1) (by omega)
theorem count_ev' {y : Int} (h : 0 ≤ y) (h' : y ≤ 9999) {m : Nat} (hm : m < 12) {D : Int} (hD : -1000 ≤ D ∧ D ≤ 1000) : Ev (fun k => mintageref13_count.f k y ((m : Int) + 1) D) (num y m D - 719528) := by
  obtain ⟨n, rfl⟩ : ∃ n : Nat, y = (n : Int) := ⟨y.toNat, by omega⟩
  have hl := ryear_loop h h' hm hD n 0 (by omega)
  have e : A ((0 : Nat) : Int) - 719528 = -719528 := by decide
  rw [e] at hl
  rw [show num (n : Int) m D - 719528 = A (n : Int) - 719528 + cum (leap (n : Int)) m + D - 1 by unfold num; omega]
  exact Ev.congr (fun k => by unfold mintageref13_count.f; rfl) hl
theorem rdate_ev {l : List Int} (hl : 10 ≤ l.length) (hY : AllD (pc l 0 4)) (hM : AllD (pc l 5 7)) (hD : AllD (pc l 8 10)) : Ev (fun k => mintageref13_date.f k l) (dayV (dval (pc l 0 4)) (dval (pc l 5 7)) (dval (pc l 8 10))) := by
  have bY := small_bd hY (n := 4) (by rw [pc_len (by omega)]; omega) (by omega)
  have bM := small_bd hM (n := 2) (by rw [pc_len (by omega)]; omega) (by omega)
  have bD := small_bd hD (n := 2) (by rw [pc_len (by omega)]; omega) (by omega)
  refine Ev.congr (fun k => by unfold mintageref13_date.f; rw [if_neg (by omega)]) ?_
  refine Ev.bind (rnumber_ev (l := pc l 0 4) hY (by rw [pc_len (by omega)]; omega)) ?_
  refine Ev.bind (rnumber_ev (l := pc l 5 7) hM (by rw [pc_len (by omega)]; omega)) ?_
  refine Ev.bind (rnumber_ev (l := pc l 8 10) hD (by rw [pc_len (by omega)]; omega)) ?_
  generalize dval (pc l 0 4) = y at *
  generalize dval (pc l 5 7) = m at *
  generalize dval (pc l 8 10) = d at *
  unfold dayV
  by_cases c1 : m < 1 ∨ m > 12
  · simp only [if_pos c1]; exact Ev.now _
  simp only [if_neg c1]
  by_cases c3 : d < 1
  · simp only [if_pos c3, if_pos (show d < 1 ∨ d > len (leap y) (m - 1).toNat from .inl c3)]; exact Ev.now _
  simp only [if_neg c3]
  obtain ⟨n, rfl⟩ : ∃ n : Nat, m = (n : Int) + 1 := ⟨(m - 1).toNat, by omega⟩
  have e1 : ((n : Int) + 1 - 1).toNat = n := by omega
  rw [e1]
  refine Ev.bind (rlength_ok bY.1 (show y ≤ 9999 by omega) (show n < 12 by omega)) ?_
  by_cases c4 : d > len (leap y) n
  · simp only [if_pos c4, if_pos (show d < 1 ∨ d > len (leap y) n from .inr c4)]; exact Ev.now _
  simp only [if_neg c4, if_neg (show ¬ (d < 1 ∨ d > len (leap y) n) by omega)]
  exact Ev.bind (count_ev' bY.1 (show y ≤ 9999 by omega) (show n < 12 by omega) ⟨by omega, by omega⟩) (Ev.now _)

/-! ### what fits a form -/
theorem fit_isd {P : List (Option Int)} {l : List Int} {i : Nat} (h : i < fit P l) (hn : P.getD i none = none) : IsD (rd l (i : Int)) := by
  have := fit_get P l i h
  rw [hn] at this
  simpa [q1] using this
theorem fit_byte {P : List (Option Int)} {l : List Int} {i : Nat} {b : Int} (h : i < fit P l) (hn : P.getD i none = some b) : rd l (i : Int) = b := by
  have := fit_get P l i h
  rw [hn] at this
  simpa [q1] using this
theorem pd_pieces {P : List (Option Int)} {l : List Int} (h : 10 ≤ fit (PD ++ P) l) : 10 ≤ l.length ∧ AllD (pc l 0 4) ∧ AllD (pc l 5 7) ∧ AllD (pc l 8 10) := by
  have hl := (fit_le (PD ++ P) l).2
  refine ⟨by omega, pc_all (by omega) ?_, pc_all (by omega) ?_, pc_all (by omega) ?_⟩
  · intro i h1 h2
    refine fit_isd (P := PD ++ P) (by omega) ?_
    have : i = 0 ∨ i = 1 ∨ i = 2 ∨ i = 3 := by omega
    rcases this with rfl | rfl | rfl | rfl <;> rfl
  · intro i h1 h2
    refine fit_isd (P := PD ++ P) (by omega) ?_
    have : i = 5 ∨ i = 6 := by omega
    rcases this with rfl | rfl <;> rfl
  · intro i h1 h2
    refine fit_isd (P := PD ++ P) (by omega) ?_
    have : i = 8 ∨ i = 9 := by omega
    rcases this with rfl | rfl <;> rfl
/-- What Day answers. -/
def dayF (l : List Int) : Int × Int × Int :=
  if fit PD l < 10 ∨ 10 < l.length then (0, fit PD l, 130) else
    (IntKind.u64.wrap (dayV (dval (pc l 0 4)) (dval (pc l 5 7)) (dval (pc l 8 10))).1, (dayV (dval (pc l 0 4)) (dval (pc l 5 7)) (dval (pc l 8 10))).2.1, (dayV (dval (pc l 0 4)) (dval (pc l 5 7)) (dval (pc l 8 10))).2.2)
theorem day_ev (l : List Int) : Ev (fun k => date_Day.f k l) (dayF l) := by
  have hle := fit_le PD l
  have hPD : PD.length = 10 := rfl
  refine Ev.congr (fun k => by unfold date_Day.f; rfl) ?_
  refine Ev.bind (form_ev patD l (by decide)) ?_
  unfold dayF
  by_cases c1 : fit PD l < 10
  · simp only [if_pos (show ((fit PD l : Nat) : Int) < 10 by omega), if_pos (show fit PD l < 10 ∨ 10 < l.length from .inl c1)]; exact Ev.now _
  simp only [if_neg (show ¬ ((fit PD l : Nat) : Int) < 10 by omega)]
  by_cases c2 : 10 < l.length
  · simp only [if_pos (show ((fit PD l : Nat) : Int) < (l.length : Int) by omega), if_pos (show fit PD l < 10 ∨ 10 < l.length from .inr c2)]; exact Ev.now _
  simp only [if_neg (show ¬ ((fit PD l : Nat) : Int) < (l.length : Int) by omega), if_neg (show ¬ (fit PD l < 10 ∨ 10 < l.length) by omega)]
  obtain ⟨h1, h2, h3, h4⟩ := pd_pieces (P := []) (l := l) (by rw [List.append_nil]; omega)
  exact Ev.bind (days_ev h1 h2 h3 h4) (Ev.now _)
theorem rday_ev (l : List Int) (hl : l.length < 9223372036854775807) : Ev (fun k => mintageref13_Day.f k l) (dayF l) := by
  have hle := fit_le PD l
  have hPD : PD.length = 10 := rfl
  refine Ev.congr (fun k => by unfold mintageref13_Day.f; rfl) ?_
  refine Ev.bind (fits_ev patD l (by decide) hl) ?_
  unfold dayF
  by_cases c1 : fit PD l < 10
  · simp only [if_pos (show ((fit PD l : Nat) : Int) < 10 by omega), if_pos (show fit PD l < 10 ∨ 10 < l.length from .inl c1)]; exact Ev.now _
  simp only [if_neg (show ¬ ((fit PD l : Nat) : Int) < 10 by omega)]
  by_cases c2 : 10 < l.length
  · simp only [if_pos (show (l.length : Int) > 10 by omega), if_pos (show fit PD l < 10 ∨ 10 < l.length from .inr c2)]; exact Ev.now _
  simp only [if_neg (show ¬ (l.length : Int) > 10 by omega), if_neg (show ¬ (fit PD l < 10 ∨ 10 < l.length) by omega)]
  obtain ⟨h1, h2, h3, h4⟩ := pd_pieces (P := []) (l := l) (by rw [List.append_nil]; omega)
  exact Ev.bind (rdate_ev h1 h2 h3 h4) (Ev.now _)
end Go.Proofs.Ytobgpdmiiipmmaa.Cal
