/- Moments, read: what Moment answers; the document's answer is the same. -/
import Derived.Test.YtobgpdmiiipmmaaRdfZDateParts
import Derived.Test.YtobgpdmiiipmmaaQ0ZDateParts
import Derived.Test.YtobgpdmiiipmmaaQ1ZDateParts
namespace Go.Proofs.Ytobgpdmiiipmmaa.Cal
set_option linter.unusedVariables false
set_option linter.unusedSimpArgs false
open Go.RowKit Go.Proofs.Ytobgpdmiiipmmaa.Q Go.Proofs.Ytobgpdmiiipmmaa.Dig Go.Proofs.YtobgpdmiiipmmaaW.PrintWords Go.Proofs.YtobgpdmiiipmmaaW.PrintLast

theorem fit_digits : ∀ (n : Nat) (l : List Int), fit (List.replicate n none) l = min (lead l) n
  | 0, l => by simp [fit]
  | n + 1, [] => by simp [List.replicate_succ, fit, lead_nil]
  | n + 1, c :: cs => by
    simp only [List.replicate_succ, fit]
    by_cases h : IsD c
    · rw [if_pos (show q1 none c = true by simp [q1, h]), fit_digits n cs, lead_yes h]; omega
    · rw [if_neg (show ¬ q1 none c = true by simp [q1, h]), lead_no h]; omega
/-- A point, and six digits. -/
def PQ : List (Option Int) := some 46 :: List.replicate 6 none
theorem fit_PF (l : List Int) : fit PF l = if fit PM l = 19 then 19 + fit PQ (l.drop 19) else fit PM l := fit_append PM PQ l
theorem fit_PM_le (l : List Int) : fit PM l ≤ 19 := (fit_le PM l).1
theorem en_ev {l : List Int} (hl : l.length < 9223372036854775807) : Ev (fun k => date_Moment.en k l ((fit PM l : Nat) : Int)) ((fit PF l : Nat) : Int) := by
  rw [fit_PF]
  refine Ev.congr (fun k => by unfold date_Moment.en; rfl) ?_
  by_cases c1 : fit PM l = 19
  · rw [if_pos c1, c1]
    have hle := (fit_le PM l).2
    by_cases c2 : 19 < l.length
    · rw [drop_cons c2]
      simp only [PQ, fit, q1, decide_eq_true_eq]
      by_cases c3 : rd l 19 = 46
      · have c3' : rd l ((19 : Nat) : Int) = 46 := c3
        simp only [if_pos (show date_Moment.dot l ((19 : Nat) : Int) from ⟨rfl, c2, c3⟩), if_pos c3']
        refine Ev.bind (runs_ev hl 20) ?_
        have hlead := lead_le (l.drop 20)
        rw [List.length_drop] at hlead
        rw [fit_digits]
        simp only [if_pos (show (0 : Int) ≤ (lead (l.drop 20) : Int) ∧ (lead (l.drop 20) : Int) ≤ (l.length : Int) by omega)]
        rw [show (20 : Int) + (if ((lead (l.drop 20) : Nat) : Int) < 6 then ((lead (l.drop 20) : Nat) : Int) else 6) = ((19 + (min (lead (l.drop (19 + 1))) 6 + 1) : Nat) : Int) by
          show (20 : Int) + (if ((lead (l.drop 20) : Nat) : Int) < 6 then ((lead (l.drop 20) : Nat) : Int) else 6) = ((19 + (min (lead (l.drop 20)) 6 + 1) : Nat) : Int)
          split <;> omega]
        exact Ev.now _
      · have c3' : ¬ rd l ((19 : Nat) : Int) = 46 := c3
        simp only [if_neg (show ¬ date_Moment.dot l ((19 : Nat) : Int) from fun q => c3 q.2.2), if_neg c3']
        exact Ev.now _
    · rw [List.drop_of_length_le (by omega), fit_nil]
      simp only [if_neg (show ¬ date_Moment.dot l ((19 : Nat) : Int) from fun q => c2 q.2.1)]
      exact Ev.now _
  · rw [if_neg c1]
    simp only [if_neg (show ¬ date_Moment.dot l ((fit PM l : Nat) : Int) from fun q => c1 (by have := q.1; omega))]
    exact Ev.now _
/-- The fraction's digits, with their missing noughts. -/
def fracV (l : List Int) (e : Nat) : Int := dval (pc l 20 e) * 10 ^ (26 - e)
theorem pc_snoc {l : List Int} {a b : Nat} (hab : a ≤ b) (h : b < l.length) : pc l a (b + 1) = pc l a b ++ [rd l (b : Int)] := by
  unfold pc
  rw [List.take_succ_eq_append_getElem h, List.drop_append_of_le_length (by rw [List.length_take]; omega)]
  unfold rd
  rw [Int.toNat_natCast, List.getD_eq_getElem?_getD, List.getElem?_eq_getElem h]; rfl
theorem pc_none (l : List Int) (a b : Nat) (h : b ≤ a) : pc l a b = [] := by
  unfold pc
  exact List.drop_of_length_le (by rw [List.length_take]; omega)
theorem fr_eq {l : List Int} {e : Nat} (he : e ≤ l.length) (h19 : 19 ≤ e) (t : Int) : ∀ j : Nat, date_Moment.fr l (e : Int) t j = t * 10 ^ j + dval (pc l 20 (min e (20 + j))) * 10 ^ (20 + j - e)
  | 0 => by
    rw [pc_none l 20 _ (by omega)]
    simp [date_Moment.fr, dval, dv]
  | j + 1 => by
    simp only [date_Moment.fr]
    rw [fr_eq he h19 t j, Int.pow_succ, ← Int.mul_assoc, Int.add_mul]
    unfold date_Moment.dg
    by_cases h : 20 + (j : Int) < (e : Int)
    · rw [if_pos h, show min e (20 + j) = 20 + j by omega, show min e (20 + (j + 1)) = (20 + j) + 1 by omega, show 20 + j - e = 0 by omega, show 20 + (j + 1) - e = 0 by omega, pc_snoc (by omega) (by omega)]
      unfold dval
      rw [dv_snoc, show ((20 + j : Nat) : Int) = 20 + (j : Int) by omega]
      simp only [Int.pow_zero, Int.mul_one]
      omega
    · rw [if_neg h]
      by_cases h2 : e = 19
      · rw [pc_none l 20 _ (by omega), pc_none l 20 _ (by omega)]
        simp [dval, dv]
      · rw [show min e (20 + j) = e by omega, show min e (20 + (j + 1)) = e by omega, show 20 + (j + 1) - e = (20 + j - e) + 1 by omega, Int.pow_succ, ← Int.mul_assoc]
        omega
/-- What Moment answers. -/
def clockV (l : List Int) (e : Nat) (d : Int) : Int × Int × Int :=
  if dval (pc l 11 13) > 23 then (0, 11, 131) else if dval (pc l 14 16) > 59 then (0, 14, 131) else if dval (pc l 17 19) > 59 then (0, 17, 131) else
    (IntKind.u64.wrap (d * 86400000000 + ((dval (pc l 11 13) * 60 + dval (pc l 14 16)) * 60 + dval (pc l 17 19)) * 1000000 + fracV l e), 0, 0)
def momentF (l : List Int) : Int × Int × Int :=
  if fit PF l < l.length ∨ fit PF l < 19 ∨ fit PF l = 20 then (0, fit PF l, 130) else
    if (dayV (dval (pc l 0 4)) (dval (pc l 5 7)) (dval (pc l 8 10))).2.2 ≠ 0 then (0, (dayV (dval (pc l 0 4)) (dval (pc l 5 7)) (dval (pc l 8 10))).2.1, (dayV (dval (pc l 0 4)) (dval (pc l 5 7)) (dval (pc l 8 10))).2.2) else
      clockV l (fit PF l) (dayV (dval (pc l 0 4)) (dval (pc l 5 7)) (dval (pc l 8 10))).1
theorem pm_pieces {l : List Int} (h : 19 ≤ fit PF l) : AllD (pc l 11 13) ∧ AllD (pc l 14 16) ∧ AllD (pc l 17 19) ∧ AllD (pc l 20 (fit PF l)) ∧ 19 ≤ l.length := by
  have hl := (fit_le PF l).2
  have hl2 := (fit_le PF l).1
  have hlen : PF.length = 26 := rfl
  refine ⟨pc_all (by omega) ?_, pc_all (by omega) ?_, pc_all (by omega) ?_, pc_all hl ?_, by omega⟩
  · intro i h1 h2
    refine fit_isd (P := PF) (by omega) ?_
    have : i = 11 ∨ i = 12 := by omega
    rcases this with rfl | rfl <;> rfl
  · intro i h1 h2
    refine fit_isd (P := PF) (by omega) ?_
    have : i = 14 ∨ i = 15 := by omega
    rcases this with rfl | rfl <;> rfl
  · intro i h1 h2
    refine fit_isd (P := PF) (by omega) ?_
    have : i = 17 ∨ i = 18 := by omega
    rcases this with rfl | rfl <;> rfl
  · intro i h1 h2
    refine fit_isd (P := PF) (by omega) ?_
    have : i = 20 ∨ i = 21 ∨ i = 22 ∨ i = 23 ∨ i = 24 ∨ i = 25 := by omega
    rcases this with rfl | rfl | rfl | rfl | rfl | rfl <;> rfl
theorem okd_of {l : List Int} (h : 19 ≤ fit PF l) : date_Moment.okd l ((fit PF l : Nat) : Int) := by
  intro j hj
  unfold date_Moment.dg
  by_cases c : 20 + (j : Int) < ((fit PF l : Nat) : Int)
  · rw [if_pos c]
    have hd : IsD (rd l ((20 + j : Nat) : Int)) := by
      refine fit_isd (P := PF) (by omega) ?_
      have : j = 0 ∨ j = 1 ∨ j = 2 ∨ j = 3 ∨ j = 4 ∨ j = 5 := by omega
      rcases this with rfl | rfl | rfl | rfl | rfl | rfl <;> rfl
    rw [show ((20 + j : Nat) : Int) = 20 + (j : Int) by omega] at hd
    unfold IsD at hd
    omega
  · rw [if_neg c]; omega
theorem frac_bd {l : List Int} (h : 19 ≤ fit PF l) : 0 ≤ fracV l (fit PF l) ∧ fracV l (fit PF l) < 1000000 := by
  have hl := (fit_le PF l).2
  have hl2 := (fit_le PF l).1
  have hlen : PF.length = 26 := rfl
  obtain ⟨-, -, -, hd, -⟩ := pm_pieces h
  have hb := dval_bounds hd
  unfold fracV
  by_cases h20 : fit PF l ≤ 20
  · rw [pc_none l 20 _ h20]; simp [dval, dv]
  rw [pc_len hl] at hb
  have hp : (0 : Int) < 10 ^ (26 - fit PF l) := by exact_mod_cast Nat.pow_pos (by decide)
  have e : (10 : Int) ^ (fit PF l - 20) * 10 ^ (26 - fit PF l) = 1000000 := by
    rw [← Int.pow_add, show fit PF l - 20 + (26 - fit PF l) = 6 by omega]; rfl
  refine ⟨Int.mul_nonneg hb.1 (by omega), ?_⟩
  rw [← e]
  exact Int.mul_lt_mul_of_pos_right hb.2 hp
theorem clock_ev {l : List Int} (h : 19 ≤ fit PF l) (d : Int) : Ev (fun k => date_Moment.clock k l ((fit PF l : Nat) : Int) d [(11, 23), (14, 59), (17, 59)] 0) (clockV l (fit PF l) d) := by
  obtain ⟨hH, hM, hS, hd, hl⟩ := pm_pieces h
  have bH := small_bd hH (n := 2) (by rw [pc_len (by omega)]; omega) (by omega)
  have bM := small_bd hM (n := 2) (by rw [pc_len (by omega)]; omega) (by omega)
  have bS := small_bd hS (n := 2) (by rw [pc_len (by omega)]; omega) (by omega)
  unfold clockV
  refine Ev.congr (fun k => by simp only [date_Moment.clock]; rfl) ?_
  refine Ev.bind (number_ev (a := 11) (b := 13) (by omega) (by omega) (by omega) hH) ?_
  simp only [if_neg (show ¬ dval (pc l 11 13) < 0 by omega)]
  by_cases c1 : dval (pc l 11 13) > 23
  · simp only [if_pos c1]; exact Ev.now _
  simp only [if_neg c1]
  refine Ev.bind (number_ev (a := 14) (b := 16) (by omega) (by omega) (by omega) hM) ?_
  simp only [if_neg (show ¬ dval (pc l 14 16) < 0 by omega)]
  by_cases c2 : dval (pc l 14 16) > 59
  · simp only [if_pos c2]; exact Ev.now _
  simp only [if_neg c2]
  refine Ev.bind (number_ev (a := 17) (b := 19) (by omega) (by omega) (by omega) hS) ?_
  simp only [if_neg (show ¬ dval (pc l 17 19) < 0 by omega)]
  by_cases c3 : dval (pc l 17 19) > 59
  · simp only [if_pos c3]; exact Ev.now _
  simp only [if_neg c3, if_pos (okd_of h)]
  rw [fr_eq (fit_le PF l).2 h]
  have hle := (fit_le PF l).1
  have hlen : PF.length = 26 := rfl
  rw [show min (fit PF l) (20 + 6) = fit PF l by omega]
  have e : d * 86400000000 + ((60 * (60 * (60 * 0 + dval (pc l 11 13)) + dval (pc l 14 16)) + dval (pc l 17 19)) * 10 ^ 6 + dval (pc l 20 (fit PF l)) * 10 ^ (20 + 6 - fit PF l)) = d * 86400000000 + ((dval (pc l 11 13) * 60 + dval (pc l 14 16)) * 60 + dval (pc l 17 19)) * 1000000 + fracV l (fit PF l) := by
    unfold fracV
    rw [show 20 + 6 - fit PF l = 26 - fit PF l by omega, show (10 : Int) ^ 6 = 1000000 from rfl]
    omega
  rw [e]
  exact Ev.now _
theorem moment_ev (l : List Int) (hl : l.length < 9223372036854775807) : Ev (fun k => date_Moment.f k l) (momentF l) := by
  have h1 := fit_PF l
  have h2 := fit_PM_le l
  have h3 := fit_le PF l
  have hlen : PF.length = 26 := rfl
  refine Ev.congr (fun k => by unfold date_Moment.f; rfl) ?_
  refine Ev.bind (form_ev patM l (by decide)) ?_
  simp only [if_neg (show ¬ (((fit PM l : Nat) : Int) < 0 ∨ ((fit PM l : Nat) : Int) > 19) by omega)]
  refine Ev.bind (en_ev hl) ?_
  unfold momentF
  have hiff : (((fit PM l : Nat) : Int) < 19 ∨ ((fit PF l : Nat) : Int) < (l.length : Int) ∨ ((fit PF l : Nat) : Int) = ((fit PM l : Nat) : Int) + 1) ↔ (fit PF l < l.length ∨ fit PF l < 19 ∨ fit PF l = 20) := by
    split at h1 <;> omega
  by_cases c1 : fit PF l < l.length ∨ fit PF l < 19 ∨ fit PF l = 20
  · simp only [if_pos c1, if_pos (hiff.2 c1)]; exact Ev.now _
  simp only [if_neg c1, if_neg (fun q => c1 (hiff.1 q)), if_neg (show ¬ ((fit PF l : Nat) : Int) > (l.length : Int) by omega)]
  obtain ⟨p1, p2, p3, p4⟩ := pd_pieces (P := [some 84, none, none, some 58, none, none, some 58, none, none] ++ PQ) (l := l) (by show 10 ≤ fit PF l; omega)
  have bY := small_bd p2 (n := 4) (by rw [pc_len (by omega)]; omega) (by omega)
  refine Ev.bind (days_ev p1 p2 p3 p4) ?_
  have hbd := dayV_bd (m := dval (pc l 5 7)) (d := dval (pc l 8 10)) bY.1 (show dval (pc l 0 4) ≤ 9999 by omega)
  generalize dayV (dval (pc l 0 4)) (dval (pc l 5 7)) (dval (pc l 8 10)) = t at *
  by_cases c2 : t.2.2 ≠ 0
  · simp only [if_pos c2]; exact Ev.now _
  simp only [if_neg c2, if_neg (show ¬ (t.1 < -800000 ∨ t.1 > 4000000) by omega)]
  exact clock_ev (by omega) t.1
theorem rmoment_ev (l : List Int) (hl : l.length < 9223372036854775807) : Ev (fun k => mintageref13_Moment.f k l) (momentF l) := by
  have h3 := fit_le PF l
  have hlen : PF.length = 26 := rfl
  refine Ev.congr (fun k => by unfold mintageref13_Moment.f; rfl) ?_
  refine Ev.bind (fits_ev patF l (by decide) hl) ?_
  simp only [if_neg (show ¬ (((fit PF l : Nat) : Int) < 0 ∨ ((fit PF l : Nat) : Int) > 26 ∨ ((fit PF l : Nat) : Int) > (l.length : Int)) by omega)]
  unfold momentF
  have hiff : (((fit PF l : Nat) : Int) < (l.length : Int) ∨ ((fit PF l : Nat) : Int) < 19 ∨ ((fit PF l : Nat) : Int) = 20) ↔ (fit PF l < l.length ∨ fit PF l < 19 ∨ fit PF l = 20) := by omega
  by_cases c1 : fit PF l < l.length ∨ fit PF l < 19 ∨ fit PF l = 20
  · simp only [if_pos c1, if_pos (hiff.2 c1)]; exact Ev.now _
  simp only [if_neg c1, if_neg (fun q => c1 (hiff.1 q))]
  obtain ⟨p1, p2, p3, p4⟩ := pd_pieces (P := [some 84, none, none, some 58, none, none, some 58, none, none] ++ PQ) (l := l) (by show 10 ≤ fit PF l; omega)
  have bY := small_bd p2 (n := 4) (by rw [pc_len (by omega)]; omega) (by omega)
  refine Ev.bind (rdate_ev p1 p2 p3 p4) ?_
  have hbd := dayV_bd (m := dval (pc l 5 7)) (d := dval (pc l 8 10)) bY.1 (show dval (pc l 0 4) ≤ 9999 by omega)
  generalize dayV (dval (pc l 0 4)) (dval (pc l 5 7)) (dval (pc l 8 10)) = t at *
  by_cases c2 : t.2.2 ≠ 0
  · simp only [if_pos c2]; exact Ev.now _
  simp only [if_neg c2, if_neg (show ¬ (t.1 < -800000 ∨ t.1 > 4000000) by omega)]
  have h19 : 19 ≤ fit PF l := by omega
  obtain ⟨hH, hM, hS, hd, hl'⟩ := pm_pieces h19
  have bH := small_bd hH (n := 2) (by rw [pc_len (by omega)]; omega) (by omega)
  have bM := small_bd hM (n := 2) (by rw [pc_len (by omega)]; omega) (by omega)
  have bS := small_bd hS (n := 2) (by rw [pc_len (by omega)]; omega) (by omega)
  have bF := frac_bd h19
  refine Ev.bind (rnumber_ev (l := pc l 11 13) hH (by rw [pc_len (by omega)]; omega)) ?_
  refine Ev.bind (rnumber_ev (l := pc l 14 16) hM (by rw [pc_len (by omega)]; omega)) ?_
  refine Ev.bind (rnumber_ev (l := pc l 17 19) hS (by rw [pc_len (by omega)]; omega)) ?_
  unfold clockV
  by_cases c3 : dval (pc l 11 13) > 23
  · simp only [if_pos c3]; exact Ev.now _
  simp only [if_neg c3]
  by_cases c4 : dval (pc l 14 16) > 59
  · simp only [if_pos c4]; exact Ev.now _
  simp only [if_neg c4]
  by_cases c5 : dval (pc l 17 19) > 59
  · simp only [if_pos c5]; exact Ev.now _
  simp only [if_neg c5, if_neg (show ¬ (dval (pc l 11 13) < 0 ∨ dval (pc l 14 16) < 0 ∨ dval (pc l 17 19) < 0) by omega)]
  have key : Ev (fun k => mintageref13_Moment.frac k l ((fit PF l : Nat) : Int)) (fracV l (fit PF l)) := by
    refine Ev.congr (fun k => by unfold mintageref13_Moment.frac; rfl) ?_
    by_cases c6 : ((fit PF l : Nat) : Int) > 20
    · simp only [if_pos c6, Int.toNat_natCast]
      have hdb := dval_bounds hd
      refine Ev.bind (rnumber_ev (l := pc l 20 (fit PF l)) hd (by rw [pc_len h3.2]; omega)) ?_
      simp only [if_pos (show 0 ≤ dval (pc l 20 (fit PF l)) ∧ dval (pc l 20 (fit PF l)) * 10 ^ (26 - fit PF l) < 1000000 from ⟨hdb.1, bF.2⟩)]
      exact Ev.now _
    · simp only [if_neg c6]
      have e : fracV l (fit PF l) = 0 := by unfold fracV; rw [pc_none l 20 _ (by omega)]; simp [dval, dv]
      rw [e]
      exact Ev.now _
  exact Ev.bind key (Ev.now _)
end Go.Proofs.Ytobgpdmiiipmmaa.Cal
