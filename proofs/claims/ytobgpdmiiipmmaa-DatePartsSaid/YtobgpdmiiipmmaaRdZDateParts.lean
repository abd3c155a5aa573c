/- Days and moments, read: what fits a form, what the numbers are; both packages alike. -/
import Derived.Test.YtobgpdmiiipmmaaCalZDateParts
import Derived.Test.YtobgpdmiiipmmaaDigbZDateParts
import Derived.Test.YtobgpdmiiipmmaaRunZDateParts
import Derived.Test.YtobgpdmiiipmmaaQ0ZDateParts
import Derived.Test.YtobgpdmiiipmmaaQ1ZDateParts
namespace Go.Proofs.Ytobgpdmiiipmmaa.Cal
set_option linter.unusedVariables false
set_option linter.unusedSimpArgs false
open Go.RowKit Go.Proofs.Ytobgpdmiiipmmaa.Q Go.Proofs.Ytobgpdmiiipmmaa.Dig Go.Proofs.YtobgpdmiiipmmaaW.PrintWords Go.Proofs.YtobgpdmiiipmmaaW.PrintLast

/-- One place of a form: a digit, or just this byte. -/
def q1 (q : Option Int) (c : Int) : Bool := match q with | none => decide (IsD c) | some b => decide (c = b)
/-- How many bytes fit a form. -/
def fit : List (Option Int) → List Int → Nat
  | q :: qs, c :: cs => if q1 q c = true then fit qs cs + 1 else 0
  | _, _ => 0
theorem fit_nil (P : List (Option Int)) : fit P [] = 0 := by cases P <;> rfl
theorem fit_nil' (l : List Int) : fit [] l = 0 := rfl
theorem fit_le : ∀ (P : List (Option Int)) (l : List Int), fit P l ≤ P.length ∧ fit P l ≤ l.length
  | [], l => by simp [fit]
  | q :: qs, [] => by simp [fit]
  | q :: qs, c :: cs => by
    have := fit_le qs cs
    simp only [fit]; split <;> simp <;> omega
theorem fit_get : ∀ (P : List (Option Int)) (l : List Int) (i : Nat), i < fit P l → q1 (P.getD i none) (rd l (i : Int)) = true
  | [], l, i, h => by simp [fit] at h
  | q :: qs, [], i, h => by simp [fit] at h
  | q :: qs, c :: cs, i, h => by
    simp only [fit] at h
    by_cases hc : q1 q c = true
    · rw [if_pos hc] at h
      cases i with
      | zero => simpa [rd, rdOf] using hc
      | succ i =>
        have := fit_get qs cs i (by omega)
        simpa [rd, rdOf] using this
    · rw [if_neg hc] at h; omega
theorem fit_append : ∀ (P Q : List (Option Int)) (l : List Int), fit (P ++ Q) l = if fit P l = P.length then P.length + fit Q (l.drop P.length) else fit P l
  | [], Q, l => by simp [fit]
  | q :: qs, Q, [] => by simp [fit]
  | q :: qs, Q, c :: cs => by
    have ih := fit_append qs Q cs
    have e0 : (q :: qs) ++ Q = q :: (qs ++ Q) := rfl
    rw [e0]
    by_cases hc : q1 q c = true
    · have e1 : fit (q :: qs) (c :: cs) = fit qs cs + 1 := by simp only [fit]; rw [if_pos hc]
      have e2 : fit (q :: (qs ++ Q)) (c :: cs) = fit (qs ++ Q) cs + 1 := by simp only [fit]; rw [if_pos hc]
      rw [e1, e2, ih]
      simp only [List.length_cons, List.drop_succ_cons]
      by_cases he : fit qs cs = qs.length
      · rw [if_pos he, if_pos (by omega)]; omega
      · rw [if_neg he, if_neg (by omega)]
    · have e1 : fit (q :: qs) (c :: cs) = 0 := by simp only [fit]; rw [if_neg hc]
      have e2 : fit (q :: (qs ++ Q)) (c :: cs) = 0 := by simp only [fit]; rw [if_neg hc]
      rw [e1, e2, if_neg (by simp)]
/-- A form as package date writes it ('d': a digit) and as the document does ('0'). -/
structure Pat (s t : ByteArray) (P : List (Option Int)) : Prop where
  ss : s.size = P.length
  ts : t.size = P.length
  at_ : ∀ i, i < P.length → (P.getD i none = none ∧ bt s (i : Int) = 100 ∧ bt t (i : Int) = 48) ∨ ∃ b, P.getD i none = some b ∧ bt s (i : Int) = b ∧ bt t (i : Int) = b ∧ b ≠ 100 ∧ b ≠ 48
theorem isd_ref (c : Int) : mintageref04_Is.f c = some (decide (IsD c)) := by
  unfold mintageref04_Is.f IsD
  by_cases h : c ≥ 48
  · rw [if_pos h]; exact congrArg some (decide_eq_decide.2 (by omega))
  · rw [if_neg h]; exact congrArg some (decide_eq_false (by omega)).symm
theorem drop_consP {P : List (Option Int)} {i : Nat} (h : i < P.length) : P.drop i = P.getD i none :: P.drop (i + 1) := by
  rw [List.drop_eq_getElem_cons h]; simp [List.getD_eq_getElem?_getD, List.getElem?_eq_getElem h]
theorem form_loop {s t : ByteArray} {P : List (Option Int)} (hp : Pat s t P) {l : List Int} (hl : P.length ≤ 1000) : ∀ (d i : Nat), i + d = min l.length P.length →
    Ev (fun k => date_form.l0 k l s ((min l.length P.length : Nat) : Int) (i : Int)) ((i + fit (P.drop i) (l.drop i) : Nat) : Int) := by
  intro d
  induction d with
  | zero =>
    intro i hi
    have hz : fit (P.drop i) (l.drop i) = 0 := by
      by_cases h : l.length ≤ i
      · rw [List.drop_of_length_le h, fit_nil]
      · rw [List.drop_of_length_le (l := P) (by omega), fit_nil']
    refine Ev.step (fun k => by simp only [date_form.l0]; rw [if_neg (by omega)]) ?_
    rw [hz, hp.ss, show mn (l.length : Int) (P.length : Int) = ((i + 0 : Nat) : Int) by unfold mn; split <;> omega]
    exact Ev.now _
  | succ d ih =>
    intro i hi
    have hP : i < P.length := by omega
    have hL : i < l.length := by omega
    have hss := hp.ss
    rw [drop_consP hP, drop_cons hL]
    have w : wrap64 ((i : Int) + 1) = ((i + 1 : Nat) : Int) := by rw [wrap64_id (by omega) (by omega)]; omega
    simp only [fit]
    rcases hp.at_ i hP with ⟨e, b1, -⟩ | ⟨b, e, b1, -, n1, -⟩
    · rw [e]
      refine Ev.step (fun k => by simp only [date_form.l0]; rw [if_pos (by omega), if_pos (by omega), if_pos (by omega), if_pos (by omega), b1, if_pos rfl, isd_ev]) ?_
      simp only [q1]
      by_cases hc : IsD (rd l (i : Int))
      · simp only [hc, decide_true, if_true, Option.bind_some]
        rw [w, show i + (fit (P.drop (i + 1)) (l.drop (i + 1)) + 1) = (i + 1) + fit (P.drop (i + 1)) (l.drop (i + 1)) by omega]
        exact ih (i + 1) (by omega)
      · simp only [hc, decide_false, Bool.false_eq_true, if_false, Option.bind_some]
        exact Ev.now _
    · rw [e]
      refine Ev.step (fun k => by simp only [date_form.l0]; rw [if_pos (by omega), if_pos (by omega), if_pos (by omega), if_pos (by omega), b1, if_neg n1]) ?_
      simp only [q1, decide_eq_true_eq]
      by_cases hc : rd l (i : Int) = b
      · simp only [hc, if_true]
        rw [w, show i + (fit (P.drop (i + 1)) (l.drop (i + 1)) + 1) = (i + 1) + fit (P.drop (i + 1)) (l.drop (i + 1)) by omega]
        exact ih (i + 1) (by omega)
      · simp only [hc, if_false]
        exact Ev.now _
theorem form_ev {s t : ByteArray} {P : List (Option Int)} (hp : Pat s t P) (l : List Int) (hl : P.length ≤ 1000) : Ev (fun k => date_form.f k l s) ((fit P l : Nat) : Int) := by
  have h := form_loop hp (l := l) hl (min l.length P.length) 0 (by omega)
  simp only [List.drop_zero, Nat.zero_add] at h
  refine Ev.congr (fun k => ?_) h
  unfold date_form.f
  rw [hp.ss, show mn (l.length : Int) (P.length : Int) = ((min l.length P.length : Nat) : Int) by unfold mn; split <;> omega]; rfl
theorem fits_loop {s t : ByteArray} {P : List (Option Int)} (hp : Pat s t P) {l : List Int} (hl : P.length ≤ 1000) (hl2 : l.length < 9223372036854775807) : ∀ (d i : Nat), i + d = l.length → i ≤ P.length →
    Ev (fun k => mintageref13_fits.l0 k l t (i : Int)) ((i + fit (P.drop i) (l.drop i) : Nat) : Int) := by
  intro d
  induction d with
  | zero =>
    intro i hi hiP
    rw [List.drop_of_length_le (l := l) (by omega), fit_nil]
    refine Ev.step (fun k => by simp only [mintageref13_fits.l0]; rw [if_neg (by omega)]) ?_
    rw [show (l.length : Int) = ((i + 0 : Nat) : Int) by omega]
    exact Ev.now _
  | succ d ih =>
    intro i hi hiP
    have hL : i < l.length := by omega
    have hts := hp.ts
    by_cases hP : i < P.length
    · rw [drop_consP hP, drop_cons hL]
      have w : wrap64 ((i : Int) + 1) = ((i + 1 : Nat) : Int) := by rw [wrap64_id (by omega) (by omega)]; omega
      simp only [fit]
      rcases hp.at_ i hP with ⟨e, -, b1⟩ | ⟨b, e, -, b1, -, n1⟩
      · rw [e]
        refine Ev.step (fun k => by simp only [mintageref13_fits.l0]; rw [if_pos (by omega), if_neg (by omega), if_pos (by omega), if_pos (by omega), b1, if_pos rfl, isd_ref]) ?_
        simp only [q1]
        by_cases hc : IsD (rd l (i : Int))
        · simp only [hc, decide_true, if_true, Option.bind_some]
          rw [w, show i + (fit (P.drop (i + 1)) (l.drop (i + 1)) + 1) = (i + 1) + fit (P.drop (i + 1)) (l.drop (i + 1)) by omega]
          exact ih (i + 1) (by omega) (by omega)
        · simp only [hc, decide_false, Bool.false_eq_true, if_false, Option.bind_some]
          exact Ev.now _
      · rw [e]
        refine Ev.step (fun k => by simp only [mintageref13_fits.l0]; rw [if_pos (by omega), if_neg (by omega), if_pos (by omega), if_pos (by omega), b1, if_neg n1]) ?_
        simp only [q1, decide_eq_true_eq]
        by_cases hc : rd l (i : Int) = b
        · simp only [hc, if_true]
          rw [w, show i + (fit (P.drop (i + 1)) (l.drop (i + 1)) + 1) = (i + 1) + fit (P.drop (i + 1)) (l.drop (i + 1)) by omega]
          exact ih (i + 1) (by omega) (by omega)
        · simp only [hc, if_false]
          exact Ev.now _
    · rw [List.drop_of_length_le (l := P) (by omega), fit_nil']
      refine Ev.step (fun k => by simp only [mintageref13_fits.l0]; rw [if_pos (by omega), if_pos (by omega)]) ?_
      exact Ev.now _
theorem fits_ev {s t : ByteArray} {P : List (Option Int)} (hp : Pat s t P) (l : List Int) (hl : P.length ≤ 1000) (hl2 : l.length < 9223372036854775807) : Ev (fun k => mintageref13_fits.f k l t) ((fit P l : Nat) : Int) := by
  have h := fits_loop hp (l := l) hl hl2 l.length 0 (by omega) (by omega)
  simp only [List.drop_zero, Nat.zero_add] at h
  exact Ev.congr (fun k => by unfold mintageref13_fits.f; rfl) h
/-- A day's form, a moment's without and with its fraction. -/
def PD : List (Option Int) := [none, none, none, none, some 45, none, none, some 45, none, none]
def PM : List (Option Int) := PD ++ [some 84, none, none, some 58, none, none, some 58, none, none]
def PF : List (Option Int) := PM ++ [some 46, none, none, none, none, none, none]
theorem pat_of {s t : ByteArray} {P : List (Option Int)} (h : (decide (s.size = P.length) && decide (t.size = P.length) && (List.range P.length).all fun i => match P.getD i none with | none => decide (bt s (i : Int) = 100) && decide (bt t (i : Int) = 48) | some b => decide (bt s (i : Int) = b) && decide (bt t (i : Int) = b) && decide (b ≠ 100) && decide (b ≠ 48)) = true) : Pat s t P := by
  simp only [Bool.and_eq_true, decide_eq_true_eq, List.all_eq_true, List.mem_range] at h
  obtain ⟨⟨h1, h2⟩, h3⟩ := h
  refine ⟨h1, h2, fun i hi => ?_⟩
  have := h3 i hi
  cases e : P.getD i none with
  | none => rw [e] at this; simp only [Bool.and_eq_true, decide_eq_true_eq] at this; exact .inl ⟨rfl, this⟩
  | some b => rw [e] at this; simp only [Bool.and_eq_true, decide_eq_true_eq] at this; exact .inr ⟨b, rfl, this.1.1.1, this.1.1.2, this.1.2, this.2⟩
theorem patD : Pat (⟨#[100, 100, 100, 100, 45, 100, 100, 45, 100, 100]⟩ : ByteArray) (⟨#[48, 48, 48, 48, 45, 48, 48, 45, 48, 48]⟩ : ByteArray) PD := pat_of (by decide +kernel)
theorem patM : Pat date_Moment.pat (⟨#[48, 48, 48, 48, 45, 48, 48, 45, 48, 48, 84, 48, 48, 58, 48, 48, 58, 48, 48]⟩ : ByteArray) PM := pat_of (by decide +kernel)
theorem patF : Pat (⟨#[100, 100, 100, 100, 45, 100, 100, 45, 100, 100, 84, 100, 100, 58, 100, 100, 58, 100, 100, 46, 100, 100, 100, 100, 100, 100]⟩ : ByteArray) mintageref13_Moment.pat PF := pat_of (by decide +kernel)
end Go.Proofs.Ytobgpdmiiipmmaa.Cal
