/- A looser history (plain). -/
import Derived.Test.YtbjoinocajobhaaWiZAuditTakes
import Derived.Test.YtbjoinocajobhaaSeZAuditTakes
import Derived.Test.YtbjoinocajobhaaQ0ZAuditTakes
namespace Go.Proofs.Ytbjoinocajobhaa.Ju
set_option linter.unusedVariables false
set_option linter.unusedSimpArgs false
open Go.RowKit Go.Proofs.Ytbjoinocajobhaa.Q Go.Proofs.YtbjoinocajobhaaW.PrintWords Go.Proofs.YtbjoinocajobhaaW.PrintLast Go.Proofs.YtbjoinocajobhaaW.PrintMore
/-- Some order of calls that take effect, at whose end all that have ended are done. -/
def Sched (l : List S32) : Nat → Qs → List Nat → Prop
  | m, _, [] => over l m = true
  | m, q, i :: r => i < l.length ∧ ∃ q', step l m q i = some q' ∧ Sched l (m ||| 2 ^ i) q' r
theorem path_sched (l : List S32) : ∀ (o : List Int) (m : Nat) (q : Qs), Path l m q o → ∃ r, Sched l m q r
  | [], m, q, h => ⟨[], h⟩
  | x :: o, m, q, ⟨i, q', hx, hi, _, hs, hp⟩ => by
    obtain ⟨r, hr⟩ := path_sched l o _ _ hp
    exact ⟨i :: r, hi, q', hs, hr⟩
theorem sched_C (l : List S32) : ∀ (r : List Nat) (m : Nat) (q : Qs), Sched l m q r → ∃ o, C l m q = some o
  | [], m, q, h => ⟨[], C_over q h⟩
  | i :: r, m, q, ⟨hi, q', hs, hr⟩ => by
    by_cases ho : over l m = true
    · exact ⟨[], C_over q ho⟩
    · obtain ⟨o, hc⟩ := sched_C l r _ _ hr
      have hb : branch l m q i = some ((i : Int) :: o) := by
        unfold branch; rw [hs]; simp only [Option.bind_some]; rw [hc]; rfl
      cases hC : C l m q with
      | some o' => exact ⟨o', rfl⟩
      | none =>
        exfalso
        -- the first branch that answers
        have key : ∀ n, n ≤ l.length → (∀ j, j < n → branch l m q j = none) ∨ ∃ j r', j < n ∧ (∀ k, k < j → branch l m q k = none) ∧ branch l m q j = some r' := by
          intro n
          induction n with
          | zero => intro _; exact .inl fun j hj => by omega
          | succ n ih =>
            intro hn
            rcases ih (by omega) with h | ⟨j, r', h1, h2, h3⟩
            · cases hbn : branch l m q n with
              | none =>
                refine .inl fun j hj => ?_
                by_cases e : j = n
                · rw [e]; exact hbn
                · exact h j (by omega)
              | some r' => exact .inr ⟨n, r', by omega, h, hbn⟩
            · exact .inr ⟨j, r', by omega, h2, h3⟩
        rcases key l.length (Nat.le_refl _) with h | ⟨j, r', h1, h2, h3⟩
        · rw [h i hi] at hb; cases hb
        · rw [C_some ho h1 h2 h3] at hC; cases hC
/-- What is at least as loose: the same calls, of which fewer are ahead of others, and perhaps more that have not ended. -/
structure Looser (l l' : List S32) : Prop where
  len : l.length ≤ l'.length
  kind : ∀ i, i < l.length → (sp l' i).f0 = (sp l i).f0
  code : ∀ i, i < l.length → ended (sp l' i) = true → ended (sp l i) = true ∧ (sp l' i).f3 = (sp l i).f3 ∧ (sp l' i).f4 = (sp l i).f4
  ah : ∀ k i, k < l.length → i < l.length → ahead (sp l' k) (sp l' i) = true → ahead (sp l k) (sp l i) = true
  new : ∀ k, l.length ≤ k → k < l'.length → ended (sp l' k) = false
theorem Looser.may {l l' : List S32} (h : Looser l l') {m i : Nat} (hi : i < l.length) (hm : Ju.may l m i = true) : Ju.may l' m i = true := by
  have hb := may_bit hm
  rw [may_end (fun k hk => ?_), hb]; · rfl
  by_cases hk2 : k < l.length
  · unfold Ju.may at hm
    rw [Bool.and_eq_true, List.all_eq_true] at hm
    have := hm.1 k (List.mem_range.2 hk2)
    cases hbk : m.testBit k
    · rw [hbk] at this
      cases ha : ahead (sp l' k) (sp l' i)
      · rfl
      · rw [h.ah k i hk2 hi ha] at this; cases this
    · rfl
  · have := h.new k (by omega) hk
    unfold ahead
    rw [this]; simp
theorem Looser.step {l l' : List S32} (h : Looser l l') {m i : Nat} {q q' : Qs} (hi : i < l.length) (hs : Ju.step l m q i = some q') : Ju.step l' m q i = some q' := by
  have hm := step_may hs
  unfold Ju.step at hs ⊢
  rw [if_pos hm] at hs
  rw [if_pos (h.may hi hm), h.kind i hi]
  by_cases hc : (callQ q (sp l i).f0).2.2.2 = true ∧ ¬ (ended (sp l i) = true ∧ ((callQ q (sp l i).f0).1 ≠ (sp l i).f3 ∨ (callQ q (sp l i).f0).2.1 ≠ (sp l i).f4))
  · rw [if_pos hc] at hs
    have hgood : (callQ q (sp l i).f0).2.2.2 = true ∧ ¬ (ended (sp l' i) = true ∧ ((callQ q (sp l i).f0).1 ≠ (sp l' i).f3 ∨ (callQ q (sp l i).f0).2.1 ≠ (sp l' i).f4)) := ⟨hc.1, fun hbad => hc.2 (by
      obtain ⟨h1, h2, h3⟩ := h.code i hi hbad.1
      rw [h2, h3] at hbad
      exact ⟨h1, hbad.2⟩)⟩
    rw [if_pos hgood]; exact hs
  · rw [if_neg hc] at hs; cases hs
theorem Looser.over {l l' : List S32} (h : Looser l l') {m : Nat} (ho : Ju.over l m = true) : Ju.over l' m = true := by
  refine over_true fun k hk => ?_
  cases he : ended (sp l' k)
  · rfl
  · by_cases hk2 : k < l.length
    · rw [over_all ho k hk2 (h.code k hk2 he).1]; rfl
    · rw [h.new k (by omega) hk] at he; cases he
theorem Looser.sched {l l' : List S32} (h : Looser l l') : ∀ (r : List Nat) (m : Nat) (q : Qs), Sched l m q r → Sched l' m q r
  | [], m, q, hr => h.over hr
  | i :: r, m, q, ⟨hi, q', hs, hr⟩ => ⟨by have := h.len; omega, q', h.step hi hs, h.sched r _ _ hr⟩
/-- A history of the form. -/
def FormOk (l : List S32) : Prop := l.length ≤ 14 ∧ ∀ i, i < l.length → badSpan (sp l i) = false
theorem judge_form {l : List S32} {o : List Int} (h : judgeF l = (o, true, 0)) : FormOk l := by
  unfold judgeF at h
  by_cases h1 : 14 < l.length
  · rw [if_pos h1] at h; cases h
  · rw [if_neg h1] at h
    by_cases h2 : l.any badSpan = true
    · rw [if_pos h2] at h; cases h
    · refine ⟨by omega, fun i hi => ?_⟩
      cases hb : badSpan (sp l i)
      · rfl
      · exact absurd (any_true hi hb) h2
theorem judge_sched {l : List S32} (hf : FormOk l) {r : List Nat} (h : Sched l 0 q0 r) : ∃ o, judgeF l = (o, true, 0) := by
  obtain ⟨o, hc⟩ := sched_C l r 0 q0 h
  refine ⟨o, ?_⟩
  unfold judgeF
  rw [if_neg (by have := hf.1; omega), if_neg (by rw [any_false hf.2]; simp), hc]
theorem looser_judge {l l' : List S32} {o : List Int} (h : judgeF l = (o, true, 0)) (hL : Looser l l') (hf : FormOk l') : ∃ o', judgeF l' = (o', true, 0) := by
  obtain ⟨r, hr⟩ := path_sched l o 0 q0 (judge_path h)
  exact judge_sched hf (hL.sched r 0 q0 hr)
theorem span_form {x : S32} (h : badSpan x = false) : (1 ≤ x.f0 ∧ x.f0 ≤ 4) ∧ 0 ≤ x.f1 ∧ (x.f2 < x.f1 → x.f2 = -1) := by
  unfold badSpan kindB at h
  simp only [Bool.or_eq_false_iff, Bool.not_eq_false', decide_eq_true_eq, decide_eq_false_iff_not, Bool.and_eq_false_imp] at h
  obtain ⟨h1, h2, h3⟩ := h
  refine ⟨h1, by omega, fun hlt => ?_⟩
  have := h3 hlt
  unfold ended at this
  simpa using this
theorem form_span {x : S32} (h : (1 ≤ x.f0 ∧ x.f0 ≤ 4) ∧ 0 ≤ x.f1 ∧ (x.f2 < x.f1 → x.f2 = -1)) : badSpan x = false := by
  unfold badSpan kindB
  rw [decide_eq_true h.1, decide_eq_false (show ¬ x.f1 < 0 by omega)]
  by_cases hlt : x.f2 < x.f1
  · have : ended x = false := by unfold ended; rw [h.2.2 hlt]; rfl
    rw [this]; simp
  · rw [decide_eq_false hlt]; rfl
theorem sp_set {l : List S32} {k : Nat} {y : S32} {i : Nat} (hk : k < l.length) : sp (l.set k y) i = if i = k then y else sp l i := by
  unfold sp rd_T32
  rw [Int.toNat_natCast, List.getD_eq_getElem?_getD, List.getD_eq_getElem?_getD, List.getElem?_set]
  by_cases e : k = i
  · subst e; rw [if_pos rfl, if_pos hk, if_pos rfl]; rfl
  · rw [if_neg e, if_neg (fun h => e h.symm)]
theorem ended_iff (x : S32) : ended x = true ↔ x.f2 ≠ -1 := by unfold ended; rw [bne_iff_ne]
theorem ahead_iff (a b : S32) : ahead a b = true ↔ a.f2 ≠ -1 ∧ a.f2 < b.f1 := by unfold ahead; rw [Bool.and_eq_true, ended_iff, decide_eq_true_eq]
/-- One call told otherwise. -/
theorem set_looser {l : List S32} {k : Nat} (hk : k < l.length) {y : S32} (h0 : y.f0 = (sp l k).f0) (h3 : y.f3 = (sp l k).f3) (h4 : y.f4 = (sp l k).f4) (h1 : y.f1 ≤ (sp l k).f1) (h2 : y.f2 ≠ -1 → (sp l k).f2 ≠ -1 ∧ (sp l k).f2 ≤ y.f2) : Looser l (l.set k y) := by
  refine ⟨by simp, fun i hi => ?_, fun i hi he => ?_, fun a b ha hb hh => ?_, fun a ha hb => by simp at hb; omega⟩
  · rw [sp_set hk]; split
    · rename_i e; subst e; exact h0
    · rfl
  · rw [sp_set hk] at he ⊢
    split at he
    · rename_i e; subst e
      rw [if_pos rfl]
      rw [ended_iff] at he ⊢
      exact ⟨(h2 he).1, h3, h4⟩
    · rename_i e
      rw [if_neg e]
      exact ⟨he, rfl, rfl⟩
  · rw [ahead_iff, sp_set hk, sp_set hk] at hh
    rw [ahead_iff]
    by_cases ea : a = k
    · subst ea
      rw [if_pos rfl] at hh
      have := h2 hh.1
      by_cases eb : b = a
      · subst eb; rw [if_pos rfl] at hh; exact ⟨this.1, by omega⟩
      · rw [if_neg eb] at hh; exact ⟨this.1, by omega⟩
    · rw [if_neg ea] at hh
      by_cases eb : b = k
      · subst eb; rw [if_pos rfl] at hh; exact ⟨hh.1, by omega⟩
      · rw [if_neg eb] at hh; exact hh
theorem set_form {l : List S32} (hf : FormOk l) {k : Nat} (hk : k < l.length) {y : S32} (hy : badSpan y = false) : FormOk (l.set k y) := by
  refine ⟨by simpa using hf.1, fun i hi => ?_⟩
  rw [sp_set hk]
  split
  · exact hy
  · exact hf.2 i (by simpa using hi)
theorem snoc_looser {l : List S32} {y : S32} (hy : ended y = false) : Looser l (l ++ [y]) := by
  refine ⟨by simp, fun i hi => by rw [sp_left hi], fun i hi he => by rw [sp_left hi] at he ⊢; exact ⟨he, rfl, rfl⟩, fun a b ha hb hh => by rw [sp_left ha, sp_left hb] at hh; exact hh, fun a ha hb => ?_⟩
  have : a = l.length := by simp at hb; omega
  subst this
  rw [sp_right]; exact hy
theorem snoc_form {l : List S32} (hf : FormOk l) (h13 : l.length ≤ 13) {y : S32} (hy : badSpan y = false) : FormOk (l ++ [y]) := by
  refine ⟨by simp; omega, fun i hi => ?_⟩
  by_cases e : i < l.length
  · rw [sp_left e]; exact hf.2 i e
  · have : i = l.length := by simp at hi; omega
    subst this; rw [sp_right]; exact hy
/-- The four looser histories of the law. -/
def lowF (x by_ : Int) : Int := if x - by_ < 0 then 0 else x - by_
theorem loose_a {l : List S32} {o : List Int} (h : judgeF l = (o, true, 0)) {k : Nat} (hk : k < l.length) {by_ : Int} (hb : 0 ≤ by_) : ∃ o', judgeF (l.set k { sp l k with f1 := lowF (sp l k).f1 by_ }) = (o', true, 0) := by
  have hf := judge_form h
  have hs := span_form (hf.2 k hk)
  refine looser_judge h (set_looser hk rfl rfl rfl ?_ (fun he => ⟨he, Int.le_refl _⟩)) (set_form hf hk (form_span ⟨hs.1, ?_, ?_⟩))
  · show lowF _ _ ≤ _; unfold lowF; split <;> omega
  · show 0 ≤ lowF _ _; unfold lowF; split <;> omega
  · intro hlt
    apply hs.2.2
    have : lowF (sp l k).f1 by_ ≤ (sp l k).f1 := by unfold lowF; split <;> omega
    have hlt' : (sp l k).f2 < lowF (sp l k).f1 by_ := hlt
    omega
theorem loose_b {l : List S32} {o : List Int} (h : judgeF l = (o, true, 0)) {k : Nat} (hk : k < l.length) {by_ : Int} (hb : 0 ≤ by_) : (sp l k).f2 ≠ -1 → ∃ o', judgeF (l.set k { sp l k with f2 := (sp l k).f2 + by_ }) = (o', true, 0) := by
  intro hne
  have hf := judge_form h
  have hs := span_form (hf.2 k hk)
  have hge : (sp l k).f1 ≤ (sp l k).f2 := by
    rcases Int.lt_or_le (sp l k).f2 (sp l k).f1 with h1 | h1
    · exact absurd (hs.2.2 h1) hne
    · exact h1
  refine looser_judge h (set_looser hk rfl rfl rfl (Int.le_refl _) (fun he => ⟨hne, ?_⟩)) (set_form hf hk (form_span ⟨hs.1, hs.2.1, ?_⟩))
  · show _ ≤ (sp l k).f2 + by_; omega
  · intro hlt
    have hlt' : (sp l k).f2 + by_ < (sp l k).f1 := hlt
    omega
theorem loose_c {l : List S32} {o : List Int} (h : judgeF l = (o, true, 0)) {k : Nat} (hk : k < l.length) : ∃ o', judgeF (l.set k { sp l k with f2 := -1 }) = (o', true, 0) := by
  have hf := judge_form h
  have hs := span_form (hf.2 k hk)
  exact looser_judge h (set_looser hk rfl rfl rfl (Int.le_refl _) (fun he => absurd rfl he)) (set_form hf hk (form_span ⟨hs.1, hs.2.1, fun _ => rfl⟩))
theorem loose_d {l : List S32} {o : List Int} (h : judgeF l = (o, true, 0)) (h13 : l.length ≤ 13) {y : S32} (h0 : 1 ≤ y.f0 ∧ y.f0 ≤ 4) (h1 : 0 ≤ y.f1) (h2 : y.f2 = -1) : ∃ o', judgeF (l ++ [y]) = (o', true, 0) :=
  looser_judge h (snoc_looser (by unfold ended; rw [h2]; rfl)) (snoc_form (judge_form h) h13 (form_span ⟨h0, h1, fun _ => h2⟩))
end Go.Proofs.Ytbjoinocajobhaa.Ju
