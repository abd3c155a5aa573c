/- What Judge tells is an order that the queue answers just so (plain). -/
import Derived.Test.YtbjoinocajobhaaPlZAuditTakes
import Derived.Test.YtbjoinocajobhaaJucZAuditTakes
namespace Go.Proofs.Ytbjoinocajobhaa.Ju
set_option linter.unusedVariables false
set_option linter.unusedSimpArgs false
open Go.RowKit Go.Proofs.Ytbjoinocajobhaa.Q Go.Proofs.YtbjoinocajobhaaW.PrintWords Go.Proofs.YtbjoinocajobhaaW.PrintLast
def Path (l : List S32) : Nat → Qs → List Int → Prop
  | m, _, [] => over l m = true
  | m, q, x :: r => ∃ i q', x = ((i : Nat) : Int) ∧ i < l.length ∧ over l m = false ∧ step l m q i = some q' ∧ Path l (m ||| 2 ^ i) q' r
theorem C_path (l : List S32) : ∀ (n m : Nat) (q : Qs) (o : List Int), free m l.length = n → C l m q = some o → Path l m q o := by
  intro n
  induction n with
  | zero =>
    intro m q o hn h
    rw [C_over q (over_of_free hn)] at h
    obtain rfl := Option.some.inj h
    exact over_of_free hn
  | succ n ih =>
    intro m q o hn h
    by_cases ho : over l m = true
    · rw [C_over q ho] at h
      obtain rfl := Option.some.inj h
      exact ho
    · have h2 : comp (free m l.length) l m q = some o := h
      rw [hn] at h2
      unfold comp at h2
      rw [if_neg ho] at h2
      obtain ⟨i, hi, hb⟩ := List.exists_of_findSome?_eq_some h2
      have hi' := List.mem_range.1 hi
      rw [comp_branch hn hi'] at hb
      unfold branch at hb
      obtain ⟨q', hs, hr⟩ := Option.bind_eq_some_iff.1 hb
      obtain ⟨r, hc, rfl⟩ := Option.map_eq_some_iff.1 hr
      have hf := free_set (may_bit (step_may hs)) (n := l.length) hi'
      exact ⟨i, q', rfl, hi', by simpa using ho, hs, ih _ _ _ (by omega) hc⟩
structure StepF (l : List S32) (m : Nat) (q q' : Qs) (i : Nat) (code num : Int) : Prop where
  bit : m.testBit i = false
  may : ∀ k, k < l.length → m.testBit k = false → ended (sp l k) = true → ¬ (sp l k).f2 < (sp l i).f1
  call : callQ q (sp l i).f0 = (code, num, q', true)
  kind : 1 ≤ (sp l i).f0 ∧ (sp l i).f0 ≤ 4
  code_ : ended (sp l i) = true → code = (sp l i).f3
  num_ : ended (sp l i) = true → num = (sp l i).f4
theorem callQ_kind {q : Qs} {k : Int} (h : (callQ q k).2.2.2 = true) : 1 ≤ k ∧ k ≤ 4 := by
  unfold callQ at h
  by_cases e1 : k = 1
  · omega
  · by_cases e2 : k = 2
    · omega
    · by_cases e3 : k = 3
      · omega
      · by_cases e4 : k = 4
        · omega
        · rw [if_neg e1, if_neg e2, if_neg e3, if_neg e4] at h; cases h
theorem step_facts {l : List S32} {m i : Nat} {q q' : Qs} (h : step l m q i = some q') : ∃ code num, StepF l m q q' i code num := by
  have hm := step_may h
  unfold step at h
  rw [if_pos hm] at h
  by_cases hc : (callQ q (sp l i).f0).2.2.2 = true ∧ ¬ (ended (sp l i) = true ∧ ((callQ q (sp l i).f0).1 ≠ (sp l i).f3 ∨ (callQ q (sp l i).f0).2.1 ≠ (sp l i).f4))
  · rw [if_pos hc] at h
    obtain rfl := Option.some.inj h
    refine ⟨(callQ q (sp l i).f0).1, (callQ q (sp l i).f0).2.1, may_bit hm, ?_, ?_, callQ_kind hc.1, ?_, ?_⟩
    · intro k hk hb he
      unfold Ju.may at hm
      rw [Bool.and_eq_true, List.all_eq_true] at hm
      have := hm.1 k (List.mem_range.2 hk)
      rw [hb] at this
      unfold ahead at this
      rw [he] at this
      simpa using this
    · rw [← hc.1]
    · intro he
      exact Classical.not_not.1 fun hne => hc.2 ⟨he, .inl hne⟩
    · intro he
      exact Classical.not_not.1 fun hne => hc.2 ⟨he, .inr hne⟩
  · rw [if_neg hc] at h; cases h
theorem over_all {l : List S32} {m : Nat} (h : over l m = true) : ∀ k, k < l.length → ended (sp l k) = true → m.testBit k = true := by
  intro k hk he
  unfold over at h
  rw [List.all_eq_true] at h
  have := h k (List.mem_range.2 hk)
  rw [he] at this
  simpa using this
theorem path_last (l : List S32) : ∀ (o : List Int) (m : Nat) (q : Qs), Path l m q o → ∀ x, o.getLast? = some x → ∃ i : Nat, x = (i : Int) ∧ i < l.length ∧ ended (sp l i) = true
  | [], _, _, _, x, hx => by simp at hx
  | [y], m, q, ⟨i, q', hy, hi, ho, hs, hp⟩, x, hx => by
    simp at hx
    subst hx
    refine ⟨i, hy, hi, ?_⟩
    have h1 : over l (m ||| 2 ^ i) = true := hp
    cases he : ended (sp l i)
    · exfalso
      have : over l m = true := over_true fun k hk => by
        cases hek : ended (sp l k)
        · rfl
        · have := over_all h1 k hk hek
          rw [testBit_set] at this
          by_cases hki : i = k
          · subst hki; rw [he] at hek; cases hek
          · rw [decide_eq_false hki, Bool.or_false] at this
            rw [this]; rfl
      rw [this] at ho; cases ho
    · rfl
  | y :: z :: r, m, q, ⟨i, q', hy, hi, ho, hs, hp⟩, x, hx => path_last l (z :: r) _ _ hp x (by simpa using hx)
theorem judge_path {l : List S32} {o : List Int} (h : judgeF l = (o, true, 0)) : Path l 0 q0 o := by
  unfold judgeF at h
  by_cases h1 : 14 < l.length
  · rw [if_pos h1] at h; cases h
  · rw [if_neg h1] at h
    by_cases h2 : l.any badSpan = true
    · rw [if_pos h2] at h; cases h
    · rw [if_neg h2] at h
      cases hc : C l 0 q0 with
      | none => rw [hc] at h; cases h
      | some o' =>
        rw [hc] at h
        have : o' = o := congrArg Prod.fst h
        subst this
        exact C_path l _ _ _ _ rfl hc
theorem judge_cases (l : List S32) : (∃ o, judgeF l = (o, true, 0)) ∨ ∃ e, judgeF l = ([], false, e) := by
  unfold judgeF
  split
  · exact .inr ⟨_, rfl⟩
  · split
    · exact .inr ⟨_, rfl⟩
    · cases C l 0 q0 with
      | some o => exact .inl ⟨o, rfl⟩
      | none => exact .inr ⟨_, rfl⟩
end Go.Proofs.Ytbjoinocajobhaa.Ju
