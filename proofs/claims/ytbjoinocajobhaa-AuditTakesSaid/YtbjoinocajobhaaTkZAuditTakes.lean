/- AuditTakes, plainly: what a plain queue has answered is taken, in any order of the list. -/
import Derived.Test.YtbjoinocajobhaaLoZAuditTakes
namespace Go.Proofs.Ytbjoinocajobhaa.Ju
set_option linter.unusedVariables false
set_option linter.unusedSimpArgs false
open Go.RowKit Go.Proofs.Ytbjoinocajobhaa.Q Go.Proofs.YtbjoinocajobhaaW.PrintWords Go.Proofs.YtbjoinocajobhaaW.PrintLast
structure SpOk (x : S32) (i : Nat) (q q' : Qs) : Prop where
  kind : 1 ≤ x.f0 ∧ x.f0 ≤ 4
  call : callQ q x.f0 = (x.f3, x.f4, q', true)
  lo : 0 ≤ x.f1 ∧ x.f1 ≤ 100000 + 1000 * (i : Int)
  hi : x.f2 = -1 ∨ 100000 + 1000 * (i : Int) ≤ x.f2
/-- Spans that a plain queue has answered, one behind the other. -/
def Dn (ss : List S32) (q : Qs) : Prop := ∃ qs : Nat → Qs, qs 0 = q0 ∧ qs ss.length = q ∧ ∀ i, i < ss.length → SpOk (sp ss i) i (qs i) (qs (i + 1))
theorem Dn.nil : Dn [] q0 := ⟨fun _ => q0, rfl, rfl, fun i hi => by simp at hi⟩
theorem sp_lt {ss : List S32} {x : S32} {i : Nat} (h : i < ss.length) : sp (ss ++ [x]) i = sp ss i := by
  unfold sp rd_T32
  rw [Int.toNat_natCast, List.getD_eq_getElem?_getD, List.getD_eq_getElem?_getD, List.getElem?_append_left h]
theorem sp_end {ss : List S32} {x : S32} : sp (ss ++ [x]) ss.length = x := by
  unfold sp rd_T32
  rw [Int.toNat_natCast, List.getD_eq_getElem?_getD, List.getElem?_append_right (Nat.le_refl _)]
  simp
theorem Dn.more {ss : List S32} {q q' : Qs} {x : S32} (h : Dn ss q) (hx : SpOk x ss.length q q') : Dn (ss ++ [x]) q' := by
  obtain ⟨qs, h0, h1, h2⟩ := h
  refine ⟨fun i => if i ≤ ss.length then qs i else q', by simp [h0], by simp; intro h; omega, fun i hi => ?_⟩
  simp only [List.length_append, List.length_singleton] at hi
  by_cases e : i = ss.length
  · subst e
    rw [sp_end]
    dsimp only
    rw [if_pos (Nat.le_refl _), if_neg (by omega), h1]; exact hx
  · rw [sp_lt (by omega)]
    dsimp only
    rw [if_pos (by omega), if_pos (by omega)]
    exact h2 i (by omega)
def posl (pos : Nat → Nat) (j : Nat) : Nat → List Nat
  | 0 => []
  | d + 1 => pos j :: posl pos (j + 1) d
theorem perm_sched {ss t : List S32} {qs : Nat → Qs} (hd : ∀ i, i < ss.length → SpOk (sp ss i) i (qs i) (qs (i + 1))) (pos : Nat → Nat) (hl : t.length = ss.length) (hp : ∀ j, j < ss.length → pos j < t.length ∧ sp t (pos j) = sp ss j)
    (hi : ∀ i j, i < ss.length → j < ss.length → pos i = pos j → i = j) (ho : ∀ k, k < t.length → ∃ j, j < ss.length ∧ pos j = k) :
    ∀ d j m, j + d = ss.length → (∀ k, k < t.length → (m.testBit k = true ↔ ∃ i, i < j ∧ pos i = k)) → Sched t m (qs j) (posl pos j d)
  | 0, j, m, hj, hm => by
    show over t m = true
    unfold over
    rw [List.all_eq_true]
    intro k hk
    have hk := List.mem_range.1 hk
    obtain ⟨j', hj', e⟩ := ho k hk
    rw [(hm k hk).2 ⟨j', by omega, e⟩]; simp
  | d + 1, j, m, hj, hm => by
    have hjl : j < ss.length := by omega
    obtain ⟨h1, h2⟩ := hp j hjl
    have hS := hd j hjl
    refine ⟨h1, qs (j + 1), ?_, ?_⟩
    · have hmay : may t m (pos j) = true := by
        unfold may
        rw [Bool.and_eq_true, List.all_eq_true]
        refine ⟨fun k hk => ?_, ?_⟩
        · have hk := List.mem_range.1 hk
          cases hb : m.testBit k with
          | true => rfl
          | false =>
            obtain ⟨j', hj', e⟩ := ho k hk
            have hjj : j ≤ j' := by
              rcases Nat.lt_or_ge j' j with q | q
              · rw [(hm k hk).2 ⟨j', q, e⟩] at hb; cases hb
              · exact q
            have hS' := hd j' hj'
            have hn : ahead (sp t k) (sp t (pos j)) = false := by
              rw [← e, (hp j' hj').2, h2]
              cases hA : ahead (sp ss j') (sp ss j) with
              | false => rfl
              | true =>
                obtain ⟨a1, a2⟩ := (ahead_iff _ _).1 hA
                have := hS.lo
                rcases hS'.hi with q | q
                · exact absurd q a1
                · omega
            rw [hn]; rfl
        · cases hb : m.testBit (pos j) with
          | false => rfl
          | true =>
            obtain ⟨i, hij, e⟩ := (hm _ h1).1 hb
            have := hi i j (by omega) hjl e
            omega
      unfold step
      rw [if_pos hmay, h2, hS.call]
      simp
    · refine perm_sched hd pos hl hp hi ho d (j + 1) (m ||| 2 ^ pos j) (by omega) fun k hk => ?_
      rw [testBit_set, Bool.or_eq_true, hm k hk, decide_eq_true_eq]
      constructor
      · rintro (⟨i, hij, e⟩ | e)
        · exact ⟨i, by omega, e⟩
        · exact ⟨j, by omega, e⟩
      · rintro ⟨i, hij, e⟩
        by_cases q : i = j
        · subst q; exact .inr e
        · exact .inl ⟨i, by omega, e⟩
theorem perm_judge {ss t : List S32} {q : Qs} (h : Dn ss q) (h14 : ss.length ≤ 14) (pos : Nat → Nat) (hl : t.length = ss.length) (hp : ∀ j, j < ss.length → pos j < t.length ∧ sp t (pos j) = sp ss j)
    (hi : ∀ i j, i < ss.length → j < ss.length → pos i = pos j → i = j) (ho : ∀ k, k < t.length → ∃ j, j < ss.length ∧ pos j = k) : ∃ o, judgeF t = (o, true, 0) := by
  obtain ⟨qs, h0, h1, h2⟩ := h
  have hf : FormOk t := ⟨by omega, fun k hk => by
    obtain ⟨j, hj, e⟩ := ho k hk
    rw [← e, (hp j hj).2]
    have S := h2 j hj
    exact form_span ⟨S.kind, S.lo.1, fun q => by have := S.lo; rcases S.hi with r | r <;> omega⟩⟩
  refine judge_sched hf (r := posl pos 0 ss.length) ?_
  rw [← h0]
  exact perm_sched h2 pos hl hp hi ho ss.length 0 0 (by omega) (fun k hk => by simp)
theorem self_judge {ss : List S32} {q : Qs} (h : Dn ss q) (h14 : ss.length ≤ 14) : ∃ o, judgeF ss = (o, true, 0) :=
  perm_judge h h14 id rfl (fun j hj => ⟨hj, rfl⟩) (fun i j _ _ e => e) (fun k hk => ⟨k, hk, rfl⟩)
theorem rot_judge {ss : List S32} {q : Qs} (h : Dn ss q) (h14 : ss.length ≤ 14) {n : Nat} (hn : n ≤ ss.length) : ∃ o, judgeF (ss.drop n ++ ss.take n) = (o, true, 0) := by
  refine perm_judge h h14 (fun j => if n ≤ j then j - n else j + (ss.length - n)) (by rw [List.length_append, List.length_drop, List.length_take]; omega) (fun j hj => ?_) (fun i j hi hj e => ?_) (fun k hk => ?_)
  · have hlen : (ss.drop n ++ ss.take n).length = ss.length := by rw [List.length_append, List.length_drop, List.length_take]; omega
    by_cases q : n ≤ j
    · rw [if_pos q]
      refine ⟨by omega, ?_⟩
      unfold sp rd_T32
      rw [Int.toNat_natCast, Int.toNat_natCast, List.getD_eq_getElem?_getD, List.getD_eq_getElem?_getD, List.getElem?_append_left (by rw [List.length_drop]; omega), List.getElem?_drop]
      rw [show n + (j - n) = j by omega]
    · rw [if_neg q]
      refine ⟨by omega, ?_⟩
      unfold sp rd_T32
      rw [Int.toNat_natCast, Int.toNat_natCast, List.getD_eq_getElem?_getD, List.getD_eq_getElem?_getD, List.getElem?_append_right (by rw [List.length_drop]; omega), List.length_drop, show j + (ss.length - n) - (ss.length - n) = j by omega, List.getElem?_take, if_pos (by omega)]
  · split at e <;> split at e <;> omega
  · rw [List.length_append, List.length_drop, List.length_take] at hk
    by_cases q : k < ss.length - n
    · exact ⟨k + n, by omega, by rw [if_pos (by omega)]; omega⟩
    · exact ⟨k - (ss.length - n), by omega, by rw [if_neg (by omega)]; omega⟩
end Go.Proofs.Ytbjoinocajobhaa.Ju
