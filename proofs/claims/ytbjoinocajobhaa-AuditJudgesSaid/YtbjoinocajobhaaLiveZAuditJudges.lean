/- A book and the rows that a law holds beside it. -/
import Derived.Test.YtbjoinocajobhaaBkcZAuditJudges
namespace Go.Proofs.Ytbjoinocajobhaa.Keep
set_option linter.unusedVariables false
set_option linter.unusedSimpArgs false
open Go.RowKit Go.Proofs.Ytbjoinocajobhaa.Q Go.Proofs.YtbjoinocajobhaaW.PrintWords Go.Proofs.YtbjoinocajobhaaW.PrintLast

/-- A row: its elements' type and kind, the slice, what it holds; is it in no book? -/
structure Ent where
  e : TypeId
  k : IntKind
  v : Value
  xs : List Int
  fr : Bool
/-- No block of a book's own is of this type. -/
def El (e : TypeId) : Prop := e ≠ 38 ∧ e ≠ 94 ∧ e ≠ 23
/-- Rows made since w, as they stand in W. -/
structure Rows (w W : World) (l : List Ent) : Prop where
  bel : Below w.heap.size w W
  own : ∀ (i : Nat) p, l[i]? = some p → W.ownsRow w.heap.size p.e 1 p.v p.xs.length (nums p.k p.xs)
  el : ∀ (i : Nat) p, l[i]? = some p → El p.e
  apart : ∀ (i j : Nat) p q, i ≠ j → l[i]? = some p → l[j]? = some q → NeRow p.v q.v
structure Live (w W : World) (ok : Nat → Prop) (b : Nat) (l : List Ent) : Prop where
  rows : Rows w W l
  bk : Bk W w.heap.size ok b
  free : ∀ (i : Nat) p, l[i]? = some p → p.fr = true → ∀ j, p.v.ownBlock = some j → ¬ ok j
theorem Rows.start (w : World) : Rows w w [] := ⟨Below.refl _ _, fun i p h => by simp at h, fun i p h => by simp at h, fun i j p q _ h => by simp at h⟩
theorem Rows.below {w W w1 : World} {l : List Ent} (h : Rows w W l) (hb : Below W.heap.size W w1) : Rows w w1 l :=
  ⟨h.bel.trans (hb.mono h.bel.size), fun i p hp => own_move (h.own i p hp) fun k hk => hb.block k (own_lt (h.own i p hp) k hk), h.el, h.apart⟩
theorem Rows.cons {w W w1 : World} {l : List Ent} (h : Rows w W l) (hb : Below W.heap.size W w1) {e : TypeId} {k : IntKind} {v : Value} {xs : List Int} (ho : w1.ownsRow W.heap.size e 1 v xs.length (nums k xs)) (he : El e) : Rows w w1 (⟨e, k, v, xs, true⟩ :: l) := by
  have h' := h.below hb
  refine ⟨h'.bel, ?_, ?_, ?_⟩
  · intro i p hp
    cases i with
    | zero => injection hp with hp; subst hp; exact own_weaken ho h.bel.size
    | succ i => exact h'.own i p hp
  · intro i p hp
    cases i with
    | zero => injection hp with hp; subst hp; exact he
    | succ i => exact h'.el i p hp
  · intro i j p q hij hp hq
    cases i with
    | zero =>
      cases j with
      | zero => omega
      | succ j =>
        injection hp with hp; subst hp
        intro b hb1 hb2
        have := own_base ho b hb1
        have := own_lt (h.own j q hq) b hb2
        omega
    | succ i =>
      cases j with
      | zero =>
        injection hq with hq; subst hq
        intro b hb1 hb2
        have := own_base ho b hb2
        have := own_lt (h.own i p hp) b hb1
        omega
      | succ j => exact h'.apart i j p q (by omega) hp hq
theorem Rows.made {w W w1 : World} {l : List Ent} (h : Rows w W l) {e : TypeId} {k : IntKind} {v : Value} {xs : List Int} (hR : Kd.R (Kd.int k) e w1 W.heap.size (fun _ => True) v xs) (hb : Below W.heap.size W w1) (he : El e) :
    ∃ A c, v = .slice A xs.length c ∧ xs.length ≤ c ∧ Rows w w1 (⟨e, k, .slice A xs.length c, xs, true⟩ :: l) := by
  have ho := Kd.own_of_R hR
  obtain ⟨A, c, hs⟩ := own_slice ho
  subst hs
  exact ⟨A, c, rfl, own_le ho, h.cons hb ho he⟩
theorem Rows.C {w W : World} {l : List Ent} (h : Rows w W l) (i : Nat) {e : TypeId} {k : IntKind} {A : Option Addr} {c : Nat} {xs : List Int} {f : Bool} (hi : l[i]? = some ⟨e, k, .slice A xs.length c, xs, f⟩) : Kd.C (Kd.int k) W A xs.length xs := by
  obtain ⟨A', d', e', hr⟩ := own_reads (h.own i _ hi)
  injection e' with e1 e2 e3
  subst e1
  exact Kd.C_of_reads (readsInt_of.1 hr)
theorem Live.start (w : World) : Live w (w.alloc (.cells #[.slice none 0 0, .slice none 0 0, .slice none 0 0, .slice none 0 0, .slice none 0 0, .slice none 0 0] 38)) (fun j => j = w.heap.size) w.heap.size [] :=
  ⟨(Rows.start w).below ((Below.refl _ _).alloc (Nat.le_refl _) _), Bk.new w _ (Nat.le_refl _), fun i p h => by simp at h⟩
theorem Live.below {w W w1 : World} {ok : Nat → Prop} {b : Nat} {l : List Ent} (h : Live w W ok b l) (hb : Below W.heap.size W w1) : Live w w1 ok b l := ⟨h.rows.below hb, h.bk.below hb, h.free⟩
theorem Live.made {w W w1 : World} {ok : Nat → Prop} {b : Nat} {l : List Ent} (h : Live w W ok b l) {e : TypeId} {k : IntKind} {v : Value} {xs : List Int} (hR : Kd.R (Kd.int k) e w1 W.heap.size (fun _ => True) v xs) (hb : Below W.heap.size W w1) (he : El e) :
    ∃ A c, v = .slice A xs.length c ∧ xs.length ≤ c ∧ Live w w1 ok b (⟨e, k, .slice A xs.length c, xs, true⟩ :: l) := by
  obtain ⟨A, c, hv, hc, hr⟩ := h.rows.made hR hb he
  refine ⟨A, c, hv, hc, hr, h.bk.below hb, ?_⟩
  intro i p hp hf j hj
  cases i with
  | zero =>
    injection hp with hp; subst hp
    intro ho
    have h1 := Kd.own_of_R hR
    rw [hv] at h1
    have := own_base h1 j hj
    have := (h.bk.rng j ho).2
    omega
  | succ i => exact h.free i p hp hf j hj
theorem Live.drop {w W : World} {ok : Nat → Prop} {b : Nat} {l : List Ent} (h : Live w W ok b l) : Live w W ok b [] := ⟨⟨h.rows.bel, fun i p hp => by simp at hp, fun i p hp => by simp at hp, fun i j p q _ hp => by simp at hp⟩, h.bk, fun i p hp => by simp at hp⟩
theorem Live.closed {w W w1 : World} {ok : Nat → Prop} {b : Nat} {l : List Ent} (h : Live w W ok b l) (hc : Chg ok W w1) : Rows w w1 (l.filter (·.fr)) := by
  have key : ∀ (i : Nat) p, (l.filter (·.fr))[i]? = some p → p ∈ l ∧ p.fr = true := fun i p hp => List.mem_filter.1 (List.mem_of_getElem? hp)
  refine ⟨h.rows.bel.trans (hc.below h.rows.bel.size fun k hk => (h.bk.rng k hk).1), ?_, ?_, ?_⟩
  · intro i p hp
    obtain ⟨hm, hf⟩ := key i p hp
    obtain ⟨j, hj⟩ := List.getElem?_of_mem hm
    exact hc.own (h.rows.own j p hj) (h.free j p hj hf)
  · intro i p hp
    obtain ⟨hm, hf⟩ := key i p hp
    obtain ⟨j, hj⟩ := List.getElem?_of_mem hm
    exact h.rows.el j p hj
  · have hpw : l.Pairwise fun p q => NeRow p.v q.v := List.pairwise_iff_getElem.2 fun i j hi hj hij => h.rows.apart i j _ _ (by omega) (List.getElem?_eq_getElem hi) (List.getElem?_eq_getElem hj)
    have hpf := hpw.filter (·.fr)
    intro i j p q hij hp hq
    obtain ⟨hi, rfl⟩ := List.getElem?_eq_some_iff.1 hp
    obtain ⟨hj, rfl⟩ := List.getElem?_eq_some_iff.1 hq
    rcases Nat.lt_or_gt_of_ne hij with hlt | hlt
    · exact List.pairwise_iff_getElem.1 hpf i j hi hj hlt
    · exact ne_symm (List.pairwise_iff_getElem.1 hpf j i hj hi hlt)
/-- One answer more is in the book. -/
theorem Live.kept {w W w1 : World} {ok : Nat → Prop} {b : Nat} {l : List Ent} {TS e : TypeId} {k : IntKind} {v : Value} {xs : List Int} {i : Nat} (h : Live w W ok b l) (hi : l[i]? = some ⟨e, k, v, xs, true⟩)
    (hT : TS = 94 ∨ TS = 23) (hc : Chg (fun j => ok j ∧ (Ty W 38 j ∨ Ty W TS j)) W w1)
    (hb : Bk w1 w.heap.size (fun j => ok j ∨ v.ownBlock = some j ∨ (W.heap.size ≤ j ∧ j < w1.heap.size)) b) :
    Live w w1 (fun j => ok j ∨ v.ownBlock = some j ∨ (W.heap.size ≤ j ∧ j < w1.heap.size)) b (l.set i ⟨e, k, v, xs, false⟩) := by
  have hil := (List.getElem?_eq_some_iff.1 hi).1
  have key : ∀ (r : Nat) p, (l.set i ⟨e, k, v, xs, false⟩)[r]? = some p → ∃ q, l[r]? = some q ∧ q.e = p.e ∧ q.k = p.k ∧ q.v = p.v ∧ q.xs = p.xs ∧ (p.fr = true → r ≠ i ∧ q.fr = true) := by
    intro r p hp
    rw [List.getElem?_set] at hp
    by_cases hr : i = r
    · subst hr
      rw [if_pos rfl, if_pos hil] at hp
      injection hp with hp
      subst hp
      exact ⟨_, hi, rfl, rfl, rfl, rfl, fun hf => by cases hf⟩
    · rw [if_neg hr] at hp
      exact ⟨p, hp, rfl, rfl, rfl, rfl, fun hf => ⟨fun q => hr q.symm, hf⟩⟩
  have hno : ∀ (r : Nat) q, l[r]? = some q → ∀ j, q.v.ownBlock = some j → ¬ (ok j ∧ (Ty W 38 j ∨ Ty W TS j)) := by
    intro r q hq j hj ho
    have ht := own_typed (h.rows.own r q hq) j hj
    obtain ⟨e1, e2, e3⟩ := h.rows.el r q hq
    rcases ho.2 with ho | ho
    · exact Ty.ne ht ho e1
    · rcases hT with rfl | rfl
      · exact Ty.ne ht ho e2
      · exact Ty.ne ht ho e3
  refine ⟨⟨h.rows.bel.trans (hc.below h.rows.bel.size fun k hk => (h.bk.rng k hk.1).1), ?_, ?_, ?_⟩, hb, ?_⟩
  · intro r p hp
    obtain ⟨q, hq, e1, e2, e3, e4, -⟩ := key r p hp
    have := hc.own (h.rows.own r q hq) (hno r q hq)
    rwa [e1, e2, e3, e4] at this
  · intro r p hp
    obtain ⟨q, hq, e1, -⟩ := key r p hp
    rw [← e1]; exact h.rows.el r q hq
  · intro r s p q hrs hp hq
    obtain ⟨p', hp', -, -, e3, -⟩ := key r p hp
    obtain ⟨q', hq', -, -, f3, -⟩ := key s q hq
    rw [← e3, ← f3]; exact h.rows.apart r s p' q' hrs hp' hq'
  · intro r p hp hf j hj
    obtain ⟨q, hq, -, -, e3, -, hfr⟩ := key r p hp
    obtain ⟨hne, hqf⟩ := hfr hf
    rw [← e3] at hj
    rintro (ho | ho | ho)
    · exact h.free r q hq hqf j hj ho
    · exact h.rows.apart i r _ q (fun z => hne z.symm) hi hq j ho hj
    · have := own_lt (h.rows.own r q hq) j hj
      omega
theorem Live.close_calls {w W : World} {ok : Nat → Prop} {b : Nat} {l : List Ent} (h : Live w W ok b l) :
    Calls Try.prog 16 #[.pointer (some ⟨b, 0, none⟩)] W fun e w' => e = .returned (.bool true) ∧ Rows w w' (l.filter (·.fr)) :=
  (Keep.close_calls h.bk h.rows.bel.size).mono fun _ _ ⟨he, hc⟩ => ⟨he, h.closed hc⟩
end Go.Proofs.Ytbjoinocajobhaa.Keep
