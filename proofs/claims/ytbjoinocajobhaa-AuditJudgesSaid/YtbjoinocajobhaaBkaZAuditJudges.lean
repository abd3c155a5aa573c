/- One answer more in a book: what its rows are then. -/
import Derived.Test.YtbjoinocajobhaaBkcZAuditJudges
namespace Go.Proofs.Ytbjoinocajobhaa.Keep
set_option linter.unusedVariables false
set_option linter.unusedSimpArgs false
open Go.RowKit Go.Proofs.Ytbjoinocajobhaa.Q Go.Proofs.YtbjoinocajobhaaW.PrintWords Go.Proofs.YtbjoinocajobhaaW.PrintLast

theorem Two.moveT {w w' : World} {base : Nat} {ok ok' : Nat → Prop} {TS e : TypeId} {k : IntKind} {v0 v1 : Value} {L S : List (Value × List Int)} (h : Two w base ok TS e k v0 v1 L S)
    (hm : ∀ j, ok j → Ty w TS j ∨ Ty w e j → w'.heap[j]? = w.heap[j]?) (ho : ∀ j, ok j → ok' j) : Two w' base ok' TS e k v0 v1 L S :=
  ⟨own_move h.r0 fun j hj => hm j (h.o0 j hj) (.inl (own_typed h.r0 j hj)), own_move h.r1 fun j hj => hm j (h.o1 j hj) (.inl (own_typed h.r1 j hj)), h.same,
    h.f0.move fun p hp j hj => hm j (h.oL p hp j hj) (.inr (h.f0.ty hp hj)), h.f1.move fun p hp j hj => hm j (h.oS p hp j hj) (.inr (h.f1.ty hp hj)), h.ne, h.nls,
    fun j hj => ho j (h.o0 j hj), fun j hj => ho j (h.o1 j hj), fun p hp j hj => ho j (h.oL p hp j hj), fun p hp j hj => ho j (h.oS p hp j hj), h.sz, h.len⟩
theorem grown_size {w w1 : World} {r : Option Nat} (h : w.grownBy w1 r) : w.heap.size ≤ w1.heap.size := h.size
/-- What has happened in one answer's keeping. -/
structure Went (w w1 w2 w3 : World) (base b i0 i1 : Nat) (TS e : TypeId) (k : IntKind) (v0 v1 z1 z3 v tv : Value) (xs : List Int) (L S : List (Value × List Int)) : Prop where
  o1 : w1.ownsRow base TS 1 z1 (L.length + 1) (L.map (·.1) ++ [v])
  g1 : w.grownBy w1 v0.ownBlock
  a1 : z1.ownBlock = v0.ownBlock ∨ ∃ q, z1.ownBlock = some q ∧ w.heap.size ≤ q
  b2 : Below w1.heap.size (w1.setCell ⟨b, i0, none⟩ z1) w2
  t2 : w2.ownsRow w1.heap.size e 1 tv xs.length (nums k xs)
  o3 : w3.ownsRow base TS 1 z3 (S.length + 1) (S.map (·.1) ++ [tv])
  g3 : w2.grownBy w3 v1.ownBlock
  a3 : z3.ownBlock = v1.ownBlock ∨ ∃ q, z3.ownBlock = some q ∧ w2.heap.size ≤ q
theorem Went.two {w w1 w2 w3 : World} {base b i0 i1 : Nat} {TS e B : TypeId} {k : IntKind} {v0 v1 z1 z3 v tv : Value} {xs : List Int} {L S : List (Value × List Int)} {ok : Nat → Prop}
    (h : Went w w1 w2 w3 base b i0 i1 TS e k v0 v1 z1 z3 v tv xs L S) (t : Two w base ok TS e k v0 v1 L S) {cs : Array Value} (hb : w.heap[b]? = some (.cells cs B (0, 0))) (nB : TS ≠ B) (nB' : e ≠ B) (nTe : e ≠ TS)
    (okb : ok b) (hv : w.ownsRow base e 1 v xs.length (nums k xs)) (hno : ∀ j, v.ownBlock = some j → ¬ ok j) (hsz : xs.length ≤ 10000000000000) (hlen : L.length < 400) (hbase : base ≤ w.heap.size) :
    (∀ j, j < w.heap.size → j ≠ b → some j ≠ v0.ownBlock → some j ≠ v1.ownBlock → (w3.setCell ⟨b, i1, none⟩ z3).heap[j]? = w.heap[j]?) ∧
    Chg (fun j => ok j ∧ (Ty w B j ∨ Ty w TS j)) w (w3.setCell ⟨b, i1, none⟩ z3) ∧ (w3.setCell ⟨b, i1, none⟩ z3).heap[b]? = some (.cells ((cs.setIfInBounds i0 z1).setIfInBounds i1 z3) B (0, 0)) ∧
    Two (w3.setCell ⟨b, i1, none⟩ z3) base (fun j => ok j ∨ v.ownBlock = some j ∨ (w.heap.size ≤ j ∧ j < (w3.setCell ⟨b, i1, none⟩ z3).heap.size)) TS e k z1 z3 (L ++ [(v, xs)]) (S ++ [(tv, xs)]) := by
  have tb : Ty w B b := ⟨_, hb⟩
  have hbw := blk_lt hb
  have s1 : w.heap.size ≤ w1.heap.size := grown_size h.g1
  have s2 : w1.heap.size ≤ w2.heap.size := by have := h.b2.size; simpa using this
  have s3 : w2.heap.size ≤ w3.heap.size := grown_size h.g3
  have s4 : (w3.setCell ⟨b, i1, none⟩ z3).heap.size = w3.heap.size := by simp
  have n0 : some b ≠ v0.ownBlock := fun q => Ty.ne (own_typed t.r0 b q.symm) tb nB
  have n1 : some b ≠ v1.ownBlock := fun q => Ty.ne (own_typed t.r1 b q.symm) tb nB
  have l0 : ∀ j, v0.ownBlock = some j → j < w.heap.size := own_lt t.r0
  have l1 : ∀ j, v1.ownBlock = some j → j < w.heap.size := own_lt t.r1
  have nz1 : ∀ j, z1.ownBlock = some j → j ≠ b := by
    intro j hj q
    rcases h.a1 with a | ⟨p, a, a'⟩
    · exact n0 (by rw [← a, hj, q])
    · rw [hj] at a; injection a with a; omega
  have nz3 : ∀ j, z3.ownBlock = some j → j ≠ b := by
    intro j hj q
    rcases h.a3 with a | ⟨p, a, a'⟩
    · exact n1 (by rw [← a, hj, q])
    · rw [hj] at a; injection a with a; omega
  have blk1 := blk_grown hb h.g1 n0
  have blk1' : (w1.setCell ⟨b, i0, none⟩ z1).heap[b]? = _ := blk_set blk1 i0 z1
  have blk2 : w2.heap[b]? = _ := (h.b2.block b (by omega)).trans blk1'
  have blk3 := blk_grown blk2 h.g3 n1
  have blk4 : (w3.setCell ⟨b, i1, none⟩ z3).heap[b]? = _ := blk_set blk3 i1 z3
  -- from w1 on
  have on1 : ∀ j, j < w1.heap.size → j ≠ b → some j ≠ v1.ownBlock → (w3.setCell ⟨b, i1, none⟩ z3).heap[j]? = w1.heap[j]? := by
    intro j hj h1 h2
    refine (Below.heap_setCell w3 ⟨b, i1, none⟩ z3 j h1).trans ?_
    refine (h.g3.block j (by omega) h2).trans ?_
    exact (h.b2.block j hj).trans (Below.heap_setCell w1 ⟨b, i0, none⟩ z1 j h1)
  have far : ∀ j, j < w.heap.size → j ≠ b → some j ≠ v0.ownBlock → some j ≠ v1.ownBlock → (w3.setCell ⟨b, i1, none⟩ z3).heap[j]? = w.heap[j]? :=
    fun j hj h1 h2 h3 => (on1 j (by omega) h1 h3).trans (h.g1.block j hj h2)
  have farE : ∀ j, Ty w e j → (w3.setCell ⟨b, i1, none⟩ z3).heap[j]? = w.heap[j]? := by
    intro j hj
    refine far j (by obtain ⟨c, hc⟩ := hj; exact blk_lt hc) (fun q => (q ▸ hj : Ty w e b).ne tb nB') (fun q => hj.ne (own_typed t.r0 j q.symm) nTe) (fun q => hj.ne (own_typed t.r1 j q.symm) nTe)
  have vlt : ∀ j, v.ownBlock = some j → j < w.heap.size := own_lt hv
  have tge : ∀ j, tv.ownBlock = some j → w1.heap.size ≤ j := own_base h.t2
  have tlt : ∀ j, tv.ownBlock = some j → j < w2.heap.size := own_lt h.t2
  refine ⟨far, ⟨?_, ?_, ?_, by omega, ?_⟩, blk4, ?_⟩
  · exact h.g3.os.trans (h.b2.os.trans h.g1.os)
  · exact h.g3.tape.trans (h.b2.tape.trans h.g1.tape)
  · exact h.g3.output.trans (h.b2.output.trans h.g1.output)
  · intro j hj hn
    exact far j hj (fun q => hn ⟨q ▸ okb, .inl (q ▸ tb)⟩) (fun q => hn ⟨t.o0 j q.symm, .inr (own_typed t.r0 j q.symm)⟩) (fun q => hn ⟨t.o1 j q.symm, .inr (own_typed t.r1 j q.symm)⟩)
  · have F0 := (t.f0.move (w' := w3.setCell ⟨b, i1, none⟩ z3) fun p hp j hj => farE j (t.f0.ty hp hj))
    have F1 := (t.f1.move (w' := w3.setCell ⟨b, i1, none⟩ z3) fun p hp j hj => farE j (t.f1.ty hp hj))
    have V4 := own_move (w1 := w3.setCell ⟨b, i1, none⟩ z3) hv fun j hj => farE j (own_typed hv j hj)
    have T4 : (w3.setCell ⟨b, i1, none⟩ z3).ownsRow base e 1 tv xs.length (nums k xs) := own_weaken (own_move (w1 := w3.setCell ⟨b, i1, none⟩ z3) h.t2 fun j hj => by
      refine (Below.heap_setCell w3 ⟨b, i1, none⟩ z3 j (by have := tge j hj; show j ≠ b; omega)).trans ?_
      exact h.g3.block j (tlt j hj) (fun q => by have := l1 j q.symm; have := tge j hj; omega)) (by omega)
    have ltL : ∀ p ∈ L, ∀ j, p.1.ownBlock = some j → j < w.heap.size := fun p hp j hj => t.f0.lt hp hj
    have ltS : ∀ p ∈ S, ∀ j, p.1.ownBlock = some j → j < w.heap.size := fun p hp j hj => t.f1.lt hp hj
    have lS : S.length = L.length := by have := congrArg List.length t.same; simpa using this
    refine ⟨?_, ?_, ?_, F0.snoc V4 ?_, F1.snoc T4 ?_, ?_, ?_, ?_, ?_, ?_, ?_, ?_, ?_⟩
    · have := own_move (w1 := w3.setCell ⟨b, i1, none⟩ z3) h.o1 (fun j hj => on1 j (own_lt h.o1 j hj) (nz1 j hj) (fun q => by
        rcases h.a1 with a | ⟨p, a, a'⟩
        · exact t.ne j (by rw [← a]; exact hj) q.symm
        · rw [hj] at a; injection a with a; have := l1 j q.symm; omega))
      simpa using this
    · have := own_setCell h.o3 (p := ⟨b, i1, none⟩) (u := z3) (fun q => nz3 b q.symm rfl)
      simpa using this
    · simp [t.same]
    · intro p hp j hj hj'
      exact hno j hj' (t.oL p hp j hj)
    · intro p hp j hj hj'
      have := tge j hj'
      have := ltS p hp j hj
      omega
    · intro j hj hj'
      rcases h.a1 with a | ⟨p, a, a'⟩ <;> rcases h.a3 with c | ⟨q, c, c'⟩
      · exact t.ne j (by rw [← a]; exact hj) (by rw [← c]; exact hj')
      · rw [hj'] at c; injection c with c
        have := l0 j (by rw [← a]; exact hj)
        omega
      · rw [hj] at a; injection a with a
        have := l1 j (by rw [← c]; exact hj')
        omega
      · rw [hj'] at c; injection c with c
        have := own_lt h.o1 j hj
        omega
    · intro p hp q hq j hj hj'
      rcases List.mem_append.1 hp with hp | hp <;> rcases List.mem_append.1 hq with hq | hq
      · exact t.nls p hp q hq j hj hj'
      · rw [List.mem_singleton.1 hq] at hj'
        have := tge j hj'; have := ltL p hp j hj; omega
      · rw [List.mem_singleton.1 hp] at hj
        exact hno j hj (t.oS q hq j hj')
      · rw [List.mem_singleton.1 hp] at hj
        rw [List.mem_singleton.1 hq] at hj'
        have := tge j hj'; have := vlt j hj; omega
    · intro j hj
      rcases h.a1 with a | ⟨p, a, a'⟩
      · exact .inl (t.o0 j (by rw [← a]; exact hj))
      · have := own_lt h.o1 j hj
        rw [hj] at a; injection a with a
        exact .inr (.inr ⟨by omega, by omega⟩)
    · intro j hj
      rcases h.a3 with a | ⟨p, a, a'⟩
      · exact .inl (t.o1 j (by rw [← a]; exact hj))
      · have := own_lt h.o3 j hj
        rw [hj] at a; injection a with a
        exact .inr (.inr ⟨by omega, by omega⟩)
    · intro p hp j hj
      rcases List.mem_append.1 hp with hp | hp
      · exact .inl (t.oL p hp j hj)
      · rw [List.mem_singleton.1 hp] at hj
        exact .inr (.inl hj)
    · intro p hp j hj
      rcases List.mem_append.1 hp with hp | hp
      · exact .inl (t.oS p hp j hj)
      · rw [List.mem_singleton.1 hp] at hj
        have := tge j hj; have := tlt j hj
        exact .inr (.inr ⟨by omega, by omega⟩)
    · intro p hp
      rcases List.mem_append.1 hp with hp | hp
      · exact t.sz p hp
      · rw [List.mem_singleton.1 hp]; exact hsz
    · simp; omega
theorem book8 {w w1 w2 w3 : World} {base b : Nat} {ok : Nat → Prop} {v0 v1 v4 v5 z1 z3 v tv : Value} {xs : List Int} {LB SB LI SI : List (Value × List Int)}
    (hb : w.heap[b]? = some (.cells #[v0, v1, .slice none 0 0, .slice none 0 0, v4, v5] 38 (0, 0))) (t1 : Two w base ok 94 5 .u8 v0 v1 LB SB) (t2 : Two w base ok 23 3 .i64 v4 v5 LI SI)
    (okb : ok b) (rng : ∀ j, ok j → base ≤ j ∧ j < w.heap.size) (hv : w.ownsRow base 5 1 v xs.length (nums .u8 xs)) (hno : ∀ j, v.ownBlock = some j → ¬ ok j) (hsz : xs.length ≤ 10000000000000) (hlen : LB.length < 400) (hbase : base ≤ w.heap.size)
    (h : Went w w1 w2 w3 base b 0 1 94 5 .u8 v0 v1 z1 z3 v tv xs LB SB) :
    Chg (fun j => ok j ∧ (Ty w 38 j ∨ Ty w 94 j)) w (w3.setCell ⟨b, 1, none⟩ z3) ∧ Bk (w3.setCell ⟨b, 1, none⟩ z3) base (fun j => ok j ∨ v.ownBlock = some j ∨ (w.heap.size ≤ j ∧ j < (w3.setCell ⟨b, 1, none⟩ z3).heap.size)) b := by
  obtain ⟨far, chg, blk, two⟩ := h.two t1 hb (by decide) (by decide) (by decide) okb hv hno hsz hlen hbase
  have blk : (w3.setCell ⟨b, 1, none⟩ z3).heap[b]? = some (.cells #[z1, z3, .slice none 0 0, .slice none 0 0, v4, v5] 38 (0, 0)) := blk
  have mv := t2.moveT (w' := w3.setCell ⟨b, 1, none⟩ z3) (ok' := fun j => ok j ∨ v.ownBlock = some j ∨ (w.heap.size ≤ j ∧ j < (w3.setCell ⟨b, 1, none⟩ z3).heap.size)) (fun j hj hT => far j (rng j hj).2
      (fun q => hT.elim (fun T => Ty.ne T ⟨_, q ▸ hb⟩ (by decide)) (fun T => Ty.ne T ⟨_, q ▸ hb⟩ (by decide)))
      (fun q => hT.elim (fun T => Ty.ne T (own_typed t1.r0 j q.symm) (by decide)) (fun T => Ty.ne T (own_typed t1.r0 j q.symm) (by decide)))
      (fun q => hT.elim (fun T => Ty.ne T (own_typed t1.r1 j q.symm) (by decide)) (fun T => Ty.ne T (own_typed t1.r1 j q.symm) (by decide)))) (fun j hj => .inl hj)
  refine ⟨chg, ⟨z1, z3, v4, v5, LB ++ [(v, xs)], SB ++ [(tv, xs)], LI, SI, blk, two, mv⟩, .inl okb, fun j hj => ?_⟩
  have hs := chg.size
  rcases hj with hj | hj | hj
  · have := rng j hj; exact ⟨this.1, by omega⟩
  · have h1 := own_base hv j hj
    have h2 := own_lt hv j hj
    exact ⟨h1, by omega⟩
  · exact ⟨by omega, hj.2⟩
theorem booki {w w1 w2 w3 : World} {base b : Nat} {ok : Nat → Prop} {v0 v1 v4 v5 z1 z3 v tv : Value} {xs : List Int} {LB SB LI SI : List (Value × List Int)}
    (hb : w.heap[b]? = some (.cells #[v0, v1, .slice none 0 0, .slice none 0 0, v4, v5] 38 (0, 0))) (t1 : Two w base ok 94 5 .u8 v0 v1 LB SB) (t2 : Two w base ok 23 3 .i64 v4 v5 LI SI)
    (okb : ok b) (rng : ∀ j, ok j → base ≤ j ∧ j < w.heap.size) (hv : w.ownsRow base 3 1 v xs.length (nums .i64 xs)) (hno : ∀ j, v.ownBlock = some j → ¬ ok j) (hsz : xs.length ≤ 10000000000000) (hlen : LI.length < 400) (hbase : base ≤ w.heap.size)
    (h : Went w w1 w2 w3 base b 4 5 23 3 .i64 v4 v5 z1 z3 v tv xs LI SI) :
    Chg (fun j => ok j ∧ (Ty w 38 j ∨ Ty w 23 j)) w (w3.setCell ⟨b, 5, none⟩ z3) ∧ Bk (w3.setCell ⟨b, 5, none⟩ z3) base (fun j => ok j ∨ v.ownBlock = some j ∨ (w.heap.size ≤ j ∧ j < (w3.setCell ⟨b, 5, none⟩ z3).heap.size)) b := by
  obtain ⟨far, chg, blk, two⟩ := h.two t2 hb (by decide) (by decide) (by decide) okb hv hno hsz hlen hbase
  have blk : (w3.setCell ⟨b, 5, none⟩ z3).heap[b]? = some (.cells #[v0, v1, .slice none 0 0, .slice none 0 0, z1, z3] 38 (0, 0)) := blk
  have mv := t1.moveT (w' := w3.setCell ⟨b, 5, none⟩ z3) (ok' := fun j => ok j ∨ v.ownBlock = some j ∨ (w.heap.size ≤ j ∧ j < (w3.setCell ⟨b, 5, none⟩ z3).heap.size)) (fun j hj hT => far j (rng j hj).2
      (fun q => hT.elim (fun T => Ty.ne T ⟨_, q ▸ hb⟩ (by decide)) (fun T => Ty.ne T ⟨_, q ▸ hb⟩ (by decide)))
      (fun q => hT.elim (fun T => Ty.ne T (own_typed t2.r0 j q.symm) (by decide)) (fun T => Ty.ne T (own_typed t2.r0 j q.symm) (by decide)))
      (fun q => hT.elim (fun T => Ty.ne T (own_typed t2.r1 j q.symm) (by decide)) (fun T => Ty.ne T (own_typed t2.r1 j q.symm) (by decide)))) (fun j hj => .inl hj)
  refine ⟨chg, ⟨v0, v1, z1, z3, LB, SB, LI ++ [(v, xs)], SI ++ [(tv, xs)], blk, mv, two⟩, .inl okb, fun j hj => ?_⟩
  have hs := chg.size
  rcases hj with hj | hj | hj
  · have := rng j hj; exact ⟨this.1, by omega⟩
  · have h1 := own_base hv j hj
    have h2 := own_lt hv j hj
    exact ⟨h1, by omega⟩
  · exact ⟨by omega, hj.2⟩
end Go.Proofs.Ytbjoinocajobhaa.Keep
