/- Rows of one's own that are kept side by side: worlds, stores, appends. -/
import Derived.Test.YtbjoinocajobhaaWLast
import Derived.Test.YtbjoinocajobhaaWMore
import Derived.ArgAppend
import Derived.Maps.AppendAt
namespace Go.Proofs.Ytbjoinocajobhaa.Keep
set_option linter.unusedVariables false
open Go.RowKit Go.Proofs.YtbjoinocajobhaaW.PrintWords Go.Proofs.YtbjoinocajobhaaW.PrintLast

/-- What was there is as it was, but for the blocks that 'ok' names. -/
structure Chg (ok : Nat → Prop) (w w' : World) : Prop where
  os : w'.os = w.os
  tape : w'.tape = w.tape
  output : w'.output = w.output
  size : w.heap.size ≤ w'.heap.size
  block : ∀ k, k < w.heap.size → ¬ ok k → w'.heap[k]? = w.heap[k]?
theorem Chg.refl (ok : Nat → Prop) (w : World) : Chg ok w w := ⟨rfl, rfl, rfl, Nat.le_refl _, fun _ _ _ => rfl⟩
theorem Chg.trans {ok : Nat → Prop} {a b c : World} (h : Chg ok a b) (k : Chg ok b c) : Chg ok a c :=
  ⟨k.os.trans h.os, k.tape.trans h.tape, k.output.trans h.output, Nat.le_trans h.size k.size, fun i hi ho => (k.block i (Nat.lt_of_lt_of_le hi h.size) ho).trans (h.block i hi ho)⟩
theorem Chg.mono {ok ok' : Nat → Prop} {w w' : World} (h : Chg ok w w') (hm : ∀ k, k < w.heap.size → ok k → ok' k) : Chg ok' w w' := ⟨h.os, h.tape, h.output, h.size, fun k hk ho => h.block k hk fun q => ho (hm k hk q)⟩
theorem Chg.of_below {ok : Nat → Prop} {w w' : World} (h : Below w.heap.size w w') : Chg ok w w' := ⟨h.os, h.tape, h.output, h.size, fun k hk _ => h.block k hk⟩
theorem Chg.of_grown {ok : Nat → Prop} {w w' : World} {row : Option Nat} (h : w.grownBy w' row) (hr : ∀ k, row = some k → ok k) : Chg ok w w' :=
  ⟨h.os, h.tape, h.output, h.size, fun k hk ho => h.block k hk fun e => ho (hr k e.symm)⟩
theorem Chg.set_ {ok : Nat → Prop} {w w' : World} (h : Chg ok w w') {g j : Nat} (hg : ok g) (u : Value) : Chg ok w (w'.setCell ⟨g, j, none⟩ u) :=
  ⟨h.os, h.tape, h.output, by simpa using h.size, fun k hk ho => (Below.heap_setCell w' ⟨g, j, none⟩ u k (fun e => ho (e ▸ hg))).trans (h.block k hk ho)⟩
theorem Chg.alloc_ {ok : Nat → Prop} {w w' : World} (h : Chg ok w w') (o : Obj) : Chg ok w (w'.alloc o) := h.trans (Chg.of_below ((Below.refl _ _).alloc (Nat.le_refl _) _))
theorem Chg.drewN_ {ok : Nat → Prop} {w w' : World} (h : Chg ok w w') (n : Nat) : Chg ok w (w'.drewN n) := ⟨h.os, h.tape, h.output, h.size, h.block⟩
theorem Chg.drew_ {ok : Nat → Prop} {w w' : World} (h : Chg ok w w') : Chg ok w w'.drew := ⟨h.os, h.tape, h.output, h.size, h.block⟩
theorem Chg.below {ok : Nat → Prop} {B : Nat} {w w' : World} (h : Chg ok w w') (hb : B ≤ w.heap.size) (ho : ∀ k, ok k → B ≤ k) : Below B w w' :=
  ⟨h.os, h.tape, h.output, h.size, fun k hk => h.block k (Nat.lt_of_lt_of_le hk hb) fun q => by have := ho k q; omega⟩
theorem Chg.blk {ok : Nat → Prop} {w w' : World} (h : Chg ok w w') {g : Nat} {o : Obj} (hb : w.heap[g]? = some o) (hg : ¬ ok g) : w'.heap[g]? = some o := (h.block g (blk_lt hb) hg).trans hb
theorem Chg.own {ok : Nat → Prop} {w w' : World} (h : Chg ok w w') {base : Nat} {e : TypeId} {size n : Nat} {v : Value} {xs : List Value} (ho : w.ownsRow base e size v n xs) (hv : ∀ k, v.ownBlock = some k → ¬ ok k) : w'.ownsRow base e size v n xs :=
  own_move ho fun k hk => h.block k (own_lt ho k hk) (hv k hk)

/-- append of one element: the new slice owns one more, and the old one still owns what it had. -/
theorem run_append_keep {P : Program} {w : World} {base : Nat} {t ty e : TypeId} {i : TypeInfo} {z : Value} {bytes : Nat} (ht : P.underlying t = some (.slice e)) (hi : P.info? e = some i) (hz : i.zero = some z) (hsize : i.size = 1) (hby : i.bytes = bytes) (hzs : z.cells.size = 1)
    {v : Value} {n : Nat} {xs : List Value} (hown : w.ownsRow base e 1 v n xs) {a : Addr} {c : Nat} {y : Value} (hnews : ∀ j u, [y][j]? = some u → w.cell? (a.add j) = some u) (h1 : y.oneCell' = true)
    (h63 : n + 1 ≤ maxLen) (hbytes : (n + 1) * bytes ≤ 140737488355328) (hbase : base ≤ w.heap.size) :
    ∃ v' w', (Builtin.append_ #[t, t] ty #[v, .slice (some a) 1 c]).run P w = .ok v' w' ∧ w'.ownsRow base e 1 v' (n + 1) (xs ++ [y]) ∧ w'.ownsRow base e 1 v n xs ∧ w.grownBy w' v.ownBlock ∧ (v'.ownBlock = v.ownBlock ∨ v'.ownBlock = some w.heap.size) := by
  obtain ⟨v', w', hr, h2, h3, -, h5⟩ := run_append_own_at (P := P) w base t ty e i z 1 bytes ht hi hz hsize hby hzs (by decide) v n xs hown a 1 c [y] (by simp) hnews (by intro u hu; simp at hu; subst hu; exact h1) h63 hbytes hbase
  refine ⟨v', w', hr, h2, ?_, h3, h5⟩
  rcases hown.2 with ⟨rfl, hn⟩ | ⟨g, cap, cur, rfl, hbg, hg, hnc, hcm, hcs, htake⟩
  · refine ⟨hown.1, .inl ⟨rfl, hn⟩⟩
  · by_cases hroom : n + 1 ≤ cap
    · have hr2 := run_append_room (P := P) w t ty e i ht hi g n cap cur hg a 1 c [y] (by simp [hsize]) hnews (by intro u hu; simp at hu; subst hu; exact h1) hroom (by rw [hsize, hcs]; simp; omega)
      rw [hr] at hr2
      injection hr2 with e1 e2
      subst e1
      rcases h2.2 with ⟨h', _⟩ | ⟨g', cap', cur', h', hb', hh', hc1, hc2, hc3, hc4⟩
      · cases h'
      · injection h' with h1' h2' h3'
        injection h1' with h1'
        injection h1' with h1'
        subst h1'
        subst h3'
        refine ⟨hown.1, .inr ⟨g, cap, cur', rfl, hbg, hh', hnc, hcm, hc3, ?_⟩⟩
        have hl := hown.1
        rw [Nat.mul_one] at hc4 hl ⊢
        have : (cur'.toList.take (n + 1)).take n = cur'.toList.take n := by rw [List.take_take]; congr 1; omega
        rw [← this, hc4, List.take_left' hl]
    · obtain ⟨v2, w2, hr2, -, hg2⟩ := run_append_arg_grows (P := P) w t ty e i z 1 bytes ht hi hz hsize hby hzs (by decide) ⟨g, 0, none⟩ n cap xs hown.1 (hown.cells (g := g) rfl) a 1 c [y] (by simp) hnews (by omega) h63 hbytes
      rw [hr] at hr2
      injection hr2 with e1 e2
      subst e2
      exact hown.kept hg2 (.inr (by simp [Value.ownBlock]))
section
variable {P : Program} {ops : Array Oper} {rest : List Oper} {o : Oper} {a : Act} {Q : Exit → Act → World → Prop}
/-- The same at the operation: behind 'at_builtin'; the goal's world is 'W.alloc' of the variadic's box. -/
theorem keep_append {W : World} (base : Nat) (hgd : o.guard = none) (s x : Operand) (t e : TypeId) (z : Value) (bytes : Nat)
    (ho : o.op = .call { callee := .builtin .append, args := #[s, x], argTypes := #[t, t] })
    (ht : P.underlying t = some (.slice e)) (hinfo : (P.info? e).map (fun i => (i.zero, i.size, i.bytes)) = some (some z, 1, bytes)) (hz : z.cells.size = 1)
    (v : Value) (xs : List Value) (y : Value) (hs : a.eval s = v) (hx : a.eval x = .slice (some ⟨W.heap.size, 0, none⟩) 1 1) (h1 : y.oneCell' = true)
    (HO : W.ownsRow base e 1 v xs.length xs) (hbase : base ≤ W.heap.size) (hb0 : 0 < bytes) (hl : (xs.length + 1) * bytes ≤ 140737488355328)
    (h : ∀ v1 w1, w1.ownsRow base e 1 v1 (xs ++ [y]).length (xs ++ [y]) → w1.ownsRow base e 1 v xs.length xs → W.grownBy w1 v.ownBlock → (v1.ownBlock = v.ownBlock ∨ ∃ b, v1.ownBlock = some b ∧ W.heap.size < b) → wpList P ops Q rest (a.put o.dst v1) w1) :
    wpList P ops Q (o :: rest) a (W.alloc (.cells #[y] e)) := by
  obtain ⟨i0, hi, hzz⟩ := Option.map_eq_some_iff.1 hinfo
  simp only [Prod.mk.injEq] at hzz
  obtain ⟨hz0, hz1, hz2⟩ := hzz
  have hlen : xs.length + 1 ≤ 140737488355328 := Nat.le_trans (Nat.le_mul_of_pos_right _ hb0) hl
  obtain ⟨v1, w1, hr, k1, k2, k3, k4⟩ := run_append_keep (P := P) (w := W.alloc (.cells #[y] e)) (ty := o.type) ht hi hz0 hz1 hz2 hz (HO.alloc _) (a := ⟨W.heap.size, 0, none⟩) (c := 1) (y := y)
    (World.news_of_block (cs := #[y]) (t := e) (fr := (0, 0)) (heap_alloc_new W _)) h1 (by simp only [maxLen]; omega) hl (by simp; omega)
  refine wpList_plain hgd fun K hK => ?_
  unfold Oper.wp execOp
  simp only [ho, resolve, invoke, builtin, Sem.run_bind, Sem.run_pure, Result.andThen_ok, List.map_toArray, List.map_cons, List.map_nil, hs, hx, hr]
  refine hK _ _ (h v1 w1 (by simpa using k1) k2 (World.grownBy.trans (World.grownBy_alloc W _ _) k3) ?_)
  rcases k4 with k4 | k4
  · exact .inl k4
  · exact .inr ⟨_, k4, by simp⟩
end

/-! ### several rows at once -/
/-- Rows of whole numbers (a slice, what it holds), each of one's own, no two in one block. -/
def Fam (w : World) (base : Nat) (e : TypeId) (k : IntKind) (l : List (Value × List Int)) : Prop :=
  (∀ (r : Nat) (p : Value × List Int), l[r]? = some p → w.ownsRow base e 1 p.1 p.2.length (nums k p.2)) ∧ ∀ (r s : Nat) (p q : Value × List Int), r ≠ s → l[r]? = some p → l[s]? = some q → NeRow p.1 q.1
theorem Fam.nil (w : World) (base : Nat) (e : TypeId) (k : IntKind) : Fam w base e k [] := ⟨fun r p h => by simp at h, fun r s p q _ h => by simp at h⟩
theorem Fam.move {w w' : World} {base : Nat} {e : TypeId} {k : IntKind} {l : List (Value × List Int)} (h : Fam w base e k l) (hm : ∀ p ∈ l, ∀ b, p.1.ownBlock = some b → w'.heap[b]? = w.heap[b]?) : Fam w' base e k l :=
  ⟨fun r p hp => own_move (h.1 r p hp) (hm p (List.mem_of_getElem? hp)), h.2⟩
theorem Fam.chg {w w' : World} {base : Nat} {e : TypeId} {k : IntKind} {l : List (Value × List Int)} {ok : Nat → Prop} (h : Fam w base e k l) (hc : Chg ok w w') (hm : ∀ p ∈ l, ∀ b, p.1.ownBlock = some b → ¬ ok b) : Fam w' base e k l :=
  h.move fun p hp b hb => by
    obtain ⟨r, hr⟩ := List.getElem?_of_mem hp
    exact hc.block b (own_lt (h.1 r p hr) b hb) (hm p hp b hb)
theorem Fam.below {w w' : World} {base : Nat} {e : TypeId} {k : IntKind} {l : List (Value × List Int)} (h : Fam w base e k l) (hb : Below w.heap.size w w') : Fam w' base e k l := h.chg (ok := fun _ => False) (Chg.of_below hb) (fun _ _ _ _ q => q)
theorem Fam.snoc {w : World} {base : Nat} {e : TypeId} {k : IntKind} {l : List (Value × List Int)} (h : Fam w base e k l) {v : Value} {xs : List Int} (hv : w.ownsRow base e 1 v xs.length (nums k xs)) (hn : ∀ p ∈ l, NeRow p.1 v) : Fam w base e k (l ++ [(v, xs)]) := by
  refine ⟨fun r p hp => ?_, fun r s p q hne hp hq => ?_⟩
  · rcases Nat.lt_or_ge r l.length with hr | hr
    · rw [List.getElem?_append_left hr] at hp; exact h.1 r p hp
    · rw [List.getElem?_append_right hr] at hp
      have : p = (v, xs) := by
        rcases hq : r - l.length with _ | m
        · rw [hq] at hp; simpa using hp.symm
        · rw [hq] at hp; simp at hp
      subst this; exact hv
  · have one : ∀ m : Nat, ∀ x, [(v, xs)][m]? = some x → m = 0 ∧ x = (v, xs) := by
      intro m x hx
      cases m with
      | zero => exact ⟨rfl, by simpa using hx.symm⟩
      | succ m => simp at hx
    rcases Nat.lt_or_ge r l.length with hr | hr <;> rcases Nat.lt_or_ge s l.length with hs | hs
    · rw [List.getElem?_append_left hr] at hp; rw [List.getElem?_append_left hs] at hq; exact h.2 r s p q hne hp hq
    · rw [List.getElem?_append_left hr] at hp; rw [List.getElem?_append_right hs] at hq
      obtain ⟨-, rfl⟩ := one _ _ hq
      exact hn p (List.mem_of_getElem? hp)
    · rw [List.getElem?_append_right hr] at hp; rw [List.getElem?_append_left hs] at hq
      obtain ⟨-, rfl⟩ := one _ _ hp
      exact ne_symm (hn q (List.mem_of_getElem? hq))
    · rw [List.getElem?_append_right hr] at hp; rw [List.getElem?_append_right hs] at hq
      have := (one _ _ hp).1
      have := (one _ _ hq).1
      omega
/-- A store into row n. -/
theorem Fam.store {w : World} {base : Nat} {e : TypeId} {k : IntKind} {l : List (Value × List Int)} (h : Fam w base e k l) {n j : Nat} {p : Value × List Int} (hp : l[n]? = some p) (hj : j < p.2.length) (x : Int) :
    ∃ g cap, p.1 = .slice (some ⟨g, 0, none⟩) p.2.length cap ∧ Fam (w.setCell ⟨g, j, none⟩ (.int k x)) base e k (l.set n (p.1, p.2.set j x)) ∧ (∃ y, w.cell? ⟨g, j, none⟩ = some (.int k y)) ∧ w.frozen? ⟨g, j, none⟩ = false := by
  have ho := h.1 n p hp
  obtain ⟨g, cap, hv, hb, hlt⟩ := ho.form (by omega)
  refine ⟨g, cap, hv, ?_, ?_, ?_⟩
  · have hlen : n < l.length := (List.getElem?_eq_some_iff.1 hp).1
    refine ⟨fun r q hq => ?_, fun r s q q' hne hq hq' => ?_⟩
    · rw [List.getElem?_set] at hq
      by_cases hr : n = r
      · rw [if_pos hr] at hq
        subst hr
        rw [if_pos hlen] at hq
        injection hq with hq
        subst hq
        rw [hv] at ho
        have hs := (own_store ho (j : Int) x).1
        simp only [Int.toNat_natCast] at hs
        show World.ownsRow _ base e 1 p.1 (p.2.set j x).length _
        rw [hv, List.length_set]; exact hs
      · rw [if_neg hr] at hq
        have hne := h.2 r n q p (fun e => hr e.symm) hq hp
        refine own_setCell (h.1 r q hq) ?_ _
        intro e
        exact hne g e.symm (by rw [hv]; rfl)
    · have first : ∀ (r : Nat) (q : Value × List Int), (l.set n (p.1, p.2.set j x))[r]? = some q → ∃ q0 : Value × List Int, l[r]? = some q0 ∧ q0.1 = q.1 := by
        intro r q hq
        rw [List.getElem?_set] at hq
        by_cases hr : n = r
        · rw [if_pos hr] at hq
          subst hr
          rw [if_pos hlen] at hq
          injection hq with hq
          subst hq
          exact ⟨p, hp, rfl⟩
        · rw [if_neg hr] at hq; exact ⟨q, hq, rfl⟩
      obtain ⟨q0, hq0, e0⟩ := first r q hq
      obtain ⟨q1, hq1, e1⟩ := first s q' hq'
      rw [← e0, ← e1]
      exact h.2 r s q0 q1 hne hq0 hq1
  · rw [hv] at ho
    have hc := (own_at ho (j : Int) (by omega) (by omega)).1
    simp only [Int.toNat_natCast] at hc
    exact ⟨_, hc⟩
  · rw [hv] at ho
    have hc := (own_at ho (j : Int) (by omega) (by omega)).2
    simpa only [Int.toNat_natCast] using hc
/-- A cell of row n. -/
theorem Fam.cell {w : World} {base : Nat} {e : TypeId} {k : IntKind} {l : List (Value × List Int)} (h : Fam w base e k l) {n j : Nat} {p : Value × List Int} (hp : l[n]? = some p) (hj : j < p.2.length) :
    ∃ g cap, p.1 = .slice (some ⟨g, 0, none⟩) p.2.length cap ∧ w.cell? ⟨g, j, none⟩ = some (.int k (rd p.2 (j : Int))) := by
  have ho := h.1 n p hp
  obtain ⟨g, cap, hv, hb, hlt⟩ := ho.form (by omega)
  refine ⟨g, cap, hv, ?_⟩
  rw [hv] at ho
  have hc := (own_at ho (j : Int) (by omega) (by omega)).1
  simpa only [Int.toNat_natCast] using hc
end Go.Proofs.Ytbjoinocajobhaa.Keep
