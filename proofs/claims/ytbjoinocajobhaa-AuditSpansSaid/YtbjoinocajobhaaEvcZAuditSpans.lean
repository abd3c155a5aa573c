/- ref.Spans, plainly: ranges; two rows of numbers side by side. -/
import Derived.Test.YtbjoinocajobhaaEvbZAuditSpans
namespace Go.Proofs.Ytbjoinocajobhaa.Evs
set_option linter.unusedVariables false
set_option linter.unusedSimpArgs false
open Go.RowKit Go.Proofs.Ytbjoinocajobhaa.Q Go.Proofs.YtbjoinocajobhaaW.PrintWords Go.Proofs.YtbjoinocajobhaaW.PrintLast Go.Proofs.Ytbjoinocajobhaa.Ju Go.Proofs.Ytbjoinocajobhaa.Keep Go.Maps
def begP (P : List (Nat × Int)) : List Int := P.map fun p => (p.1 : Int)
def endP (P : List (Nat × Int)) : List Int := P.map (·.2)
def pr (P : List (Nat × Int)) (k : Nat) : Nat × Int := P.getD k (0, 0)
theorem begP_len (P : List (Nat × Int)) : (begP P).length = P.length := by simp [begP]
theorem endP_len (P : List (Nat × Int)) : (endP P).length = P.length := by simp [endP]
theorem begP_at {P : List (Nat × Int)} {k : Nat} (hk : k < P.length) : (begP P).getD k 0 = ((pr P k).1 : Int) := by
  simp [begP, pr, List.getD_eq_getElem?_getD, hk]
theorem endP_at {P : List (Nat × Int)} {k : Nat} (hk : k < P.length) : (endP P).getD k 0 = (pr P k).2 := by
  simp [endP, pr, List.getD_eq_getElem?_getD, hk]
theorem begP_snoc (P : List (Nat × Int)) (i : Nat) (j : Int) : begP (P ++ [(i, j)]) = begP P ++ [(i : Int)] := by simp [begP]
theorem endP_snoc (P : List (Nat × Int)) (i : Nat) (j : Int) : endP (P ++ [(i, j)]) = endP P ++ [j] := by simp [endP]
theorem begP_set (P : List (Nat × Int)) (k : Nat) (j : Int) : begP (P.set k ((pr P k).1, j)) = begP P := by
  unfold begP pr
  rw [List.map_set]
  refine List.ext_getElem? fun m => ?_
  rw [List.getElem?_set]
  by_cases q : k = m
  · subst q
    by_cases hk : k < P.length
    · rw [if_pos rfl, List.length_map, if_pos hk, List.getElem?_map, List.getD_eq_getElem?_getD, List.getElem?_eq_getElem hk]; rfl
    · rw [if_pos rfl, List.length_map, if_neg hk, List.getElem?_map, List.getElem?_eq_none (by omega)]; rfl
  · rw [if_neg q]
theorem endP_set (P : List (Nat × Int)) (k : Nat) (x : Nat × Int) : endP (P.set k x) = (endP P).set k x.2 := by
  unfold endP
  rw [List.map_set]
def Rng (i : Nat) (P : List (Nat × Int)) : Prop := ∀ k, k < P.length → (pr P k).1 < i ∧ ((pr P k).2 = -1 ∨ (0 ≤ (pr P k).2 ∧ (pr P k).2 < (i : Int)))
theorem pr_snoc (P : List (Nat × Int)) (x : Nat × Int) (k : Nat) : pr (P ++ [x]) k = if k < P.length then pr P k else if k = P.length then x else (0, 0) := by
  unfold pr
  rw [List.getD_eq_getElem?_getD, List.getD_eq_getElem?_getD]
  by_cases h : k < P.length
  · rw [if_pos h, List.getElem?_append_left h]
  · rw [if_neg h, List.getElem?_append_right (by omega)]
    by_cases q : k = P.length
    · rw [if_pos q, q, Nat.sub_self]; rfl
    · rw [if_neg q, List.getElem?_eq_none (by simp; omega)]; rfl
theorem pr_set (P : List (Nat × Int)) (x : Nat × Int) {j k : Nat} (hk : k < P.length) : pr (P.set j x) k = if j = k then x else pr P k := by
  unfold pr
  rw [List.getD_eq_getElem?_getD, List.getD_eq_getElem?_getD, List.getElem?_set]
  by_cases q : j = k
  · subst q; rw [if_pos rfl, if_pos rfl, if_pos hk]; rfl
  · rw [if_neg q, if_neg q]
theorem Rng.snoc {i : Nat} {P : List (Nat × Int)} (h : Rng i P) : Rng (i + 1) (P ++ [(i, -1)]) := fun k hk => by
  rw [pr_snoc]
  by_cases q : k < P.length
  · rw [if_pos q]; have := h k q; omega
  · rw [if_neg q, if_pos (by simp at hk; omega)]
    exact ⟨by omega, .inl rfl⟩
theorem Rng.set {i : Nat} {P : List (Nat × Int)} (h : Rng i P) {j : Nat} : Rng (i + 1) (P.set j ((pr P j).1, (i : Int))) := fun k hk => by
  rw [List.length_set] at hk
  rw [pr_set P _ hk]
  by_cases q : j = k
  · subst q; rw [if_pos rfl]
    exact ⟨by have := (h j hk).1; omega, .inr ⟨by show (0 : Int) ≤ i; omega, by show (i : Int) < _; omega⟩⟩
  · rw [if_neg q]; have := h k hk; omega
theorem lastO_rng (l : List E6) (P : List (Nat × Int)) (c : Int) : ∀ n, -1 ≤ lastO l P c n ∧ lastO l P c n < (n : Int)
  | 0 => ⟨by show (-1 : Int) ≤ -1; omega, by show (-1 : Int) < 0; omega⟩
  | n + 1 => by
    have := lastO_rng l P c n
    unfold lastO
    by_cases h : (ev l (P.getD n (0, 0)).1).f0 = c ∧ (P.getD n (0, 0)).2 < 0
    · rw [if_pos h]; omega
    · rw [if_neg h]; omega
theorem lastO_succ (l : List E6) (P : List (Nat × Int)) (c : Int) (n : Nat) : lastO l P c (n + 1) = if ((ev l (pr P n).1).f0 == c) = true ∧ decide ((pr P n).2 < 0) = true then (n : Int) else lastO l P c n := by
  show (if _ then _ else _) = _
  simp [pr]
/-- A row of numbers, read and written. -/
theorem int_row {e base : Nat} {W : World} {ok : Nat → Prop} {A : Option Addr} {n c : Nat} {xs : List Int} (h : Kd.R (Kd.int .i64) e W base ok (.slice A n c) xs) {k : Nat} (hk : k < n) : ∃ g, A = some ⟨g, 0, none⟩ ∧ base ≤ g ∧ ok g ∧ W.cell? ⟨g, k, none⟩ = some (.int .i64 (xs.getD k 0)) ∧ W.frozen? ⟨g, k, none⟩ = false ∧ ∃ cells, W.heap[g]? = some (.cells cells e (0, 0)) := by
  have hn := (Kd.R_reads' h).1
  obtain ⟨g, cap, he, hb, hl, cells⟩ := Kd.R_form h (by omega)
  injection he with h1 h2 h3
  subst h1
  have := Kd.R_celln 0 h (k : Int) (by omega) (by omega)
  rw [Int.toNat_natCast] at this
  refine ⟨g, rfl, hb, h.1 g (by simp [Value.ownBlock]), this.1.trans ?_, this.2, cells⟩
  unfold rdOf
  rw [Int.toNat_natCast]
/-- Two rows side by side. -/
structure TR (w W : World) (vB vE : Value) (B E : List Int) : Prop where
  b : Kd.R (Kd.int .i64) 3 W w.heap.size (fun _ => True) vB B
  e : Kd.R (Kd.int .i64) 3 W w.heap.size (fun k => True ∧ some k ≠ vB.ownBlock) vE E
  bel : Below w.heap.size w W
theorem TR.below {w W W' : World} {vB vE : Value} {B E : List Int} (h : TR w W vB vE B E) (hb : Below W.heap.size W W') : TR w W' vB vE B E := ⟨Kd.R_below h.b hb, Kd.R_below h.e hb, below_step h.bel hb⟩
theorem TR.growB {w W W' : World} {vB vE v : Value} {B E B' : List Int} (h : TR w W vB vE B E) (hb : Kd.R (Kd.int .i64) 3 W' w.heap.size (fun _ => True) v B') (hg : W.grownBy W' vB.ownBlock) (hat : v.ownBlock = vB.ownBlock ∨ ∃ b, v.ownBlock = some b ∧ W.heap.size ≤ b) (hB : Below w.heap.size w W') : TR w W' v vE B' E := ⟨hb, Kd.R_after h.e hg hat, hB⟩
theorem TR.freshE {w W : World} {vB vE : Value} {B E : List Int} (h : TR w W vB vE B E) : ∀ k, W.heap.size ≤ k → True ∧ some k ≠ vB.ownBlock := fun k hk => ⟨trivial, fun q => by have := Kd.R_lt h.b k q.symm; omega⟩
theorem TR.growE {w W W' : World} {vB vE v : Value} {B E E' : List Int} (h : TR w W vB vE B E) (he : Kd.R (Kd.int .i64) 3 W' w.heap.size (fun k => True ∧ some k ≠ vB.ownBlock) v E') (hg : W.grownBy W' vE.ownBlock) (hB : Below w.heap.size w W') : TR w W' vB v B E' := by
  refine ⟨?_, he, hB⟩
  have hf := Kd.R_flat (ok' := fun k => vB.ownBlock = some k) (fun h => h) h.b (fun k hk _ => hk)
  refine Kd.R_mono (Kd.R_grown hf hg (fun k hk q => ?_)) (fun _ _ => trivial)
  exact (h.e.1 k q.symm).2 hk.symm
/-- One end is written. -/
theorem TR.putE {w W : World} {vB : Value} {g n c : Nat} {B E : List Int} (h : TR w W vB (.slice (some ⟨g, 0, none⟩) n c) B E) {k : Nat} (hk : k < n) (x : Int) : TR w (W.setCell ⟨g, k, none⟩ (.int .i64 x)) vB (.slice (some ⟨g, 0, none⟩) n c) B (E.set k x) := by
  have := Kd.R_putg h.e (k : Int) x
  rw [Int.toNat_natCast] at this
  have hg : w.heap.size ≤ g := Kd.R_base h.e g (by simp [Value.ownBlock])
  exact h.growE this.1 (by simpa [Value.ownBlock] using this.2) (h.bel.setCell hg _)
def ansO (l : List E6) (se : Int) : Option (List (Nat × Int)) → List S32 × Int
  | some P => (outF l se P, 0)
  | none => ([], 310)
def spansO (se : Int) (l : List E6) : List S32 × Int := ansO l se (runB l l.length 0 [])
theorem runs_rel (se : Int) (l : List E6) : ∀ (d i : Nat) (g : Go_) (out : List S32) (P : List (Nat × Int)), Rel l se i g out P → ans (runA se l d i (g, out)) = ansO l se (runB l d i P)
  | 0, i, g, out, P, h => by
    show (out, (0 : Int)) = (outF l se P, 0)
    rw [h.out]
  | d + 1, i, g, out, P, h => by
    show ans ((stA se i (ev l i) (g, out)).bind _) = ansO l se ((stB l i P).bind _)
    rcases step_rel h with ⟨h1, h2⟩ | ⟨g', o', P', h1, h2, h3⟩
    · rw [h1, h2]; rfl
    · rw [h1, h2]
      exact runs_rel se l d (i + 1) g' o' P' h3
theorem spans_same (se : Int) (l : List E6) : spansF se l = spansO se l := runs_rel se l l.length 0 _ _ _ (Rel.start l se)
theorem outF_take (l : List E6) (se : Int) (P : List (Nat × Int)) {k : Nat} (hk : k < P.length) : outF l se (P.take (k + 1)) = if (ev l (pr P k).1).f1 = se then outF l se (P.take k) ++ [spanO l (pr P k)] else outF l se (P.take k) := by
  have e : P.take (k + 1) = P.take k ++ [pr P k] := by
    rw [List.take_add_one, List.getElem?_eq_getElem hk]
    unfold pr
    rw [List.getD_eq_getElem?_getD, List.getElem?_eq_getElem hk]; rfl
  rw [e, outF_app]
  by_cases h : (ev l (pr P k).1).f1 = se
  · rw [if_pos h]
    unfold outF
    rw [List.filterMap_cons, if_pos h]; rfl
  · rw [if_neg h]
    unfold outF
    rw [List.filterMap_cons, if_neg h]; simp
end Go.Proofs.Ytbjoinocajobhaa.Evs
