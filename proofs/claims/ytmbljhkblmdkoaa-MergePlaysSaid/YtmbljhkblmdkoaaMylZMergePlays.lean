/- MergePlays: the state of the law: the Buffer, the Book, two rows of the law's own. -/
import Derived.Test.YtmbljhkblmdkoaaMypZMergePlays
import Derived.Test.YtmbljhkblmdkoaaBkiZMergePlays
import Derived.Test.YtmbljhkblmdkoaaMwkZMergePlays
namespace Go.Proofs.Ytmbljhkblmdkoaa.Mg
set_option linter.unusedVariables false
open Go.RowKit Go.Proofs.Ytmbljhkblmdkoaa.Q Go.Proofs.YtmbljhkblmdkoaaW.PrintWords Go.Proofs.YtmbljhkblmdkoaaW.PrintLast Go.Proofs.YtmbljhkblmdkoaaW.PrintMore Go.Proofs.Ytmbljhkblmdkoaa.Keep
/-- A row of numbers. -/
abbrev RI (W : World) (base : Nat) (ok : Nat → Prop) (v : Value) (xs : List Int) : Prop := Kd.R (Kd.int .i64) 3 W base ok v xs
structure MS (w W : World) (base g bm b : Nat) (ok : Nat → Prop) (win nx : Int) (f : Hd Int) (k n : Nat) (vs vv : Value) (seq val : List Int) : Prop where
  bs : BS W g bm n win nx f k
  bk : Bk W base ok b
  rs : RI W base (fun j => ¬ ok j) vs seq
  rv : RI W base (fun j => ¬ ok j) vv val
  ne : ∀ j, vs.ownBlock = some j → vv.ownBlock ≠ some j
  bel : Below w.heap.size w W
  lo : w.heap.size ≤ g ∧ w.heap.size ≤ bm ∧ g < base ∧ bm < base ∧ base ≤ W.heap.size
variable {w W W1 : World} {base g bm b : Nat} {ok : Nat → Prop} {win nx : Int} {f : Hd Int} {k n : Nat} {vs vv : Value} {seq val : List Int}
theorem RI.lt {ok : Nat → Prop} {v : Value} {xs : List Int} (h : RI W base ok v xs) {j : Nat} (hj : v.ownBlock = some j) : base ≤ j ∧ j < W.heap.size ∧ ok j := by
  obtain ⟨h0, inner, ho, hr⟩ := h
  exact ⟨own_base ho j hj, own_lt ho j hj, h0 j hj⟩
theorem MS.below (h : MS w W base g bm b ok win nx f k n vs vv seq val) (hb : Below W.heap.size W W1) : MS w W1 base g bm b ok win nx f k n vs vv seq val :=
  ⟨h.bs.below hb, h.bk.below hb, Kd.R_below h.rs hb, Kd.R_below h.rv hb, h.ne, h.bel.trans (hb.mono h.bel.size), ⟨h.lo.1, h.lo.2.1, h.lo.2.2.1, h.lo.2.2.2.1, Nat.le_trans h.lo.2.2.2.2 hb.size⟩⟩
/-- The Buffer has been written. -/
theorem MS.put {nx' : Int} {f' : Hd Int} {k' n' : Nat} (h : MS w W base g bm b ok win nx f k n vs vv seq val) (hs : BS W1 g bm n' win nx' f' k') (hc : Chg (fun j => j = g ∨ j = bm) W W1) : MS w W1 base g bm b ok win nx' f' k' n' vs vv seq val :=
  ⟨hs, h.bk.chg hc (fun j hj q => by have := (h.bk.rng j hj).1; have := h.lo; omega), R_chg h.rs hc (fun j hj => by have := h.lo; omega), R_chg h.rv hc (fun j hj => by have := h.lo; omega), h.ne,
    h.bel.trans (hc.below h.bel.size (fun j hj => by have := h.lo; omega)), ⟨h.lo.1, h.lo.2.1, h.lo.2.2.1, h.lo.2.2.2.1, Nat.le_trans h.lo.2.2.2.2 hc.size⟩⟩
/-- A new row in place of the numbers'. -/
theorem MS.newSeq {v' : Value} {xs : List Int} (h : MS w W base g bm b ok win nx f k n vs vv seq val) (hb : Below W.heap.size W W1) (hr : RI W1 W.heap.size (fun _ => True) v' xs) : MS w W1 base g bm b ok win nx f k n v' vv xs val := by
  have h' := h.below hb
  refine ⟨h'.bs, h'.bk, ?_, h'.rv, fun j hj q => ?_, h'.bel, h'.lo⟩
  · refine Kd.R_mono (Kd.R_lower (Kd.R_bound hr) h.lo.2.2.2.2) fun j hj hk => ?_
    have := (h.bk.rng j hk).2
    omega
  · have h1 := (RI.lt hr hj).1
    have h2 := (RI.lt h.rv q).2.1
    omega
theorem MS.newVal {v' : Value} {xs : List Int} (h : MS w W base g bm b ok win nx f k n vs vv seq val) (hb : Below W.heap.size W W1) (hr : RI W1 W.heap.size (fun _ => True) v' xs) : MS w W1 base g bm b ok win nx f k n vs v' seq xs := by
  have h' := h.below hb
  refine ⟨h'.bs, h'.bk, h'.rs, ?_, fun j hj q => ?_, h'.bel, h'.lo⟩
  · refine Kd.R_mono (Kd.R_lower (Kd.R_bound hr) h.lo.2.2.2.2) fun j hj hk => ?_
    have := (h.bk.rng j hk).2
    omega
  · have h1 := (RI.lt hr q).1
    have h2 := (RI.lt h.rs hj).2.1
    omega
/-- One number more (the row's own append). -/
theorem MS.appSeq {v' : Value} {xs : List Int} (h : MS w W base g bm b ok win nx f k n vs vv seq val) (hg : W.grownBy W1 vs.ownBlock) (hr : RI W1 base (fun j => ¬ ok j) v' xs) (hat : v'.ownBlock = vs.ownBlock ∨ ∃ j, v'.ownBlock = some j ∧ W.heap.size ≤ j) : MS w W1 base g bm b ok win nx f k n v' vv xs val := by
  have hgb : ∀ j, j < W.heap.size → vs.ownBlock ≠ some j → W1.heap[j]? = W.heap[j]? := fun j hj hn => hg.block j hj (fun e => hn e.symm)
  have hc : Chg (fun j => vs.ownBlock = some j) W W1 := ⟨hg.os, hg.tape, hg.output, hg.size, fun j hj hn => hgb j hj hn⟩
  have hlt := h.bs.lt
  have hbase : ∀ j, vs.ownBlock = some j → base ≤ j ∧ ¬ ok j := fun j hj => ⟨(RI.lt h.rs hj).1, (RI.lt h.rs hj).2.2⟩
  refine ⟨h.bs.chg hc (fun q => by have := (hbase g q).1; have := h.lo; omega) (fun q => by have := (hbase bm q).1; have := h.lo; omega), h.bk.chg hc (fun j hj q => (hbase j q).2 hj), hr, ?_, fun j hj q => ?_, ?_, ⟨h.lo.1, h.lo.2.1, h.lo.2.2.1, h.lo.2.2.2.1, Nat.le_trans h.lo.2.2.2.2 hg.size⟩⟩
  · have h1 : RI W base (fun j => ¬ ok j ∧ vs.ownBlock ≠ some j) vv val := by
      obtain ⟨h0, inner, ho, hq⟩ := h.rv
      exact Kd.R_of_own (Kd.own_of_R h.rv) (fun j hj => ⟨h0 j hj, fun e => h.ne j e hj⟩)
    exact Kd.R_mono (Kd.R_grown h1 hg (fun j hj e => hj.2 e.symm)) (fun _ hj => hj.1)
  · rcases hat with e | ⟨i, e, hi⟩
    · exact h.ne j (e ▸ hj) q
    · rw [e] at hj; injection hj with hj
      have := (RI.lt h.rv q).2.1
      omega
  · exact h.bel.trans (hc.below h.bel.size (fun j hj => by have := (hbase j hj).1; have := h.lo; omega))
theorem MS.appVal {v' : Value} {xs : List Int} (h : MS w W base g bm b ok win nx f k n vs vv seq val) (hg : W.grownBy W1 vv.ownBlock) (hr : RI W1 base (fun j => ¬ ok j) v' xs) (hat : v'.ownBlock = vv.ownBlock ∨ ∃ j, v'.ownBlock = some j ∧ W.heap.size ≤ j) : MS w W1 base g bm b ok win nx f k n vs v' seq xs := by
  have hs : MS w W base g bm b ok win nx f k n vv vs val seq := ⟨h.bs, h.bk, h.rv, h.rs, fun j hj q => h.ne j q hj, h.bel, h.lo⟩
  have r := hs.appSeq hg hr hat
  exact ⟨r.bs, r.bk, r.rv, r.rs, fun j hj q => r.ne j q hj, r.bel, r.lo⟩
/-- Blocks of others have been written. -/
theorem MS.other {okc : Nat → Prop} (h : MS w W base g bm b ok win nx f k n vs vv seq val) (hc : Chg okc W W1) (ho : ∀ j, okc j → base ≤ j ∧ ¬ ok j ∧ vs.ownBlock ≠ some j ∧ vv.ownBlock ≠ some j) : MS w W1 base g bm b ok win nx f k n vs vv seq val := by
  refine ⟨h.bs.chg hc (fun q => by have := (ho g q).1; have := h.lo; omega) (fun q => by have := (ho bm q).1; have := h.lo; omega), h.bk.chg hc (fun j hj q => (ho j q).2.1 hj), ?_, ?_, h.ne, h.bel.trans (hc.below h.bel.size (fun j hj => by have := (ho j hj).1; have := h.lo; omega)), ⟨h.lo.1, h.lo.2.1, h.lo.2.2.1, h.lo.2.2.2.1, Nat.le_trans h.lo.2.2.2.2 hc.size⟩⟩
  · have h1 : RI W base (fun j => ¬ ok j ∧ vs.ownBlock = some j) vs seq := by
      obtain ⟨h0, inner, hw, hq⟩ := h.rs
      exact Kd.R_of_own (Kd.own_of_R h.rs) (fun j hj => ⟨h0 j hj, hj⟩)
    exact Kd.R_mono (Kd.R_step h1 (fun j hj hlt => hc.block j hlt (fun q => (ho j q).2.2.1 hj.2))) (fun _ hj => hj.1)
  · have h1 : RI W base (fun j => ¬ ok j ∧ vv.ownBlock = some j) vv val := by
      obtain ⟨h0, inner, hw, hq⟩ := h.rv
      exact Kd.R_of_own (Kd.own_of_R h.rv) (fun j hj => ⟨h0 j hj, hj⟩)
    exact Kd.R_mono (Kd.R_step h1 (fun j hj hlt => hc.block j hlt (fun q => (ho j q).2.2.2 hj.2))) (fun _ hj => hj.1)
/-- A row that is neither the book's nor one of the two. -/
abbrev TL (W : World) (base : Nat) (ok : Nat → Prop) (vs vv v : Value) (xs : List Int) : Prop := RI W base (fun j => ¬ ok j ∧ vs.ownBlock ≠ some j ∧ vv.ownBlock ≠ some j) v xs
theorem TL.fresh {v : Value} {xs : List Int} (h : MS w W base g bm b ok win nx f k n vs vv seq val) (hr : RI W1 W.heap.size (fun _ => True) v xs) : TL W1 base ok vs vv v xs := by
  refine Kd.R_mono (Kd.R_lower (Kd.R_bound hr) h.lo.2.2.2.2) fun j hj => ⟨fun hk => ?_, fun q => ?_, fun q => ?_⟩
  · have := (h.bk.rng j hk).2; omega
  · have := (RI.lt h.rs q).2.1; omega
  · have := (RI.lt h.rv q).2.1; omega
theorem TL.newSeq {v v' : Value} {xs : List Int} (h : TL W base ok vs vv v xs) (hn : ∀ j, v'.ownBlock = some j → W.heap.size ≤ j) : TL W base ok v' vv v xs := by
  obtain ⟨h0, inner, hw, hq⟩ := h
  exact Kd.R_of_own (Kd.own_of_R ⟨h0, inner, hw, hq⟩) (fun j hj => ⟨(h0 j hj).1, fun q => by have := hn j q; have := own_lt hw j hj; omega, (h0 j hj).2.2⟩)
theorem TL.newVal {v v' : Value} {xs : List Int} (h : TL W base ok vs vv v xs) (hn : ∀ j, v'.ownBlock = some j → W.heap.size ≤ j) : TL W base ok vs v' v xs := by
  obtain ⟨h0, inner, hw, hq⟩ := h
  exact Kd.R_of_own (Kd.own_of_R ⟨h0, inner, hw, hq⟩) (fun j hj => ⟨(h0 j hj).1, (h0 j hj).2.1, fun q => by have := hn j q; have := own_lt hw j hj; omega⟩)
/-- The book has taken a row. -/
theorem MS.ints {okc : Nat → Prop} {v : Value} {xs : List Int} (h : MS w W base g bm b ok win nx f k n vs vv seq val) (ht : TL W base ok vs vv v xs) (hc : Chg okc W W1) (ho : ∀ j, okc j → ok j)
    (hb : Bk W1 base (fun j => ok j ∨ v.ownBlock = some j ∨ (W.heap.size ≤ j ∧ j < W1.heap.size)) b) : MS w W1 base g bm b (fun j => ok j ∨ v.ownBlock = some j ∨ (W.heap.size ≤ j ∧ j < W1.heap.size)) win nx f k n vs vv seq val := by
  have hlo := h.lo
  refine ⟨h.bs.chg hc (fun q => by have := (h.bk.rng g (ho g q)).1; omega) (fun q => by have := (h.bk.rng bm (ho bm q)).1; omega), hb, ?_, ?_, h.ne, h.bel.trans (hc.below h.bel.size (fun j hj => by have := (h.bk.rng j (ho j hj)).1; omega)), ⟨hlo.1, hlo.2.1, hlo.2.2.1, hlo.2.2.2.1, Nat.le_trans hlo.2.2.2.2 hc.size⟩⟩
  · have h1 : RI W base (fun j => ¬ ok j ∧ vs.ownBlock = some j ∧ j < W.heap.size) vs seq := by
      obtain ⟨h0, inner, hw, hq⟩ := h.rs
      exact Kd.R_of_own (Kd.own_of_R h.rs) (fun j hj => ⟨h0 j hj, hj, own_lt hw j hj⟩)
    refine Kd.R_mono (Kd.R_step h1 (fun j hj hlt => hc.block j hlt (fun q => hj.1 (ho j q)))) (fun j hj => ?_)
    rintro (q | q | q)
    · exact hj.1 q
    · exact (ht.1 j q).2.1 hj.2.1
    · omega
  · have h1 : RI W base (fun j => ¬ ok j ∧ vv.ownBlock = some j ∧ j < W.heap.size) vv val := by
      obtain ⟨h0, inner, hw, hq⟩ := h.rv
      exact Kd.R_of_own (Kd.own_of_R h.rv) (fun j hj => ⟨h0 j hj, hj, own_lt hw j hj⟩)
    refine Kd.R_mono (Kd.R_step h1 (fun j hj hlt => hc.block j hlt (fun q => hj.1 (ho j q)))) (fun j hj => ?_)
    rintro (q | q | q)
    · exact hj.1 q
    · exact (ht.1 j q).2.2 hj.2.1
    · omega
/-- Reading the rows. -/
theorem MS.readSeq (h : MS w W base g bm b ok win nx f k n vs vv seq val) : ∃ A c, vs = .slice A seq.length c ∧ Kd.C (Kd.int .i64) W A seq.length seq ∧ seq.length ≤ c := by
  obtain ⟨A, c, rfl⟩ := Kd.R_slice h.rs
  exact ⟨A, c, rfl, (Kd.R_reads' h.rs).2.2, (Kd.R_reads' h.rs).2.1⟩
theorem MS.readVal (h : MS w W base g bm b ok win nx f k n vs vv seq val) : ∃ A c, vv = .slice A val.length c ∧ Kd.C (Kd.int .i64) W A val.length val ∧ val.length ≤ c := by
  obtain ⟨A, c, rfl⟩ := Kd.R_slice h.rv
  exact ⟨A, c, rfl, (Kd.R_reads' h.rv).2.2, (Kd.R_reads' h.rv).2.1⟩
end Go.Proofs.Ytmbljhkblmdkoaa.Mg
