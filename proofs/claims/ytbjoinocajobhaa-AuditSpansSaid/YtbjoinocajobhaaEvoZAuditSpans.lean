/- A row of events that came in, opened; the boxes of events. -/
import Derived.Test.YtbjoinocajobhaaEvZAuditSpans
import Derived.Test.YtbjoinocajobhaaOpsZAuditSpans
import Derived.ChangeArms
namespace Go.Proofs.Ytbjoinocajobhaa.Evs
set_option linter.unusedVariables false
set_option linter.unusedSimpArgs false
open Go.RowKit Go.Proofs.Ytbjoinocajobhaa.Q Go.Proofs.YtbjoinocajobhaaW.PrintWords Go.Proofs.YtbjoinocajobhaaW.PrintLast Go.Proofs.Ytbjoinocajobhaa.Ju
def Six (W : World) (b o : Nat) (x : E6) : Prop := W.cell? ⟨b, o, none⟩ = some (.int .i64 x.f0) ∧ W.cell? ⟨b, o + 1, none⟩ = some (.int .i64 x.f1) ∧ W.cell? ⟨b, o + 2, none⟩ = some (.int .i64 x.f2) ∧ W.cell? ⟨b, o + 3, none⟩ = some (.bool x.f3) ∧ W.cell? ⟨b, o + 4, none⟩ = some (.int .i64 x.f4) ∧ W.cell? ⟨b, o + 5, none⟩ = some (.int .i64 x.f5)
/-- A row of events, read. -/
def ER (W : World) (A : Option Addr) (l : List E6) : Prop := l.length ≤ 9223372036854775807 ∧ (0 < l.length → ∃ ad, A = some ad ∧ ∀ j, j < l.length →
  W.cell? (ad.add (j * 6)) = some (.int .i64 (ev l j).f0) ∧ W.cell? ⟨(ad.add (j * 6)).block, (ad.add (j * 6)).off + 1, none⟩ = some (.int .i64 (ev l j).f1) ∧ W.cell? ⟨(ad.add (j * 6)).block, (ad.add (j * 6)).off + 2, none⟩ = some (.int .i64 (ev l j).f2) ∧
  W.cell? ⟨(ad.add (j * 6)).block, (ad.add (j * 6)).off + 3, none⟩ = some (.bool (ev l j).f3) ∧ W.cell? ⟨(ad.add (j * 6)).block, (ad.add (j * 6)).off + 4, none⟩ = some (.int .i64 (ev l j).f4) ∧ W.cell? ⟨(ad.add (j * 6)).block, (ad.add (j * 6)).off + 5, none⟩ = some (.int .i64 (ev l j).f5))
theorem ER.at_ {w W : World} {A : Option Addr} {l : List E6} (h : ER w A l) (hb : Below w.heap.size w W) {j : Nat} (hj : j < l.length) : ∃ ad, A = some ad ∧ W.cell? (ad.add (j * 6)) = some (.int .i64 (ev l j).f0) ∧ W.cell? ⟨(ad.add (j * 6)).block, (ad.add (j * 6)).off + 1, none⟩ = some (.int .i64 (ev l j).f1) ∧ W.cell? ⟨(ad.add (j * 6)).block, (ad.add (j * 6)).off + 2, none⟩ = some (.int .i64 (ev l j).f2) ∧
  W.cell? ⟨(ad.add (j * 6)).block, (ad.add (j * 6)).off + 3, none⟩ = some (.bool (ev l j).f3) ∧ W.cell? ⟨(ad.add (j * 6)).block, (ad.add (j * 6)).off + 4, none⟩ = some (.int .i64 (ev l j).f4) ∧ W.cell? ⟨(ad.add (j * 6)).block, (ad.add (j * 6)).off + 5, none⟩ = some (.int .i64 (ev l j).f5) := by
  obtain ⟨ad, e, hc⟩ := h.2 (by omega)
  obtain ⟨c0, c1, c2, c3, c4, c5⟩ := hc j hj
  have k := fun {x : Addr} {v : Value} (q : w.cell? x = some v) => (hb.cell (World.block_lt_of_cell? w _ q)).trans q
  exact ⟨ad, e, k c0, k c1, k c2, k c3, k c4, k c5⟩
theorem ER.take {W : World} {A : Option Addr} {l : List E6} (h : ER W A l) (n : Nat) : ER W A (l.take n) := by
  refine ⟨by rw [List.length_take]; have := h.1; omega, fun h0 => ?_⟩
  have hl : (l.take n).length ≤ l.length := by rw [List.length_take]; omega
  obtain ⟨ad, e, hc⟩ := h.2 (by omega)
  refine ⟨ad, e, fun j hj => ?_⟩
  have : ev (l.take n) j = ev l j := by
    unfold ev
    rw [List.getD_eq_getElem?_getD, List.getD_eq_getElem?_getD, List.getElem?_take, if_pos (by rw [List.length_take] at hj; omega)]
  rw [this]
  exact hc j (by omega)
theorem ER.below {W W' : World} {A : Option Addr} {l : List E6} (h : ER W A l) (hb : Below W.heap.size W W') : ER W' A l := ⟨h.1, fun h0 => by
  obtain ⟨ad, e, _⟩ := h.2 h0
  refine ⟨ad, e, fun j hj => ?_⟩
  obtain ⟨ad', e', hc⟩ := h.at_ hb hj
  rw [e] at e'
  obtain rfl := Option.some.inj e'
  exact hc⟩
set_option maxHeartbeats 2000000 in
set_option maxRecDepth 100000 in
open Go.ChangeShapes Go.WideShapes Go.Deep in
theorem open_events {H : Type} {enc : TypeId × Value → H} {W : World} {base : Nat} {sp_ : Nat → Bool} {hd : Bool} {fuel len cap : Nat} {A : Option Addr} {x : DataW H × List MemPlace} (h : DataW.trod enc Try.prog W base sp_ hd fuel 53 [.slice A len cap] = some x) :
    ∃ l : List E6, l.length = len ∧ ER W A l ∧ l.length ≤ cap ∧ ∀ y ∈ l, (Lit.int .i64 y.f0).wf = true := by
  rcases open_slice Try.underlying53 h with ⟨hcs, _⟩ | ⟨a, len', cap', m, n, D, Pl, hcs, hb, hl, hm, hmm, _, hx⟩
  · simp at hcs
    obtain ⟨rfl, rfl, rfl⟩ := hcs
    exact ⟨[], rfl, ⟨by simp, fun h => by simp at h⟩, Nat.le_refl _, fun y hy => by cases hy⟩
  · simp at hcs
    obtain ⟨rfl, rfl, rfl⟩ := hcs
    have hlm : len ≤ m := by rw [hmm]; split <;> omega
    have ce : Try.prog.cellsOf 83 = 6 := by kernel_rfl
    have each : ∀ i, i < len → ∃ y : E6, (Lit.int .i64 y.f0).wf = true ∧ W.cell? (a.add (i * 6)) = some (.int .i64 y.f0) ∧ W.cell? (a.add (i * 6 + 1)) = some (.int .i64 y.f1) ∧ W.cell? (a.add (i * 6 + 2)) = some (.int .i64 y.f2) ∧ W.cell? (a.add (i * 6 + 3)) = some (.bool y.f3) ∧ W.cell? (a.add (i * 6 + 4)) = some (.int .i64 y.f4) ∧ W.cell? (a.add (i * 6 + 5)) = some (.int .i64 y.f5) := by
      intro i hi
      obtain ⟨cs', h1, h2⟩ := hx i (by omega)
      rw [ce] at h1
      obtain ⟨_, hlen, hcell⟩ := World.cells?_some h1
      obtain ⟨xs, k, hk, hxy, _, hxl, hf⟩ := DataW.trod_struct Try.underlying83 h2
      have c3 : Try.prog.cellsOf 3 = 1 := by kernel_rfl
      have c4 : Try.prog.cellsOf 4 = 1 := by kernel_rfl
      have c5 : Try.prog.cellsOf 24 = 1 := by kernel_rfl
      match xs, hxl, cs', hlen with
      | [y0, y1, y2, y3, y4, y5], _, [v0, v1, v2, v3, v4, v5], _ =>
        have g0 := hf 0 _ rfl
        have g1 := hf 1 _ rfl
        have g2 := hf 2 _ rfl
        have g3 := hf 3 _ rfl
        have g4 := hf 4 _ rfl
        have g5 := hf 5 _ rfl
        simp [c3, c4, c5] at g0 g1 g2 g3 g4 g5
        have e0 := hcell 0 (by omega)
        have e1 := hcell 1 (by omega)
        have e2 := hcell 2 (by omega)
        have e3 := hcell 3 (by omega)
        have e4 := hcell 4 (by omega)
        have e5 := hcell 5 (by omega)
        rw [Deep.add_add] at e0 e1 e2 e3 e4 e5
        obtain ⟨a0, q0, _, w0⟩ := DataW.trod_int Try.underlying3 g0
        obtain ⟨a1, q1, _, w1⟩ := DataW.trod_int Try.underlying3 g1
        obtain ⟨a2, q2, _, w2⟩ := DataW.trod_int Try.underlying3 g2
        obtain ⟨a3, q3, _⟩ := DataW.trod_bool Try.underlying4 g3
        obtain ⟨a4, q4, _, w4⟩ := DataW.trod_int Try.underlying24 g4
        obtain ⟨a5, q5, _, w5⟩ := DataW.trod_int Try.underlying3 g5
        simp at q0 q1 q2 q3 q4 q5
        subst q0 q1 q2 q3 q4 q5
        exact ⟨⟨a0, a1, a2, a3, a4, a5⟩, w0, by simpa using e0, by simpa using e1, by simpa using e2, by simpa using e3, by simpa using e4, by simpa using e5⟩
    obtain ⟨q, hq⟩ := choose_lt each
    have hlq : ((List.range len).map q).length = len := by simp
    refine ⟨(List.range len).map q, hlq, ⟨by rw [hlq]; simp [maxLen] at *; omega, fun _ => ⟨a, rfl, fun j hj => ?_⟩⟩, by rw [hlq]; omega, fun y hy => ?_⟩
    · rw [hlq] at hj
      have eg : ev ((List.range len).map q) j = q j := by
        unfold ev
        rw [List.getD_eq_getElem?_getD, List.getElem?_map, List.getElem?_range hj]; rfl
      rw [eg]
      obtain ⟨_, p0, p1, p2, p3, p4, p5⟩ := hq j hj
      exact ⟨p0, by rw [← add_field _ _ 1 (by omega)]; exact p1, by rw [← add_field _ _ 2 (by omega)]; exact p2, by rw [← add_field _ _ 3 (by omega)]; exact p3, by rw [← add_field _ _ 4 (by omega)]; exact p4, by rw [← add_field _ _ 5 (by omega)]; exact p5⟩
    · obtain ⟨j, hj, rfl⟩ := List.mem_map.1 hy
      exact (hq j (List.mem_range.1 hj)).1
end Go.Proofs.Ytbjoinocajobhaa.Evs
