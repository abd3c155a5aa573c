/- AuditTakes: a row of turns that came in, opened. -/
import Derived.Test.YtbjoinocajobhaaOpsZAuditTakes
import Derived.ChangeArms
namespace Go.Proofs.Ytbjoinocajobhaa.Ju
set_option linter.unusedVariables false
set_option linter.unusedSimpArgs false
open Go.RowKit Go.Proofs.Ytbjoinocajobhaa.Q Go.Proofs.YtbjoinocajobhaaW.PrintWords Go.Proofs.YtbjoinocajobhaaW.PrintLast
structure T4 where
  f0 : Int
  f1 : Int
  f2 : Int
  f3 : Bool
instance : Inhabited T4 := ⟨⟨0, 0, 0, false⟩⟩
/-- A row of turns, read. -/
def TR (W : World) (A : Option Addr) (l : List T4) : Prop := l.length ≤ 9223372036854775807 ∧ (0 < l.length → ∃ ad, A = some ad ∧ ∀ j, j < l.length → W.cell? (ad.add (j * 4)) = some (.int .i64 (l.getD j default).f0) ∧ W.cell? ⟨(ad.add (j * 4)).block, (ad.add (j * 4)).off + 1, none⟩ = some (.int .i64 (l.getD j default).f1) ∧
  W.cell? ⟨(ad.add (j * 4)).block, (ad.add (j * 4)).off + 2, none⟩ = some (.int .i64 (l.getD j default).f2) ∧ W.cell? ⟨(ad.add (j * 4)).block, (ad.add (j * 4)).off + 3, none⟩ = some (.bool (l.getD j default).f3))
theorem TR.below {W W' : World} {A : Option Addr} {l : List T4} (h : TR W A l) (hb : Below W.heap.size W W') : TR W' A l := ⟨h.1, fun h0 => by
  obtain ⟨ad, e, hc⟩ := h.2 h0
  refine ⟨ad, e, fun j hj => ?_⟩
  obtain ⟨c0, c1, c2, c3⟩ := hc j hj
  exact ⟨(hb.cell (World.block_lt_of_cell? W _ c0)).trans c0, (hb.cell (World.block_lt_of_cell? W _ c1)).trans c1, (hb.cell (World.block_lt_of_cell? W _ c2)).trans c2, (hb.cell (World.block_lt_of_cell? W _ c3)).trans c3⟩⟩
set_option maxHeartbeats 2000000 in
set_option maxRecDepth 100000 in
open Go.ChangeShapes Go.WideShapes Go.Deep in
theorem open_turns {H : Type} {enc : TypeId × Value → H} {W : World} {base : Nat} {sp_ : Nat → Bool} {hd : Bool} {fuel len cap : Nat} {A : Option Addr} {x : DataW H × List MemPlace} (h : DataW.trod enc Try.prog W base sp_ hd fuel 47 [.slice A len cap] = some x) :
    ∃ l : List T4, l.length = len ∧ TR W A l ∧ l.length ≤ cap ∧ True := by
  rcases open_slice Try.underlying47 h with ⟨hcs, _⟩ | ⟨a, len', cap', m, n, D, Pl, hcs, hb, hl, hm, hmm, _, hx⟩
  · simp at hcs
    obtain ⟨rfl, rfl, rfl⟩ := hcs
    exact ⟨[], rfl, ⟨by simp, fun h => by simp at h⟩, Nat.le_refl _, trivial⟩
  · simp at hcs
    obtain ⟨rfl, rfl, rfl⟩ := hcs
    have hlm : len ≤ m := by rw [hmm]; split <;> omega
    have ce : Try.prog.cellsOf 78 = 4 := by kernel_rfl
    have each : ∀ i, i < len → ∃ y : T4, W.cell? (a.add (i * 4)) = some (.int .i64 y.f0) ∧ W.cell? (a.add (i * 4 + 1)) = some (.int .i64 y.f1) ∧ W.cell? (a.add (i * 4 + 2)) = some (.int .i64 y.f2) ∧ W.cell? (a.add (i * 4 + 3)) = some (.bool y.f3) := by
      intro i hi
      obtain ⟨cs', h1, h2⟩ := hx i (by omega)
      rw [ce] at h1
      obtain ⟨_, hlen, hcell⟩ := World.cells?_some h1
      obtain ⟨xs, k, hk, hxy, _, hxl, hf⟩ := DataW.trod_struct Try.underlying78 h2
      have c3 : Try.prog.cellsOf 3 = 1 := by kernel_rfl
      have c4 : Try.prog.cellsOf 4 = 1 := by kernel_rfl
      match xs, hxl, cs', hlen with
      | [y0, y1, y2, y3], _, [v0, v1, v2, v3], _ =>
        have g0 := hf 0 _ rfl
        have g1 := hf 1 _ rfl
        have g2 := hf 2 _ rfl
        have g3 := hf 3 _ rfl
        simp [c3, c4] at g0 g1 g2 g3
        have e0 := hcell 0 (by omega)
        have e1 := hcell 1 (by omega)
        have e2 := hcell 2 (by omega)
        have e3 := hcell 3 (by omega)
        rw [Deep.add_add] at e0 e1 e2 e3
        obtain ⟨a0, q0, _, w0⟩ := DataW.trod_int Try.underlying3 g0
        obtain ⟨a1, q1, _, w1⟩ := DataW.trod_int Try.underlying3 g1
        obtain ⟨a2, q2, _, w2⟩ := DataW.trod_int Try.underlying3 g2
        obtain ⟨a3, q3, _⟩ := DataW.trod_bool Try.underlying4 g3
        simp at q0 q1 q2 q3
        subst q0 q1 q2 q3
        exact ⟨⟨a0, a1, a2, a3⟩, by simpa using e0, by simpa using e1, by simpa using e2, by simpa using e3⟩
    obtain ⟨q, hq⟩ := choose_lt each
    have hlq : ((List.range len).map q).length = len := by simp
    refine ⟨(List.range len).map q, hlq, ⟨by rw [hlq]; simp [maxLen] at *; omega, fun _ => ⟨a, rfl, fun j hj => ?_⟩⟩, by rw [hlq]; omega, trivial⟩
    rw [hlq] at hj
    have eg : ((List.range len).map q).getD j default = q j := by
      rw [List.getD_eq_getElem?_getD, List.getElem?_map, List.getElem?_range hj]; rfl
    rw [eg]
    obtain ⟨p0, p1, p2, p3⟩ := hq j hj
    exact ⟨p0, by rw [← add_field _ _ 1 (by omega)]; exact p1, by rw [← add_field _ _ 2 (by omega)]; exact p2, by rw [← add_field _ _ 3 (by omega)]; exact p3⟩
end Go.Proofs.Ytbjoinocajobhaa.Ju
