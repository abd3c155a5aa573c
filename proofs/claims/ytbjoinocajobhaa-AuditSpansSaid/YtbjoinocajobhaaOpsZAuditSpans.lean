/- A row of spans that came in, opened. -/
import Derived.Test.YtbjoinocajobhaaJuaZAuditSpans
import Derived.Deep.Slices
import Derived.ChangeSame
import Derived.SizedLaws
import Derived.ShutString
import Derived.OpenShut
import Derived.ProofKit
namespace Go.Proofs.Ytbjoinocajobhaa.Ju
set_option linter.unusedVariables false
set_option linter.unusedSimpArgs false
open Go.RowKit Go.Proofs.Ytbjoinocajobhaa.Q Go.Proofs.YtbjoinocajobhaaW.PrintWords Go.Proofs.YtbjoinocajobhaaW.PrintLast
def WfS (x : S32) : Prop := (Lit.int .i64 x.f0).wf = true ∧ (Lit.int .i64 x.f1).wf = true ∧ (Lit.int .i64 x.f2).wf = true ∧ (Lit.int .i64 x.f3).wf = true ∧ (Lit.int .i64 x.f4).wf = true
set_option maxHeartbeats 2000000 in
set_option maxRecDepth 100000 in
open Go.ChangeShapes Go.WideShapes Go.Deep in
theorem open_spans {H : Type} {enc : TypeId × Value → H} {W : World} {base : Nat} {sp_ : Nat → Bool} {hd : Bool} {fuel len cap : Nat} {A : Option Addr} {x : DataW H × List MemPlace} (h : DataW.trod enc Try.prog W base sp_ hd fuel 22 [.slice A len cap] = some x) :
    ∃ l : List S32, l.length = len ∧ Kd.C k32 W A l.length l ∧ l.length ≤ cap ∧ ∀ y ∈ l, WfS y := by
  rcases open_slice Try.underlying22 h with ⟨hcs, _⟩ | ⟨a, len', cap', m, n, D, Pl, hcs, hb, hl, hm, hmm, _, hx⟩
  · simp at hcs
    obtain ⟨rfl, rfl, rfl⟩ := hcs
    exact ⟨[], rfl, ⟨rfl, by simp, fun h => by simp at h⟩, Nat.le_refl _, fun y hy => by cases hy⟩
  · simp at hcs
    obtain ⟨rfl, rfl, rfl⟩ := hcs
    have hlm : len ≤ m := by rw [hmm]; split <;> omega
    have ce : Try.prog.cellsOf 32 = 5 := by kernel_rfl
    have each : ∀ i, i < len → ∃ y : S32, WfS y ∧ W.cell? (a.add (i * 5)) = some (.int .i64 y.f0) ∧ W.cell? (a.add (i * 5 + 1)) = some (.int .i64 y.f1) ∧ W.cell? (a.add (i * 5 + 2)) = some (.int .i64 y.f2) ∧ W.cell? (a.add (i * 5 + 3)) = some (.int .i64 y.f3) ∧ W.cell? (a.add (i * 5 + 4)) = some (.int .i64 y.f4) := by
      intro i hi
      obtain ⟨cs', h1, h2⟩ := hx i (by omega)
      rw [ce] at h1
      obtain ⟨_, hlen, hcell⟩ := World.cells?_some h1
      obtain ⟨xs, k, hk, hxy, _, hxl, hf⟩ := DataW.trod_struct Try.underlying32 h2
      have c3 : Try.prog.cellsOf 3 = 1 := by kernel_rfl
      have c4 : Try.prog.cellsOf 24 = 1 := by kernel_rfl
      match xs, hxl, cs', hlen with
      | [y0, y1, y2, y3, y4], _, [v0, v1, v2, v3, v4], _ =>
        have g0 := hf 0 _ rfl
        have g1 := hf 1 _ rfl
        have g2 := hf 2 _ rfl
        have g3 := hf 3 _ rfl
        have g4 := hf 4 _ rfl
        simp [c3, c4] at g0 g1 g2 g3 g4
        have e0 := hcell 0 (by omega)
        have e1 := hcell 1 (by omega)
        have e2 := hcell 2 (by omega)
        have e3 := hcell 3 (by omega)
        have e4 := hcell 4 (by omega)
        rw [Deep.add_add] at e0 e1 e2 e3 e4
        obtain ⟨a0, q0, _, w0⟩ := DataW.trod_int Try.underlying3 g0
        obtain ⟨a1, q1, _, w1⟩ := DataW.trod_int Try.underlying3 g1
        obtain ⟨a2, q2, _, w2⟩ := DataW.trod_int Try.underlying3 g2
        obtain ⟨a3, q3, _, w3⟩ := DataW.trod_int Try.underlying24 g3
        obtain ⟨a4, q4, _, w4⟩ := DataW.trod_int Try.underlying3 g4
        simp at q0 q1 q2 q3 q4
        subst q0 q1 q2 q3 q4
        exact ⟨⟨a0, a1, a2, a3, a4⟩, ⟨w0, w1, w2, w3, w4⟩, by simpa using e0, by simpa using e1, by simpa using e2, by simpa using e3, by simpa using e4⟩
    haveI : Inhabited S32 := ⟨z32⟩
    obtain ⟨q, hq⟩ := choose_lt each
    refine ⟨(List.range len).map q, by simp, ?_, by simp; omega, fun y hy => ?_⟩
    · refine ⟨by simp, by simp [maxLen] at *; omega, fun hp => ⟨a, rfl, fun j p hj => ?_⟩⟩
      obtain ⟨hjl, rfl⟩ := List.getElem?_eq_some_iff.1 hj
      simp only [List.length_map, List.length_range] at hjl
      simp only [List.getElem_map, List.getElem_range]
      obtain ⟨_, p0, p1, p2, p3, p4⟩ := hq j hjl
      refine ⟨_, rfl, k32_mk W (q j), fun i u hu => ?_⟩
      match i, hu with
      | 0, hu => obtain rfl := Option.some.inj hu; exact p0
      | 1, hu => obtain rfl := Option.some.inj hu; exact p1
      | 2, hu => obtain rfl := Option.some.inj hu; exact p2
      | 3, hu => obtain rfl := Option.some.inj hu; exact p3
      | 4, hu => obtain rfl := Option.some.inj hu; exact p4
    · obtain ⟨j, hj, rfl⟩ := List.mem_map.1 hy
      exact (hq j (List.mem_range.1 hj)).1
/-- The first ones of a row. -/
theorem C_take {w : World} {A : Option Addr} {l : List S32} (h : Kd.C k32 w A l.length l) (n : Nat) (hn : n ≤ l.length) : Kd.C k32 w A (l.take n).length (l.take n) := by
  have hlen : (l.take n).length = n := by rw [List.length_take]; omega
  refine ⟨rfl, by have := h.2.1; omega, fun hp => ?_⟩
  obtain ⟨ad, e, hc⟩ := h.2.2 (by omega)
  refine ⟨ad, e, fun j p hj => hc j p ?_⟩
  obtain ⟨hjl, rfl⟩ := List.getElem?_eq_some_iff.1 hj
  rw [List.getElem?_eq_getElem (by omega), List.getElem_take]
end Go.Proofs.Ytbjoinocajobhaa.Ju
