/- MergePlays: a row of puts that came in, opened. -/
import Derived.Test.YtmbljhkblmdkoaaMywZMergePlays
namespace Go.Proofs.Ytmbljhkblmdkoaa.Mg
set_option linter.unusedVariables false
set_option linter.unusedSimpArgs false
open Go.RowKit Go.Proofs.Ytmbljhkblmdkoaa.Q Go.Proofs.YtmbljhkblmdkoaaW.PrintWords Go.Proofs.YtmbljhkblmdkoaaW.PrintLast
theorem choose_lt' {α : Type} [Inhabited α] {n : Nat} {p : Nat → α → Prop} (h : ∀ i, i < n → ∃ y, p i y) : ∃ q : Nat → α, ∀ i, i < n → p i (q i) :=
  ⟨fun i => if hi : i < n then (h i hi).choose else default, fun i hi => by simp only [dif_pos hi]; exact (h i hi).choose_spec⟩
/-- A row of puts, read. -/
def PR (W : World) (A : Option Addr) (l : List (Int × Int)) : Prop := l.length ≤ 9223372036854775807 ∧ (∀ p ∈ l, (Lit.int .i64 p.1).wf = true ∧ (Lit.int .i64 p.2).wf = true) ∧ (0 < l.length → ∃ ad, A = some ad ∧ ∀ j, j < l.length → W.cell? (ad.add (j * 2)) = some (.int .i64 (l.getD j (0, 0)).1) ∧ W.cell? ⟨(ad.add (j * 2)).block, (ad.add (j * 2)).off + 1, none⟩ = some (.int .i64 (l.getD j (0, 0)).2))
theorem PR.at_ {W : World} {A : Option Addr} {l : List (Int × Int)} (h : PR W A l) {j : Nat} (hj : j < l.length) : ∃ (ad : Addr) (s v : Int), A = some ad ∧ (Lit.int .i64 s).wf = true ∧ (Lit.int .i64 v).wf = true ∧ ∀ W' : World, Below W.heap.size W W' → W'.cell? (ad.add (j * 2)) = some (.int .i64 s) ∧ W'.cell? ⟨(ad.add (j * 2)).block, (ad.add (j * 2)).off + 1, none⟩ = some (.int .i64 v) := by
  obtain ⟨h1, h2, h3⟩ := h
  obtain ⟨ad, e, hc⟩ := h3 (by omega)
  have hw := h2 l[j] (List.getElem_mem hj)
  refine ⟨ad, _, _, e, hw.1, hw.2, fun W' hb => ?_⟩
  obtain ⟨c0, c1⟩ := hc j hj
  have eg : l.getD j (0, 0) = l[j] := by rw [List.getD_eq_getElem?_getD, List.getElem?_eq_getElem hj]; rfl
  rw [eg] at c0 c1
  exact ⟨(hb.cell (World.block_lt_of_cell? W _ c0)).trans c0, (hb.cell (World.block_lt_of_cell? W _ c1)).trans c1⟩
set_option maxHeartbeats 2000000 in
set_option maxRecDepth 100000 in
open Go.ChangeShapes Go.WideShapes Go.Deep in
theorem open_puts {H : Type} {enc : TypeId × Value → H} {W : World} {base : Nat} {sp_ : Nat → Bool} {hd : Bool} {fuel len cap : Nat} {A : Option Addr} {x : DataW H × List MemPlace} (h : DataW.trod enc Try.prog W base sp_ hd fuel 22 [.slice A len cap] = some x) :
    ∃ l : List (Int × Int), l.length = len ∧ PR W A l ∧ l.length ≤ cap ∧ True := by
  rcases open_slice Try.underlying22 h with ⟨hcs, _⟩ | ⟨a, len', cap', m, n, D, Pl, hcs, hb, hl, hm, hmm, _, hx⟩
  · simp at hcs
    obtain ⟨rfl, rfl, rfl⟩ := hcs
    exact ⟨[], rfl, ⟨by simp, fun p hp => by simp at hp, fun h => by simp at h⟩, Nat.le_refl _, trivial⟩
  · simp at hcs
    obtain ⟨rfl, rfl, rfl⟩ := hcs
    have hlm : len ≤ m := by rw [hmm]; split <;> omega
    have ce : Try.prog.cellsOf 37 = 2 := by kernel_rfl
    have each : ∀ i, i < len → ∃ y : Int × Int, ((Lit.int .i64 y.1).wf = true ∧ (Lit.int .i64 y.2).wf = true) ∧ W.cell? (a.add (i * 2)) = some (.int .i64 y.1) ∧ W.cell? (a.add (i * 2 + 1)) = some (.int .i64 y.2) := by
      intro i hi
      obtain ⟨cs', h1, h2⟩ := hx i (by omega)
      rw [ce] at h1
      obtain ⟨_, hlen, hcell⟩ := World.cells?_some h1
      obtain ⟨xs, k, hk, hxy, _, hxl, hf⟩ := DataW.trod_struct Try.underlying37 h2
      have c3 : Try.prog.cellsOf 3 = 1 := by kernel_rfl
      match xs, hxl, cs', hlen with
      | [y0, y1], _, [v0, v1], _ =>
        have g0 := hf 0 _ rfl
        have g1 := hf 1 _ rfl
        simp [c3] at g0 g1
        have e0 := hcell 0 (by omega)
        have e1 := hcell 1 (by omega)
        rw [Deep.add_add] at e0 e1
        obtain ⟨a0, q0, _, w0⟩ := DataW.trod_int Try.underlying3 g0
        obtain ⟨a1, q1, _, w1⟩ := DataW.trod_int Try.underlying3 g1
        simp at q0 q1
        subst q0 q1
        exact ⟨(a0, a1), ⟨w0, w1⟩, by simpa using e0, by simpa using e1⟩
    obtain ⟨q, hq⟩ := choose_lt' each
    have hlq : ((List.range len).map q).length = len := by simp
    refine ⟨(List.range len).map q, hlq, ⟨by rw [hlq]; simp [maxLen] at *; omega, fun p hp => ?_, fun _ => ⟨a, rfl, fun j hj => ?_⟩⟩, by rw [hlq]; omega, trivial⟩
    · obtain ⟨j, hj, rfl⟩ := List.mem_map.1 hp
      exact (hq j (List.mem_range.1 hj)).1
    · rw [hlq] at hj
      have eg : ((List.range len).map q).getD j (0, 0) = q j := by
        rw [List.getD_eq_getElem?_getD, List.getElem?_map, List.getElem?_range hj]; rfl
      rw [eg]
      obtain ⟨_, p0, p1⟩ := hq j hj
      exact ⟨p0, by rw [← add_field _ _ 1 (by omega)]; exact p1⟩
end Go.Proofs.Ytmbljhkblmdkoaa.Mg
