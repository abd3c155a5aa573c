/- A row of whole numbers of the call's own, cell by cell: it may be written. -/
import Derived.Test.YtjefmcfkhalagaaKeep0ZScaledReads
import Derived.WalkSpells
namespace Go.Proofs.Ytjefmcfkhalagaa.Keep
set_option linter.unusedVariables false
open Go.RowKit Go.Proofs.YtjefmcfkhalagaaW.PrintWords Go.Proofs.YtjefmcfkhalagaaW.PrintLast
def IR (k : IntKind) (e : TypeId) (W : World) (g : Nat) (l : List Int) : Prop := ∃ cur : Array Value, W.heap[g]? = some (.cells cur e (0, 0)) ∧ ∀ j, j < l.length → cur[j]? = some (.int k (l.getD j 0))
variable {k : IntKind} {e : TypeId} {W W' : World} {g : Nat} {l : List Int}
theorem IR.keep (h : IR k e W g l) (he : W'.heap[g]? = W.heap[g]?) : IR k e W' g l := by
  obtain ⟨cur, hc, hh⟩ := h
  exact ⟨cur, he.trans hc, hh⟩
theorem IR.lt (h : IR k e W g l) : g < W.heap.size := by
  obtain ⟨cur, hc, _⟩ := h
  exact blk_lt hc
theorem IR.below {b : Nat} (h : IR k e W g l) (hb : Below b W W') (hg : g < b) : IR k e W' g l := h.keep (hb.block g hg)
theorem IR.frozen (h : IR k e W g l) (i : Nat) : W.frozen? ⟨g, i, none⟩ = false := by
  obtain ⟨cur, hc, _⟩ := h
  exact blk_frozen hc i
theorem IR.cell (h : IR k e W g l) {j : Nat} (hj : j < l.length) : W.cell? ⟨g, j, none⟩ = some (.int k (l.getD j 0)) := by
  obtain ⟨cur, hc, hh⟩ := h
  exact (blk_cell hc _).trans (hh j hj)
theorem IR.put (h : IR k e W g l) {i : Nat} (hi : i < l.length) (x : Int) : IR k e (W.setCell ⟨g, i, none⟩ (.int k x)) g (l.set i x) := by
  obtain ⟨cur, hc, hh⟩ := h
  refine ⟨_, blk_set hc _ _, fun j hj => ?_⟩
  rw [List.length_set] at hj
  have hin := (Array.getElem?_eq_some_iff.1 (hh i hi)).1
  simp only [Array.getElem?_setIfInBounds]
  by_cases q : i = j
  · subst q
    rw [if_pos rfl, if_pos hin, List.getD_eq_getElem?_getD, List.getElem?_set_self hi]; rfl
  · rw [if_neg q, hh j hj, List.getD_eq_getElem?_getD, List.getD_eq_getElem?_getD, List.getElem?_set_ne q]
theorem IR.other {g' i : Nat} {v : Value} (h : IR k e W g l) (hne : g' ≠ g) : IR k e (W.setCell ⟨g', i, none⟩ v) g l := h.keep (Below.heap_setCell _ _ _ _ (fun q => hne q.symm))
theorem IR.C (h : IR k e W g l) (hl : l.length ≤ 9223372036854775807) : Kd.C (Kd.int k) W (some ⟨g, 0, none⟩) l.length l := by
  refine Kd.C_of_reads (d := (0 : Int)) (h1 := fun _ => rfl) (readsInt_of.1 ⟨rfl, hl, fun _ => ⟨_, rfl, fun j hj => ?_⟩⟩)
  rw [add_plain, h.cell hj]
theorem IR.of_R {base : Nat} {ok : Nat → Prop} {v : Value} (h : Kd.R (Kd.int k) e W base ok v l) (h0 : l ≠ []) : ∃ g cap, v = .slice (some ⟨g, 0, none⟩) l.length cap ∧ base ≤ g ∧ IR k e W g l ∧ l.length ≤ cap := by
  have hp := List.length_pos_iff.2 h0
  obtain ⟨inner, o⟩ := Kd.R_own h
  obtain ⟨A, c, hv⟩ := Kd.R_slice h
  subst hv
  have C := (Kd.R_reads' h).2.2
  have hle := (Kd.R_reads' h).2.1
  rcases o.2 with ⟨hn, _⟩ | ⟨g, cap, cur, hv2, hb, _⟩
  · injection hn with h1 h2; omega
  · injection hv2 with h1 h2 h3
    subst h1
    obtain ⟨cells, hc⟩ := own_typed o g rfl
    refine ⟨g, c, rfl, hb, ⟨cells, hc, fun j hj => ?_⟩, hle⟩
    obtain ⟨ad, e1, hx⟩ := Kd.at_int C (j : Int) (by omega) (by omega)
    obtain rfl := Option.some.inj e1
    rw [Int.toNat_natCast, add_plain] at hx
    unfold rd at hx
    rw [Int.toNat_natCast] at hx
    exact (blk_cell hc _).symm.trans hx
end Go.Proofs.Ytjefmcfkhalagaa.Keep
