/- ScaledPlaces, as the row asks it. -/
import Derived.Test.YtjefmcfkhalagaaSpwZScaledPlaces
namespace Go.Proofs.Ytjefmcfkhalagaa.Scr
open Go.RowKit Go.Proofs.Ytjefmcfkhalagaa.Q Go.Proofs.YtjefmcfkhalagaaW.PrintWords Go.Proofs.YtjefmcfkhalagaaW.PrintLast
theorem places_row (n0 : Int) (A : Option Addr) (len c : Nat) (z : List Int) (A2 : Option Addr) (len2 c2 : Nat) (z2 : List Int) (w : World) (_ : (Lit.int .i64 n0).wf = true) (hz : (A = none ∧ len = 0 ∧ c = 0 ∧ z = []) ∨ ∃ x, A = some x ∧ len ≤ c ∧ c ≤ maxLen ∧ z.length = c ∧ (∀ i, i < z.length → w.cell? (x.add i) = some (.int .u8 (z.getD i 0))) ∧ ∀ n ∈ z, (Lit.int .u8 n).wf = true) (hb : len * 1 ≤ 140737488351232)
    (hz2 : (A2 = none ∧ len2 = 0 ∧ c2 = 0 ∧ z2 = []) ∨ ∃ x, A2 = some x ∧ len2 ≤ c2 ∧ c2 ≤ maxLen ∧ z2.length = c2 ∧ (∀ i, i < z2.length → w.cell? (x.add i) = some (.int .u8 (z2.getD i 0))) ∧ ∀ n ∈ z2, (Lit.int .u8 n).wf = true) (hb2 : len2 * 1 ≤ 140737488351232) :
    Calls Try.prog 5 #[.int .i64 n0, .slice A len c, .slice A2 len2 c2] w fun e w' => e = .returned (.bool true) ∧ Below w.heap.size w w' := by
  obtain ⟨l, rfl, hr, hm, hw, hc⟩ := ReadsInt.ofRowC hz
  obtain ⟨l2, rfl, hr2, hm2, hw2, hc2⟩ := ReadsInt.ofRowC hz2
  exact places_walk n0 A A2 l l2 c c2 w (Kd.C_of_reads (readsInt_of.1 hr)) hc (Kd.C_of_reads (readsInt_of.1 hr2)) hc2
end Go.Proofs.Ytjefmcfkhalagaa.Scr
