/- MergePerm, as the row asks it. -/
import Derived.Test.YtmbljhkblmdkoaaMpwZMergePerm
namespace Go.Proofs.Ytmbljhkblmdkoaa.Mg
open Go.RowKit Go.Proofs.Ytmbljhkblmdkoaa.Q Go.Proofs.YtmbljhkblmdkoaaW.PrintWords Go.Proofs.YtmbljhkblmdkoaaW.PrintLast
theorem perm_row (win0 n0 : Int) (A : Option Addr) (len c : Nat) (z : List Int) (w : World) (_ : (Lit.int .i64 win0).wf = true) (_ : (Lit.int .i64 n0).wf = true) (hz : (A = none ∧ len = 0 ∧ c = 0 ∧ z = []) ∨ ∃ x, A = some x ∧ len ≤ c ∧ c ≤ maxLen ∧ z.length = c ∧ (∀ i, i < z.length → w.cell? (x.add i) = some (.int .i64 (z.getD i 0))) ∧ ∀ n ∈ z, (Lit.int .i64 n).wf = true) (hb : len * 8 ≤ 140737488351232) :
    Calls Try.prog 5 #[.int .i64 win0, .int .i64 n0, .slice A len c] w fun e w' => e = .returned (.bool true) ∧ Below w.heap.size w w' := by
  obtain ⟨l, rfl, hr, hm, hw, hc⟩ := ReadsInt.ofRowC hz
  exact perm_walk win0 n0 A l c w (Kd.C_of_reads (readsInt_of.1 hr)) hc (by omega)
end Go.Proofs.Ytmbljhkblmdkoaa.Mg
