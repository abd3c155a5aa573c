/- MergePlays, as the row asks it. -/
import Derived.Test.YtmbljhkblmdkoaaMyzZMergePlays
namespace Go.Proofs.Ytmbljhkblmdkoaa.Mg
open Go.RowKit Go.Proofs.Ytmbljhkblmdkoaa.Q Go.Proofs.YtmbljhkblmdkoaaW.PrintWords Go.Proofs.YtmbljhkblmdkoaaW.PrintLast
theorem plays_row (win : Int) (A : Option Addr) (l : List (Int × Int)) (c : Nat) (w : World) (hwin : (Lit.int .i64 win).wf = true) (hp : PR w A l) (hc : l.length ≤ c) (_ : True) :
    Calls Try.prog 3 #[.int .i64 win, .slice A l.length c] w fun e w' => e = .returned (.bool true) ∧ Below w.heap.size w w' := plays_walk win A l c w hp hc hwin
end Go.Proofs.Ytmbljhkblmdkoaa.Mg
