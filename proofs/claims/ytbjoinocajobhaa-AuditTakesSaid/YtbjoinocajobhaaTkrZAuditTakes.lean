/- AuditTakes, as the row asks it. -/
import Derived.Test.YtbjoinocajobhaaTkyZAuditTakes
namespace Go.Proofs.Ytbjoinocajobhaa.Ju
open Go.RowKit Go.Proofs.Ytbjoinocajobhaa.Q Go.Proofs.YtbjoinocajobhaaW.PrintWords Go.Proofs.YtbjoinocajobhaaW.PrintLast
theorem takes_row (A : Option Addr) (l : List T4) (c : Nat) (tn : Int) (w : World) (ht : TR w A l) (hc : l.length ≤ c) (_ : True) (_ : (Lit.int .i64 tn).wf = true) :
    Calls Try.prog 5 #[.slice A l.length c, .int .i64 tn] w fun e w' => e = .returned (.bool true) ∧ Below w.heap.size w w' := takes_walk A l c tn w ht hc
end Go.Proofs.Ytbjoinocajobhaa.Ju
