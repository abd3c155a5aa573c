/- AuditEnds: the printed law function answers true. -/
import Derived.Test.YtbjoinocajobhaaJucZAuditEnds
import Derived.Test.YtbjoinocajobhaaQ1ZAuditEnds
namespace Go.Proofs.Ytbjoinocajobhaa.Pure
theorem AuditEnds : Q.mintagelaw31_AuditEnds.Pure := ⟨60, by decide +kernel⟩
end Go.Proofs.Ytbjoinocajobhaa.Pure
