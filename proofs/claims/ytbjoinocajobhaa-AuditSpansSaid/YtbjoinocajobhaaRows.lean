/-
  No cell of these rows narrows 'for every input' (looked for: loops, veiled, ifaces, maps, wideKeys, modest, calm, conditions, laid).
  DERIVED. THE GIVEN ROWS OF THIS SEAT. 8 by the template 'for every input the law returns true; each argument reads behind the call as it read before'; 0 by the template 'total and deterministic' (their statements: YtbjoinocajobhaaTotals.lean).
  GIVEN WITH THE SEED: the statements are not yours to turn. If you find one false, say at which input.
  Laid BY PROGRAM, IN A SANDBOX (cutbox-rows.mjs): the forced cells as the released guide's own fill.sh prints them over the translation 0288045ac01fa1e2… (all of the seat's roots in one cut). By AI agents, Wed Nov 11 2026. No macro, syntax, notation, axiom, sorry.
-/
import Derived.Test.YtbjoinocajobhaaChecked
import GoSem.Claim
import GoSem.ClaimJoined
import GoSem.ClaimMapViews
import Derived.JoinedTies
import Derived.KernelRfl
namespace Go.Proofs.Ytbjoinocajobhaa
/- THE CELL 'sum', in the pinned program and in every row, IS THE sha256 OF THE DUMP (.gsa) THAT YtbjoinocajobhaaProg.lean LOADS. Nothing in Lean hashes anything: it is a label: what it is worth is what the hold of that sum in a sandbox is worth. -/
noncomputable def Try.pinned : Pinned := { name := "ytbjoinocajobhaa", sum := "0288045ac01fa1e2a4358e3259ea5c6c4fd2845ce67b1aa56adc5a8f5387402e", checked := Try.checked }
namespace Rows
def none {H : Type} : Left H := { results := [], args := [] }

/-- 'mintagelaw31.AuditJudges': WHATEVER THE INPUT: true; the input reads as it did. -/
def auditJudgesSpec : ChangeSpec := { name := "auditJudges", fn := fun _ => fun
  | [d] => { results := [.lit (.bool true)], args := [d] }
  | _ => none }
def auditJudgesRow : OpenClaim := { program := "ytbjoinocajobhaa", sum := "0288045ac01fa1e2a4358e3259ea5c6c4fd2845ce67b1aa56adc5a8f5387402e", func := "mintage/mintagelaw31.AuditJudges", spec := "auditJudges", recurses := true, plainKeys := false, apart := false }
def AuditJudgesSaid : Prop := auditJudgesRow.holds Try.pinned (OpenSpec.ofChange auditJudgesSpec)

/-- ITS FALSE NEIGHBOUR: 'it returns false'. Refute it at one input. -/
def auditJudgesWrong : ChangeSpec := { name := "auditJudges", fn := fun _ => fun
  | [d] => { results := [.lit (.bool false)], args := [d] }
  | _ => none }
def AuditJudgesWrongFalsely : Prop := auditJudgesRow.holds Try.pinned (OpenSpec.ofChange auditJudgesWrong)

/-- 'mintagelaw31.AuditWitness': WHATEVER THE INPUT: true; the input reads as it did. -/
def auditWitnessSpec : ChangeSpec := { name := "auditWitness", fn := fun _ => fun
  | [d] => { results := [.lit (.bool true)], args := [d] }
  | _ => none }
def auditWitnessRow : OpenClaim := { program := "ytbjoinocajobhaa", sum := "0288045ac01fa1e2a4358e3259ea5c6c4fd2845ce67b1aa56adc5a8f5387402e", func := "mintage/mintagelaw31.AuditWitness", spec := "auditWitness", recurses := true, plainKeys := false, apart := false }
def AuditWitnessSaid : Prop := auditWitnessRow.holds Try.pinned (OpenSpec.ofChange auditWitnessSpec)

/-- ITS FALSE NEIGHBOUR: 'it returns false'. Refute it at one input. -/
def auditWitnessWrong : ChangeSpec := { name := "auditWitness", fn := fun _ => fun
  | [d] => { results := [.lit (.bool false)], args := [d] }
  | _ => none }
def AuditWitnessWrongFalsely : Prop := auditWitnessRow.holds Try.pinned (OpenSpec.ofChange auditWitnessWrong)

/-- 'mintagelaw31.AuditTakes': WHATEVER THE INPUT: true; the input reads as it did. -/
def auditTakesSpec : ChangeSpec := { name := "auditTakes", fn := fun _ => fun
  | [d1, d2] => { results := [.lit (.bool true)], args := [d1, d2] }
  | _ => none }
def auditTakesRow : OpenClaim := { program := "ytbjoinocajobhaa", sum := "0288045ac01fa1e2a4358e3259ea5c6c4fd2845ce67b1aa56adc5a8f5387402e", func := "mintage/mintagelaw31.AuditTakes", spec := "auditTakes", recurses := true, plainKeys := false, apart := false }
def AuditTakesSaid : Prop := auditTakesRow.holds Try.pinned (OpenSpec.ofChange auditTakesSpec)

/-- ITS FALSE NEIGHBOUR: 'it returns false'. Refute it at one input. -/
def auditTakesWrong : ChangeSpec := { name := "auditTakes", fn := fun _ => fun
  | [d1, d2] => { results := [.lit (.bool false)], args := [d1, d2] }
  | _ => none }
def AuditTakesWrongFalsely : Prop := auditTakesRow.holds Try.pinned (OpenSpec.ofChange auditTakesWrong)

/-- 'mintagelaw31.AuditLooser': WHATEVER THE INPUT: true; the input reads as it did. -/
def auditLooserSpec : ChangeSpec := { name := "auditLooser", fn := fun _ => fun
  | [d1, d2, d3, d4] => { results := [.lit (.bool true)], args := [d1, d2, d3, d4] }
  | _ => none }
def auditLooserRow : OpenClaim := { program := "ytbjoinocajobhaa", sum := "0288045ac01fa1e2a4358e3259ea5c6c4fd2845ce67b1aa56adc5a8f5387402e", func := "mintage/mintagelaw31.AuditLooser", spec := "auditLooser", recurses := true, plainKeys := false, apart := false }
def AuditLooserSaid : Prop := auditLooserRow.holds Try.pinned (OpenSpec.ofChange auditLooserSpec)

/-- ITS FALSE NEIGHBOUR: 'it returns false'. Refute it at one input. -/
def auditLooserWrong : ChangeSpec := { name := "auditLooser", fn := fun _ => fun
  | [d1, d2, d3, d4] => { results := [.lit (.bool false)], args := [d1, d2, d3, d4] }
  | _ => none }
def AuditLooserWrongFalsely : Prop := auditLooserRow.holds Try.pinned (OpenSpec.ofChange auditLooserWrong)

/-- 'mintagelaw31.AuditEnds': WHATEVER THE INPUT: true; the input reads as it did. -/
def auditEndsSpec : ChangeSpec := { name := "auditEnds", fn := fun _ => fun
  | [] => { results := [.lit (.bool true)], args := [] }
  | _ => none }
def auditEndsRow : OpenClaim := { program := "ytbjoinocajobhaa", sum := "0288045ac01fa1e2a4358e3259ea5c6c4fd2845ce67b1aa56adc5a8f5387402e", func := "mintage/mintagelaw31.AuditEnds", spec := "auditEnds", recurses := true, plainKeys := false, apart := false }
def AuditEndsSaid : Prop := auditEndsRow.holds Try.pinned (OpenSpec.ofChange auditEndsSpec)

/-- ITS FALSE NEIGHBOUR: 'it returns false'. Refute it at one input. -/
def auditEndsWrong : ChangeSpec := { name := "auditEnds", fn := fun _ => fun
  | [] => { results := [.lit (.bool false)], args := [] }
  | _ => none }
def AuditEndsWrongFalsely : Prop := auditEndsRow.holds Try.pinned (OpenSpec.ofChange auditEndsWrong)

/-- 'mintagelaw31.AuditPlains': WHATEVER THE INPUT: true; the input reads as it did. -/
def auditPlainsSpec : ChangeSpec := { name := "auditPlains", fn := fun _ => fun
  | [d] => { results := [.lit (.bool true)], args := [d] }
  | _ => none }
def auditPlainsRow : OpenClaim := { program := "ytbjoinocajobhaa", sum := "0288045ac01fa1e2a4358e3259ea5c6c4fd2845ce67b1aa56adc5a8f5387402e", func := "mintage/mintagelaw31.AuditPlains", spec := "auditPlains", recurses := true, plainKeys := false, apart := false }
def AuditPlainsSaid : Prop := auditPlainsRow.holds Try.pinned (OpenSpec.ofChange auditPlainsSpec)

/-- ITS FALSE NEIGHBOUR: 'it returns false'. Refute it at one input. -/
def auditPlainsWrong : ChangeSpec := { name := "auditPlains", fn := fun _ => fun
  | [d] => { results := [.lit (.bool false)], args := [d] }
  | _ => none }
def AuditPlainsWrongFalsely : Prop := auditPlainsRow.holds Try.pinned (OpenSpec.ofChange auditPlainsWrong)

/-- 'mintagelaw31.AuditSerial': WHATEVER THE INPUT: true; the input reads as it did. -/
def auditSerialSpec : ChangeSpec := { name := "auditSerial", fn := fun _ => fun
  | [d1, d2] => { results := [.lit (.bool true)], args := [d1, d2] }
  | _ => none }
def auditSerialRow : OpenClaim := { program := "ytbjoinocajobhaa", sum := "0288045ac01fa1e2a4358e3259ea5c6c4fd2845ce67b1aa56adc5a8f5387402e", func := "mintage/mintagelaw31.AuditSerial", spec := "auditSerial", recurses := true, plainKeys := false, apart := false }
def AuditSerialSaid : Prop := auditSerialRow.holds Try.pinned (OpenSpec.ofChange auditSerialSpec)

/-- ITS FALSE NEIGHBOUR: 'it returns false'. Refute it at one input. -/
def auditSerialWrong : ChangeSpec := { name := "auditSerial", fn := fun _ => fun
  | [d1, d2] => { results := [.lit (.bool false)], args := [d1, d2] }
  | _ => none }
def AuditSerialWrongFalsely : Prop := auditSerialRow.holds Try.pinned (OpenSpec.ofChange auditSerialWrong)

/-- 'mintagelaw31.AuditSpans': WHATEVER THE INPUT: true; the input reads as it did. -/
def auditSpansSpec : ChangeSpec := { name := "auditSpans", fn := fun _ => fun
  | [d1, d2] => { results := [.lit (.bool true)], args := [d1, d2] }
  | _ => none }
def auditSpansRow : OpenClaim := { program := "ytbjoinocajobhaa", sum := "0288045ac01fa1e2a4358e3259ea5c6c4fd2845ce67b1aa56adc5a8f5387402e", func := "mintage/mintagelaw31.AuditSpans", spec := "auditSpans", recurses := true, plainKeys := false, apart := false }
def AuditSpansSaid : Prop := auditSpansRow.holds Try.pinned (OpenSpec.ofChange auditSpansSpec)

/-- ITS FALSE NEIGHBOUR: 'it returns false'. Refute it at one input. -/
def auditSpansWrong : ChangeSpec := { name := "auditSpans", fn := fun _ => fun
  | [d1, d2] => { results := [.lit (.bool false)], args := [d1, d2] }
  | _ => none }
def AuditSpansWrongFalsely : Prop := auditSpansRow.holds Try.pinned (OpenSpec.ofChange auditSpansWrong)

/- THE SECOND FORM. 'bulk': how many values and letters a reading holds, each counted each time it is reached (what is shared counts as often as it is met; a slice's spare places count too). A statement '..UptoSaid' is the law's where the arguments, and the package variables that the reading takes, are together of bulk at most 1048576: NARROWER than '..Said'. Prove '..Said' where nothing that the law and all that it calls make is longer than what came in: it says more and counts as full. Else prove '..UptoSaid'. A law counts once. -/
mutual
def uptoBulk {H : Type} : DataW H → Nat
  | .lit (.string bytes) => bytes.length + 1
  | .lit _ => 1
  | .nil => 1
  | .ptr d => uptoBulk d + 1
  | .slice elems spare => uptoBulkAll elems + uptoBulkAll spare + 1
  | .agg parts => uptoBulkAll parts + 1
  | .iface _ d => uptoBulk d + 1
  | .map entries => uptoBulkEntries entries + 1
  | .held _ => 1
def uptoBulkAll {H : Type} : List (DataW H) → Nat
  | [] => 0
  | d :: r => uptoBulk d + uptoBulkAll r
def uptoBulkEntries {H : Type} : List (Lit × DataW H) → Nat
  | [] => 0
  | x :: r => uptoBulkEntry x + uptoBulkEntries r
def uptoBulkEntry {H : Type} : Lit × DataW H → Nat
  | (.string bytes, d) => bytes.length + uptoBulk d + 1
  | (_, d) => uptoBulk d + 1
 end
def uptoSmall : (H : Type) → List (DataW H) → Bool := fun _ ds => decide (uptoBulkAll ds ≤ 1048576)
def OpenSpec.upto (s : _root_.Go.ChangeSpec) : _root_.Go.OpenSpec := { _root_.Go.OpenSpec.ofChange s with cond := some uptoSmall }

/-- 'mintagelaw31.AuditJudges', WHERE WHAT IT READS IS OF BULK AT MOST 1048576: true; the input reads as it did. -/
def auditJudgesUptoRow : OpenClaim := { program := "ytbjoinocajobhaa", sum := "0288045ac01fa1e2a4358e3259ea5c6c4fd2845ce67b1aa56adc5a8f5387402e", func := "mintage/mintagelaw31.AuditJudges", spec := "auditJudges", recurses := true, plainKeys := false, apart := false, narrowed := true }
def AuditJudgesUptoSaid : Prop := auditJudgesUptoRow.holds Try.pinned (OpenSpec.upto auditJudgesSpec)

/-- 'mintagelaw31.AuditWitness', WHERE WHAT IT READS IS OF BULK AT MOST 1048576: true; the input reads as it did. -/
def auditWitnessUptoRow : OpenClaim := { program := "ytbjoinocajobhaa", sum := "0288045ac01fa1e2a4358e3259ea5c6c4fd2845ce67b1aa56adc5a8f5387402e", func := "mintage/mintagelaw31.AuditWitness", spec := "auditWitness", recurses := true, plainKeys := false, apart := false, narrowed := true }
def AuditWitnessUptoSaid : Prop := auditWitnessUptoRow.holds Try.pinned (OpenSpec.upto auditWitnessSpec)

/-- 'mintagelaw31.AuditTakes', WHERE WHAT IT READS IS OF BULK AT MOST 1048576: true; the input reads as it did. -/
def auditTakesUptoRow : OpenClaim := { program := "ytbjoinocajobhaa", sum := "0288045ac01fa1e2a4358e3259ea5c6c4fd2845ce67b1aa56adc5a8f5387402e", func := "mintage/mintagelaw31.AuditTakes", spec := "auditTakes", recurses := true, plainKeys := false, apart := false, narrowed := true }
def AuditTakesUptoSaid : Prop := auditTakesUptoRow.holds Try.pinned (OpenSpec.upto auditTakesSpec)

/-- 'mintagelaw31.AuditLooser', WHERE WHAT IT READS IS OF BULK AT MOST 1048576: true; the input reads as it did. -/
def auditLooserUptoRow : OpenClaim := { program := "ytbjoinocajobhaa", sum := "0288045ac01fa1e2a4358e3259ea5c6c4fd2845ce67b1aa56adc5a8f5387402e", func := "mintage/mintagelaw31.AuditLooser", spec := "auditLooser", recurses := true, plainKeys := false, apart := false, narrowed := true }
def AuditLooserUptoSaid : Prop := auditLooserUptoRow.holds Try.pinned (OpenSpec.upto auditLooserSpec)

/-- 'mintagelaw31.AuditEnds', WHERE WHAT IT READS IS OF BULK AT MOST 1048576: true; the input reads as it did. -/
def auditEndsUptoRow : OpenClaim := { program := "ytbjoinocajobhaa", sum := "0288045ac01fa1e2a4358e3259ea5c6c4fd2845ce67b1aa56adc5a8f5387402e", func := "mintage/mintagelaw31.AuditEnds", spec := "auditEnds", recurses := true, plainKeys := false, apart := false, narrowed := true }
def AuditEndsUptoSaid : Prop := auditEndsUptoRow.holds Try.pinned (OpenSpec.upto auditEndsSpec)

/-- 'mintagelaw31.AuditPlains', WHERE WHAT IT READS IS OF BULK AT MOST 1048576: true; the input reads as it did. -/
def auditPlainsUptoRow : OpenClaim := { program := "ytbjoinocajobhaa", sum := "0288045ac01fa1e2a4358e3259ea5c6c4fd2845ce67b1aa56adc5a8f5387402e", func := "mintage/mintagelaw31.AuditPlains", spec := "auditPlains", recurses := true, plainKeys := false, apart := false, narrowed := true }
def AuditPlainsUptoSaid : Prop := auditPlainsUptoRow.holds Try.pinned (OpenSpec.upto auditPlainsSpec)

/-- 'mintagelaw31.AuditSerial', WHERE WHAT IT READS IS OF BULK AT MOST 1048576: true; the input reads as it did. -/
def auditSerialUptoRow : OpenClaim := { program := "ytbjoinocajobhaa", sum := "0288045ac01fa1e2a4358e3259ea5c6c4fd2845ce67b1aa56adc5a8f5387402e", func := "mintage/mintagelaw31.AuditSerial", spec := "auditSerial", recurses := true, plainKeys := false, apart := false, narrowed := true }
def AuditSerialUptoSaid : Prop := auditSerialUptoRow.holds Try.pinned (OpenSpec.upto auditSerialSpec)

/-- 'mintagelaw31.AuditSpans', WHERE WHAT IT READS IS OF BULK AT MOST 1048576: true; the input reads as it did. -/
def auditSpansUptoRow : OpenClaim := { program := "ytbjoinocajobhaa", sum := "0288045ac01fa1e2a4358e3259ea5c6c4fd2845ce67b1aa56adc5a8f5387402e", func := "mintage/mintagelaw31.AuditSpans", spec := "auditSpans", recurses := true, plainKeys := false, apart := false, narrowed := true }
def AuditSpansUptoSaid : Prop := auditSpansUptoRow.holds Try.pinned (OpenSpec.upto auditSpansSpec)

end Rows
end Go.Proofs.Ytbjoinocajobhaa
