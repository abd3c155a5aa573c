/-
  No cell of these rows narrows 'for every input' (looked for: loops, veiled, ifaces, maps, wideKeys, modest, calm, conditions, laid).
  DERIVED. THE GIVEN ROWS OF THIS SEAT. 5 by the template 'for every input the law returns true; each argument reads behind the call as it read before'; 0 by the template 'total and deterministic' (their statements: YtonlkffjpofpoaaTotals.lean).
  GIVEN WITH THE SEED: the statements are not yours to turn. If you find one false, say at which input.
  Laid BY PROGRAM, IN A SANDBOX (cutbox-rows.mjs): the forced cells as the released guide's own fill.sh prints them over the translation 61efaec7c429011c… (all of the seat's roots in one cut). By AI agents, Wed Nov 11 2026. No macro, syntax, notation, axiom, sorry.
-/
import Derived.Test.YtonlkffjpofpoaaChecked
import GoSem.Claim
import GoSem.ClaimJoined
import GoSem.ClaimMapViews
import Derived.JoinedTies
import Derived.KernelRfl
namespace Go.Proofs.Ytonlkffjpofpoaa
/- THE CELL 'sum', in the pinned program and in every row, IS THE sha256 OF THE DUMP (.gsa) THAT YtonlkffjpofpoaaProg.lean LOADS. Nothing in Lean hashes anything: it is a label: what it is worth is what the hold of that sum in a sandbox is worth. -/
noncomputable def Try.pinned : Pinned := { name := "ytonlkffjpofpoaa", sum := "61efaec7c429011c66791d13bc6dfdd325b0c26bd011bf7a308da2e24a34dea1", checked := Try.checked }
namespace Rows
def none {H : Type} : Left H := { results := [], args := [] }

/-- 'mintagelaw04.DigitWrites': WHATEVER THE INPUT: true; the input reads as it did. -/
def digitWritesSpec : ChangeSpec := { name := "digitWrites", fn := fun _ => fun
  | [d1, d2, d3] => { results := [.lit (.bool true)], args := [d1, d2, d3] }
  | _ => none }
def digitWritesRow : OpenClaim := { program := "ytonlkffjpofpoaa", sum := "61efaec7c429011c66791d13bc6dfdd325b0c26bd011bf7a308da2e24a34dea1", func := "mintage/mintagelaw04.DigitWrites", spec := "digitWrites", apart := false }
def DigitWritesSaid : Prop := digitWritesRow.holds Try.pinned (OpenSpec.ofChange digitWritesSpec)

/-- ITS FALSE NEIGHBOUR: 'it returns false'. Refute it at one input. -/
def digitWritesWrong : ChangeSpec := { name := "digitWrites", fn := fun _ => fun
  | [d1, d2, d3] => { results := [.lit (.bool false)], args := [d1, d2, d3] }
  | _ => none }
def DigitWritesWrongFalsely : Prop := digitWritesRow.holds Try.pinned (OpenSpec.ofChange digitWritesWrong)

/-- 'mintagelaw04.DigitCounts': WHATEVER THE INPUT: true; the input reads as it did. -/
def digitCountsSpec : ChangeSpec := { name := "digitCounts", fn := fun _ => fun
  | [d1, d2] => { results := [.lit (.bool true)], args := [d1, d2] }
  | _ => none }
def digitCountsRow : OpenClaim := { program := "ytonlkffjpofpoaa", sum := "61efaec7c429011c66791d13bc6dfdd325b0c26bd011bf7a308da2e24a34dea1", func := "mintage/mintagelaw04.DigitCounts", spec := "digitCounts", apart := false }
def DigitCountsSaid : Prop := digitCountsRow.holds Try.pinned (OpenSpec.ofChange digitCountsSpec)

/-- ITS FALSE NEIGHBOUR: 'it returns false'. Refute it at one input. -/
def digitCountsWrong : ChangeSpec := { name := "digitCounts", fn := fun _ => fun
  | [d1, d2] => { results := [.lit (.bool false)], args := [d1, d2] }
  | _ => none }
def DigitCountsWrongFalsely : Prop := digitCountsRow.holds Try.pinned (OpenSpec.ofChange digitCountsWrong)

/-- 'mintagelaw04.DigitReads': WHATEVER THE INPUT: true; the input reads as it did. -/
def digitReadsSpec : ChangeSpec := { name := "digitReads", fn := fun _ => fun
  | [d1, d2] => { results := [.lit (.bool true)], args := [d1, d2] }
  | _ => none }
def digitReadsRow : OpenClaim := { program := "ytonlkffjpofpoaa", sum := "61efaec7c429011c66791d13bc6dfdd325b0c26bd011bf7a308da2e24a34dea1", func := "mintage/mintagelaw04.DigitReads", spec := "digitReads", apart := false }
def DigitReadsSaid : Prop := digitReadsRow.holds Try.pinned (OpenSpec.ofChange digitReadsSpec)

/-- ITS FALSE NEIGHBOUR: 'it returns false'. Refute it at one input. -/
def digitReadsWrong : ChangeSpec := { name := "digitReads", fn := fun _ => fun
  | [d1, d2] => { results := [.lit (.bool false)], args := [d1, d2] }
  | _ => none }
def DigitReadsWrongFalsely : Prop := digitReadsRow.holds Try.pinned (OpenSpec.ofChange digitReadsWrong)

/-- 'mintagelaw04.DigitEights': WHATEVER THE INPUT: true; the input reads as it did. -/
def digitEightsSpec : ChangeSpec := { name := "digitEights", fn := fun _ => fun
  | [d1, d2, d3] => { results := [.lit (.bool true)], args := [d1, d2, d3] }
  | _ => none }
def digitEightsRow : OpenClaim := { program := "ytonlkffjpofpoaa", sum := "61efaec7c429011c66791d13bc6dfdd325b0c26bd011bf7a308da2e24a34dea1", func := "mintage/mintagelaw04.DigitEights", spec := "digitEights", apart := false }
def DigitEightsSaid : Prop := digitEightsRow.holds Try.pinned (OpenSpec.ofChange digitEightsSpec)

/-- ITS FALSE NEIGHBOUR: 'it returns false'. Refute it at one input. -/
def digitEightsWrong : ChangeSpec := { name := "digitEights", fn := fun _ => fun
  | [d1, d2, d3] => { results := [.lit (.bool false)], args := [d1, d2, d3] }
  | _ => none }
def DigitEightsWrongFalsely : Prop := digitEightsRow.holds Try.pinned (OpenSpec.ofChange digitEightsWrong)

/-- 'mintagelaw04.DigitBack': WHATEVER THE INPUT: true; the input reads as it did. -/
def digitBackSpec : ChangeSpec := { name := "digitBack", fn := fun _ => fun
  | [d1, d2] => { results := [.lit (.bool true)], args := [d1, d2] }
  | _ => none }
def digitBackRow : OpenClaim := { program := "ytonlkffjpofpoaa", sum := "61efaec7c429011c66791d13bc6dfdd325b0c26bd011bf7a308da2e24a34dea1", func := "mintage/mintagelaw04.DigitBack", spec := "digitBack", apart := false }
def DigitBackSaid : Prop := digitBackRow.holds Try.pinned (OpenSpec.ofChange digitBackSpec)

/-- ITS FALSE NEIGHBOUR: 'it returns false'. Refute it at one input. -/
def digitBackWrong : ChangeSpec := { name := "digitBack", fn := fun _ => fun
  | [d1, d2] => { results := [.lit (.bool false)], args := [d1, d2] }
  | _ => none }
def DigitBackWrongFalsely : Prop := digitBackRow.holds Try.pinned (OpenSpec.ofChange digitBackWrong)

/- THE SECOND FORM. 'bulk': how many values and letters a reading holds, each counted each time it is reached (what is shared counts as often as it is met; a slice's spare places count too). A statement '..UptoSaid' is the law's where the arguments, and the package variables that the reading takes, are together of bulk at most 1048576: NARROWER than '..Said'. Prove '..Said' where nothing that the law and all that it calls make is longer than what came in: it says more and counts as full. Else prove '..UptoSaid'. A law counts once. -/
mutual
def uptoBulk {H : Type} : DataW H → Nat
  | .lit (.string bytes) => bytes.length + 1
  | .lit _ => 1
  | .nil => 1
  | .ptr d => uptoBulk d + 1
  | .slice elems spare => uptoBulkAll elems + uptoBulkAll spare + 1
  | .agg parts => uptoBulkAll parts + 1
  | .iface _ d => uptoBulk d + 1
  | .map entries => uptoBulkEntries entries + 1
  | .held _ => 1
def uptoBulkAll {H : Type} : List (DataW H) → Nat
  | [] => 0
  | d :: r => uptoBulk d + uptoBulkAll r
def uptoBulkEntries {H : Type} : List (Lit × DataW H) → Nat
  | [] => 0
  | x :: r => uptoBulkEntry x + uptoBulkEntries r
def uptoBulkEntry {H : Type} : Lit × DataW H → Nat
  | (.string bytes, d) => bytes.length + uptoBulk d + 1
  | (_, d) => uptoBulk d + 1
 end
def uptoSmall : (H : Type) → List (DataW H) → Bool := fun _ ds => decide (uptoBulkAll ds ≤ 1048576)
def OpenSpec.upto (s : _root_.Go.ChangeSpec) : _root_.Go.OpenSpec := { _root_.Go.OpenSpec.ofChange s with cond := some uptoSmall }

/-- 'mintagelaw04.DigitWrites', WHERE WHAT IT READS IS OF BULK AT MOST 1048576: true; the input reads as it did. -/
def digitWritesUptoRow : OpenClaim := { program := "ytonlkffjpofpoaa", sum := "61efaec7c429011c66791d13bc6dfdd325b0c26bd011bf7a308da2e24a34dea1", func := "mintage/mintagelaw04.DigitWrites", spec := "digitWrites", apart := false, narrowed := true }
def DigitWritesUptoSaid : Prop := digitWritesUptoRow.holds Try.pinned (OpenSpec.upto digitWritesSpec)

/-- 'mintagelaw04.DigitCounts', WHERE WHAT IT READS IS OF BULK AT MOST 1048576: true; the input reads as it did. -/
def digitCountsUptoRow : OpenClaim := { program := "ytonlkffjpofpoaa", sum := "61efaec7c429011c66791d13bc6dfdd325b0c26bd011bf7a308da2e24a34dea1", func := "mintage/mintagelaw04.DigitCounts", spec := "digitCounts", apart := false, narrowed := true }
def DigitCountsUptoSaid : Prop := digitCountsUptoRow.holds Try.pinned (OpenSpec.upto digitCountsSpec)

/-- 'mintagelaw04.DigitReads', WHERE WHAT IT READS IS OF BULK AT MOST 1048576: true; the input reads as it did. -/
def digitReadsUptoRow : OpenClaim := { program := "ytonlkffjpofpoaa", sum := "61efaec7c429011c66791d13bc6dfdd325b0c26bd011bf7a308da2e24a34dea1", func := "mintage/mintagelaw04.DigitReads", spec := "digitReads", apart := false, narrowed := true }
def DigitReadsUptoSaid : Prop := digitReadsUptoRow.holds Try.pinned (OpenSpec.upto digitReadsSpec)

/-- 'mintagelaw04.DigitEights', WHERE WHAT IT READS IS OF BULK AT MOST 1048576: true; the input reads as it did. -/
def digitEightsUptoRow : OpenClaim := { program := "ytonlkffjpofpoaa", sum := "61efaec7c429011c66791d13bc6dfdd325b0c26bd011bf7a308da2e24a34dea1", func := "mintage/mintagelaw04.DigitEights", spec := "digitEights", apart := false, narrowed := true }
def DigitEightsUptoSaid : Prop := digitEightsUptoRow.holds Try.pinned (OpenSpec.upto digitEightsSpec)

/-- 'mintagelaw04.DigitBack', WHERE WHAT IT READS IS OF BULK AT MOST 1048576: true; the input reads as it did. -/
def digitBackUptoRow : OpenClaim := { program := "ytonlkffjpofpoaa", sum := "61efaec7c429011c66791d13bc6dfdd325b0c26bd011bf7a308da2e24a34dea1", func := "mintage/mintagelaw04.DigitBack", spec := "digitBack", apart := false, narrowed := true }
def DigitBackUptoSaid : Prop := digitBackUptoRow.holds Try.pinned (OpenSpec.upto digitBackSpec)

end Rows
end Go.Proofs.Ytonlkffjpofpoaa
