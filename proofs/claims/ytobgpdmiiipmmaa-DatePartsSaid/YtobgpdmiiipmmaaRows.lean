/-
  No cell of these rows narrows 'for every input' (looked for: loops, veiled, ifaces, maps, wideKeys, modest, calm, conditions, laid).
  DERIVED. THE GIVEN ROWS OF THIS SEAT. 7 by the template 'for every input the law returns true; each argument reads behind the call as it read before'; 0 by the template 'total and deterministic' (their statements: YtobgpdmiiipmmaaTotals.lean).
  GIVEN WITH THE SEED: the statements are not yours to turn. If you find one false, say at which input.
  Laid BY PROGRAM, IN A SANDBOX (cutbox-rows.mjs): the forced cells as the released guide's own fill.sh prints them over the translation 1668f17c6c9d4cc9… (all of the seat's roots in one cut). By AI agents, Wed Nov 11 2026. No macro, syntax, notation, axiom, sorry.
-/
import Derived.Test.YtobgpdmiiipmmaaChecked
import GoSem.Claim
import GoSem.ClaimJoined
import GoSem.ClaimMapViews
import Derived.JoinedTies
import Derived.KernelRfl
namespace Go.Proofs.Ytobgpdmiiipmmaa
/- THE CELL 'sum', in the pinned program and in every row, IS THE sha256 OF THE DUMP (.gsa) THAT YtobgpdmiiipmmaaProg.lean LOADS. Nothing in Lean hashes anything: it is a label: what it is worth is what the hold of that sum in a sandbox is worth. -/
noncomputable def Try.pinned : Pinned := { name := "ytobgpdmiiipmmaa", sum := "1668f17c6c9d4cc9b03f8f60244823e98ebe0008f8940a3e535499554fbc77f4", checked := Try.checked }
namespace Rows
def none {H : Type} : Left H := { results := [], args := [] }

/-- 'mintagelaw13.DateWrites': WHATEVER THE INPUT: true; the input reads as it did. -/
def dateWritesSpec : ChangeSpec := { name := "dateWrites", fn := fun _ => fun
  | [d1, d2] => { results := [.lit (.bool true)], args := [d1, d2] }
  | _ => none }
def dateWritesRow : OpenClaim := { program := "ytobgpdmiiipmmaa", sum := "1668f17c6c9d4cc9b03f8f60244823e98ebe0008f8940a3e535499554fbc77f4", func := "mintage/mintagelaw13.DateWrites", spec := "dateWrites", apart := false }
def DateWritesSaid : Prop := dateWritesRow.holds Try.pinned (OpenSpec.ofChange dateWritesSpec)

/-- ITS FALSE NEIGHBOUR: 'it returns false'. Refute it at one input. -/
def dateWritesWrong : ChangeSpec := { name := "dateWrites", fn := fun _ => fun
  | [d1, d2] => { results := [.lit (.bool false)], args := [d1, d2] }
  | _ => none }
def DateWritesWrongFalsely : Prop := dateWritesRow.holds Try.pinned (OpenSpec.ofChange dateWritesWrong)

/-- 'mintagelaw13.DateNext': WHATEVER THE INPUT: true; the input reads as it did. -/
def dateNextSpec : ChangeSpec := { name := "dateNext", fn := fun _ => fun
  | [d] => { results := [.lit (.bool true)], args := [d] }
  | _ => none }
def dateNextRow : OpenClaim := { program := "ytobgpdmiiipmmaa", sum := "1668f17c6c9d4cc9b03f8f60244823e98ebe0008f8940a3e535499554fbc77f4", func := "mintage/mintagelaw13.DateNext", spec := "dateNext", apart := false }
def DateNextSaid : Prop := dateNextRow.holds Try.pinned (OpenSpec.ofChange dateNextSpec)

/-- ITS FALSE NEIGHBOUR: 'it returns false'. Refute it at one input. -/
def dateNextWrong : ChangeSpec := { name := "dateNext", fn := fun _ => fun
  | [d] => { results := [.lit (.bool false)], args := [d] }
  | _ => none }
def DateNextWrongFalsely : Prop := dateNextRow.holds Try.pinned (OpenSpec.ofChange dateNextWrong)

/-- 'mintagelaw13.DateOrder': WHATEVER THE INPUT: true; the input reads as it did. -/
def dateOrderSpec : ChangeSpec := { name := "dateOrder", fn := fun _ => fun
  | [d1, d2, d3, d4] => { results := [.lit (.bool true)], args := [d1, d2, d3, d4] }
  | _ => none }
def dateOrderRow : OpenClaim := { program := "ytobgpdmiiipmmaa", sum := "1668f17c6c9d4cc9b03f8f60244823e98ebe0008f8940a3e535499554fbc77f4", func := "mintage/mintagelaw13.DateOrder", spec := "dateOrder", apart := false }
def DateOrderSaid : Prop := dateOrderRow.holds Try.pinned (OpenSpec.ofChange dateOrderSpec)

/-- ITS FALSE NEIGHBOUR: 'it returns false'. Refute it at one input. -/
def dateOrderWrong : ChangeSpec := { name := "dateOrder", fn := fun _ => fun
  | [d1, d2, d3, d4] => { results := [.lit (.bool false)], args := [d1, d2, d3, d4] }
  | _ => none }
def DateOrderWrongFalsely : Prop := dateOrderRow.holds Try.pinned (OpenSpec.ofChange dateOrderWrong)

/-- 'mintagelaw13.DateEnds': WHATEVER THE INPUT: true; the input reads as it did. -/
def dateEndsSpec : ChangeSpec := { name := "dateEnds", fn := fun _ => fun
  | [] => { results := [.lit (.bool true)], args := [] }
  | _ => none }
def dateEndsRow : OpenClaim := { program := "ytobgpdmiiipmmaa", sum := "1668f17c6c9d4cc9b03f8f60244823e98ebe0008f8940a3e535499554fbc77f4", func := "mintage/mintagelaw13.DateEnds", spec := "dateEnds", apart := false }
def DateEndsSaid : Prop := dateEndsRow.holds Try.pinned (OpenSpec.ofChange dateEndsSpec)

/-- ITS FALSE NEIGHBOUR: 'it returns false'. Refute it at one input. -/
def dateEndsWrong : ChangeSpec := { name := "dateEnds", fn := fun _ => fun
  | [] => { results := [.lit (.bool false)], args := [] }
  | _ => none }
def DateEndsWrongFalsely : Prop := dateEndsRow.holds Try.pinned (OpenSpec.ofChange dateEndsWrong)

/-- 'mintagelaw13.DateReads': WHATEVER THE INPUT: true; the input reads as it did. -/
def dateReadsSpec : ChangeSpec := { name := "dateReads", fn := fun _ => fun
  | [d1, d2, d3] => { results := [.lit (.bool true)], args := [d1, d2, d3] }
  | _ => none }
def dateReadsRow : OpenClaim := { program := "ytobgpdmiiipmmaa", sum := "1668f17c6c9d4cc9b03f8f60244823e98ebe0008f8940a3e535499554fbc77f4", func := "mintage/mintagelaw13.DateReads", spec := "dateReads", apart := false }
def DateReadsSaid : Prop := dateReadsRow.holds Try.pinned (OpenSpec.ofChange dateReadsSpec)

/-- ITS FALSE NEIGHBOUR: 'it returns false'. Refute it at one input. -/
def dateReadsWrong : ChangeSpec := { name := "dateReads", fn := fun _ => fun
  | [d1, d2, d3] => { results := [.lit (.bool false)], args := [d1, d2, d3] }
  | _ => none }
def DateReadsWrongFalsely : Prop := dateReadsRow.holds Try.pinned (OpenSpec.ofChange dateReadsWrong)

/-- 'mintagelaw13.DateParts': WHATEVER THE INPUT: true; the input reads as it did. -/
def datePartsSpec : ChangeSpec := { name := "dateParts", fn := fun _ => fun
  | [d1, d2, d3, d4, d5, d6, d7] => { results := [.lit (.bool true)], args := [d1, d2, d3, d4, d5, d6, d7] }
  | _ => none }
def datePartsRow : OpenClaim := { program := "ytobgpdmiiipmmaa", sum := "1668f17c6c9d4cc9b03f8f60244823e98ebe0008f8940a3e535499554fbc77f4", func := "mintage/mintagelaw13.DateParts", spec := "dateParts", apart := false }
def DatePartsSaid : Prop := datePartsRow.holds Try.pinned (OpenSpec.ofChange datePartsSpec)

/-- ITS FALSE NEIGHBOUR: 'it returns false'. Refute it at one input. -/
def datePartsWrong : ChangeSpec := { name := "dateParts", fn := fun _ => fun
  | [d1, d2, d3, d4, d5, d6, d7] => { results := [.lit (.bool false)], args := [d1, d2, d3, d4, d5, d6, d7] }
  | _ => none }
def DatePartsWrongFalsely : Prop := datePartsRow.holds Try.pinned (OpenSpec.ofChange datePartsWrong)

/-- 'mintagelaw13.DateBack': WHATEVER THE INPUT: true; the input reads as it did. -/
def dateBackSpec : ChangeSpec := { name := "dateBack", fn := fun _ => fun
  | [d1, d2] => { results := [.lit (.bool true)], args := [d1, d2] }
  | _ => none }
def dateBackRow : OpenClaim := { program := "ytobgpdmiiipmmaa", sum := "1668f17c6c9d4cc9b03f8f60244823e98ebe0008f8940a3e535499554fbc77f4", func := "mintage/mintagelaw13.DateBack", spec := "dateBack", apart := false }
def DateBackSaid : Prop := dateBackRow.holds Try.pinned (OpenSpec.ofChange dateBackSpec)

/-- ITS FALSE NEIGHBOUR: 'it returns false'. Refute it at one input. -/
def dateBackWrong : ChangeSpec := { name := "dateBack", fn := fun _ => fun
  | [d1, d2] => { results := [.lit (.bool false)], args := [d1, d2] }
  | _ => none }
def DateBackWrongFalsely : Prop := dateBackRow.holds Try.pinned (OpenSpec.ofChange dateBackWrong)

/- THE SECOND FORM. 'bulk': how many values and letters a reading holds, each counted each time it is reached (what is shared counts as often as it is met; a slice's spare places count too). A statement '..UptoSaid' is the law's where the arguments, and the package variables that the reading takes, are together of bulk at most 1048576: NARROWER than '..Said'. Prove '..Said' where nothing that the law and all that it calls make is longer than what came in: it says more and counts as full. Else prove '..UptoSaid'. A law counts once. -/
mutual
def uptoBulk {H : Type} : DataW H → Nat
  | .lit (.string bytes) => bytes.length + 1
  | .lit _ => 1
  | .nil => 1
  | .ptr d => uptoBulk d + 1
  | .slice elems spare => uptoBulkAll elems + uptoBulkAll spare + 1
  | .agg parts => uptoBulkAll parts + 1
  | .iface _ d => uptoBulk d + 1
  | .map entries => uptoBulkEntries entries + 1
  | .held _ => 1
def uptoBulkAll {H : Type} : List (DataW H) → Nat
  | [] => 0
  | d :: r => uptoBulk d + uptoBulkAll r
def uptoBulkEntries {H : Type} : List (Lit × DataW H) → Nat
  | [] => 0
  | x :: r => uptoBulkEntry x + uptoBulkEntries r
def uptoBulkEntry {H : Type} : Lit × DataW H → Nat
  | (.string bytes, d) => bytes.length + uptoBulk d + 1
  | (_, d) => uptoBulk d + 1
 end
def uptoSmall : (H : Type) → List (DataW H) → Bool := fun _ ds => decide (uptoBulkAll ds ≤ 1048576)
def OpenSpec.upto (s : _root_.Go.ChangeSpec) : _root_.Go.OpenSpec := { _root_.Go.OpenSpec.ofChange s with cond := some uptoSmall }

/-- 'mintagelaw13.DateWrites', WHERE WHAT IT READS IS OF BULK AT MOST 1048576: true; the input reads as it did. -/
def dateWritesUptoRow : OpenClaim := { program := "ytobgpdmiiipmmaa", sum := "1668f17c6c9d4cc9b03f8f60244823e98ebe0008f8940a3e535499554fbc77f4", func := "mintage/mintagelaw13.DateWrites", spec := "dateWrites", apart := false, narrowed := true }
def DateWritesUptoSaid : Prop := dateWritesUptoRow.holds Try.pinned (OpenSpec.upto dateWritesSpec)

/-- 'mintagelaw13.DateNext', WHERE WHAT IT READS IS OF BULK AT MOST 1048576: true; the input reads as it did. -/
def dateNextUptoRow : OpenClaim := { program := "ytobgpdmiiipmmaa", sum := "1668f17c6c9d4cc9b03f8f60244823e98ebe0008f8940a3e535499554fbc77f4", func := "mintage/mintagelaw13.DateNext", spec := "dateNext", apart := false, narrowed := true }
def DateNextUptoSaid : Prop := dateNextUptoRow.holds Try.pinned (OpenSpec.upto dateNextSpec)

/-- 'mintagelaw13.DateOrder', WHERE WHAT IT READS IS OF BULK AT MOST 1048576: true; the input reads as it did. -/
def dateOrderUptoRow : OpenClaim := { program := "ytobgpdmiiipmmaa", sum := "1668f17c6c9d4cc9b03f8f60244823e98ebe0008f8940a3e535499554fbc77f4", func := "mintage/mintagelaw13.DateOrder", spec := "dateOrder", apart := false, narrowed := true }
def DateOrderUptoSaid : Prop := dateOrderUptoRow.holds Try.pinned (OpenSpec.upto dateOrderSpec)

/-- 'mintagelaw13.DateEnds', WHERE WHAT IT READS IS OF BULK AT MOST 1048576: true; the input reads as it did. -/
def dateEndsUptoRow : OpenClaim := { program := "ytobgpdmiiipmmaa", sum := "1668f17c6c9d4cc9b03f8f60244823e98ebe0008f8940a3e535499554fbc77f4", func := "mintage/mintagelaw13.DateEnds", spec := "dateEnds", apart := false, narrowed := true }
def DateEndsUptoSaid : Prop := dateEndsUptoRow.holds Try.pinned (OpenSpec.upto dateEndsSpec)

/-- 'mintagelaw13.DateReads', WHERE WHAT IT READS IS OF BULK AT MOST 1048576: true; the input reads as it did. -/
def dateReadsUptoRow : OpenClaim := { program := "ytobgpdmiiipmmaa", sum := "1668f17c6c9d4cc9b03f8f60244823e98ebe0008f8940a3e535499554fbc77f4", func := "mintage/mintagelaw13.DateReads", spec := "dateReads", apart := false, narrowed := true }
def DateReadsUptoSaid : Prop := dateReadsUptoRow.holds Try.pinned (OpenSpec.upto dateReadsSpec)

/-- 'mintagelaw13.DateParts', WHERE WHAT IT READS IS OF BULK AT MOST 1048576: true; the input reads as it did. -/
def datePartsUptoRow : OpenClaim := { program := "ytobgpdmiiipmmaa", sum := "1668f17c6c9d4cc9b03f8f60244823e98ebe0008f8940a3e535499554fbc77f4", func := "mintage/mintagelaw13.DateParts", spec := "dateParts", apart := false, narrowed := true }
def DatePartsUptoSaid : Prop := datePartsUptoRow.holds Try.pinned (OpenSpec.upto datePartsSpec)

/-- 'mintagelaw13.DateBack', WHERE WHAT IT READS IS OF BULK AT MOST 1048576: true; the input reads as it did. -/
def dateBackUptoRow : OpenClaim := { program := "ytobgpdmiiipmmaa", sum := "1668f17c6c9d4cc9b03f8f60244823e98ebe0008f8940a3e535499554fbc77f4", func := "mintage/mintagelaw13.DateBack", spec := "dateBack", apart := false, narrowed := true }
def DateBackUptoSaid : Prop := dateBackUptoRow.holds Try.pinned (OpenSpec.upto dateBackSpec)

end Rows
end Go.Proofs.Ytobgpdmiiipmmaa
