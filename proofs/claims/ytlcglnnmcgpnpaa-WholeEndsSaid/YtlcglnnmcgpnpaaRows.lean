/-
  No cell of these rows narrows 'for every input' (looked for: loops, veiled, ifaces, maps, wideKeys, modest, calm, conditions, laid).
  DERIVED. THE GIVEN ROWS OF THIS SEAT. 6 by the template 'for every input the law returns true; each argument reads behind the call as it read before'; 0 by the template 'total and deterministic' (their statements: YtlcglnnmcgpnpaaTotals.lean).
  GIVEN WITH THE SEED: the statements are not yours to turn. If you find one false, say at which input.
  Laid BY PROGRAM, IN A SANDBOX (cutbox-rows.mjs): the forced cells as the released guide's own fill.sh prints them over the translation e08fa1eb4008711f… (all of the seat's roots in one cut). By AI agents, Wed Nov 11 2026. No macro, syntax, notation, axiom, sorry.
-/
import Derived.Test.YtlcglnnmcgpnpaaChecked
import GoSem.Claim
import GoSem.ClaimJoined
import GoSem.ClaimMapViews
import Derived.JoinedTies
import Derived.KernelRfl
namespace Go.Proofs.Ytlcglnnmcgpnpaa
/- THE CELL 'sum', in the pinned program and in every row, IS THE sha256 OF THE DUMP (.gsa) THAT YtlcglnnmcgpnpaaProg.lean LOADS. Nothing in Lean hashes anything: it is a label: what it is worth is what the hold of that sum in a sandbox is worth. -/
noncomputable def Try.pinned : Pinned := { name := "ytlcglnnmcgpnpaa", sum := "e08fa1eb4008711f29bea377d118060b76e92a20786986b7c904a6e6e1ea0391", checked := Try.checked }
namespace Rows
def none {H : Type} : Left H := { results := [], args := [] }

/-- 'mintagelaw05.WholeReads': WHATEVER THE INPUT: true; the input reads as it did. -/
def wholeReadsSpec : ChangeSpec := { name := "wholeReads", fn := fun _ => fun
  | [d1, d2] => { results := [.lit (.bool true)], args := [d1, d2] }
  | _ => none }
def wholeReadsRow : OpenClaim := { program := "ytlcglnnmcgpnpaa", sum := "e08fa1eb4008711f29bea377d118060b76e92a20786986b7c904a6e6e1ea0391", func := "mintage/mintagelaw05.WholeReads", spec := "wholeReads", apart := false }
def WholeReadsSaid : Prop := wholeReadsRow.holds Try.pinned (OpenSpec.ofChange wholeReadsSpec)

/-- ITS FALSE NEIGHBOUR: 'it returns false'. Refute it at one input. -/
def wholeReadsWrong : ChangeSpec := { name := "wholeReads", fn := fun _ => fun
  | [d1, d2] => { results := [.lit (.bool false)], args := [d1, d2] }
  | _ => none }
def WholeReadsWrongFalsely : Prop := wholeReadsRow.holds Try.pinned (OpenSpec.ofChange wholeReadsWrong)

/-- 'mintagelaw05.WholePlaces': WHATEVER THE INPUT: true; the input reads as it did. -/
def wholePlacesSpec : ChangeSpec := { name := "wholePlaces", fn := fun _ => fun
  | [d1, d2, d3, d4] => { results := [.lit (.bool true)], args := [d1, d2, d3, d4] }
  | _ => none }
def wholePlacesRow : OpenClaim := { program := "ytlcglnnmcgpnpaa", sum := "e08fa1eb4008711f29bea377d118060b76e92a20786986b7c904a6e6e1ea0391", func := "mintage/mintagelaw05.WholePlaces", spec := "wholePlaces", apart := false }
def WholePlacesSaid : Prop := wholePlacesRow.holds Try.pinned (OpenSpec.ofChange wholePlacesSpec)

/-- ITS FALSE NEIGHBOUR: 'it returns false'. Refute it at one input. -/
def wholePlacesWrong : ChangeSpec := { name := "wholePlaces", fn := fun _ => fun
  | [d1, d2, d3, d4] => { results := [.lit (.bool false)], args := [d1, d2, d3, d4] }
  | _ => none }
def WholePlacesWrongFalsely : Prop := wholePlacesRow.holds Try.pinned (OpenSpec.ofChange wholePlacesWrong)

/-- 'mintagelaw05.WholeBack': WHATEVER THE INPUT: true; the input reads as it did. -/
def wholeBackSpec : ChangeSpec := { name := "wholeBack", fn := fun _ => fun
  | [d1, d2, d3] => { results := [.lit (.bool true)], args := [d1, d2, d3] }
  | _ => none }
def wholeBackRow : OpenClaim := { program := "ytlcglnnmcgpnpaa", sum := "e08fa1eb4008711f29bea377d118060b76e92a20786986b7c904a6e6e1ea0391", func := "mintage/mintagelaw05.WholeBack", spec := "wholeBack", apart := false }
def WholeBackSaid : Prop := wholeBackRow.holds Try.pinned (OpenSpec.ofChange wholeBackSpec)

/-- ITS FALSE NEIGHBOUR: 'it returns false'. Refute it at one input. -/
def wholeBackWrong : ChangeSpec := { name := "wholeBack", fn := fun _ => fun
  | [d1, d2, d3] => { results := [.lit (.bool false)], args := [d1, d2, d3] }
  | _ => none }
def WholeBackWrongFalsely : Prop := wholeBackRow.holds Try.pinned (OpenSpec.ofChange wholeBackWrong)

/-- 'mintagelaw05.WholeWrites': WHATEVER THE INPUT: true; the input reads as it did. -/
def wholeWritesSpec : ChangeSpec := { name := "wholeWrites", fn := fun _ => fun
  | [d1, d2, d3] => { results := [.lit (.bool true)], args := [d1, d2, d3] }
  | _ => none }
def wholeWritesRow : OpenClaim := { program := "ytlcglnnmcgpnpaa", sum := "e08fa1eb4008711f29bea377d118060b76e92a20786986b7c904a6e6e1ea0391", func := "mintage/mintagelaw05.WholeWrites", spec := "wholeWrites", apart := false }
def WholeWritesSaid : Prop := wholeWritesRow.holds Try.pinned (OpenSpec.ofChange wholeWritesSpec)

/-- ITS FALSE NEIGHBOUR: 'it returns false'. Refute it at one input. -/
def wholeWritesWrong : ChangeSpec := { name := "wholeWrites", fn := fun _ => fun
  | [d1, d2, d3] => { results := [.lit (.bool false)], args := [d1, d2, d3] }
  | _ => none }
def WholeWritesWrongFalsely : Prop := wholeWritesRow.holds Try.pinned (OpenSpec.ofChange wholeWritesWrong)

/-- 'mintagelaw05.WholeOrder': WHATEVER THE INPUT: true; the input reads as it did. -/
def wholeOrderSpec : ChangeSpec := { name := "wholeOrder", fn := fun _ => fun
  | [d1, d2, d3] => { results := [.lit (.bool true)], args := [d1, d2, d3] }
  | _ => none }
def wholeOrderRow : OpenClaim := { program := "ytlcglnnmcgpnpaa", sum := "e08fa1eb4008711f29bea377d118060b76e92a20786986b7c904a6e6e1ea0391", func := "mintage/mintagelaw05.WholeOrder", spec := "wholeOrder", recurses := true, apart := false }
def WholeOrderSaid : Prop := wholeOrderRow.holds Try.pinned (OpenSpec.ofChange wholeOrderSpec)

/-- ITS FALSE NEIGHBOUR: 'it returns false'. Refute it at one input. -/
def wholeOrderWrong : ChangeSpec := { name := "wholeOrder", fn := fun _ => fun
  | [d1, d2, d3] => { results := [.lit (.bool false)], args := [d1, d2, d3] }
  | _ => none }
def WholeOrderWrongFalsely : Prop := wholeOrderRow.holds Try.pinned (OpenSpec.ofChange wholeOrderWrong)

/-- 'mintagelaw05.WholeEnds': WHATEVER THE INPUT: true; the input reads as it did. -/
def wholeEndsSpec : ChangeSpec := { name := "wholeEnds", fn := fun _ => fun
  | [] => { results := [.lit (.bool true)], args := [] }
  | _ => none }
def wholeEndsRow : OpenClaim := { program := "ytlcglnnmcgpnpaa", sum := "e08fa1eb4008711f29bea377d118060b76e92a20786986b7c904a6e6e1ea0391", func := "mintage/mintagelaw05.WholeEnds", spec := "wholeEnds", apart := false }
def WholeEndsSaid : Prop := wholeEndsRow.holds Try.pinned (OpenSpec.ofChange wholeEndsSpec)

/-- ITS FALSE NEIGHBOUR: 'it returns false'. Refute it at one input. -/
def wholeEndsWrong : ChangeSpec := { name := "wholeEnds", fn := fun _ => fun
  | [] => { results := [.lit (.bool false)], args := [] }
  | _ => none }
def WholeEndsWrongFalsely : Prop := wholeEndsRow.holds Try.pinned (OpenSpec.ofChange wholeEndsWrong)

/- THE SECOND FORM. 'bulk': how many values and letters a reading holds, each counted each time it is reached (what is shared counts as often as it is met; a slice's spare places count too). A statement '..UptoSaid' is the law's where the arguments, and the package variables that the reading takes, are together of bulk at most 1048576: NARROWER than '..Said'. Prove '..Said' where nothing that the law and all that it calls make is longer than what came in: it says more and counts as full. Else prove '..UptoSaid'. A law counts once. -/
mutual
def uptoBulk {H : Type} : DataW H → Nat
  | .lit (.string bytes) => bytes.length + 1
  | .lit _ => 1
  | .nil => 1
  | .ptr d => uptoBulk d + 1
  | .slice elems spare => uptoBulkAll elems + uptoBulkAll spare + 1
  | .agg parts => uptoBulkAll parts + 1
  | .iface _ d => uptoBulk d + 1
  | .map entries => uptoBulkEntries entries + 1
  | .held _ => 1
def uptoBulkAll {H : Type} : List (DataW H) → Nat
  | [] => 0
  | d :: r => uptoBulk d + uptoBulkAll r
def uptoBulkEntries {H : Type} : List (Lit × DataW H) → Nat
  | [] => 0
  | x :: r => uptoBulkEntry x + uptoBulkEntries r
def uptoBulkEntry {H : Type} : Lit × DataW H → Nat
  | (.string bytes, d) => bytes.length + uptoBulk d + 1
  | (_, d) => uptoBulk d + 1
 end
def uptoSmall : (H : Type) → List (DataW H) → Bool := fun _ ds => decide (uptoBulkAll ds ≤ 1048576)
def OpenSpec.upto (s : _root_.Go.ChangeSpec) : _root_.Go.OpenSpec := { _root_.Go.OpenSpec.ofChange s with cond := some uptoSmall }

/-- 'mintagelaw05.WholeReads', WHERE WHAT IT READS IS OF BULK AT MOST 1048576: true; the input reads as it did. -/
def wholeReadsUptoRow : OpenClaim := { program := "ytlcglnnmcgpnpaa", sum := "e08fa1eb4008711f29bea377d118060b76e92a20786986b7c904a6e6e1ea0391", func := "mintage/mintagelaw05.WholeReads", spec := "wholeReads", apart := false, narrowed := true }
def WholeReadsUptoSaid : Prop := wholeReadsUptoRow.holds Try.pinned (OpenSpec.upto wholeReadsSpec)

/-- 'mintagelaw05.WholePlaces', WHERE WHAT IT READS IS OF BULK AT MOST 1048576: true; the input reads as it did. -/
def wholePlacesUptoRow : OpenClaim := { program := "ytlcglnnmcgpnpaa", sum := "e08fa1eb4008711f29bea377d118060b76e92a20786986b7c904a6e6e1ea0391", func := "mintage/mintagelaw05.WholePlaces", spec := "wholePlaces", apart := false, narrowed := true }
def WholePlacesUptoSaid : Prop := wholePlacesUptoRow.holds Try.pinned (OpenSpec.upto wholePlacesSpec)

/-- 'mintagelaw05.WholeBack', WHERE WHAT IT READS IS OF BULK AT MOST 1048576: true; the input reads as it did. -/
def wholeBackUptoRow : OpenClaim := { program := "ytlcglnnmcgpnpaa", sum := "e08fa1eb4008711f29bea377d118060b76e92a20786986b7c904a6e6e1ea0391", func := "mintage/mintagelaw05.WholeBack", spec := "wholeBack", apart := false, narrowed := true }
def WholeBackUptoSaid : Prop := wholeBackUptoRow.holds Try.pinned (OpenSpec.upto wholeBackSpec)

/-- 'mintagelaw05.WholeWrites', WHERE WHAT IT READS IS OF BULK AT MOST 1048576: true; the input reads as it did. -/
def wholeWritesUptoRow : OpenClaim := { program := "ytlcglnnmcgpnpaa", sum := "e08fa1eb4008711f29bea377d118060b76e92a20786986b7c904a6e6e1ea0391", func := "mintage/mintagelaw05.WholeWrites", spec := "wholeWrites", apart := false, narrowed := true }
def WholeWritesUptoSaid : Prop := wholeWritesUptoRow.holds Try.pinned (OpenSpec.upto wholeWritesSpec)

/-- 'mintagelaw05.WholeOrder', WHERE WHAT IT READS IS OF BULK AT MOST 1048576: true; the input reads as it did. -/
def wholeOrderUptoRow : OpenClaim := { program := "ytlcglnnmcgpnpaa", sum := "e08fa1eb4008711f29bea377d118060b76e92a20786986b7c904a6e6e1ea0391", func := "mintage/mintagelaw05.WholeOrder", spec := "wholeOrder", recurses := true, apart := false, narrowed := true }
def WholeOrderUptoSaid : Prop := wholeOrderUptoRow.holds Try.pinned (OpenSpec.upto wholeOrderSpec)

/-- 'mintagelaw05.WholeEnds', WHERE WHAT IT READS IS OF BULK AT MOST 1048576: true; the input reads as it did. -/
def wholeEndsUptoRow : OpenClaim := { program := "ytlcglnnmcgpnpaa", sum := "e08fa1eb4008711f29bea377d118060b76e92a20786986b7c904a6e6e1ea0391", func := "mintage/mintagelaw05.WholeEnds", spec := "wholeEnds", apart := false, narrowed := true }
def WholeEndsUptoSaid : Prop := wholeEndsUptoRow.holds Try.pinned (OpenSpec.upto wholeEndsSpec)

end Rows
end Go.Proofs.Ytlcglnnmcgpnpaa
