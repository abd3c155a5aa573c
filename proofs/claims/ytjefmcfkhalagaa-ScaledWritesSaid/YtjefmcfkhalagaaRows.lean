/-
  No cell of these rows narrows 'for every input' (looked for: loops, veiled, ifaces, maps, wideKeys, modest, calm, conditions, laid).
  DERIVED. THE GIVEN ROWS OF THIS SEAT. 6 by the template 'for every input the law returns true; each argument reads behind the call as it read before'; 0 by the template 'total and deterministic' (their statements: YtjefmcfkhalagaaTotals.lean).
  GIVEN WITH THE SEED: the statements are not yours to turn. If you find one false, say at which input.
  Laid BY PROGRAM, IN A SANDBOX (cutbox-rows.mjs): the forced cells as the released guide's own fill.sh prints them over the translation d86c88ea353c0a06… (all of the seat's roots in one cut). By AI agents, Wed Nov 11 2026. No macro, syntax, notation, axiom, sorry.
-/
import Derived.Test.YtjefmcfkhalagaaChecked
import GoSem.Claim
import GoSem.ClaimJoined
import GoSem.ClaimMapViews
import Derived.JoinedTies
import Derived.KernelRfl
namespace Go.Proofs.Ytjefmcfkhalagaa
/- THE CELL 'sum', in the pinned program and in every row, IS THE sha256 OF THE DUMP (.gsa) THAT YtjefmcfkhalagaaProg.lean LOADS. Nothing in Lean hashes anything: it is a label: what it is worth is what the hold of that sum in a sandbox is worth. -/
noncomputable def Try.pinned : Pinned := { name := "ytjefmcfkhalagaa", sum := "d86c88ea353c0a069d7ce4bbabd5be4f0fb20c8c1a9a0a0a6430521f0bbd6c5d", checked := Try.checked }
namespace Rows
def none {H : Type} : Left H := { results := [], args := [] }

/-- 'mintagelaw12.ScaledReads': WHATEVER THE INPUT: true; the input reads as it did. -/
def scaledReadsSpec : ChangeSpec := { name := "scaledReads", fn := fun _ => fun
  | [d1, d2] => { results := [.lit (.bool true)], args := [d1, d2] }
  | _ => none }
def scaledReadsRow : OpenClaim := { program := "ytjefmcfkhalagaa", sum := "d86c88ea353c0a069d7ce4bbabd5be4f0fb20c8c1a9a0a0a6430521f0bbd6c5d", func := "mintage/mintagelaw12.ScaledReads", spec := "scaledReads", unfollowed := true, recurses := true, apart := false }
def ScaledReadsSaid : Prop := scaledReadsRow.holds Try.pinned (OpenSpec.ofChange scaledReadsSpec)

/-- ITS FALSE NEIGHBOUR: 'it returns false'. Refute it at one input. -/
def scaledReadsWrong : ChangeSpec := { name := "scaledReads", fn := fun _ => fun
  | [d1, d2] => { results := [.lit (.bool false)], args := [d1, d2] }
  | _ => none }
def ScaledReadsWrongFalsely : Prop := scaledReadsRow.holds Try.pinned (OpenSpec.ofChange scaledReadsWrong)

/-- 'mintagelaw12.ScaledBack': WHATEVER THE INPUT: true; the input reads as it did. -/
def scaledBackSpec : ChangeSpec := { name := "scaledBack", fn := fun _ => fun
  | [d1, d2, d3] => { results := [.lit (.bool true)], args := [d1, d2, d3] }
  | _ => none }
def scaledBackRow : OpenClaim := { program := "ytjefmcfkhalagaa", sum := "d86c88ea353c0a069d7ce4bbabd5be4f0fb20c8c1a9a0a0a6430521f0bbd6c5d", func := "mintage/mintagelaw12.ScaledBack", spec := "scaledBack", unfollowed := true, recurses := true, apart := false }
def ScaledBackSaid : Prop := scaledBackRow.holds Try.pinned (OpenSpec.ofChange scaledBackSpec)

/-- ITS FALSE NEIGHBOUR: 'it returns false'. Refute it at one input. -/
def scaledBackWrong : ChangeSpec := { name := "scaledBack", fn := fun _ => fun
  | [d1, d2, d3] => { results := [.lit (.bool false)], args := [d1, d2, d3] }
  | _ => none }
def ScaledBackWrongFalsely : Prop := scaledBackRow.holds Try.pinned (OpenSpec.ofChange scaledBackWrong)

/-- 'mintagelaw12.ScaledPlaces': WHATEVER THE INPUT: true; the input reads as it did. -/
def scaledPlacesSpec : ChangeSpec := { name := "scaledPlaces", fn := fun _ => fun
  | [d1, d2, d3] => { results := [.lit (.bool true)], args := [d1, d2, d3] }
  | _ => none }
def scaledPlacesRow : OpenClaim := { program := "ytjefmcfkhalagaa", sum := "d86c88ea353c0a069d7ce4bbabd5be4f0fb20c8c1a9a0a0a6430521f0bbd6c5d", func := "mintage/mintagelaw12.ScaledPlaces", spec := "scaledPlaces", unfollowed := true, recurses := true, apart := false }
def ScaledPlacesSaid : Prop := scaledPlacesRow.holds Try.pinned (OpenSpec.ofChange scaledPlacesSpec)

/-- ITS FALSE NEIGHBOUR: 'it returns false'. Refute it at one input. -/
def scaledPlacesWrong : ChangeSpec := { name := "scaledPlaces", fn := fun _ => fun
  | [d1, d2, d3] => { results := [.lit (.bool false)], args := [d1, d2, d3] }
  | _ => none }
def ScaledPlacesWrongFalsely : Prop := scaledPlacesRow.holds Try.pinned (OpenSpec.ofChange scaledPlacesWrong)

/-- 'mintagelaw12.ScaledOrder': WHATEVER THE INPUT: true; the input reads as it did. -/
def scaledOrderSpec : ChangeSpec := { name := "scaledOrder", fn := fun _ => fun
  | [d1, d2] => { results := [.lit (.bool true)], args := [d1, d2] }
  | _ => none }
def scaledOrderRow : OpenClaim := { program := "ytjefmcfkhalagaa", sum := "d86c88ea353c0a069d7ce4bbabd5be4f0fb20c8c1a9a0a0a6430521f0bbd6c5d", func := "mintage/mintagelaw12.ScaledOrder", spec := "scaledOrder", unfollowed := true, recurses := true, apart := false }
def ScaledOrderSaid : Prop := scaledOrderRow.holds Try.pinned (OpenSpec.ofChange scaledOrderSpec)

/-- ITS FALSE NEIGHBOUR: 'it returns false'. Refute it at one input. -/
def scaledOrderWrong : ChangeSpec := { name := "scaledOrder", fn := fun _ => fun
  | [d1, d2] => { results := [.lit (.bool false)], args := [d1, d2] }
  | _ => none }
def ScaledOrderWrongFalsely : Prop := scaledOrderRow.holds Try.pinned (OpenSpec.ofChange scaledOrderWrong)

/-- 'mintagelaw12.ScaledMoves': WHATEVER THE INPUT: true; the input reads as it did. -/
def scaledMovesSpec : ChangeSpec := { name := "scaledMoves", fn := fun _ => fun
  | [d1, d2, d3] => { results := [.lit (.bool true)], args := [d1, d2, d3] }
  | _ => none }
def scaledMovesRow : OpenClaim := { program := "ytjefmcfkhalagaa", sum := "d86c88ea353c0a069d7ce4bbabd5be4f0fb20c8c1a9a0a0a6430521f0bbd6c5d", func := "mintage/mintagelaw12.ScaledMoves", spec := "scaledMoves", unfollowed := true, recurses := true, apart := false }
def ScaledMovesSaid : Prop := scaledMovesRow.holds Try.pinned (OpenSpec.ofChange scaledMovesSpec)

/-- ITS FALSE NEIGHBOUR: 'it returns false'. Refute it at one input. -/
def scaledMovesWrong : ChangeSpec := { name := "scaledMoves", fn := fun _ => fun
  | [d1, d2, d3] => { results := [.lit (.bool false)], args := [d1, d2, d3] }
  | _ => none }
def ScaledMovesWrongFalsely : Prop := scaledMovesRow.holds Try.pinned (OpenSpec.ofChange scaledMovesWrong)

/-- 'mintagelaw12.ScaledWrites': WHATEVER THE INPUT: true; the input reads as it did. -/
def scaledWritesSpec : ChangeSpec := { name := "scaledWrites", fn := fun _ => fun
  | [d1, d2, d3, d4] => { results := [.lit (.bool true)], args := [d1, d2, d3, d4] }
  | _ => none }
def scaledWritesRow : OpenClaim := { program := "ytjefmcfkhalagaa", sum := "d86c88ea353c0a069d7ce4bbabd5be4f0fb20c8c1a9a0a0a6430521f0bbd6c5d", func := "mintage/mintagelaw12.ScaledWrites", spec := "scaledWrites", unfollowed := true, recurses := true, apart := false }
def ScaledWritesSaid : Prop := scaledWritesRow.holds Try.pinned (OpenSpec.ofChange scaledWritesSpec)

/-- ITS FALSE NEIGHBOUR: 'it returns false'. Refute it at one input. -/
def scaledWritesWrong : ChangeSpec := { name := "scaledWrites", fn := fun _ => fun
  | [d1, d2, d3, d4] => { results := [.lit (.bool false)], args := [d1, d2, d3, d4] }
  | _ => none }
def ScaledWritesWrongFalsely : Prop := scaledWritesRow.holds Try.pinned (OpenSpec.ofChange scaledWritesWrong)

/- THE SECOND FORM. 'bulk': how many values and letters a reading holds, each counted each time it is reached (what is shared counts as often as it is met; a slice's spare places count too). A statement '..UptoSaid' is the law's where the arguments, and the package variables that the reading takes, are together of bulk at most 1048576: NARROWER than '..Said'. Prove '..Said' where nothing that the law and all that it calls make is longer than what came in: it says more and counts as full. Else prove '..UptoSaid'. A law counts once. -/
mutual
def uptoBulk {H : Type} : DataW H → Nat
  | .lit (.string bytes) => bytes.length + 1
  | .lit _ => 1
  | .nil => 1
  | .ptr d => uptoBulk d + 1
  | .slice elems spare => uptoBulkAll elems + uptoBulkAll spare + 1
  | .agg parts => uptoBulkAll parts + 1
  | .iface _ d => uptoBulk d + 1
  | .map entries => uptoBulkEntries entries + 1
  | .held _ => 1
def uptoBulkAll {H : Type} : List (DataW H) → Nat
  | [] => 0
  | d :: r => uptoBulk d + uptoBulkAll r
def uptoBulkEntries {H : Type} : List (Lit × DataW H) → Nat
  | [] => 0
  | x :: r => uptoBulkEntry x + uptoBulkEntries r
def uptoBulkEntry {H : Type} : Lit × DataW H → Nat
  | (.string bytes, d) => bytes.length + uptoBulk d + 1
  | (_, d) => uptoBulk d + 1
 end
def uptoSmall : (H : Type) → List (DataW H) → Bool := fun _ ds => decide (uptoBulkAll ds ≤ 1048576)
def OpenSpec.upto (s : _root_.Go.ChangeSpec) : _root_.Go.OpenSpec := { _root_.Go.OpenSpec.ofChange s with cond := some uptoSmall }

/-- 'mintagelaw12.ScaledReads', WHERE WHAT IT READS IS OF BULK AT MOST 1048576: true; the input reads as it did. -/
def scaledReadsUptoRow : OpenClaim := { program := "ytjefmcfkhalagaa", sum := "d86c88ea353c0a069d7ce4bbabd5be4f0fb20c8c1a9a0a0a6430521f0bbd6c5d", func := "mintage/mintagelaw12.ScaledReads", spec := "scaledReads", unfollowed := true, recurses := true, apart := false, narrowed := true }
def ScaledReadsUptoSaid : Prop := scaledReadsUptoRow.holds Try.pinned (OpenSpec.upto scaledReadsSpec)

/-- 'mintagelaw12.ScaledBack', WHERE WHAT IT READS IS OF BULK AT MOST 1048576: true; the input reads as it did. -/
def scaledBackUptoRow : OpenClaim := { program := "ytjefmcfkhalagaa", sum := "d86c88ea353c0a069d7ce4bbabd5be4f0fb20c8c1a9a0a0a6430521f0bbd6c5d", func := "mintage/mintagelaw12.ScaledBack", spec := "scaledBack", unfollowed := true, recurses := true, apart := false, narrowed := true }
def ScaledBackUptoSaid : Prop := scaledBackUptoRow.holds Try.pinned (OpenSpec.upto scaledBackSpec)

/-- 'mintagelaw12.ScaledPlaces', WHERE WHAT IT READS IS OF BULK AT MOST 1048576: true; the input reads as it did. -/
def scaledPlacesUptoRow : OpenClaim := { program := "ytjefmcfkhalagaa", sum := "d86c88ea353c0a069d7ce4bbabd5be4f0fb20c8c1a9a0a0a6430521f0bbd6c5d", func := "mintage/mintagelaw12.ScaledPlaces", spec := "scaledPlaces", unfollowed := true, recurses := true, apart := false, narrowed := true }
def ScaledPlacesUptoSaid : Prop := scaledPlacesUptoRow.holds Try.pinned (OpenSpec.upto scaledPlacesSpec)

/-- 'mintagelaw12.ScaledOrder', WHERE WHAT IT READS IS OF BULK AT MOST 1048576: true; the input reads as it did. -/
def scaledOrderUptoRow : OpenClaim := { program := "ytjefmcfkhalagaa", sum := "d86c88ea353c0a069d7ce4bbabd5be4f0fb20c8c1a9a0a0a6430521f0bbd6c5d", func := "mintage/mintagelaw12.ScaledOrder", spec := "scaledOrder", unfollowed := true, recurses := true, apart := false, narrowed := true }
def ScaledOrderUptoSaid : Prop := scaledOrderUptoRow.holds Try.pinned (OpenSpec.upto scaledOrderSpec)

/-- 'mintagelaw12.ScaledMoves', WHERE WHAT IT READS IS OF BULK AT MOST 1048576: true; the input reads as it did. -/
def scaledMovesUptoRow : OpenClaim := { program := "ytjefmcfkhalagaa", sum := "d86c88ea353c0a069d7ce4bbabd5be4f0fb20c8c1a9a0a0a6430521f0bbd6c5d", func := "mintage/mintagelaw12.ScaledMoves", spec := "scaledMoves", unfollowed := true, recurses := true, apart := false, narrowed := true }
def ScaledMovesUptoSaid : Prop := scaledMovesUptoRow.holds Try.pinned (OpenSpec.upto scaledMovesSpec)

/-- 'mintagelaw12.ScaledWrites', WHERE WHAT IT READS IS OF BULK AT MOST 1048576: true; the input reads as it did. -/
def scaledWritesUptoRow : OpenClaim := { program := "ytjefmcfkhalagaa", sum := "d86c88ea353c0a069d7ce4bbabd5be4f0fb20c8c1a9a0a0a6430521f0bbd6c5d", func := "mintage/mintagelaw12.ScaledWrites", spec := "scaledWrites", unfollowed := true, recurses := true, apart := false, narrowed := true }
def ScaledWritesUptoSaid : Prop := scaledWritesUptoRow.holds Try.pinned (OpenSpec.upto scaledWritesSpec)

end Rows
end Go.Proofs.Ytjefmcfkhalagaa
