/- DateParts, walked: any arguments. -/
import Derived.Test.YtobgpdmiiipmmaaPartswZDateParts
namespace Go.Proofs.Ytobgpdmiiipmmaa.Keep
set_option linter.unusedVariables false
open Go.RowKit Go.Proofs.Ytobgpdmiiipmmaa.Q Go.Proofs.YtobgpdmiiipmmaaW.PrintWords Go.Proofs.YtobgpdmiiipmmaaW.PrintLast
theorem byte_wf {a : Int} (h : (Lit.int .u8 a).wf = true) : 0 ≤ a ∧ a < 256 := by
  have h1 : (decide (IntKind.u8.min ≤ a) && decide (a ≤ IntKind.u8.max)) = true := h
  have e1 : IntKind.u8.min = 0 := by rfl
  have e2 : IntKind.u8.max = 255 := by rfl
  rw [e1, e2] at h1
  simp at h1
  omega
theorem dateParts_walk (y m d h i s : Int) (A : Option Addr) (len c : Nat) (z : List Int) (w : World) (wy : (Lit.int .u64 y).wf = true) (wm : (Lit.int .u64 m).wf = true) (wd : (Lit.int .u64 d).wf = true) (wh : (Lit.int .u64 h).wf = true) (wi : (Lit.int .u64 i).wf = true) (ws : (Lit.int .u64 s).wf = true)
    (hz : (A = none ∧ len = 0 ∧ c = 0 ∧ z = []) ∨ ∃ x, A = some x ∧ len ≤ c ∧ c ≤ maxLen ∧ z.length = c ∧ (∀ i, i < z.length → w.cell? (x.add i) = some (.int .u8 (z.getD i 0))) ∧ ∀ n ∈ z, (Lit.int .u8 n).wf = true) (hsz : len * 1 ≤ 140737488351232) :
    Calls Try.prog 8 #[.int .u64 y, .int .u64 m, .int .u64 d, .int .u64 h, .int .u64 i, .int .u64 s, .slice A len c] w fun e w' => e = .returned (.bool true) ∧ Below w.heap.size w w' := by
  obtain ⟨l, rfl, hr, hm, hw, hc⟩ := ReadsInt.ofRowC hz
  exact dateParts_walk0 y m d h i s w A c l (Kd.C_of_reads (readsInt_of.1 hr)) hc (by omega) (fun x hx => byte_wf (hw x hx)) (Dig.wf_u64w wy).1 (Dig.wf_u64w wm).1 (Dig.wf_u64w wd).1 (Dig.wf_u64w wh).1 (Dig.wf_u64w wi).1 (Dig.wf_u64w ws).1
end Go.Proofs.Ytobgpdmiiipmmaa.Keep
