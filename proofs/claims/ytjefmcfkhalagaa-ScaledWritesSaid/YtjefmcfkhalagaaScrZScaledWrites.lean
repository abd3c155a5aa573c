/- scaled.reader: is, digits. -/
import Derived.Test.YtjefmcfkhalagaaWLast
import Derived.Test.YtjefmcfkhalagaaWMore
import Derived.Outline
import Derived.WalkSpells
import Derived.KernelRfl
import Derived.Deep.QuietTactic
import Derived.BigQuiet
import Derived.Test.YtjefmcfkhalagaaQ0ZScaledWrites
namespace Go.Proofs.Ytjefmcfkhalagaa.Scr
set_option linter.unusedVariables false
set_option linter.unusedSimpArgs false
open Go.RowKit Go.Proofs.Ytjefmcfkhalagaa.Q Go.Proofs.YtjefmcfkhalagaaW.PrintWords Go.Proofs.YtjefmcfkhalagaaW.PrintLast

/-- A reader: its text (A, c, l), where it stands. -/
def Rd (w : World) (g : Nat) (A : Option Addr) (c : Nat) (l : List Int) (p : Nat) : Prop := w.heap[g]? = some (.cells #[.slice A l.length c, .int .i64 (p : Int)] 69 (0, 0))
def isb (l : List Int) (p : Nat) (a b : Int) : Bool := if p < l.length then (if rd l (p : Int) = a then true else rd l (p : Int) == b) else false
set_option maxHeartbeats 2000000 in
set_option maxRecDepth 100000 in
theorem is_calls (w : World) (g : Nat) (A : Option Addr) (c : Nat) (l : List Int) (p : Nat) (a b : Int) (hg : Rd w g A c l p) (hr : Kd.C (Kd.int .u8) w A l.length l) :
    Calls Try.prog 54 #[.pointer (some ⟨g, 0, none⟩), .int .u8 a, .int .u8 b] w fun e w' => e = .returned (.bool (isb l p a b)) ∧ Drawn0 w w' := by
  unfold Rd at hg
  have k0 : w.cell? ⟨g, 0, none⟩ = some (.slice A l.length c) := (blk_cell hg 0).trans rfl
  have k1 : w.cell? ⟨g, 1, none⟩ = some (.int .i64 (p : Int)) := (blk_cell hg 1).trans rfl
  clear hg
  by_cases hp : p < l.length
  · obtain ⟨ad, e1, hx⟩ := Kd.at_int hr (p : Int) (by omega) (by omega)
    simp only [Int.toNat_natCast] at hx
    subst e1
    have p1 := eq_true (show (0 : Int) ≤ (p : Int) by omega)
    have p2 := eq_true (show (p : Int) < (l.length : Int) by omega)
    obtain ⟨x, hxx⟩ : ∃ x, x = rd l (p : Int) := ⟨_, rfl⟩
    rw [← hxx] at hx
    have e2 : isb l p a b = if x = a then true else x == b := by unfold isb; rw [if_pos hp, hxx]
    rw [e2]
    clear hr hp hxx e2
    by_cases ha : x = a
    · have ca : (x == a) = true := by simp [ha]
      rw [if_pos ha]
      clear ha
      go_enter Try.func54, Try.ntmps54
      go_wp2_with fail
      go_quiet (fail)
      go_wp2_with fail
      go_ret
      exact ⟨rfl, Drawn0.step (Drawn0.refl _) _⟩
    · have ca : (x == a) = false := by simp [ha]
      rw [if_neg ha]
      clear ha
      go_enter Try.func54, Try.ntmps54
      go_wp2_with fail
      go_quiet (fail)
      go_wp2_with fail
      go_ret
      exact ⟨rfl, Drawn0.step (Drawn0.refl _) _⟩
  · have e2 : isb l p a b = false := by unfold isb; rw [if_neg hp]
    rw [e2]
    have p2 := eq_false (show ¬ (p : Int) < (l.length : Int) by omega)
    clear hr e2
    go_enter Try.func54, Try.ntmps54
    go_wp2_with fail
    go_quiet (fail)
    go_wp2_with fail
    go_ret
    exact ⟨rfl, Drawn0.step (Drawn0.refl _) _⟩
end Go.Proofs.Ytjefmcfkhalagaa.Scr
