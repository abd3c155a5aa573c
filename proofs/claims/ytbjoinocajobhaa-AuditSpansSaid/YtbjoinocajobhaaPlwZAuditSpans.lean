/- AuditPlains, walked. -/
import Derived.Test.YtbjoinocajobhaaPlZAuditSpans
import Derived.StillTailTactics
import Derived.Test.YtbjoinocajobhaaQ1ZAuditSpans
namespace Go.Proofs.Ytbjoinocajobhaa.Ju
set_option linter.unusedVariables false
set_option linter.unusedSimpArgs false
open Go.RowKit Go.Proofs.Ytbjoinocajobhaa.Q Go.Proofs.YtbjoinocajobhaaW.PrintWords Go.Proofs.YtbjoinocajobhaaW.PrintLast
theorem wakes_yes : mintagelaw31_wakes.f 40 = some true := by decide +kernel
theorem wakes_calls (w : World) : Calls Try.prog 17 #[] w fun e w' => e = .returned (.bool true) ∧ Below w.heap.size w w' := mintagelaw31_wakes.calls 40 true w wakes_yes
set_option maxHeartbeats 2000000 in
set_option maxRecDepth 100000 in
theorem plains_walk (A : Option Addr) (l : List S32) (c : Nat) (w : World) (hr : Kd.C k32 w A l.length l) (hc : l.length ≤ c) (_ : ∀ y ∈ l, WfS y) :
    Calls Try.prog 8 #[.slice A l.length c] w fun e w' => e = .returned (.bool true) ∧ Below w.heap.size w w' := by
  have CR := Aside0.mk hr
  clear hr
  go_enter Try.func8, Try.ntmps8
  go_upto_if 5 with fail
  go_cut [0] from 3 to 7 (fun s0 wx => ∃ m : List S32, s0 = .slice A m.length c ∧ m.length ≤ 300 ∧ m.length ≤ c ∧ Aside0 (Kd.C k32 w A m.length m) ∧ wx = w)
  case first =>
    by_cases h : 300 < l.length
    · have p1 := eq_true (show (300 : Int) < (l.length : Int) by omega)
      have q1 := eq_true (show (300 : Int) ≤ (c : Int) by omega)
      have hm := C_take CR.out 300 (by omega)
      have hl : (l.take 300).length = 300 := by rw [List.length_take]; omega
      have HM := Aside0.mk hm
      have HL := Aside0.mk hl
      clear hm hl
      go_wp2_with fail
      go_meet
      case rel => exact ⟨l.take 300, by rw [HL.out], by rw [HL.out]; omega, by rw [HL.out]; omega, HM, rfl⟩
    · have p1 := eq_false (show ¬ ((300 : Int) < (l.length : Int)) by omega)
      go_wp2_with fail
      go_meet
      case rel => exact ⟨l, rfl, by omega, hc, CR, rfl⟩
  case rest =>
    obtain ⟨m, rfl, hm1, hm2, CM, rfl⟩ := hcut
    clear CR
    go_wp2_with (first
      | (go_at_call 17; go_must (refine (wakes_calls _).mono ?_; rintro e_ w3 ⟨rfl, hd_⟩; have B3 := Aside0.mk (below_step B2.out hd_); clear hd_))
      | (go_at_call 22; go_must (refine (refPlain_calls w1 A c m (Kd.C_below CM.out B1.out) (by omega)).mono ?_; rintro e_ w2 ⟨rfl, hd_⟩; have B2 := Aside0.mk (below_step B1.out hd_); clear hd_))
      | (go_at_call 21; go_must (refine (plain_calls wc A c m CM.out hm2 (by omega)).mono ?_; rintro e_ w1 ⟨rfl, hd_⟩; have B1 := Aside0.mk hd_; clear hd_)))
    go_ret
    exact ⟨rfl, B3.out⟩
end Go.Proofs.Ytbjoinocajobhaa.Ju
