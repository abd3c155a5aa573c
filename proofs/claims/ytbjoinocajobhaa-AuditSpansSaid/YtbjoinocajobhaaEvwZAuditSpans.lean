/- AuditSpans, walked. -/
import Derived.Test.YtbjoinocajobhaaEvdZAuditSpans
import Derived.Test.YtbjoinocajobhaaPlwZAuditSpans
import Derived.Test.YtbjoinocajobhaaQ0ZAuditSpans
namespace Go.Proofs.Ytbjoinocajobhaa.Evs
set_option linter.unusedVariables false
set_option linter.unusedSimpArgs false
open Go.RowKit Go.Proofs.Ytbjoinocajobhaa.Q Go.Proofs.YtbjoinocajobhaaW.PrintWords Go.Proofs.YtbjoinocajobhaaW.PrintLast Go.Proofs.Ytbjoinocajobhaa.Ju Go.Proofs.Ytbjoinocajobhaa.Keep Go.Maps
theorem num_callse (e : Int) (w : World) : Calls Try.prog 14 #[.int .i64 e] w fun e_ w' => e_ = .returned (.int .i64 e) ∧ Drawn0 w w' := mintagelaw31_num.calls e e w rfl
theorem ev_mem {l : List E6} {j : Nat} (h : j < l.length) : ev l j ∈ l := by
  unfold ev
  rw [List.getD_eq_getElem?_getD, List.getElem?_eq_getElem h]
  exact List.getElem_mem h
set_option maxHeartbeats 4000000 in
set_option maxRecDepth 100000 in
theorem spans_walk (A : Option Addr) (l : List E6) (c : Nat) (se : Int) (w : World) (hr : ER w A l) (hc : l.length ≤ c) (hw : ∀ y ∈ l, (Lit.int .i64 y.f0).wf = true) (_ : (Lit.int .i64 se).wf = true) :
    Calls Try.prog 10 #[.slice A l.length c, .int .i64 se] w fun e w' => e = .returned (.bool true) ∧ Below w.heap.size w w' := by
  have CR := Aside0.mk hr
  have HW := Aside0.mk hw
  clear hr hw
  go_enter Try.func10, Try.ntmps10
  go_upto_if 12 with fail
  go_cut [0] from 10 to 14 (fun s0 wx => ∃ m : List E6, s0 = .slice A m.length c ∧ m.length ≤ 300 ∧ Aside0 (ER w A m) ∧ Aside0 (∀ y ∈ m, (Lit.int .i64 y.f0).wf = true) ∧ wx = w)
  case first =>
    by_cases h : 300 < l.length
    · have p1 := eq_true (show (300 : Int) < (l.length : Int) by omega)
      have q1 := eq_true (show (300 : Int) ≤ (c : Int) by omega)
      have hl : (l.take 300).length = 300 := by rw [List.length_take]; omega
      have HL := Aside0.mk hl
      clear hl
      go_wp2_with fail
      go_meet
      case rel => exact ⟨l.take 300, by rw [HL.out], by rw [HL.out]; omega, ⟨CR.out.take 300⟩, ⟨fun y hy => HW.out y (List.mem_of_mem_take hy)⟩, rfl⟩
    · have p1 := eq_false (show ¬ ((300 : Int) < (l.length : Int)) by omega)
      go_wp2_with fail
      go_meet
      case rel => exact ⟨l, rfl, by omega, CR, HW, rfl⟩
  case rest =>
    obtain ⟨l, rfl, hm1, CM, HM, rfl⟩ := hcut
    clear CR HW
    obtain ⟨⟨out, er⟩, hj⟩ : ∃ r, spansF se l = r := ⟨_, rfl⟩
    have HJ := Aside0.mk hj
    have HJO : Aside0 (spansO se l = (out, er)) := ⟨by rw [← spans_same]; exact hj⟩
    have HMW : Aside0 (∀ j, j < l.length → (Lit.int .i64 (ev l j).f0).wf = true) := ⟨fun j hj => HM.out _ (ev_mem hj)⟩
    have hu32 := Try.underlying32
    clear hj
    go_upto_region 4 with (go_at_call 23; go_must (refine (spans_calls wc A c l se CM.out hm1 HMW.out).mono ?_; rintro e_ w4 ⟨v4, rfl, hR_, hd_⟩; rw [HJ.out] at hR_; rw [HJ.out]; obtain ⟨A4, c4, rfl⟩ := Kd.R_slice hR_; have D4 := Aside0.mk (Kd.R_reads' hR_).2.2; have B4 := Aside0.mk hd_; have CM4 := Aside0.mk (CM.out.below hd_); clear hR_ hd_))
    go_upto_region 5 with (go_at_call 24; go_must (refine (spansO_calls w4 A c l se CM4.out hm1).mono ?_; rintro e_ w5 ⟨v5, rfl, hR_, hd_⟩; rw [HJO.out] at hR_; rw [HJO.out]; obtain ⟨A5, c5, rfl⟩ := Kd.R_slice hR_; have D5 := Aside0.mk (Kd.R_reads' hR_).2.2; have E5 := Aside0.mk (Kd.C_below D4.out hd_); have B5 := Aside0.mk (below_step B4.out hd_); clear hR_ hd_))
    go_upto_if 37 with (go_at_call 14; go_must ((with_reducible refine (num_callse er w5).mono ?_); rintro e_ w6 ⟨rfl, hd_⟩; have D6 := Aside0.mk (Kd.C_below D5.out hd_.below); have E6 := Aside0.mk (Kd.C_below E5.out hd_.below); have B6 := Aside0.mk (below_step B5.out hd_.below); clear hd_))
    have hmx : out.length ≤ 9223372036854775807 := Kd.C_max D6.out
    clear D4 B4 CM4 D5 E5 B5
    go_upto_region 8 with fail
    go_loopw [9] (fun s9 wr => ∃ i : Nat, i ≤ out.length ∧ s9 = .int .i64 (i : Int) ∧ Aside0 (Below w6.heap.size w6 wr)) (fun s9 _ => out.length - (intOf s9).toNat)
    case atStart => exact ⟨0, Nat.zero_le _, rfl, ⟨Below.refl _ _⟩⟩
    case round =>
      obtain ⟨i, hi, rfl, B9⟩ := hrel
      by_cases hlt : i < out.length
      · obtain ⟨ad, e, x0, x1, x2, x3, x4⟩ := span_at D6.out B9.out hlt
        subst e
        obtain ⟨ae, e', y0, y1, y2, y3, y4⟩ := span_at E6.out B9.out hlt
        subst e'
        have p1 := eq_true (show (0 : Int) ≤ (i : Int) by omega)
        have p2 := eq_true (show (i : Int) < (out.length : Int) by omega)
        go_upto_region 10 with fail
        go_quiet (fail)
        go_wp2_with fail
        go_roundw
        case rel => exact ⟨i + 1, by omega, by go_num, ⟨pw_below_drewN B9.out _⟩⟩
        case measure => simp [intOf]; omega
      · have p2 := eq_false (show ¬ ((i : Int) < (out.length : Int)) by omega)
        go_wp2_with (go_at_call 17; go_must (refine (wakes_calls _).mono ?_; rintro e_ w9 ⟨rfl, hd_⟩; have BZ := Aside0.mk (below_step (below_step B6.out B9.out) hd_); clear hd_))
        go_ret
        exact ⟨rfl, BZ.out⟩
end Go.Proofs.Ytbjoinocajobhaa.Evs
