/- DateWrites, walked. -/
import Derived.Test.YtobgpdmiiipmmaaWrZDateWrites
import Derived.Test.YtobgpdmiiipmmaaLive2ZDateWrites
import Derived.Outline
import Derived.Test.YtobgpdmiiipmmaaQ1ZDateWrites
import Derived.Test.YtobgpdmiiipmmaaQ2ZDateWrites
import Derived.Test.YtobgpdmiiipmmaaQ0ZDateWrites
namespace Go.Proofs.Ytobgpdmiiipmmaa.Keep
set_option linter.unusedVariables false
set_option linter.unusedSimpArgs false
open Go.RowKit Go.Proofs.Ytobgpdmiiipmmaa.Q Go.Proofs.YtobgpdmiiipmmaaW.PrintWords Go.Proofs.YtobgpdmiiipmmaaW.PrintLast

theorem el8 : El 5 := ⟨by decide, by decide, by decide⟩
theorem no8 : 5 ∉ BT := by decide
theorem same_self (t : List Int) : mintagekeep_Same.f t t = some true := by unfold mintagekeep_Same.f; simp
set_option maxHeartbeats 2000000 in
set_option maxRecDepth 100000 in
theorem dateWrites_false (x : Int) (w : World) (wx : (Lit.int .u64 x).wf = true) :
    Calls Try.prog 3 #[.int .u64 x, .bool false] w fun e w' => e = .returned (.bool true) ∧ Below w.heap.size w w' := by
  obtain ⟨x0, x1⟩ := Dig.wf_u64w wx
  obtain ⟨t, e, ⟨K1, h1⟩, lt, ht⟩ := Cal.day_says x x0 x1
  obtain ⟨v, g, ⟨K2, h2⟩, lv, hv⟩ := Cal.moment_says x x0 x1
  have H1 := Aside0.mk (h1 (K1 + K2) (by omega))
  have H2 := Aside0.mk (h2 (K1 + K2) (by omega))
  have HT := Aside0.mk ht
  have HV := Aside0.mk hv
  have L0 := Aside0.mk (Live.start w)
  clear h1 h2 ht hv x0 x1 wx
  go_enter Try.func3, Try.ntmps3
  go_wp2_with (first
    | (go_at_call 18; refine (mintagelaw13_wakes.calls true _ rfl).mono ?_; rintro e_ w15 ⟨rfl, hd_⟩; have L15 := Aside0.mk (L14.out.below hd_); clear hd_)
    | (go_at_call 17; refine L13.out.close_calls.mono ?_; rintro e_ w14 ⟨rfl, L_⟩; have L14 := Aside0.mk L_; clear L_)
    | (go_at_call 16; refine (mintagelaw13_num.calls g g w12 rfl).mono ?_; rintro e_ w13 ⟨rfl, hd_⟩; have L13 := Aside0.mk (L12.out.below hd_.below); clear hd_)
    | (go_at_call 15; refine (mintagekeep_Same.calls A7 c7 v A8 c8 v true w11 (L11.out.rows.C 0 rfl) l7 R11v.out.c hc8 (same_self v)).mono ?_; rintro e_ w12 ⟨rfl, hd_⟩; have L12 := Aside0.mk (L11.out.below hd_.below); clear hd_)
    | (go_at_call 16; refine (mintagelaw13_num.calls e e w10 rfl).mono ?_; rintro e_ w11 ⟨rfl, hd_⟩; have L11 := Aside0.mk (L10.out.below hd_.below); have R11v := Aside0.mk (R10v.out.below hd_.below); clear hd_)
    | (go_at_call 15; refine (mintagekeep_Same.calls A1 c1 t A2 c2 t true w9 (L9.out.rows.C 2 rfl) l1 R9t.out.c hc2 (same_self t)).mono ?_; rintro e_ w10 ⟨rfl, hd_⟩; have L10 := Aside0.mk (L9.out.below hd_.below); have R10v := Aside0.mk (R9v.out.below hd_.below); clear hd_)
    | (go_at_call 12; refine (L8.out.bytes_calls2 0 (A := A7) (c := c7) (xs := v) rfl (by omega)).mono ?_; rintro e_ w9 ⟨rfl, ⟨ok9, L_⟩, T_⟩; have L9 := Aside0.mk L_; have R9t := Aside0.mk (R8t.out.typed T_ no8); have R9v := Aside0.mk (R8v.out.typed T_ no8); clear L_ T_)
    | (go_at_call 14; refine (HV.out _).mono ?_; rintro e_ w8 ⟨A8, c8, rfl, hR_, hc8, hd_⟩; have L8 := Aside0.mk (L7.out.below hd_); have R8t := Aside0.mk (R7t.out.below hd_); have R8v := Aside0.mk hR_; clear hd_ hR_)
    | (go_at_call 13; refine (date_PrintMoment.calls (K1 + K2) x v g _ H2.out).mono ?_; rintro e_ w7 ⟨v_, rfl, hR_, hB_⟩; obtain ⟨A7, c7, rfl, l7, L_⟩ := L6.out.made hR_ hB_ el8; have L7 := Aside0.mk L_; have R7t := Aside0.mk (R6t.out.below hB_); clear hR_ hB_ L_)
    | (go_at_call 12; refine (L5.out.bytes_calls2 0 (A := A3) (c := c3) (xs := t) rfl (by omega)).mono ?_; rintro e_ w6 ⟨rfl, ⟨ok6, L_⟩, T_⟩; have L6 := Aside0.mk L_; have R6t := Aside0.mk (R5t.out.typed T_ no8); clear L_ T_)
    | (go_at_call 12; refine (L4.out.bytes_calls2 1 (A := A1) (c := c1) (xs := t) rfl (by omega)).mono ?_; rintro e_ w5 ⟨rfl, ⟨ok5, L_⟩, T_⟩; have L5 := Aside0.mk L_; have R5t := Aside0.mk (R4t.out.typed T_ no8); clear L_ T_)
    | (go_at_call 10; refine (date_PrintDay.calls (K1 + K2) x t e w2 H1.out).mono ?_; rintro e_ w4 ⟨v_, rfl, hR_, hB_⟩; obtain ⟨A3, c3, rfl, l3, L_⟩ := L2.out.made hR_ hB_ el8; have L4 := Aside0.mk L_; have R4t := Aside0.mk (R2t.out.below hB_); clear hR_ hB_ L_)
    | (go_at_call 11; refine (HT.out _).mono ?_; rintro e_ w2 ⟨A2, c2, rfl, hR_, hc2, hd_⟩; have L2 := Aside0.mk (L1.out.below hd_); have R2t := Aside0.mk hR_; clear hd_ hR_)
    | (go_at_call 10; refine (date_PrintDay.calls (K1 + K2) x t e _ H1.out).mono ?_; rintro e_ w1 ⟨v_, rfl, hR_, hB_⟩; obtain ⟨A1, c1, rfl, l1, L_⟩ := L0.out.made hR_ hB_ el8; have L1 := Aside0.mk L_; clear hR_ hB_ L_))
  go_ret
  exact ⟨rfl, L15.out.bel⟩
theorem u64w_lo (x : Int) : 0 ≤ IntKind.u64.wrap x := by rw [Dig.w64]; omega
theorem u64w_hi (x : Int) : IntKind.u64.wrap x < 18446744073709551616 := by rw [Dig.w64]; omega
set_option maxHeartbeats 2000000 in
set_option maxRecDepth 100000 in
theorem dateWrites_true (x : Int) (w : World) (wx : (Lit.int .u64 x).wf = true) :
    Calls Try.prog 3 #[.int .u64 x, .bool true] w fun e w' => e = .returned (.bool true) ∧ Below w.heap.size w w' := by
  obtain ⟨x0, x1⟩ := Dig.wf_u64w wx
  obtain ⟨t, e, ⟨K1, h1⟩, lt, ht⟩ := Cal.day_says (IntKind.u64.wrap (-719628 + x % 3652625)) (u64w_lo _) (u64w_hi _)
  obtain ⟨v, g, ⟨K2, h2⟩, lv, hv⟩ := Cal.moment_says (IntKind.u64.wrap (wrap64 (wrap64 (wrap64 (IntKind.u64.wrap (-719628 + x % 3652625)) * 86400000000) + x / 4294967296 % 86400000000))) (u64w_lo _) (u64w_hi _)
  have H1 := Aside0.mk (h1 (K1 + K2) (by omega))
  have H2 := Aside0.mk (h2 (K1 + K2) (by omega))
  have HT := Aside0.mk ht
  have HV := Aside0.mk hv
  have L0 := Aside0.mk (Live.start w)
  clear h1 h2 ht hv wx
  go_enter Try.func3, Try.ntmps3
  go_wp2_with (first
    | (go_at_call 18; refine (mintagelaw13_wakes.calls true _ rfl).mono ?_; rintro e_ w15 ⟨rfl, hd_⟩; have L15 := Aside0.mk (L14.out.below hd_); clear hd_)
    | (go_at_call 17; refine L13.out.close_calls.mono ?_; rintro e_ w14 ⟨rfl, L_⟩; have L14 := Aside0.mk L_; clear L_)
    | (go_at_call 16; refine (mintagelaw13_num.calls g g w12 rfl).mono ?_; rintro e_ w13 ⟨rfl, hd_⟩; have L13 := Aside0.mk (L12.out.below hd_.below); clear hd_)
    | (go_at_call 15; refine (mintagekeep_Same.calls A7 c7 v A8 c8 v true w11 (L11.out.rows.C 0 rfl) l7 R11v.out.c hc8 (same_self v)).mono ?_; rintro e_ w12 ⟨rfl, hd_⟩; have L12 := Aside0.mk (L11.out.below hd_.below); clear hd_)
    | (go_at_call 16; refine (mintagelaw13_num.calls e e w10 rfl).mono ?_; rintro e_ w11 ⟨rfl, hd_⟩; have L11 := Aside0.mk (L10.out.below hd_.below); have R11v := Aside0.mk (R10v.out.below hd_.below); clear hd_)
    | (go_at_call 15; refine (mintagekeep_Same.calls A1 c1 t A2 c2 t true w9 (L9.out.rows.C 2 rfl) l1 R9t.out.c hc2 (same_self t)).mono ?_; rintro e_ w10 ⟨rfl, hd_⟩; have L10 := Aside0.mk (L9.out.below hd_.below); have R10v := Aside0.mk (R9v.out.below hd_.below); clear hd_)
    | (go_at_call 12; refine (L8.out.bytes_calls2 0 (A := A7) (c := c7) (xs := v) rfl (by omega)).mono ?_; rintro e_ w9 ⟨rfl, ⟨ok9, L_⟩, T_⟩; have L9 := Aside0.mk L_; have R9t := Aside0.mk (R8t.out.typed T_ no8); have R9v := Aside0.mk (R8v.out.typed T_ no8); clear L_ T_)
    | (go_at_call 14; refine (HV.out _).mono ?_; rintro e_ w8 ⟨A8, c8, rfl, hR_, hc8, hd_⟩; have L8 := Aside0.mk (L7.out.below hd_); have R8t := Aside0.mk (R7t.out.below hd_); have R8v := Aside0.mk hR_; clear hd_ hR_)
    | (go_at_call 13; refine (date_PrintMoment.calls (K1 + K2) _ v g _ H2.out).mono ?_; rintro e_ w7 ⟨v_, rfl, hR_, hB_⟩; obtain ⟨A7, c7, rfl, l7, L_⟩ := L6.out.made hR_ hB_ el8; have L7 := Aside0.mk L_; have R7t := Aside0.mk (R6t.out.below hB_); clear hR_ hB_ L_)
    | (go_at_call 12; refine (L5.out.bytes_calls2 0 (A := A3) (c := c3) (xs := t) rfl (by omega)).mono ?_; rintro e_ w6 ⟨rfl, ⟨ok6, L_⟩, T_⟩; have L6 := Aside0.mk L_; have R6t := Aside0.mk (R5t.out.typed T_ no8); clear L_ T_)
    | (go_at_call 12; refine (L4.out.bytes_calls2 1 (A := A1) (c := c1) (xs := t) rfl (by omega)).mono ?_; rintro e_ w5 ⟨rfl, ⟨ok5, L_⟩, T_⟩; have L5 := Aside0.mk L_; have R5t := Aside0.mk (R4t.out.typed T_ no8); clear L_ T_)
    | (go_at_call 10; refine (date_PrintDay.calls (K1 + K2) _ t e w2 H1.out).mono ?_; rintro e_ w4 ⟨v_, rfl, hR_, hB_⟩; obtain ⟨A3, c3, rfl, l3, L_⟩ := L2.out.made hR_ hB_ el8; have L4 := Aside0.mk L_; have R4t := Aside0.mk (R2t.out.below hB_); clear hR_ hB_ L_)
    | (go_at_call 11; refine (HT.out _).mono ?_; rintro e_ w2 ⟨A2, c2, rfl, hR_, hc2, hd_⟩; have L2 := Aside0.mk (L1.out.below hd_); have R2t := Aside0.mk hR_; clear hd_ hR_)
    | (go_at_call 10; refine (date_PrintDay.calls (K1 + K2) _ t e _ H1.out).mono ?_; rintro e_ w1 ⟨v_, rfl, hR_, hB_⟩; obtain ⟨A1, c1, rfl, l1, L_⟩ := L0.out.made hR_ hB_ el8; have L1 := Aside0.mk L_; clear hR_ hB_ L_))
  go_ret
  exact ⟨rfl, L15.out.bel⟩
theorem dateWrites_walk (x : Int) (near : Bool) (w : World) (wx : (Lit.int .u64 x).wf = true) :
    Calls Try.prog 3 #[.int .u64 x, .bool near] w fun e w' => e = .returned (.bool true) ∧ Below w.heap.size w w' := by
  cases near
  · exact dateWrites_false x w wx
  · exact dateWrites_true x w wx
end Go.Proofs.Ytobgpdmiiipmmaa.Keep
