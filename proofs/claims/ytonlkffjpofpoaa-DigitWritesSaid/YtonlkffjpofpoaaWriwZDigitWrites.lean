/- DigitWrites, walked. -/
import Derived.Test.YtonlkffjpofpoaaWriZDigitWrites
import Derived.Test.YtonlkffjpofpoaaBkbZDigitWrites
import Derived.Test.YtonlkffjpofpoaaQ0ZDigitWrites
namespace Go.Proofs.Ytonlkffjpofpoaa.Keep
set_option linter.unusedVariables false
set_option linter.unusedSimpArgs false
open Go.RowKit Go.Proofs.Ytonlkffjpofpoaa.Q Go.Proofs.YtonlkffjpofpoaaW.PrintWords Go.Proofs.YtonlkffjpofpoaaW.PrintLast

theorem el8 : El 5 := ⟨by decide, by decide, by decide⟩
set_option maxHeartbeats 1000000 in
set_option maxRecDepth 100000 in
theorem digitWrites_walk (x wd n : Int) (w : World) (wx : (Lit.int .u64 x).wf = true) (_ : (Lit.int .i64 wd).wf = true) (_ : (Lit.int .i64 n).wf = true) :
    Calls Try.prog 3 #[.int .u64 x, .int .i64 wd, .int .i64 n] w fun e w' => e = .returned (.bool true) ∧ Below w.heap.size w w' := by
  obtain ⟨k, t, p, e, v, g, c, h1, h2, h3, h4, h5, h6, h7, h8, lt, lp⟩ := Dig.writes wx wd n
  have H1 := Aside0.mk h1
  have H2 := Aside0.mk h2
  have H3 := Aside0.mk h3
  have H4 := Aside0.mk h4
  have H5 := Aside0.mk h5
  have H6 := Aside0.mk h6
  have H7 := Aside0.mk h7
  have H8 := Aside0.mk h8
  clear h1 h2 h3 h4 h5 h6 h7 h8
  have L0 := Aside0.mk (Live.start w)
  go_enter Try.func3, Try.ntmps3
  go_wp2_with (first
    | (go_at_call 20; refine (mintagelaw04_wakes.calls true _ rfl).mono ?_; rintro e_ w19 ⟨rfl, hd_⟩; have L19 := Aside0.mk (L18.out.below hd_); clear hd_)
    | (go_at_call 14; refine (mintagekeep_Same.calls A2 c2 t A17 c17 t true _ (L17.out.C 3 rfl) l2 (L17.out.C 0 rfl) l17 (same_refl t)).mono ?_; rintro e_ w18 ⟨rfl, hd_⟩; have L18 := Aside0.mk (L17.out.below hd_.below); clear hd_)
    | (go_at_call 15; refine (mintageref04_Text.calls k x t _ H2.out).mono ?_; rintro e_ w17 ⟨v_, rfl, hR_, hB_⟩; obtain ⟨A17, c17, rfl, l17, L_⟩ := L16.out.made hR_ hB_ el8; have L17 := Aside0.mk L_; clear hR_ hB_ L_)
    | (go_at_call 19; refine L15.out.close_calls.mono ?_; rintro e_ w16 ⟨rfl, L16_⟩; have L16 := Aside0.mk L16_; clear L16_)
    | (go_at_call 18; refine (mintageref04_Count.calls k x c w14 H8.out).mono ?_; rintro e_ w15 ⟨rfl, hd_⟩; have L15 := Aside0.mk (L14.out.below hd_); clear hd_)
    | (go_at_call 17; refine (digit_Count.calls k x c w13 H7.out).mono ?_; rintro e_ w14 ⟨rfl, hd_⟩; have L14 := Aside0.mk (L13.out.below hd_.below); clear hd_)
    | (go_at_call 16; refine (mintagelaw04_num.calls g g w12 rfl).mono ?_; rintro e_ w13 ⟨rfl, hd_⟩; have L13 := Aside0.mk (L12.out.below hd_.below); clear hd_)
    | (go_at_call 16; refine (mintagelaw04_num.calls e e w11 rfl).mono ?_; rintro e_ w12 ⟨rfl, hd_⟩; have L12 := Aside0.mk (L11.out.below hd_.below); clear hd_)
    | (go_at_call 14; refine (mintagekeep_Same.calls A3 c3 p A4 c4 p true _ (L10.out.rows.C 2 rfl) l3 (L10.out.rows.C 1 rfl) l4 (same_refl p)).mono ?_; rintro e_ w11 ⟨rfl, hd_⟩; have L11 := Aside0.mk (L10.out.below hd_.below); clear hd_)
    | (go_at_call 14; refine (mintagekeep_Same.calls A1 c1 t A9 c9 t true _ (L9.out.rows.C 4 rfl) l1 (L9.out.rows.C 0 rfl) l9 (same_refl t)).mono ?_; rintro e_ w10 ⟨rfl, hd_⟩; have L10 := Aside0.mk (L9.out.below hd_.below); clear hd_)
    | (go_at_call 15; refine (mintageref04_Text.calls k x t _ H2.out).mono ?_; rintro e_ w9 ⟨v_, rfl, hR_, hB_⟩; obtain ⟨A9, c9, rfl, l9, L_⟩ := L8.out.made hR_ hB_ el8; have L9 := Aside0.mk L_; clear hR_ hB_ L_)
    | (go_at_call 13; refine (L7.out.bytes_calls 1 (A := A3) (c := c3) (xs := p) rfl (by omega)).mono ?_; rintro e_ w8 ⟨rfl, ok8, L8_⟩; have L8 := Aside0.mk L8_; clear L8_)
    | (go_at_call 13; refine (L6.out.bytes_calls 3 (A := A1) (c := c1) (xs := t) rfl (by omega)).mono ?_; rintro e_ w7 ⟨rfl, ok7, L7_⟩; have L7 := Aside0.mk L7_; clear L7_)
    | (go_at_call 12; refine (mintageref04_Ten.calls k n v g _ H6.out).mono ?_; rintro e_ w6 ⟨rfl, hd_⟩; have L6 := Aside0.mk (L5.out.below hd_.below); clear hd_)
    | (go_at_call 11; refine (digit_Ten.calls k n v g _ H5.out).mono ?_; rintro e_ w5 ⟨rfl, hd_⟩; have L5 := Aside0.mk (L4.out.below hd_.below); clear hd_)
    | (go_at_call 10; refine (mintageref04_Pad.calls k x wd p e _ H4.out).mono ?_; rintro e_ w4 ⟨v_, rfl, hR_, hB_⟩; obtain ⟨A4, c4, rfl, l4, L_⟩ := L3.out.made hR_ hB_ el8; have L4 := Aside0.mk L_; clear hR_ hB_ L_)
    | (go_at_call 9; refine (digit_Pad.calls k x wd p e _ H3.out).mono ?_; rintro e_ w3 ⟨v_, rfl, hR_, hB_⟩; obtain ⟨A3, c3, rfl, l3, L_⟩ := L2.out.made hR_ hB_ el8; have L3 := Aside0.mk L_; clear hR_ hB_ L_)
    | (go_at_call 8; refine (digit_Text.calls k x t _ H1.out).mono ?_; rintro e_ w2 ⟨v_, rfl, hR_, hB_⟩; obtain ⟨A2, c2, rfl, l2, L_⟩ := L1.out.made hR_ hB_ el8; have L2 := Aside0.mk L_; clear hR_ hB_ L_)
    | (go_at_call 8; refine (digit_Text.calls k x t _ H1.out).mono ?_; rintro e_ w1 ⟨v_, rfl, hR_, hB_⟩; obtain ⟨A1, c1, rfl, l1, L_⟩ := L0.out.made hR_ hB_ el8; have L1 := Aside0.mk L_; clear hR_ hB_ L_))
  go_ret
  exact ⟨rfl, L19.out.bel⟩
end Go.Proofs.Ytonlkffjpofpoaa.Keep
