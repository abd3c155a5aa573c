/- WholeWrites, walked. -/
import Derived.Test.YtlcglnnmcgpnpaaRfwZWholeWrites
import Derived.Test.YtlcglnnmcgpnpaaBkbZWholeWrites
import Derived.Test.YtlcglnnmcgpnpaaQ0ZWholeWrites
namespace Go.Proofs.Ytlcglnnmcgpnpaa.Keep
set_option linter.unusedVariables false
set_option linter.unusedSimpArgs false
open Go.RowKit Go.Proofs.Ytlcglnnmcgpnpaa.Q Go.Proofs.YtlcglnnmcgpnpaaW.PrintWords Go.Proofs.YtlcglnnmcgpnpaaW.PrintLast Go.Proofs.YtlcglnnmcgpnpaaW.PrintMore

theorem el8 : El 5 := ⟨by decide, by decide, by decide⟩
theorem div_u64 {a : Int} (h : 0 ≤ a ∧ a < 18446744073709551616) (j : Nat) : 0 ≤ a / 2 ^ j ∧ a / 2 ^ j < 18446744073709551616 := by
  have p : (0 : Int) ≤ 2 ^ j := Int.le_of_lt (Int.pow_pos (by decide))
  have := Int.ediv_nonneg h.1 p
  have := Int.ediv_le_self (2 ^ j) h.1
  omega
theorem kind_any (a : Int) : ∃ r, mintagelaw05_kind.f a = some r := by
  unfold mintagelaw05_kind.f
  split <;> exact ⟨_, rfl⟩
set_option maxHeartbeats 2000000 in
set_option maxRecDepth 100000 in
theorem wholeWrites_walk (n a b : Int) (w : World) (wn : (Lit.int .i64 n).wf = true) (wa : (Lit.int .u64 a).wf = true) (wb : (Lit.int .u64 b).wf = true) :
    Calls Try.prog 6 #[.int .i64 n, .int .u64 a, .int .u64 b] w fun e w' => e = .returned (.bool true) ∧ Below w.heap.size w w' := by
  have ba := Dig.wf_u64w wa
  have bb := Dig.wf_u64w wb
  have L0 := Aside0.mk (Live.start w)
  go_enter Try.func6, Try.ntmps6
  go_wp2_with fail
  go_loopw [8] (fun i wr => ∃ m : Nat, m ≤ 9 ∧ i = .int .i64 (m : Int) ∧ ∃ ok, Aside0 (Live w wr ok w.heap.size [])) (fun i _ => 9 - (intOf i).toNat)
  case atStart => exact ⟨0, by omega, rfl, _, L0⟩
  case round =>
    obtain ⟨m, hm, rfl, ok, L⟩ := hrel
    by_cases hlt : m < 9
    · obtain ⟨kd, hkd⟩ := kind_any (wrap64 (n + m))
      have HK := Aside0.mk hkd
      clear hkd
      have bx := div_u64 ba (min (IntKind.u64.wrap (wrap64 (8 * Go.bits BinOp.and IntKind.i64 (m : Int) 7))).toNat 64)
      have by_ := div_u64 bb (min (IntKind.u64.wrap (wrap64 (8 * Go.bits BinOp.and IntKind.i64 (m : Int) 7))).toNat 64)
      obtain ⟨K, t, e, c, g, o, h1, h2, h3, h4, h5, h6, ht⟩ := Whw.writes kd bx.1 bx.2 by_.1 by_.2
      have H1 := Aside0.mk h1
      have H2 := Aside0.mk h2
      have H3 := Aside0.mk h3
      have H4 := Aside0.mk h4
      have H5 := Aside0.mk h5
      have H6 := Aside0.mk h6
      clear h1 h2 h3 h4 h5 h6 bx by_
      go_wp2_with (first
        | (go_at_call 24; refine (L10.out.bytes_calls 1 (A := A2) (c := c2) (xs := t) rfl (by omega)).mono ?_; rintro e_ w11 ⟨rfl, ok11, L_⟩; have L11 := Aside0.mk L_; clear L_)
        | (go_at_call 14; refine (mintagelaw05_num.calls g g w9 rfl).mono ?_; rintro e_ w10 ⟨rfl, hd_⟩; have L10 := Aside0.mk (L9.out.below hd_.below); clear hd_)
        | (go_at_call 23; refine (mintageref05_Fits.calls K kd _ o w8 H6.out).mono ?_; rintro e_ w9 ⟨rfl, hd_⟩; have L9 := Aside0.mk (L8.out.below hd_.below); clear hd_)
        | (go_at_call 18; refine (whole_Fits.calls kd _ o w7 H5.out).mono ?_; rintro e_ w8 ⟨rfl, hd_⟩; have L8 := Aside0.mk (L7.out.below hd_); clear hd_)
        | (go_at_call 14; refine (mintagelaw05_num.calls e e w6 rfl).mono ?_; rintro e_ w7 ⟨rfl, hd_⟩; have L7 := Aside0.mk (L6.out.below hd_.below); clear hd_)
        | (go_at_call 22; refine (mintagekeep_Same.calls A2 c2 t A3 c3 t true w5 (L5.out.rows.C 1 rfl) l2 (L5.out.rows.C 0 rfl) l3 (same_refl t)).mono ?_; rintro e_ w6 ⟨rfl, hd_⟩; have L6 := Aside0.mk (L5.out.below hd_.below); clear hd_)
        | (go_at_call 21; refine (mintageref05_Cmp.calls K kd _ _ c g w4 H4.out).mono ?_; rintro e_ w5 ⟨rfl, hd_⟩; have L5 := Aside0.mk (L4.out.below hd_.below); clear hd_)
        | (go_at_call 20; refine (whole_Cmp.calls K kd _ _ c g w3 H3.out).mono ?_; rintro e_ w4 ⟨rfl, hd_⟩; have L4 := Aside0.mk (L3.out.below hd_); clear hd_)
        | (go_at_call 19; refine (mintageref05_Print.calls K kd _ t e w2 H2.out).mono ?_; rintro e_ w3 ⟨v_, rfl, hR_, hB_⟩; obtain ⟨A3, c3, rfl, l3, L_⟩ := L2.out.made hR_ hB_ el8; have L3 := Aside0.mk L_; clear hR_ hB_ L_)
        | (go_at_call 17; refine (whole_Print.calls K kd _ t e w1 H1.out).mono ?_; rintro e_ w2 ⟨v_, rfl, hR_, hB_⟩; obtain ⟨A2, c2, rfl, l2, L_⟩ := L1.out.made hR_ hB_ el8; have L2 := Aside0.mk L_; clear hR_ hB_ L_)
        | (go_at_call 12; refine (mintagelaw05_kind.calls _ kd _ HK.out).mono ?_; rintro e_ w1 ⟨rfl, hd_⟩; have L1 := Aside0.mk (L.out.below hd_.below); clear hd_))
      go_roundw
      case rel => exact ⟨m + 1, by omega, by go_num, ok11, ⟨L11.out.drop⟩⟩
      case measure => simp [intOf]; omega
    · obtain rfl : m = 9 := by omega
      go_wp2_with (first
        | (go_at_call 16; refine (mintagelaw05_wakes.calls true _ rfl).mono ?_; rintro e_ w3 ⟨rfl, hd_⟩; have L3 := Aside0.mk (L2.out.below hd_); clear hd_)
        | (go_at_call 25; refine L.out.close_calls.mono ?_; rintro e_ w2 ⟨rfl, L_⟩; have L2 := Aside0.mk L_; clear L_))
      go_ret
      exact ⟨rfl, L3.out.bel⟩
end Go.Proofs.Ytlcglnnmcgpnpaa.Keep
