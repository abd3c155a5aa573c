-- PRINTED by print.py (a twelfth state) out of the translation. Not trusted: Lean checks it.
import Derived.Test.YtlcglnnmcgpnpaaQx0
import Derived.Test.YtlcglnnmcgpnpaaQx17
import Derived.Test.YtlcglnnmcgpnpaaQx19
import Derived.Test.YtlcglnnmcgpnpaaQx23
import Derived.Test.YtlcglnnmcgpnpaaQx27
import Derived.Test.YtlcglnnmcgpnpaaQx31
namespace Go.Proofs.Ytlcglnnmcgpnpaa.Q
open Go.RowKit Go.Proofs.YtlcglnnmcgpnpaaW.PrintWords Go.Proofs.YtlcglnnmcgpnpaaW.PrintLast Go.Proofs.YtlcglnnmcgpnpaaW.PrintMore
attribute [local go_sem] max2_int min2_int max_two min_two max_three min_three max_four min_four   -- for this text's walks alone
set_option linter.unusedVariables false
set_option linter.unusedSimpArgs false

/-! ### mintagelaw05_WholeOrder: function 7 -/
def mintagelaw05_WholeOrder.j0 : Nat → Int → Int → List Int → List Int → Bool → Option (Bool)
  | 0, _, _, _, _, _ => none
  | k + 1, x9, x10, x11, x13, x54 => if x54 = true then ((mintagelaw05_num.f x10).bind fun t479 => (if t479 = 53 then (if x9 = 0 then ((mintagelaw05_wakes.f).bind fun t480 => (some t480)) else (some false)) else (some false))) else ((mintagelaw05_num.f x10).bind fun t481 => (if t481 = 0 then ((mintagelaw05_order.f k x11 x13).bind fun t482 => (if x9 = t482 then ((mintagelaw05_wakes.f).bind fun t483 => (some t483)) else (some false))) else (some false)))
def mintagelaw05_WholeOrder.f (k : Nat) (a0 : Int) (a1 : Int) (a2 : Int) : Option (Bool) := if 0 ≤ (IntKind.u64.wrap (Go.bits .and .i64 (a0 / 8) 63)) then ((whole_Cmp.f k (wrap64 (1 + (Go.bits .and .i64 a0 7))) (shr .u64 a1 (IntKind.u64.wrap (Go.bits .and .i64 (a0 / 8) 63))) (shr .u64 a2 (IntKind.u64.wrap (Go.bits .and .i64 (a0 / 8) 63)))).bind fun bt467 => ((whole_Print.f k (wrap64 (1 + (Go.bits .and .i64 a0 7))) (shr .u64 a1 (IntKind.u64.wrap (Go.bits .and .i64 (a0 / 8) 63)))).bind fun bt469 => ((whole_Print.f k (wrap64 (1 + (Go.bits .and .i64 a0 7))) (shr .u64 a2 (IntKind.u64.wrap (Go.bits .and .i64 (a0 / 8) 63)))).bind fun bt473 => ((mintagelaw05_num.f bt469.2).bind fun t477 => (if t477 = 0 then ((mintagelaw05_num.f bt473.2).bind fun t478 => (mintagelaw05_WholeOrder.j0 k bt467.1 bt467.2 bt469.1 bt473.1 (t478 != 0))) else (mintagelaw05_WholeOrder.j0 k bt467.1 bt467.2 bt469.1 bt473.1 true)))))) else (none)
theorem mintagelaw05_WholeOrder.mono_l : ∀ k, (∀ y0 y1 y2 y3 y4, LeO (mintagelaw05_WholeOrder.j0 k y0 y1 y2 y3 y4) (mintagelaw05_WholeOrder.j0 (k + 1) y0 y1 y2 y3 y4))
  | 0 => fun _ _ _ _ _ r h => by simp [mintagelaw05_WholeOrder.j0] at h
  | k + 1 => by
    have ih0 := mintagelaw05_WholeOrder.mono_l k
    · intro y0 y1 y2 y3 y4
      unfold mintagelaw05_WholeOrder.j0
      repeat' first
      | (with_reducible exact ih0 _ _ _ _ _)
      | (with_reducible exact mintagelaw05_order.mono _ _ _)
      | (with_reducible exact whole_Cmp.mono _ _ _ _)
      | (with_reducible exact whole_Print.mono _ _ _)
      | (with_reducible exact LeO.refl _)
      | (with_reducible exact LeO.none _)
      | (with_reducible refine LeO.ite ?_ ?_)
      | (with_reducible refine LeO.bind ?_ (fun _ => ?_))
      | exact ih0 _ _ _ _ _
      | exact mintagelaw05_order.mono _ _ _
      | exact whole_Cmp.mono _ _ _ _
      | exact whole_Print.mono _ _ _
      | exact LeO.none _
      | refine LeO.ite ?_ ?_
      | refine LeO.bind ?_ (fun _ => ?_)
theorem mintagelaw05_WholeOrder.mono : ∀ a0 a1 a2 k, LeO (mintagelaw05_WholeOrder.f k a0 a1 a2) (mintagelaw05_WholeOrder.f (k + 1) a0 a1 a2) := by
  intro a0 a1 a2 k
  have ih0 := mintagelaw05_WholeOrder.mono_l k
  unfold mintagelaw05_WholeOrder.f
  repeat' first
      | (with_reducible exact ih0 _ _ _ _ _)
      | (with_reducible exact mintagelaw05_order.mono _ _ _)
      | (with_reducible exact whole_Cmp.mono _ _ _ _)
      | (with_reducible exact whole_Print.mono _ _ _)
      | (with_reducible exact LeO.refl _)
      | (with_reducible exact LeO.none _)
      | (with_reducible refine LeO.ite ?_ ?_)
      | (with_reducible refine LeO.bind ?_ (fun _ => ?_))
      | exact ih0 _ _ _ _ _
      | exact mintagelaw05_order.mono _ _ _
      | exact whole_Cmp.mono _ _ _ _
      | exact whole_Print.mono _ _ _
      | exact LeO.none _
      | refine LeO.ite ?_ ?_
      | refine LeO.bind ?_ (fun _ => ?_)
set_option maxHeartbeats 8000000 in
set_option maxRecDepth 100000 in
theorem mintagelaw05_WholeOrder.calls (k : Nat) (a0 : Int) (a1 : Int) (a2 : Int) (r : Bool) (w : World) (h : mintagelaw05_WholeOrder.f k a0 a1 a2 = some r) :
    Calls Try.prog 7 #[.int .i64 a0, .int .u64 a1, .int .u64 a2] w fun e w' => e = .returned (.bool r) ∧ Below w.heap.size w w' := by
  have HB := Aside0.mk (Below.refl w.heap.size w)
  have H : (if 0 ≤ (IntKind.u64.wrap (Go.bits .and .i64 (a0 / 8) 63)) then ((whole_Cmp.f k (wrap64 (1 + (Go.bits .and .i64 a0 7))) (shr .u64 a1 (IntKind.u64.wrap (Go.bits .and .i64 (a0 / 8) 63))) (shr .u64 a2 (IntKind.u64.wrap (Go.bits .and .i64 (a0 / 8) 63)))).bind fun bt467 => ((whole_Print.f k (wrap64 (1 + (Go.bits .and .i64 a0 7))) (shr .u64 a1 (IntKind.u64.wrap (Go.bits .and .i64 (a0 / 8) 63)))).bind fun bt469 => ((whole_Print.f k (wrap64 (1 + (Go.bits .and .i64 a0 7))) (shr .u64 a2 (IntKind.u64.wrap (Go.bits .and .i64 (a0 / 8) 63)))).bind fun bt473 => ((mintagelaw05_num.f bt469.2).bind fun t477 => (if t477 = 0 then ((mintagelaw05_num.f bt473.2).bind fun t478 => (mintagelaw05_WholeOrder.j0 k bt467.1 bt467.2 bt469.1 bt473.1 (t478 != 0))) else (mintagelaw05_WholeOrder.j0 k bt467.1 bt467.2 bt469.1 bt473.1 true)))))) else (none)) = some r := h
  clear h
  obtain ⟨ji4, hji4⟩ : ∃ j_ : Int, (IntKind.u64.wrap (Go.bits .and .i64 (a0 / 8) 63)) = j_ := ⟨_, rfl⟩
  replace H : (if 0 ≤ (ji4) then ((whole_Cmp.f k (wrap64 (1 + (Go.bits .and .i64 a0 7))) (shr .u64 a1 (ji4)) (shr .u64 a2 (ji4))).bind fun bt467 => ((whole_Print.f k (wrap64 (1 + (Go.bits .and .i64 a0 7))) (shr .u64 a1 (ji4))).bind fun bt469 => ((whole_Print.f k (wrap64 (1 + (Go.bits .and .i64 a0 7))) (shr .u64 a2 (ji4))).bind fun bt473 => ((mintagelaw05_num.f bt469.2).bind fun t477 => (if t477 = 0 then ((mintagelaw05_num.f bt473.2).bind fun t478 => (mintagelaw05_WholeOrder.j0 k bt467.1 bt467.2 bt469.1 bt473.1 (t478 != 0))) else (mintagelaw05_WholeOrder.j0 k bt467.1 bt467.2 bt469.1 bt473.1 true)))))) else (none)) = some r := by first | (rw [hji4] at H; exact H) | (simp only [hji4] at H ⊢; exact H)
  by_cases c5 : 0 ≤ (ji4)
  · rw [if_pos c5] at H
    have c5b0 := eq_true c5
    have c5b1 : decide (0 ≤ (ji4)) = true := decide_eq_true c5
    clear c5
    obtain ⟨ji6, hji6⟩ : ∃ j_ : Int, (shr .u64 a1 (ji4)) = j_ := ⟨_, rfl⟩
    replace H : ((whole_Cmp.f k (wrap64 (1 + (Go.bits .and .i64 a0 7))) (ji6) (shr .u64 a2 (ji4))).bind fun bt467 => ((whole_Print.f k (wrap64 (1 + (Go.bits .and .i64 a0 7))) (ji6)).bind fun bt469 => ((whole_Print.f k (wrap64 (1 + (Go.bits .and .i64 a0 7))) (shr .u64 a2 (ji4))).bind fun bt473 => ((mintagelaw05_num.f bt469.2).bind fun t477 => (if t477 = 0 then ((mintagelaw05_num.f bt473.2).bind fun t478 => (mintagelaw05_WholeOrder.j0 k bt467.1 bt467.2 bt469.1 bt473.1 (t478 != 0))) else (mintagelaw05_WholeOrder.j0 k bt467.1 bt467.2 bt469.1 bt473.1 true)))))) = some r := by first | (rw [hji6] at H; exact H) | (simp only [hji6] at H ⊢; exact H)
    have hji6_ : (a1 / 2 ^ min (ji4).toNat 64) = ji6 := hji6
    have hji6z : (ji4) ≤ 64 → (a1 / 2 ^ (ji4).toNat) = ji6 := shr_small hji6
    have c7b0 := eq_true (of_decide_eq_true (by first | (with_reducible assumption) | assumption) : 0 ≤ (ji4))
    obtain ⟨ji8, hji8⟩ : ∃ j_ : Int, (shr .u64 a2 (ji4)) = j_ := ⟨_, rfl⟩
    replace H : ((whole_Cmp.f k (wrap64 (1 + (Go.bits .and .i64 a0 7))) (ji6) (ji8)).bind fun bt467 => ((whole_Print.f k (wrap64 (1 + (Go.bits .and .i64 a0 7))) (ji6)).bind fun bt469 => ((whole_Print.f k (wrap64 (1 + (Go.bits .and .i64 a0 7))) (ji8)).bind fun bt473 => ((mintagelaw05_num.f bt469.2).bind fun t477 => (if t477 = 0 then ((mintagelaw05_num.f bt473.2).bind fun t478 => (mintagelaw05_WholeOrder.j0 k bt467.1 bt467.2 bt469.1 bt473.1 (t478 != 0))) else (mintagelaw05_WholeOrder.j0 k bt467.1 bt467.2 bt469.1 bt473.1 true)))))) = some r := by first | (rw [hji8] at H; exact H) | (simp only [hji8] at H ⊢; exact H)
    have hji8_ : (a2 / 2 ^ min (ji4).toNat 64) = ji8 := hji8
    have hji8z : (ji4) ≤ 64 → (a2 / 2 ^ (ji4).toNat) = ji8 := shr_small hji8
    replace H := Option.bind_eq_some_iff.mp H
    obtain ⟨⟨t467, t468⟩, A90, H⟩ := H
    replace H : ((whole_Print.f k (wrap64 (1 + (Go.bits .and .i64 a0 7))) (ji6)).bind fun bt469 => ((whole_Print.f k (wrap64 (1 + (Go.bits .and .i64 a0 7))) (ji8)).bind fun bt473 => ((mintagelaw05_num.f bt469.2).bind fun t477 => (if t477 = 0 then ((mintagelaw05_num.f bt473.2).bind fun t478 => (mintagelaw05_WholeOrder.j0 k t467 t468 bt469.1 bt473.1 (t478 != 0))) else (mintagelaw05_WholeOrder.j0 k t467 t468 bt469.1 bt473.1 true))))) = some r := H
    have A9 := Aside0.mk A90
    clear A90
    replace H := Option.bind_eq_some_iff.mp H
    obtain ⟨⟨t469, t470⟩, A100, H⟩ := H
    replace H : ((whole_Print.f k (wrap64 (1 + (Go.bits .and .i64 a0 7))) (ji8)).bind fun bt473 => ((mintagelaw05_num.f t470).bind fun t477 => (if t477 = 0 then ((mintagelaw05_num.f bt473.2).bind fun t478 => (mintagelaw05_WholeOrder.j0 k t467 t468 t469 bt473.1 (t478 != 0))) else (mintagelaw05_WholeOrder.j0 k t467 t468 t469 bt473.1 true)))) = some r := H
    have A10 := Aside0.mk A100
    clear A100
    replace H := Option.bind_eq_some_iff.mp H
    obtain ⟨⟨t473, t474⟩, A110, H⟩ := H
    replace H : ((mintagelaw05_num.f t470).bind fun t477 => (if t477 = 0 then ((mintagelaw05_num.f t474).bind fun t478 => (mintagelaw05_WholeOrder.j0 k t467 t468 t469 t473 (t478 != 0))) else (mintagelaw05_WholeOrder.j0 k t467 t468 t469 t473 true))) = some r := H
    have A11 := Aside0.mk A110
    clear A110
    have HC12 := Aside0.mk H
    clear H
    go_enter Try.func7, Try.ntmps7
    go_upto_region 7 with (first | ((with_reducible refine gate_callee (f := 20) rfl ?_); refine goesL_ (some 32) rfl rfl Try.func20 (by kernel_rfl) rfl #[.int .i64 (wrap64 (1 + (Go.bits .and .i64 a0 7))), .int .u64 ji6, .int .u64 ji8] rfl (by (try simp only [List.map_toArray, List.map_cons, List.map_nil]); first | done | (simp only [hji6, hji8]; rfl) | rfl | (simp only [List.length_drop, List.length_take]; rfl)) ?_; (with_reducible refine (whole_Cmp.calls k (wrap64 (1 + (Go.bits .and .i64 a0 7))) ji6 ji8 t467 t468 _ A9.out).mono ?_); rintro e w13 ⟨rfl, hb⟩; refine ⟨_, rfl, ?_⟩; have n0_ := Aside0.mk (below_step (by repeat (first | (with_reducible first | exact HB.out | apply below_alloc | apply pw_below_drewN | apply below_drew1) | exact HB.out)) hb); clear HB; have HB := n0_; clear n0_; (try clear hb); (try clear hb2); (try clear hk); (try clear hi)) | ((with_reducible refine gate_callee (f := 17) rfl ?_); refine goesL_ (some 38) rfl rfl Try.func17 (by kernel_rfl) rfl #[.int .i64 (wrap64 (1 + (Go.bits .and .i64 a0 7))), .int .u64 ji6] rfl (by (try simp only [List.map_toArray, List.map_cons, List.map_nil]); first | done | (simp only [hji6]; rfl) | rfl | (simp only [List.length_drop, List.length_take]; rfl)) ?_; (with_reducible refine (whole_Print.calls k (wrap64 (1 + (Go.bits .and .i64 a0 7))) ji6 t469 t470 _ A10.out).mono ?_); rintro e w14 ⟨v471, rfl, ho0, hb⟩; refine ⟨_, rfl, ?_⟩; have n0_ := Aside0.mk (Kd.R_lower ho0 (below_size (by repeat (first | (with_reducible first | exact HB.out | apply below_alloc | apply pw_below_drewN | apply below_drew1) | exact HB.out)))); have n1_ := Aside0.mk (below_step (by repeat (first | (with_reducible first | exact HB.out | apply below_alloc | apply pw_below_drewN | apply below_drew1) | exact HB.out)) hb); clear HB; have HO472 := n0_; have HB := n1_; clear n0_ n1_; (try clear hb); (try clear hb2); (try clear hk); (try clear hi); (try clear ho0)) | ((with_reducible refine gate_callee (f := 17) rfl ?_); refine goesL_ (some 44) rfl rfl Try.func17 (by kernel_rfl) rfl #[.int .i64 (wrap64 (1 + (Go.bits .and .i64 a0 7))), .int .u64 ji8] rfl (by (try simp only [List.map_toArray, List.map_cons, List.map_nil]); first | done | (simp only [hji8]; rfl) | rfl | (simp only [List.length_drop, List.length_take]; rfl)) ?_; (with_reducible refine (whole_Print.calls k (wrap64 (1 + (Go.bits .and .i64 a0 7))) ji8 t473 t474 _ A11.out).mono ?_); rintro e w15 ⟨v475, rfl, ho0, hb⟩; refine ⟨_, rfl, ?_⟩; have n0_ := Aside0.mk (Kd.R_elder' (by (with_reducible repeat (first | apply Kd.R_alloc | apply Kd.R_drewN | apply Kd.R_drew)); exact HO472.out) (Kd.R_base ho0) hb); have n1_ := Aside0.mk (Kd.R_lower (Kd.R_new' ho0 (Kd.R_lt (by (with_reducible repeat (first | apply Kd.R_alloc | apply Kd.R_drewN | apply Kd.R_drew)); exact HO472.out))) (below_size (by repeat (first | (with_reducible first | exact HB.out | apply below_alloc | apply pw_below_drewN | apply below_drew1) | exact HB.out)))); have n2_ := Aside0.mk (below_step (by repeat (first | (with_reducible first | exact HB.out | apply below_alloc | apply pw_below_drewN | apply below_drew1) | exact HB.out)) hb); clear HO472; clear HB; have HO472 := n0_; have HO476 := n1_; have HB := n2_; clear n0_ n1_ n2_; (try clear hb); (try clear hb2); (try clear hk); (try clear hi); (try clear ho0)))
    (try simp only [Act.put, List.setIfInBounds_toArray, List.set_cons_zero, List.set_cons_succ])
    go_cut [54] (fun v54 wc => ∃ (kq : Nat) (x54_11 : Bool), v54 = .bool x54_11 ∧ Aside0 (mintagelaw05_WholeOrder.j0 kq t467 t468 t469 t473 x54_11 = some r) ∧ Aside0 (kq ≤ k) ∧ Aside0 (Kd.R (Kd.int .u8) 5 wc w.heap.size (fun k_ => some k_ ≠ (v475 : Value).ownBlock) v471 t469) ∧ Aside0 (Kd.R (Kd.int .u8) 5 wc w.heap.size (fun k_ => some k_ ≠ (v471 : Value).ownBlock) v475 t473) ∧ Aside0 (Below w.heap.size w wc))
    case first =>
      have H := HC12.out
      clear HC12
      replace H := Option.bind_eq_some_iff.mp H
      obtain ⟨t477, A160, H⟩ := H
      replace H : (if t477 = 0 then ((mintagelaw05_num.f t474).bind fun t478 => (mintagelaw05_WholeOrder.j0 k t467 t468 t469 t473 (t478 != 0))) else (mintagelaw05_WholeOrder.j0 k t467 t468 t469 t473 true)) = some r := H
      have A16 := Aside0.mk A160
      clear A160
      by_cases c17 : t477 = 0
      · rw [if_pos c17] at H
        have c17b0 : (t477 == 0) = true := beq_iff_eq.mpr c17
        have c17b1 : (t477 != 0) = false := bne_eq_false_iff_eq.mpr c17
        clear c17
        (first | rw [c17b0] | (simp only [i64_w, i32_w]; rw [c17b0]) | skip)
        replace H := Option.bind_eq_some_iff.mp H
        obtain ⟨t478, A180, H⟩ := H
        replace H : (mintagelaw05_WholeOrder.j0 k t467 t468 t469 t473 (t478 != 0)) = some r := H
        have A18 := Aside0.mk A180
        (try (have e18_11 := Option.some.inj (A180.symm.trans A11.out)))
        (try (have e18_16 := Option.some.inj (A180.symm.trans A16.out)))
        clear A180
        have H' := Aside0.mk H
        clear H
        go_wp2_with (first | ((with_reducible refine gate_callee (f := 14) rfl ?_); refine goesL_ (some 48) rfl rfl Try.func14 (by kernel_rfl) rfl #[.int .i64 t470] rfl (by (try simp only [List.map_toArray, List.map_cons, List.map_nil]); first | done | rfl | (simp only [List.length_drop, List.length_take]; rfl)) ?_; (with_reducible refine (mintagelaw05_num.calls t470 t477 _ A16.out).mono ?_); rintro e w' ⟨rfl, ⟨nd, rfl⟩⟩; refine ⟨_, rfl, ?_⟩) | (go_at_call 14; (with_reducible refine (mintagelaw05_num.calls t474 t478 _ A18.out).mono ?_); rintro e w' ⟨rfl, ⟨nd, rfl⟩⟩))
        go_meet
        case rel => exact ⟨_, ((t478 != 0)), (by first | rfl | (simp; done) | (simp [*]; done)), H', ⟨by first | omega | exact Nat.le_refl _⟩, ⟨by (with_reducible repeat (first | apply Kd.R_alloc | apply Kd.R_drewN | apply Kd.R_drew)); exact Kd.R_mono HO472.out (fun _ hk => hk.2)⟩, ⟨by (with_reducible repeat (first | apply Kd.R_alloc | apply Kd.R_drewN | apply Kd.R_drew)); exact Kd.R_mono HO476.out (fun _ hk => hk.2)⟩, ⟨by repeat (first | (with_reducible first | exact HB.out | apply below_alloc | apply pw_below_drewN | apply below_drew1) | exact HB.out)⟩⟩
      · rw [if_neg c17] at H
        have c17b0 : (t477 == 0) = false := beq_eq_false_iff_ne.mpr c17
        have c17b1 : (t477 != 0) = true := bne_iff_ne.mpr c17
        (first | rw [c17b0] | (simp only [i64_w, i32_w]; rw [c17b0]) | skip)
        have H' := Aside0.mk H
        clear H
        go_wp2_with (first | ((with_reducible refine gate_callee (f := 14) rfl ?_); refine goesL_ (some 48) rfl rfl Try.func14 (by kernel_rfl) rfl #[.int .i64 t470] rfl (by (try simp only [List.map_toArray, List.map_cons, List.map_nil]); first | done | rfl | (simp only [List.length_drop, List.length_take]; rfl)) ?_; (with_reducible refine (mintagelaw05_num.calls t470 t477 _ A16.out).mono ?_); rintro e w' ⟨rfl, ⟨nd, rfl⟩⟩; refine ⟨_, rfl, ?_⟩))
        go_meet
        case rel => exact ⟨_, (true), (by first | rfl | (simp; done) | (simp [*]; done)), H', ⟨by first | omega | exact Nat.le_refl _⟩, ⟨by (with_reducible repeat (first | apply Kd.R_alloc | apply Kd.R_drewN | apply Kd.R_drew)); exact Kd.R_mono HO472.out (fun _ hk => hk.2)⟩, ⟨by (with_reducible repeat (first | apply Kd.R_alloc | apply Kd.R_drewN | apply Kd.R_drew)); exact Kd.R_mono HO476.out (fun _ hk => hk.2)⟩, ⟨by repeat (first | (with_reducible first | exact HB.out | apply below_alloc | apply pw_below_drewN | apply below_drew1) | exact HB.out)⟩⟩
    case rest =>
      clear HC12
      try clear c1
      try clear c2
      try clear p2
      try clear c5
      try clear c5b0
      try clear c5b1
      try clear p6
      try clear c7
      try clear c7b0
      try clear c14
      try clear c17
      try clear c17b0
      try clear c17b1
      obtain ⟨kq, x54_11, rfl, HA, HJ11, HO_11, HO_13, HB⟩ := hcut
      cases kq with
      | zero => exact absurd HA.out (by simp [mintagelaw05_WholeOrder.j0])
      | succ kj11 =>
        have H := HA.out
        clear HA
        simp only [mintagelaw05_WholeOrder.j0] at H
        by_cases c19 : x54_11 = true
        · subst c19
          have H1 : ((mintagelaw05_num.f t468).bind fun t479 => (if t479 = 53 then (if t467 = 0 then ((mintagelaw05_wakes.f).bind fun t480 => (some t480)) else (some false)) else (some false))) = some r := by rw [if_pos rfl] at H; exact H
          clear H
          have H := H1
          clear H1
          replace H := Option.bind_eq_some_iff.mp H
          obtain ⟨t479, A200, H⟩ := H
          replace H : (if t479 = 53 then (if t467 = 0 then ((mintagelaw05_wakes.f).bind fun t480 => (some t480)) else (some false)) else (some false)) = some r := H
          have A20 := Aside0.mk A200
          clear A200
          by_cases c21 : t479 = 53
          · rw [if_pos c21] at H
            have c21b0 : (t479 == 53) = true := beq_iff_eq.mpr c21
            have c21b1 : (t479 != 53) = false := bne_eq_false_iff_eq.mpr c21
            clear c21
            by_cases c22 : t467 = 0
            · rw [if_pos c22] at H
              have c22b0 : (t467 == 0) = true := beq_iff_eq.mpr c22
              have c22b1 : (t467 != 0) = false := bne_eq_false_iff_eq.mpr c22
              clear c22
              replace H := Option.bind_eq_some_iff.mp H
              obtain ⟨t480, A230, H⟩ := H
              replace H : (some t480) = some r := H
              have A23 := Aside0.mk A230
              clear A230
              obtain rfl := Option.some.inj H
              go_wp2_with (first | ((with_reducible refine gate_callee (f := 14) rfl ?_); refine goesL_ (some 56) rfl rfl Try.func14 (by kernel_rfl) rfl #[.int .i64 t468] rfl (by (try simp only [List.map_toArray, List.map_cons, List.map_nil]); first | done | rfl | (simp only [List.length_drop, List.length_take]; rfl)) ?_; (with_reducible refine (mintagelaw05_num.calls t468 t479 _ A20.out).mono ?_); rintro e w' ⟨rfl, ⟨nd, rfl⟩⟩; refine ⟨_, rfl, ?_⟩) | (go_at_call 16; (with_reducible refine (mintagelaw05_wakes.calls  t480 _ A23.out).mono ?_); rintro e w24 ⟨rfl, hb⟩; have n0_ := Aside0.mk (Kd.R_below (by (with_reducible repeat (first | apply Kd.R_alloc | apply Kd.R_drewN | apply Kd.R_drew)); exact HO_11.out) hb); have n1_ := Aside0.mk (Kd.R_below (by (with_reducible repeat (first | apply Kd.R_alloc | apply Kd.R_drewN | apply Kd.R_drew)); exact HO_13.out) hb); have n2_ := Aside0.mk (below_step (by repeat (first | (with_reducible first | exact HB.out | apply below_alloc | apply pw_below_drewN | apply below_drew1) | exact HB.out)) hb); clear HO_11; clear HO_13; clear HB; have HO_11 := n0_; have HO_13 := n1_; have HB := n2_; clear n0_ n1_ n2_; (try clear hb); (try clear hb2); (try clear hk); (try clear hi)))
              go_ret
              exact ⟨by first | rfl | (simp [errW_none, errW_some] <;> rfl) | (simp only [← hji4, ← hji6, ← hji8]; first | rfl | (simp [errW_none, errW_some] <;> rfl)) | (simp [*, errW_none, errW_some] <;> rfl), by repeat (first | (with_reducible first | exact HB.out | apply below_alloc | apply pw_below_drewN | apply below_drew1) | exact HB.out)⟩
            · rw [if_neg c22] at H
              have c22b0 : (t467 == 0) = false := beq_eq_false_iff_ne.mpr c22
              have c22b1 : (t467 != 0) = true := bne_iff_ne.mpr c22
              obtain rfl := Option.some.inj H
              go_wp2_with (first | ((with_reducible refine gate_callee (f := 14) rfl ?_); refine goesL_ (some 56) rfl rfl Try.func14 (by kernel_rfl) rfl #[.int .i64 t468] rfl (by (try simp only [List.map_toArray, List.map_cons, List.map_nil]); first | done | rfl | (simp only [List.length_drop, List.length_take]; rfl)) ?_; (with_reducible refine (mintagelaw05_num.calls t468 t479 _ A20.out).mono ?_); rintro e w' ⟨rfl, ⟨nd, rfl⟩⟩; refine ⟨_, rfl, ?_⟩))
              go_ret
              exact ⟨by first | rfl | (simp [errW_none, errW_some] <;> rfl) | (simp only [← hji4, ← hji6, ← hji8]; first | rfl | (simp [errW_none, errW_some] <;> rfl)) | (simp [*, errW_none, errW_some] <;> rfl), by repeat (first | (with_reducible first | exact HB.out | apply below_alloc | apply pw_below_drewN | apply below_drew1) | exact HB.out)⟩
          · rw [if_neg c21] at H
            have c21b0 : (t479 == 53) = false := beq_eq_false_iff_ne.mpr c21
            have c21b1 : (t479 != 53) = true := bne_iff_ne.mpr c21
            obtain rfl := Option.some.inj H
            go_wp2_with (first | ((with_reducible refine gate_callee (f := 14) rfl ?_); refine goesL_ (some 56) rfl rfl Try.func14 (by kernel_rfl) rfl #[.int .i64 t468] rfl (by (try simp only [List.map_toArray, List.map_cons, List.map_nil]); first | done | rfl | (simp only [List.length_drop, List.length_take]; rfl)) ?_; (with_reducible refine (mintagelaw05_num.calls t468 t479 _ A20.out).mono ?_); rintro e w' ⟨rfl, ⟨nd, rfl⟩⟩; refine ⟨_, rfl, ?_⟩))
            go_ret
            exact ⟨by first | rfl | (simp [errW_none, errW_some] <;> rfl) | (simp only [← hji4, ← hji6, ← hji8]; first | rfl | (simp [errW_none, errW_some] <;> rfl)) | (simp [*, errW_none, errW_some] <;> rfl), by repeat (first | (with_reducible first | exact HB.out | apply below_alloc | apply pw_below_drewN | apply below_drew1) | exact HB.out)⟩
        · replace c19 := Bool.eq_false_iff.mpr c19
          subst c19
          have H1 : ((mintagelaw05_num.f t468).bind fun t481 => (if t481 = 0 then ((mintagelaw05_order.f kj11 t469 t473).bind fun t482 => (if t467 = t482 then ((mintagelaw05_wakes.f).bind fun t483 => (some t483)) else (some false))) else (some false))) = some r := by rw [if_neg (show ¬ (false = true) by decide)] at H; exact H
          clear H
          have H := H1
          clear H1
          replace H := Option.bind_eq_some_iff.mp H
          obtain ⟨t481, A250, H⟩ := H
          replace H : (if t481 = 0 then ((mintagelaw05_order.f kj11 t469 t473).bind fun t482 => (if t467 = t482 then ((mintagelaw05_wakes.f).bind fun t483 => (some t483)) else (some false))) else (some false)) = some r := H
          have A25 := Aside0.mk A250
          clear A250
          by_cases c26 : t481 = 0
          · rw [if_pos c26] at H
            have c26b0 : (t481 == 0) = true := beq_iff_eq.mpr c26
            have c26b1 : (t481 != 0) = false := bne_eq_false_iff_eq.mpr c26
            clear c26
            replace H := Option.bind_eq_some_iff.mp H
            obtain ⟨t482, A270, H⟩ := H
            replace H : (if t467 = t482 then ((mintagelaw05_wakes.f).bind fun t483 => (some t483)) else (some false)) = some r := H
            have A27 := Aside0.mk A270
            clear A270
            by_cases c28 : t467 = t482
            · rw [if_pos c28] at H
              have c28b0 : (t467 == t482) = true := beq_iff_eq.mpr c28
              have c28b1 : (t467 != t482) = false := bne_eq_false_iff_eq.mpr c28
              clear c28
              replace H := Option.bind_eq_some_iff.mp H
              obtain ⟨t483, A290, H⟩ := H
              replace H : (some t483) = some r := H
              have A29 := Aside0.mk A290
              clear A290
              obtain rfl := Option.some.inj H
              go_wp2_with (first | ((with_reducible refine gate_callee (f := 14) rfl ?_); refine goesL_ (some 66) rfl rfl Try.func14 (by kernel_rfl) rfl #[.int .i64 t468] rfl (by (try simp only [List.map_toArray, List.map_cons, List.map_nil]); first | done | rfl | (simp only [List.length_drop, List.length_take]; rfl)) ?_; (with_reducible refine (mintagelaw05_num.calls t468 t481 _ A25.out).mono ?_); rintro e w' ⟨rfl, ⟨nd, rfl⟩⟩; refine ⟨_, rfl, ?_⟩; obtain ⟨Ao30, co30, eo30⟩ := Kd.R_slice HO_11.out; subst eo30; obtain ⟨Ao31, co31, eo31⟩ := Kd.R_slice HO_13.out; subst eo31) | (go_at_call 26; (with_reducible refine (mintagelaw05_order.calls kj11 _ _ t469 _ _ t473 t482 _ ?side1 ?side2 ?side3 ?side4 A27.out).mono ?_); (case side1 => repeat (first | exact (Kd.R_reads' HO_11.out).2.2 | (with_reducible refine Kd.C_alloc ?_ _) | (with_reducible refine Kd.C_drewN ?_ _) | (with_reducible refine Kd.C_drew ?_))); (case side2 => exact (Kd.R_reads' HO_11.out).2.1); (case side3 => repeat (first | exact (Kd.R_reads' HO_13.out).2.2 | (with_reducible refine Kd.C_alloc ?_ _) | (with_reducible refine Kd.C_drewN ?_ _) | (with_reducible refine Kd.C_drew ?_))); (case side4 => exact (Kd.R_reads' HO_13.out).2.1); rintro e w32 ⟨rfl, hb⟩; have n0_ := Aside0.mk (Kd.R_below (by (with_reducible repeat (first | apply Kd.R_alloc | apply Kd.R_drewN | apply Kd.R_drew)); exact HO_11.out) hb); have n1_ := Aside0.mk (Kd.R_below (by (with_reducible repeat (first | apply Kd.R_alloc | apply Kd.R_drewN | apply Kd.R_drew)); exact HO_13.out) hb); have n2_ := Aside0.mk (below_step (by repeat (first | (with_reducible first | exact HB.out | apply below_alloc | apply pw_below_drewN | apply below_drew1) | exact HB.out)) hb); clear HO_11; clear HO_13; clear HB; have HO_11 := n0_; have HO_13 := n1_; have HB := n2_; clear n0_ n1_ n2_; (try clear hb); (try clear hb2); (try clear hk); (try clear hi)) | (go_at_call 16; (with_reducible refine (mintagelaw05_wakes.calls  t483 _ A29.out).mono ?_); rintro e w33 ⟨rfl, hb⟩; have n0_ := Aside0.mk (Kd.R_below (by (with_reducible repeat (first | apply Kd.R_alloc | apply Kd.R_drewN | apply Kd.R_drew)); exact HO_11.out) hb); have n1_ := Aside0.mk (Kd.R_below (by (with_reducible repeat (first | apply Kd.R_alloc | apply Kd.R_drewN | apply Kd.R_drew)); exact HO_13.out) hb); have n2_ := Aside0.mk (below_step (by repeat (first | (with_reducible first | exact HB.out | apply below_alloc | apply pw_below_drewN | apply below_drew1) | exact HB.out)) hb); clear HO_11; clear HO_13; clear HB; have HO_11 := n0_; have HO_13 := n1_; have HB := n2_; clear n0_ n1_ n2_; (try clear hb); (try clear hb2); (try clear hk); (try clear hi)))
              go_ret
              exact ⟨by first | rfl | (simp [errW_none, errW_some] <;> rfl) | (simp only [← hji4, ← hji6, ← hji8]; first | rfl | (simp [errW_none, errW_some] <;> rfl)) | (simp [*, errW_none, errW_some] <;> rfl), by repeat (first | (with_reducible first | exact HB.out | apply below_alloc | apply pw_below_drewN | apply below_drew1) | exact HB.out)⟩
            · rw [if_neg c28] at H
              have c28b0 : (t467 == t482) = false := beq_eq_false_iff_ne.mpr c28
              have c28b1 : (t467 != t482) = true := bne_iff_ne.mpr c28
              obtain rfl := Option.some.inj H
              go_wp2_with (first | ((with_reducible refine gate_callee (f := 14) rfl ?_); refine goesL_ (some 66) rfl rfl Try.func14 (by kernel_rfl) rfl #[.int .i64 t468] rfl (by (try simp only [List.map_toArray, List.map_cons, List.map_nil]); first | done | rfl | (simp only [List.length_drop, List.length_take]; rfl)) ?_; (with_reducible refine (mintagelaw05_num.calls t468 t481 _ A25.out).mono ?_); rintro e w' ⟨rfl, ⟨nd, rfl⟩⟩; refine ⟨_, rfl, ?_⟩; obtain ⟨Ao34, co34, eo34⟩ := Kd.R_slice HO_11.out; subst eo34; obtain ⟨Ao35, co35, eo35⟩ := Kd.R_slice HO_13.out; subst eo35) | (go_at_call 26; (with_reducible refine (mintagelaw05_order.calls kj11 _ _ t469 _ _ t473 t482 _ ?side1 ?side2 ?side3 ?side4 A27.out).mono ?_); (case side1 => repeat (first | exact (Kd.R_reads' HO_11.out).2.2 | (with_reducible refine Kd.C_alloc ?_ _) | (with_reducible refine Kd.C_drewN ?_ _) | (with_reducible refine Kd.C_drew ?_))); (case side2 => exact (Kd.R_reads' HO_11.out).2.1); (case side3 => repeat (first | exact (Kd.R_reads' HO_13.out).2.2 | (with_reducible refine Kd.C_alloc ?_ _) | (with_reducible refine Kd.C_drewN ?_ _) | (with_reducible refine Kd.C_drew ?_))); (case side4 => exact (Kd.R_reads' HO_13.out).2.1); rintro e w36 ⟨rfl, hb⟩; have n0_ := Aside0.mk (Kd.R_below (by (with_reducible repeat (first | apply Kd.R_alloc | apply Kd.R_drewN | apply Kd.R_drew)); exact HO_11.out) hb); have n1_ := Aside0.mk (Kd.R_below (by (with_reducible repeat (first | apply Kd.R_alloc | apply Kd.R_drewN | apply Kd.R_drew)); exact HO_13.out) hb); have n2_ := Aside0.mk (below_step (by repeat (first | (with_reducible first | exact HB.out | apply below_alloc | apply pw_below_drewN | apply below_drew1) | exact HB.out)) hb); clear HO_11; clear HO_13; clear HB; have HO_11 := n0_; have HO_13 := n1_; have HB := n2_; clear n0_ n1_ n2_; (try clear hb); (try clear hb2); (try clear hk); (try clear hi)))
              go_ret
              exact ⟨by first | rfl | (simp [errW_none, errW_some] <;> rfl) | (simp only [← hji4, ← hji6, ← hji8]; first | rfl | (simp [errW_none, errW_some] <;> rfl)) | (simp [*, errW_none, errW_some] <;> rfl), by repeat (first | (with_reducible first | exact HB.out | apply below_alloc | apply pw_below_drewN | apply below_drew1) | exact HB.out)⟩
          · rw [if_neg c26] at H
            have c26b0 : (t481 == 0) = false := beq_eq_false_iff_ne.mpr c26
            have c26b1 : (t481 != 0) = true := bne_iff_ne.mpr c26
            obtain rfl := Option.some.inj H
            go_wp2_with (first | ((with_reducible refine gate_callee (f := 14) rfl ?_); refine goesL_ (some 66) rfl rfl Try.func14 (by kernel_rfl) rfl #[.int .i64 t468] rfl (by (try simp only [List.map_toArray, List.map_cons, List.map_nil]); first | done | rfl | (simp only [List.length_drop, List.length_take]; rfl)) ?_; (with_reducible refine (mintagelaw05_num.calls t468 t481 _ A25.out).mono ?_); rintro e w' ⟨rfl, ⟨nd, rfl⟩⟩; refine ⟨_, rfl, ?_⟩))
            go_ret
            exact ⟨by first | rfl | (simp [errW_none, errW_some] <;> rfl) | (simp only [← hji4, ← hji6, ← hji8]; first | rfl | (simp [errW_none, errW_some] <;> rfl)) | (simp [*, errW_none, errW_some] <;> rfl), by repeat (first | (with_reducible first | exact HB.out | apply below_alloc | apply pw_below_drewN | apply below_drew1) | exact HB.out)⟩
  · rw [if_neg c5] at H
    exact absurd H (by simp)

/-- THE ONE PURE STATEMENT of mintagelaw05_WholeOrder: yours. -/
def mintagelaw05_WholeOrder.Pure : Prop := ∀ (a0 : Int) (a1 : Int) (a2 : Int), (Lit.int .i64 a0).wf = true → (Lit.int .u64 a1).wf = true → (Lit.int .u64 a2).wf = true → ∃ k, mintagelaw05_WholeOrder.f k a0 a1 a2 = some true
theorem mintagelaw05_WholeOrder.walk (P : mintagelaw05_WholeOrder.Pure) (a0 : Int) (a1 : Int) (a2 : Int) (w : World) (w0 : (Lit.int .i64 a0).wf = true) (w1 : (Lit.int .u64 a1).wf = true) (w2 : (Lit.int .u64 a2).wf = true) :
    Calls Try.prog 7 #[.int .i64 a0, .int .u64 a1, .int .u64 a2] w fun e w' => e = .returned (.bool true) ∧ Below w.heap.size w w' := by
  obtain ⟨k, h⟩ := P a0 a1 a2 w0 w1 w2
  refine (mintagelaw05_WholeOrder.calls k a0 a1 a2 true w h).mono ?_
  rintro e w' ⟨rfl, hd⟩
  exact ⟨rfl, hd⟩

-- NOT PRINTED: function 8 (mintagelaw05_WholeEnds)

end Go.Proofs.Ytlcglnnmcgpnpaa.Q
