-- Printed functions, merged (wip/tools/pack.py).
import Derived.Test.YtobgpdmiiipmmaaQ0ZDateOrder
namespace Go.Proofs.Ytobgpdmiiipmmaa.Q
open Go.RowKit Go.Proofs.YtobgpdmiiipmmaaW.PrintWords Go.Proofs.YtobgpdmiiipmmaaW.PrintLast Go.Proofs.YtobgpdmiiipmmaaW.PrintMore
attribute [local go_sem] max2_int min2_int max_two min_two max_three min_three max_four min_four   -- for this text's walks alone
set_option linter.unusedVariables false
set_option linter.unusedSimpArgs false

/-! ### mintagelaw13_DateOrder: function 5 -/
def mintagelaw13_DateOrder.j0 : Nat → Int → Int → Int → Int → Bool → Option (Bool)
  | 0, _, _, _, _, _ => none
  | k + 1, x2, x3, x9, x10, x65 => if x65 = true then (some false) else ((date_PrintMoment.f k (IntKind.u64.wrap (wrap64 ((wrap64 ((wrap64 (x9 * 86400)) + (wrap64 (Int.tmod x2 86400)))) * 1000000)))).bind fun bt320 => ((date_PrintMoment.f k (IntKind.u64.wrap (wrap64 ((wrap64 ((wrap64 (x10 * 86400)) + (wrap64 (Int.tmod x3 86400)))) * 1000000)))).bind fun bt324 => (if (bt320.1.length : Int) = 19 then (if ((decide ((wrap64 ((wrap64 (x9 * 86400)) + (wrap64 (Int.tmod x2 86400)))) < (wrap64 ((wrap64 (x10 * 86400)) + (wrap64 (Int.tmod x3 86400)))))) == (Op.bytesLess ((strOfNums bt320.1).toList) ((strOfNums bt324.1).toList))) = true then ((mintagelaw13_wakes.f).bind fun t328 => (some t328)) else (some false)) else (some false))))
def mintagelaw13_DateOrder.f (k : Nat) (a0 : Int) (a1 : Int) (a2 : Int) (a3 : Int) : Option (Bool) := (date_PrintDay.f k (IntKind.u64.wrap (wrap64 ((-719528) + (wrap64 (Int.tmod a0 3652425)))))).bind fun bt312 => ((date_PrintDay.f k (IntKind.u64.wrap (wrap64 ((-719528) + (wrap64 (Int.tmod a1 3652425)))))).bind fun bt316 => (if (bt312.1.length : Int) = 10 then (if ((decide ((wrap64 ((-719528) + (wrap64 (Int.tmod a0 3652425)))) < (wrap64 ((-719528) + (wrap64 (Int.tmod a1 3652425)))))) != (Op.bytesLess ((strOfNums bt312.1).toList) ((strOfNums bt316.1).toList))) = true then (mintagelaw13_DateOrder.j0 k a2 a3 (wrap64 ((-719528) + (wrap64 (Int.tmod a0 3652425)))) (wrap64 ((-719528) + (wrap64 (Int.tmod a1 3652425)))) true) else (mintagelaw13_DateOrder.j0 k a2 a3 (wrap64 ((-719528) + (wrap64 (Int.tmod a0 3652425)))) (wrap64 ((-719528) + (wrap64 (Int.tmod a1 3652425)))) (((wrap64 ((-719528) + (wrap64 (Int.tmod a0 3652425)))) == (wrap64 ((-719528) + (wrap64 (Int.tmod a1 3652425))))) != ((strOfNums bt312.1).toList == (strOfNums bt316.1).toList)))) else (mintagelaw13_DateOrder.j0 k a2 a3 (wrap64 ((-719528) + (wrap64 (Int.tmod a0 3652425)))) (wrap64 ((-719528) + (wrap64 (Int.tmod a1 3652425)))) true)))
theorem mintagelaw13_DateOrder.mono_l : ∀ k, (∀ y0 y1 y2 y3 y4, LeO (mintagelaw13_DateOrder.j0 k y0 y1 y2 y3 y4) (mintagelaw13_DateOrder.j0 (k + 1) y0 y1 y2 y3 y4))
  | 0 => fun _ _ _ _ _ r h => by simp [mintagelaw13_DateOrder.j0] at h
  | k + 1 => by
    have ih0 := mintagelaw13_DateOrder.mono_l k
    · intro y0 y1 y2 y3 y4
      unfold mintagelaw13_DateOrder.j0
      repeat' first
      | (with_reducible exact ih0 _ _ _ _ _)
      | (with_reducible exact date_PrintDay.mono _ _)
      | (with_reducible exact date_PrintMoment.mono _ _)
      | (with_reducible exact LeO.refl _)
      | (with_reducible exact LeO.none _)
      | (with_reducible refine LeO.ite ?_ ?_)
      | (with_reducible refine LeO.bind ?_ (fun _ => ?_))
      | exact ih0 _ _ _ _ _
      | exact date_PrintDay.mono _ _
      | exact date_PrintMoment.mono _ _
      | exact LeO.none _
      | refine LeO.ite ?_ ?_
      | refine LeO.bind ?_ (fun _ => ?_)
theorem mintagelaw13_DateOrder.mono : ∀ a0 a1 a2 a3 k, LeO (mintagelaw13_DateOrder.f k a0 a1 a2 a3) (mintagelaw13_DateOrder.f (k + 1) a0 a1 a2 a3) := by
  intro a0 a1 a2 a3 k
  have ih0 := mintagelaw13_DateOrder.mono_l k
  unfold mintagelaw13_DateOrder.f
  repeat' first
      | (with_reducible exact ih0 _ _ _ _ _)
      | (with_reducible exact date_PrintDay.mono _ _)
      | (with_reducible exact date_PrintMoment.mono _ _)
      | (with_reducible exact LeO.refl _)
      | (with_reducible exact LeO.none _)
      | (with_reducible refine LeO.ite ?_ ?_)
      | (with_reducible refine LeO.bind ?_ (fun _ => ?_))
      | exact ih0 _ _ _ _ _
      | exact date_PrintDay.mono _ _
      | exact date_PrintMoment.mono _ _
      | exact LeO.none _
      | refine LeO.ite ?_ ?_
      | refine LeO.bind ?_ (fun _ => ?_)
set_option maxHeartbeats 8000000 in
set_option maxRecDepth 100000 in
theorem mintagelaw13_DateOrder.calls (k : Nat) (a0 : Int) (a1 : Int) (a2 : Int) (a3 : Int) (r : Bool) (w : World) (h : mintagelaw13_DateOrder.f k a0 a1 a2 a3 = some r) (hT : r = true) :
    Calls Try.prog 5 #[.int .u64 a0, .int .u64 a1, .int .u64 a2, .int .u64 a3] w fun e w' => e = .returned (.bool r) ∧ Below w.heap.size w w' := by
  have HT := Aside0.mk hT
  clear hT
  have HB := Aside0.mk (Below.refl w.heap.size w)
  have H : ((date_PrintDay.f k (IntKind.u64.wrap (wrap64 ((-719528) + (wrap64 (Int.tmod a0 3652425)))))).bind fun bt312 => ((date_PrintDay.f k (IntKind.u64.wrap (wrap64 ((-719528) + (wrap64 (Int.tmod a1 3652425)))))).bind fun bt316 => (if (bt312.1.length : Int) = 10 then (if ((decide ((wrap64 ((-719528) + (wrap64 (Int.tmod a0 3652425)))) < (wrap64 ((-719528) + (wrap64 (Int.tmod a1 3652425)))))) != (Op.bytesLess ((strOfNums bt312.1).toList) ((strOfNums bt316.1).toList))) = true then (mintagelaw13_DateOrder.j0 k a2 a3 (wrap64 ((-719528) + (wrap64 (Int.tmod a0 3652425)))) (wrap64 ((-719528) + (wrap64 (Int.tmod a1 3652425)))) true) else (mintagelaw13_DateOrder.j0 k a2 a3 (wrap64 ((-719528) + (wrap64 (Int.tmod a0 3652425)))) (wrap64 ((-719528) + (wrap64 (Int.tmod a1 3652425)))) (((wrap64 ((-719528) + (wrap64 (Int.tmod a0 3652425)))) == (wrap64 ((-719528) + (wrap64 (Int.tmod a1 3652425))))) != ((strOfNums bt312.1).toList == (strOfNums bt316.1).toList)))) else (mintagelaw13_DateOrder.j0 k a2 a3 (wrap64 ((-719528) + (wrap64 (Int.tmod a0 3652425)))) (wrap64 ((-719528) + (wrap64 (Int.tmod a1 3652425)))) true)))) = some r := h
  clear h
  replace H := Option.bind_eq_some_iff.mp H
  obtain ⟨⟨t312, t313⟩, A50, H⟩ := H
  replace H : ((date_PrintDay.f k (IntKind.u64.wrap (wrap64 ((-719528) + (wrap64 (Int.tmod a1 3652425)))))).bind fun bt316 => (if (t312.length : Int) = 10 then (if ((decide ((wrap64 ((-719528) + (wrap64 (Int.tmod a0 3652425)))) < (wrap64 ((-719528) + (wrap64 (Int.tmod a1 3652425)))))) != (Op.bytesLess ((strOfNums t312).toList) ((strOfNums bt316.1).toList))) = true then (mintagelaw13_DateOrder.j0 k a2 a3 (wrap64 ((-719528) + (wrap64 (Int.tmod a0 3652425)))) (wrap64 ((-719528) + (wrap64 (Int.tmod a1 3652425)))) true) else (mintagelaw13_DateOrder.j0 k a2 a3 (wrap64 ((-719528) + (wrap64 (Int.tmod a0 3652425)))) (wrap64 ((-719528) + (wrap64 (Int.tmod a1 3652425)))) (((wrap64 ((-719528) + (wrap64 (Int.tmod a0 3652425)))) == (wrap64 ((-719528) + (wrap64 (Int.tmod a1 3652425))))) != ((strOfNums t312).toList == (strOfNums bt316.1).toList)))) else (mintagelaw13_DateOrder.j0 k a2 a3 (wrap64 ((-719528) + (wrap64 (Int.tmod a0 3652425)))) (wrap64 ((-719528) + (wrap64 (Int.tmod a1 3652425)))) true))) = some r := H
  have A5 := Aside0.mk A50
  clear A50
  replace H := Option.bind_eq_some_iff.mp H
  obtain ⟨⟨t316, t317⟩, A60, H⟩ := H
  replace H : (if (t312.length : Int) = 10 then (if ((decide ((wrap64 ((-719528) + (wrap64 (Int.tmod a0 3652425)))) < (wrap64 ((-719528) + (wrap64 (Int.tmod a1 3652425)))))) != (Op.bytesLess ((strOfNums t312).toList) ((strOfNums t316).toList))) = true then (mintagelaw13_DateOrder.j0 k a2 a3 (wrap64 ((-719528) + (wrap64 (Int.tmod a0 3652425)))) (wrap64 ((-719528) + (wrap64 (Int.tmod a1 3652425)))) true) else (mintagelaw13_DateOrder.j0 k a2 a3 (wrap64 ((-719528) + (wrap64 (Int.tmod a0 3652425)))) (wrap64 ((-719528) + (wrap64 (Int.tmod a1 3652425)))) (((wrap64 ((-719528) + (wrap64 (Int.tmod a0 3652425)))) == (wrap64 ((-719528) + (wrap64 (Int.tmod a1 3652425))))) != ((strOfNums t312).toList == (strOfNums t316).toList)))) else (mintagelaw13_DateOrder.j0 k a2 a3 (wrap64 ((-719528) + (wrap64 (Int.tmod a0 3652425)))) (wrap64 ((-719528) + (wrap64 (Int.tmod a1 3652425)))) true)) = some r := H
  have A6 := Aside0.mk A60
  clear A60
  have HC7 := Aside0.mk H
  clear H
  go_enter Try.func5, Try.ntmps5
  go_upto_region 4 with (first | ((with_reducible refine gate_callee (f := 10) rfl ?_); refine goesL_ (some 32) rfl rfl Try.func10 (by kernel_rfl) rfl #[.int .u64 (IntKind.u64.wrap (wrap64 ((-719528) + (wrap64 (Int.tmod a0 3652425)))))] rfl (by (try simp only [List.map_toArray, List.map_cons, List.map_nil]); first | done | rfl | (simp only [List.length_drop, List.length_take]; rfl)) ?_; (with_reducible refine (date_PrintDay.calls k (IntKind.u64.wrap (wrap64 ((-719528) + (wrap64 (Int.tmod a0 3652425))))) t312 t313 _ A5.out).mono ?_); rintro e w8 ⟨v314, rfl, ho0, hb⟩; refine ⟨_, rfl, ?_⟩; have n0_ := Aside0.mk (Kd.R_lower ho0 (below_size (by repeat (first | (with_reducible first | exact HB.out | apply below_alloc | apply pw_below_drewN | apply below_drew1) | exact HB.out)))); have n1_ := Aside0.mk (below_step (by repeat (first | (with_reducible first | exact HB.out | apply below_alloc | apply pw_below_drewN | apply below_drew1) | exact HB.out)) hb); clear HB; have HO315 := n0_; have HB := n1_; clear n0_ n1_; (try clear hb); (try clear hb2); (try clear hk); (try clear hi); (try clear ho0)) | ((with_reducible refine gate_callee (f := 10) rfl ?_); refine goesL_ (some 38) rfl rfl Try.func10 (by kernel_rfl) rfl #[.int .u64 (IntKind.u64.wrap (wrap64 ((-719528) + (wrap64 (Int.tmod a1 3652425)))))] rfl (by (try simp only [List.map_toArray, List.map_cons, List.map_nil]); first | done | rfl | (simp only [List.length_drop, List.length_take]; rfl)) ?_; (with_reducible refine (date_PrintDay.calls k (IntKind.u64.wrap (wrap64 ((-719528) + (wrap64 (Int.tmod a1 3652425))))) t316 t317 _ A6.out).mono ?_); rintro e w9 ⟨v318, rfl, ho0, hb⟩; refine ⟨_, rfl, ?_⟩; have n0_ := Aside0.mk (Kd.R_elder' (by (with_reducible repeat (first | apply Kd.R_alloc | apply Kd.R_drewN | apply Kd.R_drew)); exact HO315.out) (Kd.R_base ho0) hb); have n1_ := Aside0.mk (Kd.R_lower (Kd.R_new' ho0 (Kd.R_lt (by (with_reducible repeat (first | apply Kd.R_alloc | apply Kd.R_drewN | apply Kd.R_drew)); exact HO315.out))) (below_size (by repeat (first | (with_reducible first | exact HB.out | apply below_alloc | apply pw_below_drewN | apply below_drew1) | exact HB.out)))); have n2_ := Aside0.mk (below_step (by repeat (first | (with_reducible first | exact HB.out | apply below_alloc | apply pw_below_drewN | apply below_drew1) | exact HB.out)) hb); clear HO315; clear HB; have HO315 := n0_; have HO319 := n1_; have HB := n2_; clear n0_ n1_ n2_; (try clear hb); (try clear hb2); (try clear hk); (try clear hi); (try clear ho0)))
  (try simp only [Act.put, List.setIfInBounds_toArray, List.set_cons_zero, List.set_cons_succ])
  go_cut [65] (fun v65 wc => ∃ (kq : Nat) (x65_6 : Bool), v65 = .bool x65_6 ∧ Aside0 (mintagelaw13_DateOrder.j0 kq a2 a3 (wrap64 ((-719528) + (wrap64 (Int.tmod a0 3652425)))) (wrap64 ((-719528) + (wrap64 (Int.tmod a1 3652425)))) x65_6 = some r) ∧ Aside0 (kq ≤ k) ∧ Aside0 (Below w.heap.size w wc))
  case first =>
    have H := HC7.out
    clear HC7
    by_cases c10 : (t312.length : Int) = 10
    · rw [if_pos c10] at H
      have c10b0 : ((t312.length : Int) == 10) = true := beq_iff_eq.mpr c10
      have c10b1 : ((t312.length : Int) != 10) = false := bne_eq_false_iff_eq.mpr c10
      clear c10
      (first | rw [c10b0] | (simp only [i64_w, i32_w]; rw [c10b0]) | skip)
      by_cases c11 : ((decide ((wrap64 ((-719528) + (wrap64 (Int.tmod a0 3652425)))) < (wrap64 ((-719528) + (wrap64 (Int.tmod a1 3652425)))))) != (Op.bytesLess ((strOfNums t312).toList) ((strOfNums t316).toList))) = true
      · rw [if_pos c11] at H
        have c11b0 : ((decide ((wrap64 ((-719528) + (wrap64 (Int.tmod a0 3652425)))) < (wrap64 ((-719528) + (wrap64 (Int.tmod a1 3652425)))))) != (Op.bytesLess ((strOfNums t312).toList) ((strOfNums t316).toList))) = true := c11
        (try (have c11b1 : decide ((decide ((wrap64 ((-719528) + (wrap64 (Int.tmod a0 3652425)))) < (wrap64 ((-719528) + (wrap64 (Int.tmod a1 3652425)))))) = (Op.bytesLess ((strOfNums t312).toList) ((strOfNums t316).toList))) = false := by simpa using c11))
        (try (have c11b2 : ((decide ((wrap64 ((-719528) + (wrap64 (Int.tmod a0 3652425)))) < (wrap64 ((-719528) + (wrap64 (Int.tmod a1 3652425)))))) == (Op.bytesLess ((strOfNums t312).toList) ((strOfNums t316).toList))) = false := by simpa using c11))
        (try (have c11b3 : ¬ ((decide ((wrap64 ((-719528) + (wrap64 (Int.tmod a0 3652425)))) < (wrap64 ((-719528) + (wrap64 (Int.tmod a1 3652425)))))) = (Op.bytesLess ((strOfNums t312).toList) ((strOfNums t316).toList))) := by simpa using c11))
        clear c11
        exact absurd H (by rw [HT.out]; cases k <;> simp [mintagelaw13_DateOrder.j0])
      · rw [if_neg c11] at H
        have c11b0 : ((decide ((wrap64 ((-719528) + (wrap64 (Int.tmod a0 3652425)))) < (wrap64 ((-719528) + (wrap64 (Int.tmod a1 3652425)))))) != (Op.bytesLess ((strOfNums t312).toList) ((strOfNums t316).toList))) = false := by simpa using c11
        (try (have c11b1 : decide ((decide ((wrap64 ((-719528) + (wrap64 (Int.tmod a0 3652425)))) < (wrap64 ((-719528) + (wrap64 (Int.tmod a1 3652425)))))) = (Op.bytesLess ((strOfNums t312).toList) ((strOfNums t316).toList))) = true := by simpa using c11))
        (try (have c11b2 : ((decide ((wrap64 ((-719528) + (wrap64 (Int.tmod a0 3652425)))) < (wrap64 ((-719528) + (wrap64 (Int.tmod a1 3652425)))))) == (Op.bytesLess ((strOfNums t312).toList) ((strOfNums t316).toList))) = true := by simpa using c11))
        clear c11
        have H' := Aside0.mk H
        clear H
        obtain ⟨Ao12, co12, eo12⟩ := Kd.R_slice HO315.out
        subst eo12
        have hcv13 := own_string (P := Try.prog) Try.underlying29 Try.underlying5 Try.underlying9 (Kd.own_of_R HO315.out); (try (have hcv13n := fun n_ => own_string (P := Try.prog) Try.underlying29 Try.underlying5 Try.underlying9 (Kd.own_of_R (Kd.R_drewN HO315.out n_))))
        have hcv14 := own_string (P := Try.prog) Try.underlying29 Try.underlying5 Try.underlying9 (Kd.own_of_R HO319.out); (try (have hcv14n := fun n_ => own_string (P := Try.prog) Try.underlying29 Try.underlying5 Try.underlying9 (Kd.own_of_R (Kd.R_drewN HO319.out n_))))
        have hcv15 := own_string (P := Try.prog) Try.underlying29 Try.underlying5 Try.underlying9 (Kd.own_of_R HO315.out); (try (have hcv15n := fun n_ => own_string (P := Try.prog) Try.underlying29 Try.underlying5 Try.underlying9 (Kd.own_of_R (Kd.R_drewN HO315.out n_))))
        have hcv16 := own_string (P := Try.prog) Try.underlying29 Try.underlying5 Try.underlying9 (Kd.own_of_R HO319.out); (try (have hcv16n := fun n_ => own_string (P := Try.prog) Try.underlying29 Try.underlying5 Try.underlying9 (Kd.own_of_R (Kd.R_drewN HO319.out n_))))
        go_wp2
        go_meet
        case rel => exact ⟨_, ((((wrap64 ((-719528) + (wrap64 (Int.tmod a0 3652425)))) == (wrap64 ((-719528) + (wrap64 (Int.tmod a1 3652425))))) != ((strOfNums t312).toList == (strOfNums t316).toList))), (by first | rfl | (simp; done) | (simp [*]; done)), H', ⟨by first | omega | exact Nat.le_refl _⟩, ⟨by repeat (first | (with_reducible first | exact HB.out | apply below_alloc | apply pw_below_drewN | apply below_drew1) | exact HB.out)⟩⟩
    · rw [if_neg c10] at H
      have c10b0 : ((t312.length : Int) == 10) = false := beq_eq_false_iff_ne.mpr c10
      have c10b1 : ((t312.length : Int) != 10) = true := bne_iff_ne.mpr c10
      (first | rw [c10b0] | (simp only [i64_w, i32_w]; rw [c10b0]) | skip)
      exact absurd H (by rw [HT.out]; cases k <;> simp [mintagelaw13_DateOrder.j0])
  case rest =>
    clear HC7
    try clear c1
    try clear hcv1
    try clear p2
    try clear c5
    try clear p6
    try clear c10
    try clear c10b0
    try clear c10b1
    try clear c11
    try clear c11b0
    try clear c11b1
    try clear c11b2
    try clear hcv13
    try clear hcv14
    try clear hcv15
    try clear hcv16
    obtain ⟨kq, x65_6, rfl, HA, HJ6, HB⟩ := hcut
    cases kq with
    | zero => exact absurd HA.out (by simp [mintagelaw13_DateOrder.j0])
    | succ kj6 =>
      have H := HA.out
      clear HA
      simp only [mintagelaw13_DateOrder.j0] at H
      by_cases c17 : x65_6 = true
      · subst c17
        have H1 : (some false) = some r := by rw [if_pos rfl] at H; exact H
        clear H
        have H := H1
        clear H1
        exact absurd ((Option.some.inj H).trans HT.out) (by decide)
      · replace c17 := Bool.eq_false_iff.mpr c17
        subst c17
        have H1 : ((date_PrintMoment.f kj6 (IntKind.u64.wrap (wrap64 ((wrap64 ((wrap64 ((wrap64 ((-719528) + (wrap64 (Int.tmod a0 3652425)))) * 86400)) + (wrap64 (Int.tmod a2 86400)))) * 1000000)))).bind fun bt320 => ((date_PrintMoment.f kj6 (IntKind.u64.wrap (wrap64 ((wrap64 ((wrap64 ((wrap64 ((-719528) + (wrap64 (Int.tmod a1 3652425)))) * 86400)) + (wrap64 (Int.tmod a3 86400)))) * 1000000)))).bind fun bt324 => (if (bt320.1.length : Int) = 19 then (if ((decide ((wrap64 ((wrap64 ((wrap64 ((-719528) + (wrap64 (Int.tmod a0 3652425)))) * 86400)) + (wrap64 (Int.tmod a2 86400)))) < (wrap64 ((wrap64 ((wrap64 ((-719528) + (wrap64 (Int.tmod a1 3652425)))) * 86400)) + (wrap64 (Int.tmod a3 86400)))))) == (Op.bytesLess ((strOfNums bt320.1).toList) ((strOfNums bt324.1).toList))) = true then ((mintagelaw13_wakes.f).bind fun t328 => (some t328)) else (some false)) else (some false)))) = some r := by rw [if_neg (show ¬ (false = true) by decide)] at H; exact H
        clear H
        have H := H1
        clear H1
        replace H := Option.bind_eq_some_iff.mp H
        obtain ⟨⟨t320, t321⟩, A180, H⟩ := H
        replace H : ((date_PrintMoment.f kj6 (IntKind.u64.wrap (wrap64 ((wrap64 ((wrap64 ((wrap64 ((-719528) + (wrap64 (Int.tmod a1 3652425)))) * 86400)) + (wrap64 (Int.tmod a3 86400)))) * 1000000)))).bind fun bt324 => (if (t320.length : Int) = 19 then (if ((decide ((wrap64 ((wrap64 ((wrap64 ((-719528) + (wrap64 (Int.tmod a0 3652425)))) * 86400)) + (wrap64 (Int.tmod a2 86400)))) < (wrap64 ((wrap64 ((wrap64 ((-719528) + (wrap64 (Int.tmod a1 3652425)))) * 86400)) + (wrap64 (Int.tmod a3 86400)))))) == (Op.bytesLess ((strOfNums t320).toList) ((strOfNums bt324.1).toList))) = true then ((mintagelaw13_wakes.f).bind fun t328 => (some t328)) else (some false)) else (some false))) = some r := H
        have A18 := Aside0.mk A180
        clear A180
        replace H := Option.bind_eq_some_iff.mp H
        obtain ⟨⟨t324, t325⟩, A190, H⟩ := H
        replace H : (if (t320.length : Int) = 19 then (if ((decide ((wrap64 ((wrap64 ((wrap64 ((-719528) + (wrap64 (Int.tmod a0 3652425)))) * 86400)) + (wrap64 (Int.tmod a2 86400)))) < (wrap64 ((wrap64 ((wrap64 ((-719528) + (wrap64 (Int.tmod a1 3652425)))) * 86400)) + (wrap64 (Int.tmod a3 86400)))))) == (Op.bytesLess ((strOfNums t320).toList) ((strOfNums t324).toList))) = true then ((mintagelaw13_wakes.f).bind fun t328 => (some t328)) else (some false)) else (some false)) = some r := H
        have A19 := Aside0.mk A190
        clear A190
        by_cases c20 : (t320.length : Int) = 19
        · rw [if_pos c20] at H
          have c20b0 : ((t320.length : Int) == 19) = true := beq_iff_eq.mpr c20
          have c20b1 : ((t320.length : Int) != 19) = false := bne_eq_false_iff_eq.mpr c20
          clear c20
          by_cases c21 : ((decide ((wrap64 ((wrap64 ((wrap64 ((-719528) + (wrap64 (Int.tmod a0 3652425)))) * 86400)) + (wrap64 (Int.tmod a2 86400)))) < (wrap64 ((wrap64 ((wrap64 ((-719528) + (wrap64 (Int.tmod a1 3652425)))) * 86400)) + (wrap64 (Int.tmod a3 86400)))))) == (Op.bytesLess ((strOfNums t320).toList) ((strOfNums t324).toList))) = true
          · rw [if_pos c21] at H
            have c21b0 : ((decide ((wrap64 ((wrap64 ((wrap64 ((-719528) + (wrap64 (Int.tmod a0 3652425)))) * 86400)) + (wrap64 (Int.tmod a2 86400)))) < (wrap64 ((wrap64 ((wrap64 ((-719528) + (wrap64 (Int.tmod a1 3652425)))) * 86400)) + (wrap64 (Int.tmod a3 86400)))))) == (Op.bytesLess ((strOfNums t320).toList) ((strOfNums t324).toList))) = true := c21
            (try (have c21b1 : decide ((decide ((wrap64 ((wrap64 ((wrap64 ((-719528) + (wrap64 (Int.tmod a0 3652425)))) * 86400)) + (wrap64 (Int.tmod a2 86400)))) < (wrap64 ((wrap64 ((wrap64 ((-719528) + (wrap64 (Int.tmod a1 3652425)))) * 86400)) + (wrap64 (Int.tmod a3 86400)))))) = (Op.bytesLess ((strOfNums t320).toList) ((strOfNums t324).toList))) = true := by simpa using c21))
            (try (have c21b2 : ((decide ((wrap64 ((wrap64 ((wrap64 ((-719528) + (wrap64 (Int.tmod a0 3652425)))) * 86400)) + (wrap64 (Int.tmod a2 86400)))) < (wrap64 ((wrap64 ((wrap64 ((-719528) + (wrap64 (Int.tmod a1 3652425)))) * 86400)) + (wrap64 (Int.tmod a3 86400)))))) == (Op.bytesLess ((strOfNums t320).toList) ((strOfNums t324).toList))) = true := by simpa using c21))
            clear c21
            replace H := Option.bind_eq_some_iff.mp H
            obtain ⟨t328, A220, H⟩ := H
            replace H : (some t328) = some r := H
            have A22 := Aside0.mk A220
            clear A220
            obtain rfl := Option.some.inj H
            go_wp2_with (first | ((with_reducible refine gate_callee (f := 13) rfl ?_); refine goesL_ (some 82) rfl rfl Try.func13 (by kernel_rfl) rfl #[.int .u64 (IntKind.u64.wrap (wrap64 ((wrap64 ((wrap64 ((wrap64 ((-719528) + (wrap64 (Int.tmod a0 3652425)))) * 86400)) + (wrap64 (Int.tmod a2 86400)))) * 1000000)))] rfl (by (try simp only [List.map_toArray, List.map_cons, List.map_nil]); first | done | rfl | (simp only [List.length_drop, List.length_take]; rfl)) ?_; (with_reducible refine (date_PrintMoment.calls kj6 (IntKind.u64.wrap (wrap64 ((wrap64 ((wrap64 ((wrap64 ((-719528) + (wrap64 (Int.tmod a0 3652425)))) * 86400)) + (wrap64 (Int.tmod a2 86400)))) * 1000000))) t320 t321 _ A18.out).mono ?_); rintro e w23 ⟨v322, rfl, ho0, hb⟩; refine ⟨_, rfl, ?_⟩; have n0_ := Aside0.mk (Kd.R_lower ho0 (below_size (by repeat (first | (with_reducible first | exact HB.out | apply below_alloc | apply pw_below_drewN | apply below_drew1) | exact HB.out)))); have n1_ := Aside0.mk (below_step (by repeat (first | (with_reducible first | exact HB.out | apply below_alloc | apply pw_below_drewN | apply below_drew1) | exact HB.out)) hb); clear HB; have HO323 := n0_; have HB := n1_; clear n0_ n1_; (try clear hb); (try clear hb2); (try clear hk); (try clear hi); (try clear ho0)) | ((with_reducible refine gate_callee (f := 13) rfl ?_); refine goesL_ (some 89) rfl rfl Try.func13 (by kernel_rfl) rfl #[.int .u64 (IntKind.u64.wrap (wrap64 ((wrap64 ((wrap64 ((wrap64 ((-719528) + (wrap64 (Int.tmod a1 3652425)))) * 86400)) + (wrap64 (Int.tmod a3 86400)))) * 1000000)))] rfl (by (try simp only [List.map_toArray, List.map_cons, List.map_nil]); first | done | rfl | (simp only [List.length_drop, List.length_take]; rfl)) ?_; (with_reducible refine (date_PrintMoment.calls kj6 (IntKind.u64.wrap (wrap64 ((wrap64 ((wrap64 ((wrap64 ((-719528) + (wrap64 (Int.tmod a1 3652425)))) * 86400)) + (wrap64 (Int.tmod a3 86400)))) * 1000000))) t324 t325 _ A19.out).mono ?_); rintro e w24 ⟨v326, rfl, ho0, hb⟩; refine ⟨_, rfl, ?_⟩; have n0_ := Aside0.mk (Kd.R_elder' (by (with_reducible repeat (first | apply Kd.R_alloc | apply Kd.R_drewN | apply Kd.R_drew)); exact HO323.out) (Kd.R_base ho0) hb); have n1_ := Aside0.mk (Kd.R_lower (Kd.R_new' ho0 (Kd.R_lt (by (with_reducible repeat (first | apply Kd.R_alloc | apply Kd.R_drewN | apply Kd.R_drew)); exact HO323.out))) (below_size (by repeat (first | (with_reducible first | exact HB.out | apply below_alloc | apply pw_below_drewN | apply below_drew1) | exact HB.out)))); have n2_ := Aside0.mk (below_step (by repeat (first | (with_reducible first | exact HB.out | apply below_alloc | apply pw_below_drewN | apply below_drew1) | exact HB.out)) hb); clear HO323; clear HB; have HO323 := n0_; have HO327 := n1_; have HB := n2_; clear n0_ n1_ n2_; (try clear hb); (try clear hb2); (try clear hk); (try clear hi); (try clear ho0); obtain ⟨Ao25, co25, eo25⟩ := Kd.R_slice HO323.out; subst eo25; have hcv26 := own_string (P := Try.prog) Try.underlying29 Try.underlying5 Try.underlying9 (Kd.own_of_R HO323.out); (try (have hcv26n := fun n_ => own_string (P := Try.prog) Try.underlying29 Try.underlying5 Try.underlying9 (Kd.own_of_R (Kd.R_drewN HO323.out n_)))); have hcv27 := own_string (P := Try.prog) Try.underlying29 Try.underlying5 Try.underlying9 (Kd.own_of_R HO327.out); (try (have hcv27n := fun n_ => own_string (P := Try.prog) Try.underlying29 Try.underlying5 Try.underlying9 (Kd.own_of_R (Kd.R_drewN HO327.out n_))))) | (go_at_call 18; (with_reducible refine (mintagelaw13_wakes.calls  t328 _ A22.out).mono ?_); rintro e w28 ⟨rfl, hb⟩; have n0_ := Aside0.mk (Kd.R_below (by (with_reducible repeat (first | apply Kd.R_alloc | apply Kd.R_drewN | apply Kd.R_drew)); exact HO323.out) hb); have n1_ := Aside0.mk (Kd.R_below (by (with_reducible repeat (first | apply Kd.R_alloc | apply Kd.R_drewN | apply Kd.R_drew)); exact HO327.out) hb); have n2_ := Aside0.mk (below_step (by repeat (first | (with_reducible first | exact HB.out | apply below_alloc | apply pw_below_drewN | apply below_drew1) | exact HB.out)) hb); clear HO323; clear HO327; clear HB; have HO323 := n0_; have HO327 := n1_; have HB := n2_; clear n0_ n1_ n2_; (try clear hb); (try clear hb2); (try clear hk); (try clear hi)))
            all_goals first | (exfalso; simp_all; done) | (exfalso; simp_all; omega) | skip
            go_ret
            exact ⟨by first | rfl | (simp [errW_none, errW_some] <;> rfl) | (simp [*, errW_none, errW_some] <;> rfl), by repeat (first | (with_reducible first | exact HB.out | apply below_alloc | apply pw_below_drewN | apply below_drew1) | exact HB.out)⟩
          · rw [if_neg c21] at H
            have c21b0 : ((decide ((wrap64 ((wrap64 ((wrap64 ((-719528) + (wrap64 (Int.tmod a0 3652425)))) * 86400)) + (wrap64 (Int.tmod a2 86400)))) < (wrap64 ((wrap64 ((wrap64 ((-719528) + (wrap64 (Int.tmod a1 3652425)))) * 86400)) + (wrap64 (Int.tmod a3 86400)))))) == (Op.bytesLess ((strOfNums t320).toList) ((strOfNums t324).toList))) = false := by simpa using c21
            (try (have c21b1 : decide ((decide ((wrap64 ((wrap64 ((wrap64 ((-719528) + (wrap64 (Int.tmod a0 3652425)))) * 86400)) + (wrap64 (Int.tmod a2 86400)))) < (wrap64 ((wrap64 ((wrap64 ((-719528) + (wrap64 (Int.tmod a1 3652425)))) * 86400)) + (wrap64 (Int.tmod a3 86400)))))) = (Op.bytesLess ((strOfNums t320).toList) ((strOfNums t324).toList))) = false := by simpa using c21))
            (try (have c21b2 : ((decide ((wrap64 ((wrap64 ((wrap64 ((-719528) + (wrap64 (Int.tmod a0 3652425)))) * 86400)) + (wrap64 (Int.tmod a2 86400)))) < (wrap64 ((wrap64 ((wrap64 ((-719528) + (wrap64 (Int.tmod a1 3652425)))) * 86400)) + (wrap64 (Int.tmod a3 86400)))))) == (Op.bytesLess ((strOfNums t320).toList) ((strOfNums t324).toList))) = false := by simpa using c21))
            (try (have c21b3 : ¬ ((decide ((wrap64 ((wrap64 ((wrap64 ((-719528) + (wrap64 (Int.tmod a0 3652425)))) * 86400)) + (wrap64 (Int.tmod a2 86400)))) < (wrap64 ((wrap64 ((wrap64 ((-719528) + (wrap64 (Int.tmod a1 3652425)))) * 86400)) + (wrap64 (Int.tmod a3 86400)))))) = (Op.bytesLess ((strOfNums t320).toList) ((strOfNums t324).toList))) := by simpa using c21))
            clear c21
            exact absurd ((Option.some.inj H).trans HT.out) (by decide)
        · rw [if_neg c20] at H
          have c20b0 : ((t320.length : Int) == 19) = false := beq_eq_false_iff_ne.mpr c20
          have c20b1 : ((t320.length : Int) != 19) = true := bne_iff_ne.mpr c20
          exact absurd ((Option.some.inj H).trans HT.out) (by decide)

/-- THE ONE PURE STATEMENT of mintagelaw13_DateOrder: yours. -/
def mintagelaw13_DateOrder.Pure : Prop := ∀ (a0 : Int) (a1 : Int) (a2 : Int) (a3 : Int), (Lit.int .u64 a0).wf = true → (Lit.int .u64 a1).wf = true → (Lit.int .u64 a2).wf = true → (Lit.int .u64 a3).wf = true → ∃ k, mintagelaw13_DateOrder.f k a0 a1 a2 a3 = some true
theorem mintagelaw13_DateOrder.walk (P : mintagelaw13_DateOrder.Pure) (a0 : Int) (a1 : Int) (a2 : Int) (a3 : Int) (w : World) (w0 : (Lit.int .u64 a0).wf = true) (w1 : (Lit.int .u64 a1).wf = true) (w2 : (Lit.int .u64 a2).wf = true) (w3 : (Lit.int .u64 a3).wf = true) :
    Calls Try.prog 5 #[.int .u64 a0, .int .u64 a1, .int .u64 a2, .int .u64 a3] w fun e w' => e = .returned (.bool true) ∧ Below w.heap.size w w' := by
  obtain ⟨k, h⟩ := P a0 a1 a2 a3 w0 w1 w2 w3
  refine (mintagelaw13_DateOrder.calls k a0 a1 a2 a3 true w h rfl).mono ?_
  rintro e w' ⟨rfl, hd⟩
  exact ⟨rfl, hd⟩

end Go.Proofs.Ytobgpdmiiipmmaa.Q
