-- PRINTED by print.py (a twelfth state) out of the translation. Not trusted: Lean checks it.
import Derived.Test.YtonlkffjpofpoaaQx0
import Derived.Test.YtonlkffjpofpoaaQx1
import Derived.Test.YtonlkffjpofpoaaQx5
import Derived.Test.YtonlkffjpofpoaaQx7
import Derived.Test.YtonlkffjpofpoaaQx8
import Derived.Test.YtonlkffjpofpoaaQx9
import Derived.Test.YtonlkffjpofpoaaQx22
namespace Go.Proofs.Ytonlkffjpofpoaa.Q
open Go.RowKit Go.Proofs.YtonlkffjpofpoaaW.PrintWords Go.Proofs.YtonlkffjpofpoaaW.PrintLast Go.Proofs.YtonlkffjpofpoaaW.PrintMore
attribute [local go_sem] max2_int min2_int max_two min_two max_three min_three max_four min_four   -- for this text's walks alone
set_option linter.unusedVariables false
set_option linter.unusedSimpArgs false

/-! ### mintagelaw04_DigitEights: function 6 -/
mutual
def mintagelaw04_DigitEights.j0 : Nat → Int → Int → Int → List Int → Bool → Option (Bool)
  | 0, _, _, _, _, _ => none
  | k + 1, x0, x1, x2, x7, x28 => if x28 = true then (some false) else ((digit_Eight.f x7).bind fun bt303 => (if 8 ≤ (x7.length : Int) then ((digit_Eight.f (x7.drop 8)).bind fun bt309 => ((digit_Value.f k x7).bind fun bt311 => (if bt303.2 = true then (if bt309.2 = true then ((mintagelaw04_num.f bt311.2).bind fun t313 => (if t313 = 0 then (if (IntKind.u64.wrap ((IntKind.u64.wrap (bt303.1 * 100000000)) + bt309.1)) = bt311.1 then (mintagelaw04_DigitEights.j1 k x1 x2 x7 (bt311.1 != (Int.tmod x0 10000000000000000))) else (mintagelaw04_DigitEights.j1 k x1 x2 x7 true)) else (mintagelaw04_DigitEights.j1 k x1 x2 x7 true))) else (mintagelaw04_DigitEights.j1 k x1 x2 x7 true)) else (mintagelaw04_DigitEights.j1 k x1 x2 x7 true)))) else (none)))
def mintagelaw04_DigitEights.j1 : Nat → Int → Int → List Int → Bool → Option (Bool)
  | 0, _, _, _, _ => none
  | k + 1, x1, x2, x7, x69 => if x69 = true then (some false) else ((mintagekeep_Within.f x1 0 7).bind fun t314 => (if 0 ≤ t314 then (if t314 < (x7.length : Int) then ((digit_Eight.f (x7.set (t314 : Int).toNat x2)).bind fun bt316 => ((digit_Is.f x2).bind fun t318 => (if (bt316.2 == t318) = true then ((mintagelaw04_wakes.f).bind fun t319 => (some t319)) else (some false)))) else (none)) else (none)))
end
def mintagelaw04_DigitEights.f (k : Nat) (a0 : Int) (a1 : Int) (a2 : Int) : Option (Bool) := (digit_Pad.f k (Int.tmod a0 10000000000000000) 16).bind fun bt298 => ((mintagelaw04_num.f bt298.2).bind fun t302 => (if t302 = 0 then (mintagelaw04_DigitEights.j0 k a0 a1 a2 bt298.1 ((bt298.1.length : Int) != 16)) else (mintagelaw04_DigitEights.j0 k a0 a1 a2 bt298.1 true)))
theorem mintagelaw04_DigitEights.mono_l : ∀ k, (∀ y0 y1 y2 y3 y4, LeO (mintagelaw04_DigitEights.j0 k y0 y1 y2 y3 y4) (mintagelaw04_DigitEights.j0 (k + 1) y0 y1 y2 y3 y4)) ∧ (∀ y0 y1 y2 y3, LeO (mintagelaw04_DigitEights.j1 k y0 y1 y2 y3) (mintagelaw04_DigitEights.j1 (k + 1) y0 y1 y2 y3))
  | 0 => ⟨fun _ _ _ _ _ r h => by simp [mintagelaw04_DigitEights.j0] at h, fun _ _ _ _ r h => by simp [mintagelaw04_DigitEights.j1] at h⟩
  | k + 1 => by
    obtain ⟨ih0, ih1⟩ := mintagelaw04_DigitEights.mono_l k
    refine ⟨?_, ?_⟩
    · intro y0 y1 y2 y3 y4
      unfold mintagelaw04_DigitEights.j0
      repeat' first
      | (with_reducible exact ih0 _ _ _ _ _)
      | (with_reducible exact ih1 _ _ _ _)
      | (with_reducible exact digit_Pad.mono _ _ _)
      | (with_reducible exact digit_Value.mono _ _)
      | (with_reducible exact LeO.refl _)
      | (with_reducible exact LeO.none _)
      | (with_reducible refine LeO.ite ?_ ?_)
      | (with_reducible refine LeO.bind ?_ (fun _ => ?_))
      | exact ih0 _ _ _ _ _
      | exact ih1 _ _ _ _
      | exact digit_Pad.mono _ _ _
      | exact digit_Value.mono _ _
      | exact LeO.none _
      | refine LeO.ite ?_ ?_
      | refine LeO.bind ?_ (fun _ => ?_)
    · intro y0 y1 y2 y3
      unfold mintagelaw04_DigitEights.j1
      repeat' first
      | (with_reducible exact ih0 _ _ _ _ _)
      | (with_reducible exact ih1 _ _ _ _)
      | (with_reducible exact digit_Pad.mono _ _ _)
      | (with_reducible exact digit_Value.mono _ _)
      | (with_reducible exact LeO.refl _)
      | (with_reducible exact LeO.none _)
      | (with_reducible refine LeO.ite ?_ ?_)
      | (with_reducible refine LeO.bind ?_ (fun _ => ?_))
      | exact ih0 _ _ _ _ _
      | exact ih1 _ _ _ _
      | exact digit_Pad.mono _ _ _
      | exact digit_Value.mono _ _
      | exact LeO.none _
      | refine LeO.ite ?_ ?_
      | refine LeO.bind ?_ (fun _ => ?_)
theorem mintagelaw04_DigitEights.mono : ∀ a0 a1 a2 k, LeO (mintagelaw04_DigitEights.f k a0 a1 a2) (mintagelaw04_DigitEights.f (k + 1) a0 a1 a2) := by
  intro a0 a1 a2 k
  obtain ⟨ih0, ih1⟩ := mintagelaw04_DigitEights.mono_l k
  unfold mintagelaw04_DigitEights.f
  repeat' first
      | (with_reducible exact ih0 _ _ _ _ _)
      | (with_reducible exact ih1 _ _ _ _)
      | (with_reducible exact digit_Pad.mono _ _ _)
      | (with_reducible exact digit_Value.mono _ _)
      | (with_reducible exact LeO.refl _)
      | (with_reducible exact LeO.none _)
      | (with_reducible refine LeO.ite ?_ ?_)
      | (with_reducible refine LeO.bind ?_ (fun _ => ?_))
      | exact ih0 _ _ _ _ _
      | exact ih1 _ _ _ _
      | exact digit_Pad.mono _ _ _
      | exact digit_Value.mono _ _
      | exact LeO.none _
      | refine LeO.ite ?_ ?_
      | refine LeO.bind ?_ (fun _ => ?_)
set_option maxHeartbeats 8000000 in
set_option maxRecDepth 100000 in
theorem mintagelaw04_DigitEights.calls (k : Nat) (a0 : Int) (a1 : Int) (a2 : Int) (r : Bool) (w : World) (h : mintagelaw04_DigitEights.f k a0 a1 a2 = some r) :
    Calls Try.prog 6 #[.int .u64 a0, .int .i64 a1, .int .u8 a2] w fun e w' => e = .returned (.bool r) ∧ Below w.heap.size w w' := by
  have HB := Aside0.mk (Below.refl w.heap.size w)
  have H : ((digit_Pad.f k (Int.tmod a0 10000000000000000) 16).bind fun bt298 => ((mintagelaw04_num.f bt298.2).bind fun t302 => (if t302 = 0 then (mintagelaw04_DigitEights.j0 k a0 a1 a2 bt298.1 ((bt298.1.length : Int) != 16)) else (mintagelaw04_DigitEights.j0 k a0 a1 a2 bt298.1 true)))) = some r := h
  clear h
  replace H := Option.bind_eq_some_iff.mp H
  obtain ⟨⟨t298, t299⟩, A40, H⟩ := H
  replace H : ((mintagelaw04_num.f t299).bind fun t302 => (if t302 = 0 then (mintagelaw04_DigitEights.j0 k a0 a1 a2 t298 ((t298.length : Int) != 16)) else (mintagelaw04_DigitEights.j0 k a0 a1 a2 t298 true))) = some r := H
  have A4 := Aside0.mk A40
  clear A40
  have HC5 := Aside0.mk H
  clear H
  go_enter Try.func6, Try.ntmps6
  go_upto_region 2 with (first | ((with_reducible refine gate_callee (f := 9) rfl ?_); refine goesL_ (some 18) rfl rfl Try.func9 (by kernel_rfl) rfl #[.int .u64 (Int.tmod a0 10000000000000000), .int .i64 16] rfl (by (try simp only [List.map_toArray, List.map_cons, List.map_nil]); first | done | rfl | (simp only [List.length_drop, List.length_take]; rfl)) ?_; (with_reducible refine (digit_Pad.calls k (Int.tmod a0 10000000000000000) 16 t298 t299 _ A4.out).mono ?_); rintro e w6 ⟨v300, rfl, ho0, hb⟩; refine ⟨_, rfl, ?_⟩; have n0_ := Aside0.mk (Kd.R_lower ho0 (below_size (by repeat (first | (with_reducible first | exact HB.out | apply below_alloc | apply pw_below_drewN | apply below_drew1) | exact HB.out)))); have n1_ := Aside0.mk (below_step (by repeat (first | (with_reducible first | exact HB.out | apply below_alloc | apply pw_below_drewN | apply below_drew1) | exact HB.out)) hb); clear HB; have HO301 := n0_; have HB := n1_; clear n0_ n1_; (try clear hb); (try clear hb2); (try clear hk); (try clear hi); (try clear ho0)))
  (try simp only [Act.put, List.setIfInBounds_toArray, List.set_cons_zero, List.set_cons_succ])
  go_cut [28] (fun v28 wc => ∃ (kq : Nat) (x28_4 : Bool), v28 = .bool x28_4 ∧ Aside0 (mintagelaw04_DigitEights.j0 kq a0 a1 a2 t298 x28_4 = some r) ∧ Aside0 (kq ≤ k) ∧ Aside0 (Kd.R (Kd.int .u8) 5 wc w.heap.size (fun _ => True) v300 t298) ∧ Aside0 (Below w.heap.size w wc))
  case first =>
    have H := HC5.out
    clear HC5
    replace H := Option.bind_eq_some_iff.mp H
    obtain ⟨t302, A70, H⟩ := H
    replace H : (if t302 = 0 then (mintagelaw04_DigitEights.j0 k a0 a1 a2 t298 ((t298.length : Int) != 16)) else (mintagelaw04_DigitEights.j0 k a0 a1 a2 t298 true)) = some r := H
    have A7 := Aside0.mk A70
    clear A70
    by_cases c8 : t302 = 0
    · rw [if_pos c8] at H
      have c8b0 : (t302 == 0) = true := beq_iff_eq.mpr c8
      have c8b1 : (t302 != 0) = false := bne_eq_false_iff_eq.mpr c8
      clear c8
      (first | rw [c8b0] | (simp only [i64_w, i32_w]; rw [c8b0]) | skip)
      have H' := Aside0.mk H
      clear H
      go_wp2_with (first | ((with_reducible refine gate_callee (f := 16) rfl ?_); refine goesL_ (some 22) rfl rfl Try.func16 (by kernel_rfl) rfl #[.int .i64 t299] rfl (by (try simp only [List.map_toArray, List.map_cons, List.map_nil]); first | done | rfl | (simp only [List.length_drop, List.length_take]; rfl)) ?_; (with_reducible refine (mintagelaw04_num.calls t299 t302 _ A7.out).mono ?_); rintro e w' ⟨rfl, ⟨nd, rfl⟩⟩; refine ⟨_, rfl, ?_⟩; obtain ⟨Ao9, co9, eo9⟩ := Kd.R_slice HO301.out; subst eo9))
      go_meet
      case rel => exact ⟨_, (((t298.length : Int) != 16)), (by first | rfl | (simp; done) | (simp [*]; done)), H', ⟨by first | omega | exact Nat.le_refl _⟩, ⟨by (with_reducible repeat (first | apply Kd.R_alloc | apply Kd.R_drewN | apply Kd.R_drew)); exact HO301.out⟩, ⟨by repeat (first | (with_reducible first | exact HB.out | apply below_alloc | apply pw_below_drewN | apply below_drew1) | exact HB.out)⟩⟩
    · rw [if_neg c8] at H
      have c8b0 : (t302 == 0) = false := beq_eq_false_iff_ne.mpr c8
      have c8b1 : (t302 != 0) = true := bne_iff_ne.mpr c8
      (first | rw [c8b0] | (simp only [i64_w, i32_w]; rw [c8b0]) | skip)
      have H' := Aside0.mk H
      clear H
      go_wp2_with (first | ((with_reducible refine gate_callee (f := 16) rfl ?_); refine goesL_ (some 22) rfl rfl Try.func16 (by kernel_rfl) rfl #[.int .i64 t299] rfl (by (try simp only [List.map_toArray, List.map_cons, List.map_nil]); first | done | rfl | (simp only [List.length_drop, List.length_take]; rfl)) ?_; (with_reducible refine (mintagelaw04_num.calls t299 t302 _ A7.out).mono ?_); rintro e w' ⟨rfl, ⟨nd, rfl⟩⟩; refine ⟨_, rfl, ?_⟩))
      go_meet
      case rel => exact ⟨_, (true), (by first | rfl | (simp; done) | (simp [*]; done)), H', ⟨by first | omega | exact Nat.le_refl _⟩, ⟨by (with_reducible repeat (first | apply Kd.R_alloc | apply Kd.R_drewN | apply Kd.R_drew)); exact HO301.out⟩, ⟨by repeat (first | (with_reducible first | exact HB.out | apply below_alloc | apply pw_below_drewN | apply below_drew1) | exact HB.out)⟩⟩
  case rest =>
    clear HC5
    try clear c1
    try clear p2
    try clear c6
    try clear c8
    try clear c8b0
    try clear c8b1
    try clear c9
    obtain ⟨kq, x28_4, rfl, HA, HJ4, HO_7, HB⟩ := hcut
    cases kq with
    | zero => exact absurd HA.out (by simp [mintagelaw04_DigitEights.j0])
    | succ kj4 =>
      have H := HA.out
      clear HA
      simp only [mintagelaw04_DigitEights.j0] at H
      by_cases c10 : x28_4 = true
      · subst c10
        have H1 : (some false) = some r := by rw [if_pos rfl] at H; exact H
        clear H
        have H := H1
        clear H1
        obtain rfl := Option.some.inj H
        go_wp2
        go_ret
        exact ⟨by first | rfl | (simp [errW_none, errW_some] <;> rfl) | (simp [*, errW_none, errW_some] <;> rfl), by repeat (first | (with_reducible first | exact HB.out | apply below_alloc | apply pw_below_drewN | apply below_drew1) | exact HB.out)⟩
      · replace c10 := Bool.eq_false_iff.mpr c10
        subst c10
        have H1 : ((digit_Eight.f t298).bind fun bt303 => (if 8 ≤ (t298.length : Int) then ((digit_Eight.f (t298.drop 8)).bind fun bt309 => ((digit_Value.f kj4 t298).bind fun bt311 => (if bt303.2 = true then (if bt309.2 = true then ((mintagelaw04_num.f bt311.2).bind fun t313 => (if t313 = 0 then (if (IntKind.u64.wrap ((IntKind.u64.wrap (bt303.1 * 100000000)) + bt309.1)) = bt311.1 then (mintagelaw04_DigitEights.j1 kj4 a1 a2 t298 (bt311.1 != (Int.tmod a0 10000000000000000))) else (mintagelaw04_DigitEights.j1 kj4 a1 a2 t298 true)) else (mintagelaw04_DigitEights.j1 kj4 a1 a2 t298 true))) else (mintagelaw04_DigitEights.j1 kj4 a1 a2 t298 true)) else (mintagelaw04_DigitEights.j1 kj4 a1 a2 t298 true)))) else (none))) = some r := by rw [if_neg (show ¬ (false = true) by decide)] at H; exact H
        clear H
        have H := H1
        clear H1
        replace H := Option.bind_eq_some_iff.mp H
        obtain ⟨⟨t303, t304⟩, A110, H⟩ := H
        replace H : (if 8 ≤ (t298.length : Int) then ((digit_Eight.f (t298.drop 8)).bind fun bt309 => ((digit_Value.f kj4 t298).bind fun bt311 => (if t304 = true then (if bt309.2 = true then ((mintagelaw04_num.f bt311.2).bind fun t313 => (if t313 = 0 then (if (IntKind.u64.wrap ((IntKind.u64.wrap (t303 * 100000000)) + bt309.1)) = bt311.1 then (mintagelaw04_DigitEights.j1 kj4 a1 a2 t298 (bt311.1 != (Int.tmod a0 10000000000000000))) else (mintagelaw04_DigitEights.j1 kj4 a1 a2 t298 true)) else (mintagelaw04_DigitEights.j1 kj4 a1 a2 t298 true))) else (mintagelaw04_DigitEights.j1 kj4 a1 a2 t298 true)) else (mintagelaw04_DigitEights.j1 kj4 a1 a2 t298 true)))) else (none)) = some r := H
        have A11 := Aside0.mk A110
        clear A110
        by_cases c12 : 8 ≤ (t298.length : Int)
        · rw [if_pos c12] at H
          have c12b0 := eq_true c12
          have c12b1 : decide (8 ≤ (t298.length : Int)) = true := decide_eq_true c12
          clear c12
          obtain ⟨y305, hy305⟩ : ∃ y_ : List Int, y_ = (t298.drop 8) := ⟨_, rfl⟩
          replace H : ((digit_Eight.f y305).bind fun bt309 => ((digit_Value.f kj4 t298).bind fun bt311 => (if t304 = true then (if bt309.2 = true then ((mintagelaw04_num.f bt311.2).bind fun t313 => (if t313 = 0 then (if (IntKind.u64.wrap ((IntKind.u64.wrap (t303 * 100000000)) + bt309.1)) = bt311.1 then (mintagelaw04_DigitEights.j1 kj4 a1 a2 t298 (bt311.1 != (Int.tmod a0 10000000000000000))) else (mintagelaw04_DigitEights.j1 kj4 a1 a2 t298 true)) else (mintagelaw04_DigitEights.j1 kj4 a1 a2 t298 true))) else (mintagelaw04_DigitEights.j1 kj4 a1 a2 t298 true)) else (mintagelaw04_DigitEights.j1 kj4 a1 a2 t298 true)))) = some r := by first | (rw [hy305]; with_reducible exact H) | (have H2_ := (Option.bind_some _ _).symm.trans H; rw [hy305]; with_reducible exact H2_) | (have H2_ := (Option.bind_some _ _).symm.trans H; with_reducible exact H2_) | with_reducible exact H | (rw [hy305]; exact H) | exact H
          have Ny305 := Aside0.mk hy305
          clear hy305
          replace H := Option.bind_eq_some_iff.mp H
          obtain ⟨⟨t309, t310⟩, A130, H⟩ := H
          replace H : ((digit_Value.f kj4 t298).bind fun bt311 => (if t304 = true then (if t310 = true then ((mintagelaw04_num.f bt311.2).bind fun t313 => (if t313 = 0 then (if (IntKind.u64.wrap ((IntKind.u64.wrap (t303 * 100000000)) + t309)) = bt311.1 then (mintagelaw04_DigitEights.j1 kj4 a1 a2 t298 (bt311.1 != (Int.tmod a0 10000000000000000))) else (mintagelaw04_DigitEights.j1 kj4 a1 a2 t298 true)) else (mintagelaw04_DigitEights.j1 kj4 a1 a2 t298 true))) else (mintagelaw04_DigitEights.j1 kj4 a1 a2 t298 true)) else (mintagelaw04_DigitEights.j1 kj4 a1 a2 t298 true))) = some r := H
          have A13 := Aside0.mk A130
          clear A130
          replace H := Option.bind_eq_some_iff.mp H
          obtain ⟨⟨t311, t312⟩, A140, H⟩ := H
          replace H : (if t304 = true then (if t310 = true then ((mintagelaw04_num.f t312).bind fun t313 => (if t313 = 0 then (if (IntKind.u64.wrap ((IntKind.u64.wrap (t303 * 100000000)) + t309)) = t311 then (mintagelaw04_DigitEights.j1 kj4 a1 a2 t298 (t311 != (Int.tmod a0 10000000000000000))) else (mintagelaw04_DigitEights.j1 kj4 a1 a2 t298 true)) else (mintagelaw04_DigitEights.j1 kj4 a1 a2 t298 true))) else (mintagelaw04_DigitEights.j1 kj4 a1 a2 t298 true)) else (mintagelaw04_DigitEights.j1 kj4 a1 a2 t298 true)) = some r := H
          have A14 := Aside0.mk A140
          clear A140
          have HC15 := Aside0.mk H
          clear H
          obtain ⟨Ao16, co16, eo16⟩ := Kd.R_slice HO_7.out
          subst eo16
          go_upto_region 7 with (first | ((with_reducible refine gate_callee (f := 24) rfl ?_); refine goesL_ (some 31) rfl rfl Try.func24 (by kernel_rfl) rfl #[.slice Ao16 t298.length co16] rfl (by (try simp only [List.map_toArray, List.map_cons, List.map_nil]); first | done | rfl | (simp only [List.length_drop, List.length_take]; rfl)) ?_; (with_reducible refine (digit_Eight.calls _ _ t298 t303 t304 _ ?side1 ?side2 A11.out).mono ?_); (case side1 => repeat (first | exact (Kd.R_reads' HO_7.out).2.2 | (with_reducible refine Kd.C_alloc ?_ _) | (with_reducible refine Kd.C_drewN ?_ _) | (with_reducible refine Kd.C_drew ?_))); (case side2 => exact (Kd.R_reads' HO_7.out).2.1); rintro e w17 ⟨rfl, hb⟩; refine ⟨_, rfl, ?_⟩; have n0_ := Aside0.mk (Kd.R_below (by (with_reducible repeat (first | apply Kd.R_alloc | apply Kd.R_drewN | apply Kd.R_drew)); exact HO_7.out) hb); have n1_ := Aside0.mk (below_step (by repeat (first | (with_reducible first | exact HB.out | apply below_alloc | apply pw_below_drewN | apply below_drew1) | exact HB.out)) hb); clear HO_7; clear HB; have HO_7 := n0_; have HB := n1_; clear n0_ n1_; (try clear hb); (try clear hb2); (try clear hk); (try clear hi); have q18 : (8 : Int) ≤ ((t298.length : Int) : Int) := of_decide_eq_true (by first | (with_reducible assumption) | assumption); obtain ⟨i018, hi018, _, hsz18, _⟩ := info_parts info5; have hroom18 : t298.length ≤ co16 := (Kd.R_reads' HO_7.out).2.1; have hC18 : Kd.C (Kd.int .u8) _ Ao16 t298.length t298 := (Kd.R_reads' HO_7.out).2.2; have hcut18 := cut_from (P := Try.prog) 29 5 .i64 Try.underlying29 hi018 1 hsz18 Ao16 t298.length co16 8 (by omega) q18; have hr18 := Kd.C_drop (m := (8 : Int).toNat) (c := co16) hC18 (by omega) hroom18; obtain ⟨A18, hA18⟩ : ∃ A1, A1 = (if co16 = (8 : Int).toNat then Ao16 else (Ao16 : Option Addr).map (·.add ((8 : Int).toNat * 1))) := ⟨_, rfl⟩; obtain ⟨c18, hc18⟩ : ∃ c1, c1 = co16 - (8 : Int).toNat := ⟨_, rfl⟩; have hy18 : y305.length = t298.length - (8 : Int).toNat := (by rw [Ny305.out, List.length_drop] <;> omega); rw [show (t298).drop (8 : Int).toNat = y305 from Ny305.out.symm] at hr18; replace hr18 : Kd.C (Kd.int .u8) _ A18 y305.length y305 := (by rw [hA18]; exact hr18); rw [← hy18, ← hA18, ← hc18] at hcut18; have HR308 := Aside0.mk hr18; have HC308 := Aside0.mk (show y305.length ≤ c18 from by rw [hy18, hc18]; exact Nat.sub_le_sub_right hroom18 _); clear hr18 hC18 hroom18 hi018 hsz18 hc18; have KY18 := Aside0.mk hy18; have KA18 := Aside0.mk hA18; clear hy18 hA18; have KL18 := Aside0.mk (show 8 ≤ t298.length from by omega); replace q18 := eq_true q18; (try (have qd18 := q18; simp only [List.length_drop] at qd18))) | ((with_reducible refine gate_callee (f := 24) rfl ?_); refine goesL_ (some 37) rfl rfl Try.func24 (by kernel_rfl) rfl #[.slice A18 y305.length c18] rfl (by (try simp only [List.map_toArray, List.map_cons, List.map_nil]); first | done | rfl | (simp only [List.length_drop, List.length_take]; rfl)) ?_; (with_reducible refine (digit_Eight.calls _ _ y305 t309 t310 _ ?side1 ?side2 A13.out).mono ?_); (case side1 => repeat (first | exact (by repeat (first | (with_reducible exact HR308.out) | (with_reducible refine Kd.C_alloc ?_ _) | (with_reducible refine Kd.C_drewN ?_ _) | (with_reducible refine Kd.C_drew ?_) | exact HR308.out)) | (with_reducible refine Kd.C_alloc ?_ _) | (with_reducible refine Kd.C_drewN ?_ _) | (with_reducible refine Kd.C_drew ?_))); (case side2 => exact HC308.out); rintro e w19 ⟨rfl, hb⟩; refine ⟨_, rfl, ?_⟩; have n0_ := Aside0.mk (Kd.R_below (by (with_reducible repeat (first | apply Kd.R_alloc | apply Kd.R_drewN | apply Kd.R_drew)); exact HO_7.out) hb); have n1_ := Aside0.mk (Kd.C_below (by repeat (first | (with_reducible exact HR308.out) | (with_reducible refine Kd.C_alloc ?_ _) | (with_reducible refine Kd.C_drewN ?_ _) | (with_reducible refine Kd.C_drew ?_) | exact HR308.out)) hb); have n2_ := Aside0.mk (below_step (by repeat (first | (with_reducible first | exact HB.out | apply below_alloc | apply pw_below_drewN | apply below_drew1) | exact HB.out)) hb); clear HO_7; clear HR308; clear HB; have HO_7 := n0_; have HR308 := n1_; have HB := n2_; clear n0_ n1_ n2_; (try clear hb); (try clear hb2); (try clear hk); (try clear hi)) | ((with_reducible refine gate_callee (f := 26) rfl ?_); refine goesL_ (some 42) rfl rfl Try.func26 (by kernel_rfl) rfl #[.slice Ao16 t298.length co16] rfl (by (try simp only [List.map_toArray, List.map_cons, List.map_nil]); first | done | rfl | (simp only [List.length_drop, List.length_take]; rfl)) ?_; (with_reducible refine (digit_Value.calls kj4 (fun k_ => some k_ = (.slice Ao16 t298.length co16 : Value).ownBlock) _ _ t298 t311 t312 _ ?side1 A14.out).mono ?_); (case side1 => exact Kd.R_V (Kd.R_tight rfl (HO_7.out))); rintro e w20 ⟨rfl, hb⟩; refine ⟨_, rfl, ?_⟩; have n0_ := Aside0.mk (Kd.R_below (by (with_reducible repeat (first | apply Kd.R_alloc | apply Kd.R_drewN | apply Kd.R_drew)); exact HO_7.out) hb); have n1_ := Aside0.mk (Kd.C_below (by repeat (first | (with_reducible exact HR308.out) | (with_reducible refine Kd.C_alloc ?_ _) | (with_reducible refine Kd.C_drewN ?_ _) | (with_reducible refine Kd.C_drew ?_) | exact HR308.out)) hb); have n2_ := Aside0.mk (below_step (by repeat (first | (with_reducible first | exact HB.out | apply below_alloc | apply pw_below_drewN | apply below_drew1) | exact HB.out)) hb); clear HO_7; clear HR308; clear HB; have HO_7 := n0_; have HR308 := n1_; have HB := n2_; clear n0_ n1_ n2_; (try clear hb); (try clear hb2); (try clear hk); (try clear hi)))
          (try simp only [Act.put, List.setIfInBounds_toArray, List.set_cons_zero, List.set_cons_succ])
          go_cut [69] (fun v69 wc => ∃ (kq : Nat) (x69_14 : Bool), v69 = .bool x69_14 ∧ Aside0 (mintagelaw04_DigitEights.j1 kq a1 a2 t298 x69_14 = some r) ∧ Aside0 (kq ≤ kj4) ∧ Aside0 (Kd.R (Kd.int .u8) 5 wc w.heap.size (fun _ => True) (.slice Ao16 t298.length co16) t298) ∧ Aside0 (Below w.heap.size w wc))
          case first =>
            have H := HC15.out
            clear HC15
            by_cases c21 : t304 = true
            · subst c21
              have H1 : (if t310 = true then ((mintagelaw04_num.f t312).bind fun t313 => (if t313 = 0 then (if (IntKind.u64.wrap ((IntKind.u64.wrap (t303 * 100000000)) + t309)) = t311 then (mintagelaw04_DigitEights.j1 kj4 a1 a2 t298 (t311 != (Int.tmod a0 10000000000000000))) else (mintagelaw04_DigitEights.j1 kj4 a1 a2 t298 true)) else (mintagelaw04_DigitEights.j1 kj4 a1 a2 t298 true))) else (mintagelaw04_DigitEights.j1 kj4 a1 a2 t298 true)) = some r := by rw [if_pos rfl] at H; exact H
              clear H
              have H := H1
              clear H1
              by_cases c22 : t310 = true
              · subst c22
                have H1 : ((mintagelaw04_num.f t312).bind fun t313 => (if t313 = 0 then (if (IntKind.u64.wrap ((IntKind.u64.wrap (t303 * 100000000)) + t309)) = t311 then (mintagelaw04_DigitEights.j1 kj4 a1 a2 t298 (t311 != (Int.tmod a0 10000000000000000))) else (mintagelaw04_DigitEights.j1 kj4 a1 a2 t298 true)) else (mintagelaw04_DigitEights.j1 kj4 a1 a2 t298 true))) = some r := by rw [if_pos rfl] at H; exact H
                clear H
                have H := H1
                clear H1
                replace H := Option.bind_eq_some_iff.mp H
                obtain ⟨t313, A230, H⟩ := H
                replace H : (if t313 = 0 then (if (IntKind.u64.wrap ((IntKind.u64.wrap (t303 * 100000000)) + t309)) = t311 then (mintagelaw04_DigitEights.j1 kj4 a1 a2 t298 (t311 != (Int.tmod a0 10000000000000000))) else (mintagelaw04_DigitEights.j1 kj4 a1 a2 t298 true)) else (mintagelaw04_DigitEights.j1 kj4 a1 a2 t298 true)) = some r := H
                have A23 := Aside0.mk A230
                clear A230
                by_cases c24 : t313 = 0
                · rw [if_pos c24] at H
                  have c24b0 : (t313 == 0) = true := beq_iff_eq.mpr c24
                  have c24b1 : (t313 != 0) = false := bne_eq_false_iff_eq.mpr c24
                  clear c24
                  (first | rw [c24b0] | (simp only [i64_w, i32_w]; rw [c24b0]) | skip)
                  by_cases c25 : (IntKind.u64.wrap ((IntKind.u64.wrap (t303 * 100000000)) + t309)) = t311
                  · rw [if_pos c25] at H
                    have c25b0 : ((IntKind.u64.wrap ((IntKind.u64.wrap (t303 * 100000000)) + t309)) == t311) = true := beq_iff_eq.mpr c25
                    have c25b1 : ((IntKind.u64.wrap ((IntKind.u64.wrap (t303 * 100000000)) + t309)) != t311) = false := bne_eq_false_iff_eq.mpr c25
                    clear c25
                    have H' := Aside0.mk H
                    clear H
                    go_wp2_with (first | (go_at_call 16; (with_reducible refine (mintagelaw04_num.calls t312 t313 _ A23.out).mono ?_); rintro e w' ⟨rfl, ⟨nd, rfl⟩⟩))
                    go_meet
                    case rel => exact ⟨_, ((t311 != (Int.tmod a0 10000000000000000))), (by first | rfl | (simp; done) | (simp [*]; done)), H', ⟨by have := HJ4.out; first | omega | exact Nat.le_refl _⟩, ⟨by (with_reducible repeat (first | apply Kd.R_alloc | apply Kd.R_drewN | apply Kd.R_drew)); exact HO_7.out⟩, ⟨by repeat (first | (with_reducible first | exact HB.out | apply below_alloc | apply pw_below_drewN | apply below_drew1) | exact HB.out)⟩⟩
                  · rw [if_neg c25] at H
                    have c25b0 : ((IntKind.u64.wrap ((IntKind.u64.wrap (t303 * 100000000)) + t309)) == t311) = false := beq_eq_false_iff_ne.mpr c25
                    have c25b1 : ((IntKind.u64.wrap ((IntKind.u64.wrap (t303 * 100000000)) + t309)) != t311) = true := bne_iff_ne.mpr c25
                    have H' := Aside0.mk H
                    clear H
                    go_wp2_with (first | (go_at_call 16; (with_reducible refine (mintagelaw04_num.calls t312 t313 _ A23.out).mono ?_); rintro e w' ⟨rfl, ⟨nd, rfl⟩⟩))
                    go_meet
                    case rel => exact ⟨_, (true), (by first | rfl | (simp; done) | (simp [*]; done)), H', ⟨by have := HJ4.out; first | omega | exact Nat.le_refl _⟩, ⟨by (with_reducible repeat (first | apply Kd.R_alloc | apply Kd.R_drewN | apply Kd.R_drew)); exact HO_7.out⟩, ⟨by repeat (first | (with_reducible first | exact HB.out | apply below_alloc | apply pw_below_drewN | apply below_drew1) | exact HB.out)⟩⟩
                · rw [if_neg c24] at H
                  have c24b0 : (t313 == 0) = false := beq_eq_false_iff_ne.mpr c24
                  have c24b1 : (t313 != 0) = true := bne_iff_ne.mpr c24
                  (first | rw [c24b0] | (simp only [i64_w, i32_w]; rw [c24b0]) | skip)
                  have H' := Aside0.mk H
                  clear H
                  go_wp2_with (first | (go_at_call 16; (with_reducible refine (mintagelaw04_num.calls t312 t313 _ A23.out).mono ?_); rintro e w' ⟨rfl, ⟨nd, rfl⟩⟩))
                  go_meet
                  case rel => exact ⟨_, (true), (by first | rfl | (simp; done) | (simp [*]; done)), H', ⟨by have := HJ4.out; first | omega | exact Nat.le_refl _⟩, ⟨by (with_reducible repeat (first | apply Kd.R_alloc | apply Kd.R_drewN | apply Kd.R_drew)); exact HO_7.out⟩, ⟨by repeat (first | (with_reducible first | exact HB.out | apply below_alloc | apply pw_below_drewN | apply below_drew1) | exact HB.out)⟩⟩
              · replace c22 := Bool.eq_false_iff.mpr c22
                subst c22
                have H1 : (mintagelaw04_DigitEights.j1 kj4 a1 a2 t298 true) = some r := by rw [if_neg (show ¬ (false = true) by decide)] at H; exact H
                clear H
                have H := H1
                clear H1
                have H' := Aside0.mk H
                clear H
                go_wp2
                go_meet
                case rel => exact ⟨_, (true), (by first | rfl | (simp; done) | (simp [*]; done)), H', ⟨by have := HJ4.out; first | omega | exact Nat.le_refl _⟩, ⟨by (with_reducible repeat (first | apply Kd.R_alloc | apply Kd.R_drewN | apply Kd.R_drew)); exact HO_7.out⟩, ⟨by repeat (first | (with_reducible first | exact HB.out | apply below_alloc | apply pw_below_drewN | apply below_drew1) | exact HB.out)⟩⟩
            · replace c21 := Bool.eq_false_iff.mpr c21
              subst c21
              have H1 : (mintagelaw04_DigitEights.j1 kj4 a1 a2 t298 true) = some r := by rw [if_neg (show ¬ (false = true) by decide)] at H; exact H
              clear H
              have H := H1
              clear H1
              have H' := Aside0.mk H
              clear H
              go_wp2
              go_meet
              case rel => exact ⟨_, (true), (by first | rfl | (simp; done) | (simp [*]; done)), H', ⟨by have := HJ4.out; first | omega | exact Nat.le_refl _⟩, ⟨by (with_reducible repeat (first | apply Kd.R_alloc | apply Kd.R_drewN | apply Kd.R_drew)); exact HO_7.out⟩, ⟨by repeat (first | (with_reducible first | exact HB.out | apply below_alloc | apply pw_below_drewN | apply below_drew1) | exact HB.out)⟩⟩
          case rest =>
            clear HC15
            try clear c1
            try clear q1
            try clear c2
            try clear p2
            try clear c6
            try clear c8
            try clear c8b0
            try clear c8b1
            try clear c9
            try clear c10
            try clear c12
            try clear c12b0
            try clear c12b1
            try clear c16
            try clear c18
            try clear q18
            try clear c21
            try clear c22
            try clear c24
            try clear c24b0
            try clear c24b1
            try clear c25
            try clear c25b0
            try clear c25b1
            try clear p2
            try clear q18
            obtain ⟨kq, x69_14, rfl, HA, HJ14, HO_7, HB⟩ := hcut
            cases kq with
            | zero => exact absurd HA.out (by simp [mintagelaw04_DigitEights.j1])
            | succ kj14 =>
              have H := HA.out
              clear HA
              simp only [mintagelaw04_DigitEights.j1] at H
              by_cases c26 : x69_14 = true
              · subst c26
                have H1 : (some false) = some r := by rw [if_pos rfl] at H; exact H
                clear H
                have H := H1
                clear H1
                obtain rfl := Option.some.inj H
                go_wp2
                go_ret
                exact ⟨by first | rfl | (simp [errW_none, errW_some] <;> rfl) | (simp [*, errW_none, errW_some] <;> rfl), by repeat (first | (with_reducible first | exact HB.out | apply below_alloc | apply pw_below_drewN | apply below_drew1) | exact HB.out)⟩
              · replace c26 := Bool.eq_false_iff.mpr c26
                subst c26
                have H1 : ((mintagekeep_Within.f a1 0 7).bind fun t314 => (if 0 ≤ t314 then (if t314 < (t298.length : Int) then ((digit_Eight.f (t298.set (t314 : Int).toNat a2)).bind fun bt316 => ((digit_Is.f a2).bind fun t318 => (if (bt316.2 == t318) = true then ((mintagelaw04_wakes.f).bind fun t319 => (some t319)) else (some false)))) else (none)) else (none))) = some r := by rw [if_neg (show ¬ (false = true) by decide)] at H; exact H
                clear H
                have H := H1
                clear H1
                replace H := Option.bind_eq_some_iff.mp H
                obtain ⟨t314, A270, H⟩ := H
                replace H : (if 0 ≤ t314 then (if t314 < (t298.length : Int) then ((digit_Eight.f (t298.set (t314 : Int).toNat a2)).bind fun bt316 => ((digit_Is.f a2).bind fun t318 => (if (bt316.2 == t318) = true then ((mintagelaw04_wakes.f).bind fun t319 => (some t319)) else (some false)))) else (none)) else (none)) = some r := H
                have A27 := Aside0.mk A270
                clear A270
                by_cases c28 : 0 ≤ t314
                · rw [if_pos c28] at H
                  have c28b0 : decide (0 ≤ t314) = true := decide_eq_true c28
                  clear c28
                  by_cases c29 : t314 < (t298.length : Int)
                  · rw [if_pos c29] at H
                    have c29b0 : decide (t314 < (t298.length : Int)) = true := decide_eq_true c29
                    clear c29
                    obtain ⟨y315, hy315⟩ : ∃ y_ : List Int, y_ = (t298.set (t314 : Int).toNat a2) := ⟨_, rfl⟩
                    replace H : ((digit_Eight.f y315).bind fun bt316 => ((digit_Is.f a2).bind fun t318 => (if (bt316.2 == t318) = true then ((mintagelaw04_wakes.f).bind fun t319 => (some t319)) else (some false)))) = some r := by first | (rw [hy315]; with_reducible exact H) | (have H2_ := (Option.bind_some _ _).symm.trans H; rw [hy315]; with_reducible exact H2_) | (have H2_ := (Option.bind_some _ _).symm.trans H; with_reducible exact H2_) | with_reducible exact H | (rw [hy315]; exact H) | exact H
                    have Ny315 := Aside0.mk hy315
                    clear hy315
                    replace H := Option.bind_eq_some_iff.mp H
                    obtain ⟨⟨t316, t317⟩, A310, H⟩ := H
                    replace H : ((digit_Is.f a2).bind fun t318 => (if (t317 == t318) = true then ((mintagelaw04_wakes.f).bind fun t319 => (some t319)) else (some false))) = some r := H
                    have A31 := Aside0.mk A310
                    clear A310
                    replace H := Option.bind_eq_some_iff.mp H
                    obtain ⟨t318, A320, H⟩ := H
                    replace H : (if (t317 == t318) = true then ((mintagelaw04_wakes.f).bind fun t319 => (some t319)) else (some false)) = some r := H
                    have A32 := Aside0.mk A320
                    clear A320
                    by_cases c33 : (t317 == t318) = true
                    · rw [if_pos c33] at H
                      have c33b0 : (t317 == t318) = true := c33
                      (try (have c33b1 : decide (t317 = t318) = true := by simpa using c33))
                      (try (have c33b2 : (t317 == t318) = true := by simpa using c33))
                      clear c33
                      replace H := Option.bind_eq_some_iff.mp H
                      obtain ⟨t319, A340, H⟩ := H
                      replace H : (some t319) = some r := H
                      have A34 := Aside0.mk A340
                      clear A340
                      obtain rfl := Option.some.inj H
                      go_wp2_with (first | ((with_reducible refine gate_callee (f := 21) rfl ?_); refine goesL_ (some 72) rfl rfl Try.func21 (by kernel_rfl) rfl #[.int .i64 a1, .int .i64 0, .int .i64 7] rfl (by (try simp only [List.map_toArray, List.map_cons, List.map_nil]); first | done | rfl | (simp only [List.length_drop, List.length_take]; rfl)) ?_; (with_reducible refine (mintagekeep_Within.calls a1 0 7 t314 _ A27.out).mono ?_); rintro e w' ⟨rfl, ⟨nd, rfl⟩⟩; refine ⟨_, rfl, ?_⟩; (try (rw [drewN_self wc]; generalize hq_ : World.drewN wc _ = wc; have n0_ : Aside0 (Kd.R (Kd.int .u8) 5 wc w.heap.size (fun _ => True) (.slice Ao16 t298.length co16) t298) := ⟨by rw [← hq_]; exact (by (with_reducible repeat (first | apply Kd.R_alloc | apply Kd.R_drewN | apply Kd.R_drew)); exact HO_7.out)⟩; have n1_ : Aside0 (Below w.heap.size w wc) := ⟨by rw [← hq_]; exact (by repeat (first | (with_reducible first | exact HB.out | apply below_alloc | apply pw_below_drewN | apply below_drew1) | exact HB.out))⟩; clear HO_7 HB hq_; have HO_7 := n0_; have HB := n1_; clear n0_ n1_)); have p30 : 0 ≤ (t314 : Int) := of_decide_eq_true (by first | (with_reducible assumption) | assumption); have q30 : (t314 : Int) < ((t298.length : Int) : Int) := of_decide_eq_true (by first | (with_reducible assumption) | assumption); obtain ⟨go30, co30, eo30, gb30, gl30, cl30, HG30⟩ := Kd.R_form HO_7.out (by omega); (first | cases eo30 | (injection eo30 with ea_ en_ ec_; (first | subst ea_ | (injection ea_ with ea_; subst ea_)); subst ec_; clear en_)); have GB30 := Aside0.mk gb30; have GG30 := Aside0.mk HG30; clear gb30 gl30 HG30; obtain ⟨hx30_0, hf30_0⟩ := Kd.R_celln 0 HO_7.out (t314 : Int) p30 q30; replace p30 := eq_true p30; replace q30 := eq_true q30; (try (have qd30 := q30; simp only [List.length_drop] at qd30)); obtain ⟨hy35_, hz35_⟩ := Kd.R_celln 0 HO_7.out (t314 : Int) (of_decide_eq_true (by first | (with_reducible assumption) | assumption)) (of_decide_eq_true (by first | (with_reducible assumption) | assumption)); have HP35 := Kd.R_putg HO_7.out (t314 : Int) a2) | ((with_reducible refine gate_store (t := 5) (p := 74) rfl ?_); refine store_event (t := 5) (p := 74) (v := ?vo_w36) (w1 := (wc.setCell ⟨go30, (t314 : Int).toNat, none⟩ (.int .u8 a2))) ?hg ?ho ?hn ?hr ?_; (case ho => rfl); (case hg => rfl); (case hn => rfl); (case hr => first | (go_simp; done) | (go_simp; rfl) | (go_simp; simp only [u64_of_u8, i64_of_u8]; done) | (go_simp; simp only [u64_of_u8, i64_of_u8]; rfl)); intro w36 hw; have hg : wc.grownBy w36 (some go30) := (by rw [hw]; exact HP35.2); have hp_ : Kd.R (Kd.int .u8) 5 w36 w.heap.size (fun _ => True) (.slice (some ⟨go30, 0, none⟩) t298.length co16) y315 := (by rw [hw, Ny315.out]; exact HP35.1); clear HP35; have n0_ := Aside0.mk (hp_); have n1_ := Aside0.mk ((by rw [hw]; exact below_set (HB.out) GB30.out : Below w.heap.size w w36)); clear HO_7; clear HB; have HO_7 := n0_; have HB := n1_; clear n0_ n1_; clear hg hw hp_) | ((with_reducible refine gate_callee (f := 24) rfl ?_); refine goesL_ (some 77) rfl rfl Try.func24 (by kernel_rfl) rfl #[.slice (some ⟨go30, 0, none⟩) y315.length co16] rfl (by (try simp only [List.map_toArray, List.map_cons, List.map_nil]); first | done | (rw [show y315.length = t298.length from (Kd.R_reads' HO_7.out).1.symm] <;> rfl) | rfl | (simp only [List.length_drop, List.length_take]; rfl)) ?_; (with_reducible refine (digit_Eight.calls _ _ y315 t316 t317 _ ?side1 ?side2 A31.out).mono ?_); (case side1 => repeat (first | exact (Kd.R_reads' HO_7.out).2.2 | (with_reducible refine Kd.C_alloc ?_ _) | (with_reducible refine Kd.C_drewN ?_ _) | (with_reducible refine Kd.C_drew ?_))); (case side2 => rw [show y315.length = t298.length from (Kd.R_reads' HO_7.out).1.symm]; exact (Kd.R_reads' HO_7.out).2.1); rintro e w37 ⟨rfl, hb⟩; refine ⟨_, rfl, ?_⟩; have n0_ := Aside0.mk (Kd.R_below (by (with_reducible repeat (first | apply Kd.R_alloc | apply Kd.R_drewN | apply Kd.R_drew)); exact HO_7.out) hb); have n1_ := Aside0.mk (below_step (by repeat (first | (with_reducible first | exact HB.out | apply below_alloc | apply pw_below_drewN | apply below_drew1) | exact HB.out)) hb); clear HO_7; clear HB; have HO_7 := n0_; have HB := n1_; clear n0_ n1_; (try clear hb); (try clear hb2); (try clear hk); (try clear hi)) | ((with_reducible refine gate_callee (f := 30) rfl ?_); refine goesL_ (some 82) rfl rfl Try.func30 (by kernel_rfl) rfl #[.int .u8 a2] rfl (by (try simp only [List.map_toArray, List.map_cons, List.map_nil]); first | done | rfl | (simp only [List.length_drop, List.length_take]; rfl)) ?_; (with_reducible refine (digit_Is.calls a2 t318 _ A32.out).mono ?_); rintro e w' ⟨rfl, ⟨nd, rfl⟩⟩; refine ⟨_, rfl, ?_⟩) | (go_at_call 20; (with_reducible refine (mintagelaw04_wakes.calls  t319 _ A34.out).mono ?_); rintro e w38 ⟨rfl, hb⟩; have n0_ := Aside0.mk (Kd.R_below (by (with_reducible repeat (first | apply Kd.R_alloc | apply Kd.R_drewN | apply Kd.R_drew)); exact HO_7.out) hb); have n1_ := Aside0.mk (below_step (by repeat (first | (with_reducible first | exact HB.out | apply below_alloc | apply pw_below_drewN | apply below_drew1) | exact HB.out)) hb); clear HO_7; clear HB; have HO_7 := n0_; have HB := n1_; clear n0_ n1_; (try clear hb); (try clear hb2); (try clear hk); (try clear hi)))
                      go_ret
                      exact ⟨by first | rfl | (simp [errW_none, errW_some] <;> rfl) | (simp [*, errW_none, errW_some] <;> rfl), by repeat (first | (with_reducible first | exact HB.out | apply below_alloc | apply pw_below_drewN | apply below_drew1) | exact HB.out)⟩
                    · rw [if_neg c33] at H
                      have c33b0 : (t317 == t318) = false := by simpa using c33
                      (try (have c33b1 : decide (t317 = t318) = false := by simpa using c33))
                      (try (have c33b2 : (t317 == t318) = false := by simpa using c33))
                      (try (have c33b3 : ¬ (t317 = t318) := by simpa using c33))
                      clear c33
                      obtain rfl := Option.some.inj H
                      go_wp2_with (first | ((with_reducible refine gate_callee (f := 21) rfl ?_); refine goesL_ (some 72) rfl rfl Try.func21 (by kernel_rfl) rfl #[.int .i64 a1, .int .i64 0, .int .i64 7] rfl (by (try simp only [List.map_toArray, List.map_cons, List.map_nil]); first | done | rfl | (simp only [List.length_drop, List.length_take]; rfl)) ?_; (with_reducible refine (mintagekeep_Within.calls a1 0 7 t314 _ A27.out).mono ?_); rintro e w' ⟨rfl, ⟨nd, rfl⟩⟩; refine ⟨_, rfl, ?_⟩; (try (rw [drewN_self wc]; generalize hq_ : World.drewN wc _ = wc; have n0_ : Aside0 (Kd.R (Kd.int .u8) 5 wc w.heap.size (fun _ => True) (.slice Ao16 t298.length co16) t298) := ⟨by rw [← hq_]; exact (by (with_reducible repeat (first | apply Kd.R_alloc | apply Kd.R_drewN | apply Kd.R_drew)); exact HO_7.out)⟩; have n1_ : Aside0 (Below w.heap.size w wc) := ⟨by rw [← hq_]; exact (by repeat (first | (with_reducible first | exact HB.out | apply below_alloc | apply pw_below_drewN | apply below_drew1) | exact HB.out))⟩; clear HO_7 HB hq_; have HO_7 := n0_; have HB := n1_; clear n0_ n1_)); have p30 : 0 ≤ (t314 : Int) := of_decide_eq_true (by first | (with_reducible assumption) | assumption); have q30 : (t314 : Int) < ((t298.length : Int) : Int) := of_decide_eq_true (by first | (with_reducible assumption) | assumption); obtain ⟨go30, co30, eo30, gb30, gl30, cl30, HG30⟩ := Kd.R_form HO_7.out (by omega); (first | cases eo30 | (injection eo30 with ea_ en_ ec_; (first | subst ea_ | (injection ea_ with ea_; subst ea_)); subst ec_; clear en_)); have GB30 := Aside0.mk gb30; have GG30 := Aside0.mk HG30; clear gb30 gl30 HG30; obtain ⟨hx30_0, hf30_0⟩ := Kd.R_celln 0 HO_7.out (t314 : Int) p30 q30; replace p30 := eq_true p30; replace q30 := eq_true q30; (try (have qd30 := q30; simp only [List.length_drop] at qd30)); obtain ⟨hy39_, hz39_⟩ := Kd.R_celln 0 HO_7.out (t314 : Int) (of_decide_eq_true (by first | (with_reducible assumption) | assumption)) (of_decide_eq_true (by first | (with_reducible assumption) | assumption)); have HP39 := Kd.R_putg HO_7.out (t314 : Int) a2) | ((with_reducible refine gate_store (t := 5) (p := 74) rfl ?_); refine store_event (t := 5) (p := 74) (v := ?vo_w40) (w1 := (wc.setCell ⟨go30, (t314 : Int).toNat, none⟩ (.int .u8 a2))) ?hg ?ho ?hn ?hr ?_; (case ho => rfl); (case hg => rfl); (case hn => rfl); (case hr => first | (go_simp; done) | (go_simp; rfl) | (go_simp; simp only [u64_of_u8, i64_of_u8]; done) | (go_simp; simp only [u64_of_u8, i64_of_u8]; rfl)); intro w40 hw; have hg : wc.grownBy w40 (some go30) := (by rw [hw]; exact HP39.2); have hp_ : Kd.R (Kd.int .u8) 5 w40 w.heap.size (fun _ => True) (.slice (some ⟨go30, 0, none⟩) t298.length co16) y315 := (by rw [hw, Ny315.out]; exact HP39.1); clear HP39; have n0_ := Aside0.mk (hp_); have n1_ := Aside0.mk ((by rw [hw]; exact below_set (HB.out) GB30.out : Below w.heap.size w w40)); clear HO_7; clear HB; have HO_7 := n0_; have HB := n1_; clear n0_ n1_; clear hg hw hp_) | ((with_reducible refine gate_callee (f := 24) rfl ?_); refine goesL_ (some 77) rfl rfl Try.func24 (by kernel_rfl) rfl #[.slice (some ⟨go30, 0, none⟩) y315.length co16] rfl (by (try simp only [List.map_toArray, List.map_cons, List.map_nil]); first | done | (rw [show y315.length = t298.length from (Kd.R_reads' HO_7.out).1.symm] <;> rfl) | rfl | (simp only [List.length_drop, List.length_take]; rfl)) ?_; (with_reducible refine (digit_Eight.calls _ _ y315 t316 t317 _ ?side1 ?side2 A31.out).mono ?_); (case side1 => repeat (first | exact (Kd.R_reads' HO_7.out).2.2 | (with_reducible refine Kd.C_alloc ?_ _) | (with_reducible refine Kd.C_drewN ?_ _) | (with_reducible refine Kd.C_drew ?_))); (case side2 => rw [show y315.length = t298.length from (Kd.R_reads' HO_7.out).1.symm]; exact (Kd.R_reads' HO_7.out).2.1); rintro e w41 ⟨rfl, hb⟩; refine ⟨_, rfl, ?_⟩; have n0_ := Aside0.mk (Kd.R_below (by (with_reducible repeat (first | apply Kd.R_alloc | apply Kd.R_drewN | apply Kd.R_drew)); exact HO_7.out) hb); have n1_ := Aside0.mk (below_step (by repeat (first | (with_reducible first | exact HB.out | apply below_alloc | apply pw_below_drewN | apply below_drew1) | exact HB.out)) hb); clear HO_7; clear HB; have HO_7 := n0_; have HB := n1_; clear n0_ n1_; (try clear hb); (try clear hb2); (try clear hk); (try clear hi)) | ((with_reducible refine gate_callee (f := 30) rfl ?_); refine goesL_ (some 82) rfl rfl Try.func30 (by kernel_rfl) rfl #[.int .u8 a2] rfl (by (try simp only [List.map_toArray, List.map_cons, List.map_nil]); first | done | rfl | (simp only [List.length_drop, List.length_take]; rfl)) ?_; (with_reducible refine (digit_Is.calls a2 t318 _ A32.out).mono ?_); rintro e w' ⟨rfl, ⟨nd, rfl⟩⟩; refine ⟨_, rfl, ?_⟩))
                      go_ret
                      exact ⟨by first | rfl | (simp [errW_none, errW_some] <;> rfl) | (simp [*, errW_none, errW_some] <;> rfl), by repeat (first | (with_reducible first | exact HB.out | apply below_alloc | apply pw_below_drewN | apply below_drew1) | exact HB.out)⟩
                  · rw [if_neg c29] at H
                    exact absurd H (by simp)
                · rw [if_neg c28] at H
                  exact absurd H (by simp)
        · rw [if_neg c12] at H
          exact absurd H (by simp)

/-- THE ONE PURE STATEMENT of mintagelaw04_DigitEights: yours. -/
def mintagelaw04_DigitEights.Pure : Prop := ∀ (a0 : Int) (a1 : Int) (a2 : Int), (Lit.int .u64 a0).wf = true → (Lit.int .i64 a1).wf = true → (Lit.int .u8 a2).wf = true → ∃ k, mintagelaw04_DigitEights.f k a0 a1 a2 = some true
theorem mintagelaw04_DigitEights.walk (P : mintagelaw04_DigitEights.Pure) (a0 : Int) (a1 : Int) (a2 : Int) (w : World) (w0 : (Lit.int .u64 a0).wf = true) (w1 : (Lit.int .i64 a1).wf = true) (w2 : (Lit.int .u8 a2).wf = true) :
    Calls Try.prog 6 #[.int .u64 a0, .int .i64 a1, .int .u8 a2] w fun e w' => e = .returned (.bool true) ∧ Below w.heap.size w w' := by
  obtain ⟨k, h⟩ := P a0 a1 a2 w0 w1 w2
  refine (mintagelaw04_DigitEights.calls k a0 a1 a2 true w h).mono ?_
  rintro e w' ⟨rfl, hd⟩
  exact ⟨rfl, hd⟩

end Go.Proofs.Ytonlkffjpofpoaa.Q
