-- Printed functions, merged (wip/tools/pack.py).
import Derived.Test.YtonlkffjpofpoaaQ0ZDigitReads
namespace Go.Proofs.Ytonlkffjpofpoaa.Q
open Go.RowKit Go.Proofs.YtonlkffjpofpoaaW.PrintWords Go.Proofs.YtonlkffjpofpoaaW.PrintLast Go.Proofs.YtonlkffjpofpoaaW.PrintMore
attribute [local go_sem] max2_int min2_int max_two min_two max_three min_three max_four min_four   -- for this text's walks alone
set_option linter.unusedVariables false
set_option linter.unusedSimpArgs false

/-! ### digit_Value: function 26 -/
mutual
def digit_Value.j0 : Nat → List Int → Bool → Option (Int × Int)
  | 0, _, _ => none
  | k + 1, x0, x17 => if x17 = true then (some (0, 41)) else (digit_Value.l0 k x0)
def digit_Value.j2 : Nat → List Int → Option (Int × Int)
  | 0, _ => none
  | k + 1, x0 => if (x0.length : Int) > 20 then (some (0, 40)) else (digit_Value.l1 k x0 0)
def digit_Value.l1 : Nat → List Int → Int → Option (Int × Int)
  | 0, _, _ => none
  | k + 1, x0, x4 => if (x0.length : Int) > 0 then ((digit_Eight.f x0).bind fun bt276 => (if bt276.2 = true then (digit_Value.j4 k x0 x4 bt276.1 (decide (x4 < 10000000000))) else (digit_Value.j4 k x0 x4 bt276.1 false))) else (some (x4, 0))
def digit_Value.j4 : Nat → List Int → Int → Int → Bool → Option (Int × Int)
  | 0, _, _, _, _ => none
  | k + 1, x0, x4, x5, x44 => if x44 = true then (if 8 ≤ (x0.length : Int) then (digit_Value.l1 k (x0.drop 8) (IntKind.u64.wrap ((IntKind.u64.wrap (x4 * 100000000)) + x5))) else (none)) else (if 0 < (x0.length : Int) then (if x4 > ((18446744073709551615 - (((rd x0 0) - 48) % 256)) / 10) then (some (0, 40)) else (if 1 ≤ (x0.length : Int) then (digit_Value.l1 k (x0.drop 1) (IntKind.u64.wrap ((IntKind.u64.wrap (10 * x4)) + (((rd x0 0) - 48) % 256)))) else (none))) else (none))
def digit_Value.l0 : Nat → List Int → Option (Int × Int)
  | 0, _ => none
  | k + 1, x0 => if (x0.length : Int) > 0 then (if 0 < (x0.length : Int) then (if (rd x0 0) = 48 then (if 1 ≤ (x0.length : Int) then (digit_Value.l0 k (x0.drop 1)) else (none)) else (digit_Value.j2 k x0)) else (none)) else (digit_Value.j2 k x0)
end
def digit_Value.f (k : Nat) (l0 : List Int) : Option (Int × Int) := if (l0.length : Int) = 0 then (digit_Value.j0 k l0 true) else ((digit_Run.f k l0 0).bind fun t269 => (digit_Value.j0 k l0 (decide (t269 < (l0.length : Int)))))
theorem digit_Value.mono_l : ∀ k, (∀ y0 y1, LeO (digit_Value.j0 k y0 y1) (digit_Value.j0 (k + 1) y0 y1)) ∧ (∀ y0, LeO (digit_Value.j2 k y0) (digit_Value.j2 (k + 1) y0)) ∧ (∀ y0 y1, LeO (digit_Value.l1 k y0 y1) (digit_Value.l1 (k + 1) y0 y1)) ∧ (∀ y0 y1 y2 y3, LeO (digit_Value.j4 k y0 y1 y2 y3) (digit_Value.j4 (k + 1) y0 y1 y2 y3)) ∧ (∀ y0, LeO (digit_Value.l0 k y0) (digit_Value.l0 (k + 1) y0))
  | 0 => ⟨fun _ _ r h => by simp [digit_Value.j0] at h, fun _ r h => by simp [digit_Value.j2] at h, fun _ _ r h => by simp [digit_Value.l1] at h, fun _ _ _ _ r h => by simp [digit_Value.j4] at h, fun _ r h => by simp [digit_Value.l0] at h⟩
  | k + 1 => by
    obtain ⟨ih0, ih1, ih2, ih3, ih4⟩ := digit_Value.mono_l k
    refine ⟨?_, ?_, ?_, ?_, ?_⟩
    · intro y0 y1
      unfold digit_Value.j0
      repeat' first
      | (with_reducible exact ih0 _ _)
      | (with_reducible exact ih1 _)
      | (with_reducible exact ih2 _ _)
      | (with_reducible exact ih3 _ _ _ _)
      | (with_reducible exact ih4 _)
      | (with_reducible exact digit_Run.mono _ _ _)
      | (with_reducible exact LeO.refl _)
      | (with_reducible exact LeO.none _)
      | (with_reducible refine LeO.ite ?_ ?_)
      | (with_reducible refine LeO.bind ?_ (fun _ => ?_))
      | exact ih0 _ _
      | exact ih1 _
      | exact ih2 _ _
      | exact ih3 _ _ _ _
      | exact ih4 _
      | exact digit_Run.mono _ _ _
      | exact LeO.none _
      | refine LeO.ite ?_ ?_
      | refine LeO.bind ?_ (fun _ => ?_)
    · intro y0
      unfold digit_Value.j2
      repeat' first
      | (with_reducible exact ih0 _ _)
      | (with_reducible exact ih1 _)
      | (with_reducible exact ih2 _ _)
      | (with_reducible exact ih3 _ _ _ _)
      | (with_reducible exact ih4 _)
      | (with_reducible exact digit_Run.mono _ _ _)
      | (with_reducible exact LeO.refl _)
      | (with_reducible exact LeO.none _)
      | (with_reducible refine LeO.ite ?_ ?_)
      | (with_reducible refine LeO.bind ?_ (fun _ => ?_))
      | exact ih0 _ _
      | exact ih1 _
      | exact ih2 _ _
      | exact ih3 _ _ _ _
      | exact ih4 _
      | exact digit_Run.mono _ _ _
      | exact LeO.none _
      | refine LeO.ite ?_ ?_
      | refine LeO.bind ?_ (fun _ => ?_)
    · intro y0 y1
      unfold digit_Value.l1
      repeat' first
      | (with_reducible exact ih0 _ _)
      | (with_reducible exact ih1 _)
      | (with_reducible exact ih2 _ _)
      | (with_reducible exact ih3 _ _ _ _)
      | (with_reducible exact ih4 _)
      | (with_reducible exact digit_Run.mono _ _ _)
      | (with_reducible exact LeO.refl _)
      | (with_reducible exact LeO.none _)
      | (with_reducible refine LeO.ite ?_ ?_)
      | (with_reducible refine LeO.bind ?_ (fun _ => ?_))
      | exact ih0 _ _
      | exact ih1 _
      | exact ih2 _ _
      | exact ih3 _ _ _ _
      | exact ih4 _
      | exact digit_Run.mono _ _ _
      | exact LeO.none _
      | refine LeO.ite ?_ ?_
      | refine LeO.bind ?_ (fun _ => ?_)
    · intro y0 y1 y2 y3
      unfold digit_Value.j4
      repeat' first
      | (with_reducible exact ih0 _ _)
      | (with_reducible exact ih1 _)
      | (with_reducible exact ih2 _ _)
      | (with_reducible exact ih3 _ _ _ _)
      | (with_reducible exact ih4 _)
      | (with_reducible exact digit_Run.mono _ _ _)
      | (with_reducible exact LeO.refl _)
      | (with_reducible exact LeO.none _)
      | (with_reducible refine LeO.ite ?_ ?_)
      | (with_reducible refine LeO.bind ?_ (fun _ => ?_))
      | exact ih0 _ _
      | exact ih1 _
      | exact ih2 _ _
      | exact ih3 _ _ _ _
      | exact ih4 _
      | exact digit_Run.mono _ _ _
      | exact LeO.none _
      | refine LeO.ite ?_ ?_
      | refine LeO.bind ?_ (fun _ => ?_)
    · intro y0
      unfold digit_Value.l0
      repeat' first
      | (with_reducible exact ih0 _ _)
      | (with_reducible exact ih1 _)
      | (with_reducible exact ih2 _ _)
      | (with_reducible exact ih3 _ _ _ _)
      | (with_reducible exact ih4 _)
      | (with_reducible exact digit_Run.mono _ _ _)
      | (with_reducible exact LeO.refl _)
      | (with_reducible exact LeO.none _)
      | (with_reducible refine LeO.ite ?_ ?_)
      | (with_reducible refine LeO.bind ?_ (fun _ => ?_))
      | exact ih0 _ _
      | exact ih1 _
      | exact ih2 _ _
      | exact ih3 _ _ _ _
      | exact ih4 _
      | exact digit_Run.mono _ _ _
      | exact LeO.none _
      | refine LeO.ite ?_ ?_
      | refine LeO.bind ?_ (fun _ => ?_)
theorem digit_Value.mono : ∀ a0 k, LeO (digit_Value.f k a0) (digit_Value.f (k + 1) a0) := by
  intro a0 k
  obtain ⟨ih0, ih1, ih2, ih3, ih4⟩ := digit_Value.mono_l k
  unfold digit_Value.f
  repeat' first
      | (with_reducible exact ih0 _ _)
      | (with_reducible exact ih1 _)
      | (with_reducible exact ih2 _ _)
      | (with_reducible exact ih3 _ _ _ _)
      | (with_reducible exact ih4 _)
      | (with_reducible exact digit_Run.mono _ _ _)
      | (with_reducible exact LeO.refl _)
      | (with_reducible exact LeO.none _)
      | (with_reducible refine LeO.ite ?_ ?_)
      | (with_reducible refine LeO.bind ?_ (fun _ => ?_))
      | exact ih0 _ _
      | exact ih1 _
      | exact ih2 _ _
      | exact ih3 _ _ _ _
      | exact ih4 _
      | exact digit_Run.mono _ _ _
      | exact LeO.none _
      | refine LeO.ite ?_ ?_
      | refine LeO.bind ?_ (fun _ => ?_)
set_option maxHeartbeats 8000000 in
set_option maxRecDepth 100000 in
theorem digit_Value.calls (k : Nat) (P0_ : Nat → Prop) (A0 : Option Addr) (c0 : Nat) (l0 : List Int) (r1 : Int) (r2 : Int) (w : World) (hs0 : Kd.V (Kd.int .u8) 5 w w.heap.size (fun k_ => P0_ k_) (.slice A0 l0.length c0) l0) (h : digit_Value.f k l0 = some (r1, r2)) :
    Calls Try.prog 26 #[.slice A0 l0.length c0] w fun e w' => e = .returned (.tuple #[.int .u64 r1, .int .i64 r2]) ∧ Below w.heap.size w w' := by
  have HO0 := Aside0.mk (show Kd.V (Kd.int .u8) 5 w w.heap.size (fun k_ => (P0_ k_ ∨ w.heap.size ≤ k_)) (.slice A0 l0.length c0) l0 from Kd.V_mono hs0 (fun k_ hk => .inl hk))
  have HB := Aside0.mk (Below.refl w.heap.size w)
  have H : (if (l0.length : Int) = 0 then (digit_Value.j0 k l0 true) else ((digit_Run.f k l0 0).bind fun t269 => (digit_Value.j0 k l0 (decide (t269 < (l0.length : Int)))))) = some (r1, r2) := h
  clear h
  have HC2 := Aside0.mk H
  clear H
  go_enter Try.func26, Try.ntmps26
  go_upto_region 1 with (fail)
  go_cut [17] (fun v17 wc => ∃ (kq : Nat) (x17_1 : Bool), v17 = .bool x17_1 ∧ Aside0 (digit_Value.j0 kq l0 x17_1 = some (r1, r2)) ∧ Aside0 (kq ≤ k) ∧ Aside0 (Kd.V (Kd.int .u8) 5 wc w.heap.size (fun k_ => (P0_ k_ ∨ w.heap.size ≤ k_)) (.slice A0 l0.length c0) l0) ∧ Aside0 (Below w.heap.size w wc))
  case first =>
    have H := HC2.out
    clear HC2
    by_cases c3 : (l0.length : Int) = 0
    · rw [if_pos c3] at H
      have c3b0 : ((l0.length : Int) == 0) = true := beq_iff_eq.mpr c3
      have c3b1 : ((l0.length : Int) != 0) = false := bne_eq_false_iff_eq.mpr c3
      clear c3
      (first | rw [c3b0] | (simp only [i64_w, i32_w]; rw [c3b0]) | skip)
      have H' := Aside0.mk H
      clear H
      go_wp2
      go_meet
      case rel => exact ⟨_, (true), (by first | rfl | (simp; done) | (simp [*]; done)), H', ⟨by first | omega | exact Nat.le_refl _⟩, ⟨by (with_reducible repeat (first | apply Kd.V_alloc | apply Kd.V_drewN | apply Kd.V_drew)); exact HO0.out⟩, ⟨by repeat (first | (with_reducible first | exact HB.out | apply below_alloc | apply pw_below_drewN | apply below_drew1) | exact HB.out)⟩⟩
    · rw [if_neg c3] at H
      have c3b0 : ((l0.length : Int) == 0) = false := beq_eq_false_iff_ne.mpr c3
      have c3b1 : ((l0.length : Int) != 0) = true := bne_iff_ne.mpr c3
      have c3b2 : ¬ (l0 = []) := fun h_ => c3 (by rw [h_]; rfl)
      (first | rw [c3b0] | (simp only [i64_w, i32_w]; rw [c3b0]) | skip)
      replace H := Option.bind_eq_some_iff.mp H
      obtain ⟨t269, A40, H⟩ := H
      replace H : (digit_Value.j0 k l0 (decide (t269 < (l0.length : Int)))) = some (r1, r2) := H
      have A4 := Aside0.mk A40
      clear A40
      have H' := Aside0.mk H
      clear H
      go_wp2_with (first | (go_at_call 28; (with_reducible refine (digit_Run.calls k _ _ l0 0 t269 _ ?side1 ?side2 A4.out).mono ?_); (case side1 => repeat (first | exact (Kd.V_reads' HO0.out).2.2 | (with_reducible refine Kd.C_alloc ?_ _) | (with_reducible refine Kd.C_drewN ?_ _) | (with_reducible refine Kd.C_drew ?_))); (case side2 => exact (Kd.V_reads' HO0.out).2.1); rintro e w' ⟨rfl, ⟨nd, rfl⟩⟩))
      go_meet
      case rel => exact ⟨_, (decide (t269 < (l0.length : Int))), (by first | rfl | (simp; done) | (simp [*]; done)), H', ⟨by first | omega | exact Nat.le_refl _⟩, ⟨by (with_reducible repeat (first | apply Kd.V_alloc | apply Kd.V_drewN | apply Kd.V_drew)); exact HO0.out⟩, ⟨by repeat (first | (with_reducible first | exact HB.out | apply below_alloc | apply pw_below_drewN | apply below_drew1) | exact HB.out)⟩⟩
  case rest =>
    clear HC2
    try clear c2
    try clear p2
    try clear c3
    try clear c3b0
    try clear c3b1
    try clear c3b2
    obtain ⟨kq, x17_1, rfl, HA, HJ1, HO_0, HB⟩ := hcut
    cases kq with
    | zero => exact absurd HA.out (by simp [digit_Value.j0])
    | succ kj1 =>
      have H := HA.out
      clear HA
      simp only [digit_Value.j0] at H
      by_cases c5 : x17_1 = true
      · subst c5
        have H1 : (some (0, 41)) = some (r1, r2) := by rw [if_pos rfl] at H; exact H
        clear H
        have H := H1
        clear H1
        simp only [Option.some.injEq, Prod.mk.injEq] at H
        obtain ⟨rfl, rfl⟩ := H
        go_wp2
        go_ret2
        exact ⟨by first | rfl | (simp [errW_none, errW_some] <;> rfl) | (simp [*, errW_none, errW_some] <;> rfl), by repeat (first | (with_reducible first | exact HB.out | apply below_alloc | apply pw_below_drewN | apply below_drew1) | exact HB.out)⟩
      · replace c5 := Bool.eq_false_iff.mpr c5
        subst c5
        have H1 : (digit_Value.l0 kj1 l0) = some (r1, r2) := by rw [if_neg (show ¬ (false = true) by decide)] at H; exact H
        clear H
        have H := H1
        clear H1
        have HC6 := Aside0.mk H
        clear H
        go_upto_block 0 with (fail)
        go_cut [0] (fun v0 wc => ∃ (kq : Nat) (x0_5 : List Int), Aside0 (digit_Value.j2 kq x0_5 = some (r1, r2)) ∧ Aside0 (kq ≤ kj1) ∧ Aside0 (Kd.V (Kd.int .u8) 5 wc w.heap.size (fun k_ => (P0_ k_ ∨ w.heap.size ≤ k_)) v0 x0_5) ∧ Aside0 (Below w.heap.size w wc))
        case first =>
          have H := HC6.out
          clear HC6
          have H' := Aside0.mk H
          clear H
          go_wp2
          go_loopg [0] kj1 (fun kq v0 w' => ∃ (x0_2 : List Int), Aside0 (digit_Value.l0 kq x0_2 = some (r1, r2)) ∧ Aside0 (kq ≤ kj1) ∧ Aside0 (Kd.V (Kd.int .u8) 5 w' w.heap.size (fun k_ => (P0_ k_ ∨ w.heap.size ≤ k_)) v0 x0_2) ∧ Aside0 (Below w.heap.size w w'))
          case atStart => exact ⟨(l0), H', ⟨Nat.le_refl _⟩, ⟨by (with_reducible repeat (first | apply Kd.V_alloc | apply Kd.V_drewN | apply Kd.V_drew)); exact HO_0.out⟩, ⟨by repeat (first | (with_reducible first | exact HB.out | apply below_alloc | apply pw_below_drewN | apply below_drew1) | exact HB.out)⟩⟩
          case round =>
            clear H'
            try clear c2
            try clear p2
            try clear c3
            try clear c3b0
            try clear c3b1
            try clear c3b2
            try clear c5
            try clear p2
            obtain ⟨x0_2, HA, HK2, HO_0, HB⟩ := hrel
            cases gk with
            | zero => exact absurd HA.out (by simp [digit_Value.l0])
            | succ k2 =>
              have H := HA.out
              clear HA
              simp only [digit_Value.l0] at H
              by_cases c7 : (x0_2.length : Int) > 0
              · rw [if_pos c7] at H
                have c7b0 : decide (0 < (x0_2.length : Int)) = true := decide_eq_true c7
                have c7b1 : decide (0 < x0_2.length) = true := decide_eq_true (by omega)
                clear c7
                (first | rw [c7b0] | (simp only [i64_w, i32_w]; rw [c7b0]) | skip)
                by_cases c8 : 0 < (x0_2.length : Int)
                · rw [if_pos c8] at H
                  have c8b0 : decide (0 < (x0_2.length : Int)) = true := decide_eq_true c8
                  have c8b1 : decide (0 < x0_2.length) = true := decide_eq_true (by omega)
                  clear c8
                  by_cases c9 : (rd x0_2 0) = 48
                  · rw [if_pos c9] at H
                    have c9b0 : ((rd x0_2 0) == 48) = true := beq_iff_eq.mpr c9
                    have c9b1 : ((rd x0_2 0) != 48) = false := bne_eq_false_iff_eq.mpr c9
                    clear c9
                    by_cases c10 : 1 ≤ (x0_2.length : Int)
                    · rw [if_pos c10] at H
                      have c10b0 := eq_true c10
                      have c10b1 : decide (1 ≤ (x0_2.length : Int)) = true := decide_eq_true c10
                      clear c10
                      obtain ⟨y271, hy271⟩ : ∃ y_ : List Int, y_ = (x0_2.drop 1) := ⟨_, rfl⟩
                      replace H : (digit_Value.l0 k2 y271) = some (r1, r2) := by first | (rw [hy271]; with_reducible exact H) | (have H2_ := (Option.bind_some _ _).symm.trans H; rw [hy271]; with_reducible exact H2_) | (have H2_ := (Option.bind_some _ _).symm.trans H; with_reducible exact H2_) | with_reducible exact H | (rw [hy271]; exact H) | exact H
                      have Ny271 := Aside0.mk hy271
                      clear hy271
                      have H' := Aside0.mk H
                      clear H
                      obtain ⟨Ao11, co11, eo11⟩ := Kd.V_slice HO_0.out
                      subst eo11
                      have p270 : 0 ≤ (0 : Int) := (by omega)
                      have q270 : 0 < (x0_2.length : Int) := of_decide_eq_true (by first | (with_reducible assumption) | assumption)
                      obtain ⟨ad270, e270, hx270_0⟩ := Kd.at_int (Kd.V_reads' HO_0.out).2.2 0 p270 q270
                      cases e270
                      have qi270 : (0 < x0_2.length) = True := eq_true (by omega)
                      (try rw [show ((0 : Int)).toNat = 0 from rfl] at hx270_0)
                      (try rw [Addr.add_zero'] at hx270_0)
                      replace p270 := eq_true p270
                      replace q270 := eq_true q270
                      (try (have qd270 := q270; simp only [List.length_drop] at qd270))
                      have q12 : (1 : Int) ≤ ((x0_2.length : Int) : Int) := of_decide_eq_true (by first | (with_reducible assumption) | assumption)
                      obtain ⟨i012, hi012, _, hsz12, _⟩ := info_parts info5
                      have hroom12 : x0_2.length ≤ co11 := (Kd.V_reads' HO_0.out).2.1
                      have hC12 : Kd.F (Kd.int .u8) _ _ (some ad270) x0_2.length x0_2 := (Kd.V_at (base := w.heap.size) HO_0.out).2.2
                      have hcut12 := cut_from (P := Try.prog) 29 5 .i64 Try.underlying29 hi012 1 hsz12 (some ad270) x0_2.length co11 1 (by omega) q12
                      have hr12 := Kd.F_cut (m := (1 : Int).toNat) (c := co11) hC12 (by omega) hroom12
                      obtain ⟨A12, hA12⟩ : ∃ A1, A1 = (if co11 = (1 : Int).toNat then (some ad270) else ((some ad270) : Option Addr).map (·.add ((1 : Int).toNat * 1))) := ⟨_, rfl⟩
                      obtain ⟨c12, hc12⟩ : ∃ c1, c1 = co11 - (1 : Int).toNat := ⟨_, rfl⟩
                      have hy12 : y271.length = x0_2.length - (1 : Int).toNat := (by rw [Ny271.out, List.length_drop] <;> omega)
                      rw [show (x0_2).drop (1 : Int).toNat = y271 from Ny271.out.symm] at hr12
                      replace hr12 : Kd.F (Kd.int .u8) _ _ A12 y271.length y271 := (by rw [hA12]; exact hr12)
                      rw [← hy12, ← hA12, ← hc12] at hcut12
                      have HO275 := Aside0.mk (show Kd.V (Kd.int .u8) 5 _ w.heap.size _ (.slice A12 y271.length c12) y271 from Kd.V_mk (by rw [hy12, hc12]; exact Nat.sub_le_sub_right hroom12 _) hr12)
                      have HC275 := Aside0.mk (show y271.length ≤ c12 from by rw [hy12, hc12]; exact Nat.sub_le_sub_right hroom12 _)
                      clear hr12 hC12 hroom12 hi012 hsz12 hc12
                      have KY12 := Aside0.mk hy12
                      have KA12 := Aside0.mk hA12
                      clear hy12 hA12
                      replace q12 := eq_true q12
                      (try (have qd12 := q12; simp only [List.length_drop] at qd12))
                      go_wp2
                      go_roundg k2
                      case measure => have := HJ1.out; have := HK2.out; omega
                      case rel => exact ⟨(y271), H', ⟨by have := HJ1.out; have := HK2.out; omega⟩, ⟨by (with_reducible repeat (first | apply Kd.V_alloc | apply Kd.V_drewN | apply Kd.V_drew)); exact HO275.out⟩, ⟨by repeat (first | (with_reducible first | exact HB.out | apply below_alloc | apply pw_below_drewN | apply below_drew1) | exact HB.out)⟩⟩
                    · rw [if_neg c10] at H
                      exact absurd H (by simp)
                  · rw [if_neg c9] at H
                    have c9b0 : ((rd x0_2 0) == 48) = false := beq_eq_false_iff_ne.mpr c9
                    have c9b1 : ((rd x0_2 0) != 48) = true := bne_iff_ne.mpr c9
                    have H' := Aside0.mk H
                    clear H
                    obtain ⟨Ao13, co13, eo13⟩ := Kd.V_slice HO_0.out
                    subst eo13
                    have p270 : 0 ≤ (0 : Int) := (by omega)
                    have q270 : 0 < (x0_2.length : Int) := of_decide_eq_true (by first | (with_reducible assumption) | assumption)
                    obtain ⟨ad270, e270, hx270_0⟩ := Kd.at_int (Kd.V_reads' HO_0.out).2.2 0 p270 q270
                    cases e270
                    have qi270 : (0 < x0_2.length) = True := eq_true (by omega)
                    (try rw [show ((0 : Int)).toNat = 0 from rfl] at hx270_0)
                    (try rw [Addr.add_zero'] at hx270_0)
                    replace p270 := eq_true p270
                    replace q270 := eq_true q270
                    (try (have qd270 := q270; simp only [List.length_drop] at qd270))
                    go_wp2
                    go_meet
                    case rel => exact ⟨_, (x0_2), H', ⟨by have := HJ1.out; have := HK2.out; first | omega | exact Nat.le_refl _⟩, ⟨by (with_reducible repeat (first | apply Kd.V_alloc | apply Kd.V_drewN | apply Kd.V_drew)); exact HO_0.out⟩, ⟨by repeat (first | (with_reducible first | exact HB.out | apply below_alloc | apply pw_below_drewN | apply below_drew1) | exact HB.out)⟩⟩
                · rw [if_neg c8] at H
                  exact absurd H (by simp)
              · rw [if_neg c7] at H
                have c7b0 : decide (0 < (x0_2.length : Int)) = false := decide_eq_false c7
                have c7b1 : decide (0 < x0_2.length) = false := decide_eq_false (by omega)
                clear c7
                (first | rw [c7b0] | (simp only [i64_w, i32_w]; rw [c7b0]) | skip)
                have H' := Aside0.mk H
                clear H
                obtain ⟨Ao14, co14, eo14⟩ := Kd.V_slice HO_0.out
                subst eo14
                go_wp2
                go_meet
                case rel => exact ⟨_, (x0_2), H', ⟨by have := HJ1.out; have := HK2.out; first | omega | exact Nat.le_refl _⟩, ⟨by (with_reducible repeat (first | apply Kd.V_alloc | apply Kd.V_drewN | apply Kd.V_drew)); exact HO_0.out⟩, ⟨by repeat (first | (with_reducible first | exact HB.out | apply below_alloc | apply pw_below_drewN | apply below_drew1) | exact HB.out)⟩⟩
        case rest =>
          clear HC6
          try clear c1
          try clear q1
          try clear c2
          try clear p2
          try clear q2
          try clear hx2
          try clear qi2
          try clear c3
          try clear c3b0
          try clear c3b1
          try clear c3b2
          try clear c5
          try clear c7
          try clear c7b0
          try clear c7b1
          try clear c8
          try clear c8b0
          try clear c8b1
          try clear c9
          try clear c9b0
          try clear c9b1
          try clear c10
          try clear c10b0
          try clear c10b1
          try clear c12
          try clear q12
          try clear hx270_0
          try clear p2
          try clear p270
          try clear q12
          try clear q270
          obtain ⟨kq, x0_5, HA, HJ5, HO_0, HB⟩ := hcut
          cases kq with
          | zero => exact absurd HA.out (by simp [digit_Value.j2])
          | succ kj5 =>
            have H := HA.out
            clear HA
            simp only [digit_Value.j2] at H
            by_cases c15 : (x0_5.length : Int) > 20
            · rw [if_pos c15] at H
              have c15b0 : decide (20 < (x0_5.length : Int)) = true := decide_eq_true c15
              have c15b1 : decide (20 < x0_5.length) = true := decide_eq_true (by omega)
              clear c15
              simp only [Option.some.injEq, Prod.mk.injEq] at H
              obtain ⟨rfl, rfl⟩ := H
              obtain ⟨Ao16, co16, eo16⟩ := Kd.V_slice HO_0.out
              subst eo16
              go_wp2
              go_ret2
              exact ⟨by first | rfl | (simp [errW_none, errW_some] <;> rfl) | (simp [*, errW_none, errW_some] <;> rfl), by repeat (first | (with_reducible first | exact HB.out | apply below_alloc | apply pw_below_drewN | apply below_drew1) | exact HB.out)⟩
            · rw [if_neg c15] at H
              have c15b0 : decide (20 < (x0_5.length : Int)) = false := decide_eq_false c15
              have c15b1 : decide (20 < x0_5.length) = false := decide_eq_false (by omega)
              clear c15
              have H' := Aside0.mk H
              clear H
              obtain ⟨Ao17, co17, eo17⟩ := Kd.V_slice HO_0.out
              subst eo17
              go_wp2
              go_loopg [0, 4] kj5 (fun kq v0 v4 w' => ∃ (x0_3 : List Int) (x4_3 : Int), v4 = .int .u64 x4_3 ∧ Aside0 (digit_Value.l1 kq x0_3 x4_3 = some (r1, r2)) ∧ Aside0 (kq ≤ kj5) ∧ Aside0 (Kd.V (Kd.int .u8) 5 w' w.heap.size (fun k_ => (P0_ k_ ∨ w.heap.size ≤ k_)) v0 x0_3) ∧ Aside0 (Below w.heap.size w w'))
              case atStart => exact ⟨(x0_5), (0), (by first | rfl | (simp; done) | (simp [*]; done)), H', ⟨Nat.le_refl _⟩, ⟨by (with_reducible repeat (first | apply Kd.V_alloc | apply Kd.V_drewN | apply Kd.V_drew)); exact HO_0.out⟩, ⟨by repeat (first | (with_reducible first | exact HB.out | apply below_alloc | apply pw_below_drewN | apply below_drew1) | exact HB.out)⟩⟩
              case round =>
                clear H'
                try clear c1
                try clear q1
                try clear c2
                try clear p2
                try clear q2
                try clear hx2
                try clear qi2
                try clear c3
                try clear c3b0
                try clear c3b1
                try clear c3b2
                try clear c5
                try clear c7
                try clear c7b0
                try clear c7b1
                try clear c8
                try clear c8b0
                try clear c8b1
                try clear c9
                try clear c9b0
                try clear c9b1
                try clear c10
                try clear c10b0
                try clear c10b1
                try clear c12
                try clear q12
                try clear c15
                try clear c15b0
                try clear c15b1
                try clear hx270_0
                try clear p2
                try clear p270
                try clear q1
                try clear q12
                try clear q2
                try clear q270
                obtain ⟨x0_3, x4_3, rfl, HA, HK3, HO_0, HB⟩ := hrel
                cases gk with
                | zero => exact absurd HA.out (by simp [digit_Value.l1])
                | succ k3 =>
                  have H := HA.out
                  clear HA
                  simp only [digit_Value.l1] at H
                  by_cases c18 : (x0_3.length : Int) > 0
                  · rw [if_pos c18] at H
                    have c18b0 : decide (0 < (x0_3.length : Int)) = true := decide_eq_true c18
                    have c18b1 : decide (0 < x0_3.length) = true := decide_eq_true (by omega)
                    clear c18
                    replace H := Option.bind_eq_some_iff.mp H
                    obtain ⟨⟨t276, t277⟩, A190, H⟩ := H
                    replace H : (if t277 = true then (digit_Value.j4 k3 x0_3 x4_3 t276 (decide (x4_3 < 10000000000))) else (digit_Value.j4 k3 x0_3 x4_3 t276 false)) = some (r1, r2) := H
                    have A19 := Aside0.mk A190
                    clear A190
                    have HC20 := Aside0.mk H
                    clear H
                    obtain ⟨Ao21, co21, eo21⟩ := Kd.V_slice HO_0.out
                    subst eo21
                    go_upto_region 10 with (first | ((with_reducible refine gate_callee (f := 24) rfl ?_); refine goesL_ (some 37) rfl rfl Try.func24 (by kernel_rfl) rfl #[.slice Ao21 x0_3.length co21] rfl (by (try simp only [List.map_toArray, List.map_cons, List.map_nil]); first | done | rfl | (simp only [List.length_drop, List.length_take]; rfl)) ?_; (with_reducible refine (digit_Eight.calls _ _ x0_3 t276 t277 _ ?side1 ?side2 A19.out).mono ?_); (case side1 => repeat (first | exact (Kd.V_reads' HO_0.out).2.2 | (with_reducible refine Kd.C_alloc ?_ _) | (with_reducible refine Kd.C_drewN ?_ _) | (with_reducible refine Kd.C_drew ?_))); (case side2 => exact (Kd.V_reads' HO_0.out).2.1); rintro e w22 ⟨rfl, hb⟩; refine ⟨_, rfl, ?_⟩; have n0_ := Aside0.mk (Kd.V_below (by (with_reducible repeat (first | apply Kd.V_alloc | apply Kd.V_drewN | apply Kd.V_drew)); exact HO_0.out) hb); have n1_ := Aside0.mk (below_step (by repeat (first | (with_reducible first | exact HB.out | apply below_alloc | apply pw_below_drewN | apply below_drew1) | exact HB.out)) hb); clear HO_0; clear HB; have HO_0 := n0_; have HB := n1_; clear n0_ n1_; (try clear hb); (try clear hb2); (try clear hk); (try clear hi)))
                    (try simp only [Act.put, List.setIfInBounds_toArray, List.set_cons_zero, List.set_cons_succ])
                    go_cut [44] (fun v44 wc => ∃ (kq : Nat) (x44_19 : Bool), v44 = .bool x44_19 ∧ Aside0 (digit_Value.j4 kq x0_3 x4_3 t276 x44_19 = some (r1, r2)) ∧ Aside0 (kq ≤ k3) ∧ Aside0 (Kd.V (Kd.int .u8) 5 wc w.heap.size (fun k_ => (P0_ k_ ∨ w.heap.size ≤ k_)) (.slice Ao21 x0_3.length co21) x0_3) ∧ Aside0 (Below w.heap.size w wc))
                    case first =>
                      have H := HC20.out
                      clear HC20
                      by_cases c23 : t277 = true
                      · subst c23
                        have H1 : (digit_Value.j4 k3 x0_3 x4_3 t276 (decide (x4_3 < 10000000000))) = some (r1, r2) := by rw [if_pos rfl] at H; exact H
                        clear H
                        have H := H1
                        clear H1
                        have H' := Aside0.mk H
                        clear H
                        go_wp2
                        go_meet
                        case rel => exact ⟨_, (decide (x4_3 < 10000000000)), (by first | rfl | (simp; done) | (simp [*]; done)), H', ⟨by have := HJ1.out; have := HJ5.out; have := HK3.out; first | omega | exact Nat.le_refl _⟩, ⟨by (with_reducible repeat (first | apply Kd.V_alloc | apply Kd.V_drewN | apply Kd.V_drew)); exact HO_0.out⟩, ⟨by repeat (first | (with_reducible first | exact HB.out | apply below_alloc | apply pw_below_drewN | apply below_drew1) | exact HB.out)⟩⟩
                      · replace c23 := Bool.eq_false_iff.mpr c23
                        subst c23
                        have H1 : (digit_Value.j4 k3 x0_3 x4_3 t276 false) = some (r1, r2) := by rw [if_neg (show ¬ (false = true) by decide)] at H; exact H
                        clear H
                        have H := H1
                        clear H1
                        have H' := Aside0.mk H
                        clear H
                        go_wp2
                        go_meet
                        case rel => exact ⟨_, (false), (by first | rfl | (simp; done) | (simp [*]; done)), H', ⟨by have := HJ1.out; have := HJ5.out; have := HK3.out; first | omega | exact Nat.le_refl _⟩, ⟨by (with_reducible repeat (first | apply Kd.V_alloc | apply Kd.V_drewN | apply Kd.V_drew)); exact HO_0.out⟩, ⟨by repeat (first | (with_reducible first | exact HB.out | apply below_alloc | apply pw_below_drewN | apply below_drew1) | exact HB.out)⟩⟩
                    case rest =>
                      clear HC20
                      try clear c1
                      try clear q1
                      try clear c2
                      try clear p2
                      try clear q2
                      try clear hx2
                      try clear qi2
                      try clear c3
                      try clear c3b0
                      try clear c3b1
                      try clear c3b2
                      try clear c5
                      try clear c7
                      try clear c7b0
                      try clear c7b1
                      try clear c8
                      try clear c8b0
                      try clear c8b1
                      try clear c9
                      try clear c9b0
                      try clear c9b1
                      try clear c10
                      try clear c10b0
                      try clear c10b1
                      try clear c12
                      try clear q12
                      try clear c15
                      try clear c15b0
                      try clear c15b1
                      try clear c18
                      try clear c18b0
                      try clear c18b1
                      try clear c23
                      try clear hx270_0
                      try clear p2
                      try clear p270
                      try clear q1
                      try clear q12
                      try clear q2
                      try clear q270
                      obtain ⟨kq, x44_19, rfl, HA, HJ19, HO_0, HB⟩ := hcut
                      cases kq with
                      | zero => exact absurd HA.out (by simp [digit_Value.j4])
                      | succ kj19 =>
                        have H := HA.out
                        clear HA
                        simp only [digit_Value.j4] at H
                        by_cases c24 : x44_19 = true
                        · subst c24
                          have H1 : (if 8 ≤ (x0_3.length : Int) then (digit_Value.l1 kj19 (x0_3.drop 8) (IntKind.u64.wrap ((IntKind.u64.wrap (x4_3 * 100000000)) + t276))) else (none)) = some (r1, r2) := by rw [if_pos rfl] at H; exact H
                          clear H
                          have H := H1
                          clear H1
                          by_cases c25 : 8 ≤ (x0_3.length : Int)
                          · rw [if_pos c25] at H
                            have c25b0 := eq_true c25
                            have c25b1 : decide (8 ≤ (x0_3.length : Int)) = true := decide_eq_true c25
                            clear c25
                            obtain ⟨y278, hy278⟩ : ∃ y_ : List Int, y_ = (x0_3.drop 8) := ⟨_, rfl⟩
                            replace H : (digit_Value.l1 kj19 y278 (IntKind.u64.wrap ((IntKind.u64.wrap (x4_3 * 100000000)) + t276))) = some (r1, r2) := by first | (rw [hy278]; with_reducible exact H) | (have H2_ := (Option.bind_some _ _).symm.trans H; rw [hy278]; with_reducible exact H2_) | (have H2_ := (Option.bind_some _ _).symm.trans H; with_reducible exact H2_) | with_reducible exact H | (rw [hy278]; exact H) | exact H
                            have Ny278 := Aside0.mk hy278
                            clear hy278
                            have H' := Aside0.mk H
                            clear H
                            have q26 : (8 : Int) ≤ ((x0_3.length : Int) : Int) := of_decide_eq_true (by first | (with_reducible assumption) | assumption)
                            obtain ⟨i026, hi026, _, hsz26, _⟩ := info_parts info5
                            have hroom26 : x0_3.length ≤ co21 := (Kd.V_reads' HO_0.out).2.1
                            have hC26 : Kd.F (Kd.int .u8) _ _ Ao21 x0_3.length x0_3 := (Kd.V_at (base := w.heap.size) HO_0.out).2.2
                            have hcut26 := cut_from (P := Try.prog) 29 5 .i64 Try.underlying29 hi026 1 hsz26 Ao21 x0_3.length co21 8 (by omega) q26
                            have hr26 := Kd.F_cut (m := (8 : Int).toNat) (c := co21) hC26 (by omega) hroom26
                            obtain ⟨A26, hA26⟩ : ∃ A1, A1 = (if co21 = (8 : Int).toNat then Ao21 else (Ao21 : Option Addr).map (·.add ((8 : Int).toNat * 1))) := ⟨_, rfl⟩
                            obtain ⟨c26, hc26⟩ : ∃ c1, c1 = co21 - (8 : Int).toNat := ⟨_, rfl⟩
                            have hy26 : y278.length = x0_3.length - (8 : Int).toNat := (by rw [Ny278.out, List.length_drop] <;> omega)
                            rw [show (x0_3).drop (8 : Int).toNat = y278 from Ny278.out.symm] at hr26
                            replace hr26 : Kd.F (Kd.int .u8) _ _ A26 y278.length y278 := (by rw [hA26]; exact hr26)
                            rw [← hy26, ← hA26, ← hc26] at hcut26
                            have HO282 := Aside0.mk (show Kd.V (Kd.int .u8) 5 _ w.heap.size _ (.slice A26 y278.length c26) y278 from Kd.V_mk (by rw [hy26, hc26]; exact Nat.sub_le_sub_right hroom26 _) hr26)
                            have HC282 := Aside0.mk (show y278.length ≤ c26 from by rw [hy26, hc26]; exact Nat.sub_le_sub_right hroom26 _)
                            clear hr26 hC26 hroom26 hi026 hsz26 hc26
                            have KY26 := Aside0.mk hy26
                            have KA26 := Aside0.mk hA26
                            clear hy26 hA26
                            replace q26 := eq_true q26
                            (try (have qd26 := q26; simp only [List.length_drop] at qd26))
                            go_wp2
                            go_roundg kj19
                            case measure => have := HJ1.out; have := HJ5.out; have := HK3.out; have := HJ19.out; omega
                            case rel => exact ⟨(y278), (IntKind.u64.wrap ((IntKind.u64.wrap (x4_3 * 100000000)) + t276)), (by first | rfl | (simp; done) | (simp [*]; done)), H', ⟨by have := HJ1.out; have := HJ5.out; have := HK3.out; have := HJ19.out; omega⟩, ⟨by (with_reducible repeat (first | apply Kd.V_alloc | apply Kd.V_drewN | apply Kd.V_drew)); exact HO282.out⟩, ⟨by repeat (first | (with_reducible first | exact HB.out | apply below_alloc | apply pw_below_drewN | apply below_drew1) | exact HB.out)⟩⟩
                          · rw [if_neg c25] at H
                            exact absurd H (by simp)
                        · replace c24 := Bool.eq_false_iff.mpr c24
                          subst c24
                          have H1 : (if 0 < (x0_3.length : Int) then (if x4_3 > ((18446744073709551615 - (((rd x0_3 0) - 48) % 256)) / 10) then (some (0, 40)) else (if 1 ≤ (x0_3.length : Int) then (digit_Value.l1 kj19 (x0_3.drop 1) (IntKind.u64.wrap ((IntKind.u64.wrap (10 * x4_3)) + (((rd x0_3 0) - 48) % 256)))) else (none))) else (none)) = some (r1, r2) := by rw [if_neg (show ¬ (false = true) by decide)] at H; exact H
                          clear H
                          have H := H1
                          clear H1
                          by_cases c27 : 0 < (x0_3.length : Int)
                          · rw [if_pos c27] at H
                            have c27b0 : decide (0 < (x0_3.length : Int)) = true := decide_eq_true c27
                            have c27b1 : decide (0 < x0_3.length) = true := decide_eq_true (by omega)
                            clear c27
                            by_cases c28 : x4_3 > ((18446744073709551615 - (((rd x0_3 0) - 48) % 256)) / 10)
                            · rw [if_pos c28] at H
                              have c28b0 : decide (((18446744073709551615 - (((rd x0_3 0) - 48) % 256)) / 10) < x4_3) = true := decide_eq_true c28
                              clear c28
                              simp only [Option.some.injEq, Prod.mk.injEq] at H
                              obtain ⟨rfl, rfl⟩ := H
                              have p283 : 0 ≤ (0 : Int) := (by omega)
                              have q283 : 0 < (x0_3.length : Int) := of_decide_eq_true (by first | (with_reducible assumption) | assumption)
                              obtain ⟨ad283, e283, hx283_0⟩ := Kd.at_int (Kd.V_reads' HO_0.out).2.2 0 p283 q283
                              cases e283
                              have qi283 : (0 < x0_3.length) = True := eq_true (by omega)
                              (try rw [show ((0 : Int)).toNat = 0 from rfl] at hx283_0)
                              (try rw [Addr.add_zero'] at hx283_0)
                              replace p283 := eq_true p283
                              replace q283 := eq_true q283
                              (try (have qd283 := q283; simp only [List.length_drop] at qd283))
                              go_wp2
                              go_ret2
                              exact ⟨by first | rfl | (simp [errW_none, errW_some] <;> rfl) | (simp [*, errW_none, errW_some] <;> rfl), by repeat (first | (with_reducible first | exact HB.out | apply below_alloc | apply pw_below_drewN | apply below_drew1) | exact HB.out)⟩
                            · rw [if_neg c28] at H
                              have c28b0 : decide (((18446744073709551615 - (((rd x0_3 0) - 48) % 256)) / 10) < x4_3) = false := decide_eq_false c28
                              clear c28
                              by_cases c29 : 1 ≤ (x0_3.length : Int)
                              · rw [if_pos c29] at H
                                have c29b0 := eq_true c29
                                have c29b1 : decide (1 ≤ (x0_3.length : Int)) = true := decide_eq_true c29
                                clear c29
                                obtain ⟨y284, hy284⟩ : ∃ y_ : List Int, y_ = (x0_3.drop 1) := ⟨_, rfl⟩
                                replace H : (digit_Value.l1 kj19 y284 (IntKind.u64.wrap ((IntKind.u64.wrap (10 * x4_3)) + (((rd x0_3 0) - 48) % 256)))) = some (r1, r2) := by first | (rw [hy284]; with_reducible exact H) | (have H2_ := (Option.bind_some _ _).symm.trans H; rw [hy284]; with_reducible exact H2_) | (have H2_ := (Option.bind_some _ _).symm.trans H; with_reducible exact H2_) | with_reducible exact H | (rw [hy284]; exact H) | exact H
                                have Ny284 := Aside0.mk hy284
                                clear hy284
                                have H' := Aside0.mk H
                                clear H
                                have p283 : 0 ≤ (0 : Int) := (by omega)
                                have q283 : 0 < (x0_3.length : Int) := of_decide_eq_true (by first | (with_reducible assumption) | assumption)
                                obtain ⟨ad283, e283, hx283_0⟩ := Kd.at_int (Kd.V_reads' HO_0.out).2.2 0 p283 q283
                                cases e283
                                have qi283 : (0 < x0_3.length) = True := eq_true (by omega)
                                (try rw [show ((0 : Int)).toNat = 0 from rfl] at hx283_0)
                                (try rw [Addr.add_zero'] at hx283_0)
                                replace p283 := eq_true p283
                                replace q283 := eq_true q283
                                (try (have qd283 := q283; simp only [List.length_drop] at qd283))
                                have q30 : (1 : Int) ≤ ((x0_3.length : Int) : Int) := of_decide_eq_true (by first | (with_reducible assumption) | assumption)
                                obtain ⟨i030, hi030, _, hsz30, _⟩ := info_parts info5
                                have hroom30 : x0_3.length ≤ co21 := (Kd.V_reads' HO_0.out).2.1
                                have hC30 : Kd.F (Kd.int .u8) _ _ (some ad283) x0_3.length x0_3 := (Kd.V_at (base := w.heap.size) HO_0.out).2.2
                                have hcut30 := cut_from (P := Try.prog) 29 5 .i64 Try.underlying29 hi030 1 hsz30 (some ad283) x0_3.length co21 1 (by omega) q30
                                have hr30 := Kd.F_cut (m := (1 : Int).toNat) (c := co21) hC30 (by omega) hroom30
                                obtain ⟨A30, hA30⟩ : ∃ A1, A1 = (if co21 = (1 : Int).toNat then (some ad283) else ((some ad283) : Option Addr).map (·.add ((1 : Int).toNat * 1))) := ⟨_, rfl⟩
                                obtain ⟨c30, hc30⟩ : ∃ c1, c1 = co21 - (1 : Int).toNat := ⟨_, rfl⟩
                                have hy30 : y284.length = x0_3.length - (1 : Int).toNat := (by rw [Ny284.out, List.length_drop] <;> omega)
                                rw [show (x0_3).drop (1 : Int).toNat = y284 from Ny284.out.symm] at hr30
                                replace hr30 : Kd.F (Kd.int .u8) _ _ A30 y284.length y284 := (by rw [hA30]; exact hr30)
                                rw [← hy30, ← hA30, ← hc30] at hcut30
                                have HO288 := Aside0.mk (show Kd.V (Kd.int .u8) 5 _ w.heap.size _ (.slice A30 y284.length c30) y284 from Kd.V_mk (by rw [hy30, hc30]; exact Nat.sub_le_sub_right hroom30 _) hr30)
                                have HC288 := Aside0.mk (show y284.length ≤ c30 from by rw [hy30, hc30]; exact Nat.sub_le_sub_right hroom30 _)
                                clear hr30 hC30 hroom30 hi030 hsz30 hc30
                                have KY30 := Aside0.mk hy30
                                have KA30 := Aside0.mk hA30
                                clear hy30 hA30
                                replace q30 := eq_true q30
                                (try (have qd30 := q30; simp only [List.length_drop] at qd30))
                                go_wp2
                                go_roundg kj19
                                case measure => have := HJ1.out; have := HJ5.out; have := HK3.out; have := HJ19.out; omega
                                case rel => exact ⟨(y284), (IntKind.u64.wrap ((IntKind.u64.wrap (10 * x4_3)) + (((rd x0_3 0) - 48) % 256))), (by first | rfl | (simp; done) | (simp [*]; done)), H', ⟨by have := HJ1.out; have := HJ5.out; have := HK3.out; have := HJ19.out; omega⟩, ⟨by (with_reducible repeat (first | apply Kd.V_alloc | apply Kd.V_drewN | apply Kd.V_drew)); exact HO288.out⟩, ⟨by repeat (first | (with_reducible first | exact HB.out | apply below_alloc | apply pw_below_drewN | apply below_drew1) | exact HB.out)⟩⟩
                              · rw [if_neg c29] at H
                                exact absurd H (by simp)
                          · rw [if_neg c27] at H
                            exact absurd H (by simp)
                  · rw [if_neg c18] at H
                    have c18b0 : decide (0 < (x0_3.length : Int)) = false := decide_eq_false c18
                    have c18b1 : decide (0 < x0_3.length) = false := decide_eq_false (by omega)
                    clear c18
                    simp only [Option.some.injEq, Prod.mk.injEq] at H
                    obtain ⟨rfl, rfl⟩ := H
                    obtain ⟨Ao31, co31, eo31⟩ := Kd.V_slice HO_0.out
                    subst eo31
                    go_wp2
                    go_ret2
                    exact ⟨by first | rfl | (simp [errW_none, errW_some] <;> rfl) | (simp [*, errW_none, errW_some] <;> rfl), by repeat (first | (with_reducible first | exact HB.out | apply below_alloc | apply pw_below_drewN | apply below_drew1) | exact HB.out)⟩

end Go.Proofs.Ytonlkffjpofpoaa.Q

namespace Go.Proofs.Ytonlkffjpofpoaa.Q
open Go.RowKit Go.Proofs.YtonlkffjpofpoaaW.PrintWords Go.Proofs.YtonlkffjpofpoaaW.PrintLast Go.Proofs.YtonlkffjpofpoaaW.PrintMore
attribute [local go_sem] max2_int min2_int max_two min_two max_three min_three max_four min_four   -- for this text's walks alone
set_option linter.unusedVariables false
set_option linter.unusedSimpArgs false

/-! ### digit_Count: function 17 -/
def digit_Count.l0 : Nat → Int → Int → Option (Int)
  | 0, _, _ => none
  | k + 1, x0, x3 => if x0 > 9 then (digit_Count.l0 k (IntKind.u64.wrap (Int.tdiv x0 10)) (wrap64 (x3 + 1))) else (some x3)
def digit_Count.f (k : Nat) (a0 : Int) : Option (Int) := digit_Count.l0 k a0 1
theorem digit_Count.mono_l : ∀ k, (∀ y0 y1, LeO (digit_Count.l0 k y0 y1) (digit_Count.l0 (k + 1) y0 y1))
  | 0 => fun _ _ r h => by simp [digit_Count.l0] at h
  | k + 1 => by
    have ih0 := digit_Count.mono_l k
    · intro y0 y1
      unfold digit_Count.l0
      repeat' first
      | (with_reducible exact ih0 _ _)
      | (with_reducible exact LeO.refl _)
      | (with_reducible exact LeO.none _)
      | (with_reducible refine LeO.ite ?_ ?_)
      | (with_reducible refine LeO.bind ?_ (fun _ => ?_))
      | exact ih0 _ _
      | exact LeO.none _
      | refine LeO.ite ?_ ?_
      | refine LeO.bind ?_ (fun _ => ?_)
theorem digit_Count.mono : ∀ a0 k, LeO (digit_Count.f k a0) (digit_Count.f (k + 1) a0) := by
  intro a0 k
  have ih0 := digit_Count.mono_l k
  unfold digit_Count.f
  repeat' first
      | (with_reducible exact ih0 _ _)
      | (with_reducible exact LeO.refl _)
      | (with_reducible exact LeO.none _)
      | (with_reducible refine LeO.ite ?_ ?_)
      | (with_reducible refine LeO.bind ?_ (fun _ => ?_))
      | exact ih0 _ _
      | exact LeO.none _
      | refine LeO.ite ?_ ?_
      | refine LeO.bind ?_ (fun _ => ?_)
set_option maxHeartbeats 8000000 in
set_option maxRecDepth 100000 in
theorem digit_Count.calls (k : Nat) (a0 : Int) (r : Int) (w : World) (h : digit_Count.f k a0 = some r) :
    Calls Try.prog 17 #[.int .u64 a0] w fun e w' => e = .returned (.int .i64 r) ∧ Drawn0 w w' := by
  have H : (digit_Count.l0 k a0 1) = some r := h
  clear h
  have H' := Aside0.mk H
  clear H
  go_enter Try.func17, Try.ntmps17
  go_wp2
  go_loopg [0, 3] k (fun kq v0 v3 w' => ∃ (x0_1 : Int) (x3_1 : Int), v0 = .int .u64 x0_1 ∧ v3 = .int .i64 x3_1 ∧ Aside0 (digit_Count.l0 kq x0_1 x3_1 = some r) ∧ Aside0 (kq ≤ k) ∧ Drawn0 w w')
  case atStart => exact ⟨(a0), (1), (by first | rfl | (simp; done) | (simp [*]; done)), (by first | rfl | (simp; done) | (simp [*]; done)), H', ⟨Nat.le_refl _⟩, by repeat (first | exact Drawn0.refl _ | apply Drawn0.step)⟩
  case round =>
    clear H'
    try clear c1
    obtain ⟨x0_1, x3_1, rfl, rfl, HA, HK1, ⟨m1, rfl⟩⟩ := hrel
    cases gk with
    | zero => exact absurd HA.out (by simp [digit_Count.l0])
    | succ k1 =>
      have H := HA.out
      clear HA
      simp only [digit_Count.l0] at H
      by_cases c2 : x0_1 > 9
      · rw [if_pos c2] at H
        have c2b0 : decide (9 < x0_1) = true := decide_eq_true c2
        clear c2
        have H' := Aside0.mk H
        clear H
        go_wp2
        go_roundg k1
        case measure => have := HK1.out; omega
        case rel => exact ⟨(IntKind.u64.wrap (Int.tdiv x0_1 10)), (wrap64 (x3_1 + 1)), (by first | rfl | (simp; done) | (simp [*]; done)), (by first | rfl | (simp; done) | (simp [*]; done)), H', ⟨by have := HK1.out; omega⟩, by repeat (first | exact Drawn0.refl _ | apply Drawn0.step)⟩
      · rw [if_neg c2] at H
        have c2b0 : decide (9 < x0_1) = false := decide_eq_false c2
        clear c2
        obtain rfl := Option.some.inj H
        go_wp2
        go_ret
        exact ⟨by first | rfl | (simp; done) | (simp [*]; done), by repeat (first | exact Drawn0.refl _ | apply Drawn0.step)⟩

end Go.Proofs.Ytonlkffjpofpoaa.Q

namespace Go.Proofs.Ytonlkffjpofpoaa.Q
open Go.RowKit Go.Proofs.YtonlkffjpofpoaaW.PrintWords Go.Proofs.YtonlkffjpofpoaaW.PrintLast Go.Proofs.YtonlkffjpofpoaaW.PrintMore
attribute [local go_sem] max2_int min2_int max_two min_two max_three min_three max_four min_four   -- for this text's walks alone
set_option linter.unusedVariables false
set_option linter.unusedSimpArgs false

/-! ### digit_Pad: function 9 -/
section
/-- The last digit, as a byte, and what is left: as Go reckons it. -/
def digit_Pad.dg (x : Int) : Int := (IntKind.u64.wrap (48 + Int.tmod x 10)) % 256
def digit_Pad.nx (x : Int) : Int := IntKind.u64.wrap (Int.tdiv x 10)
/-- n digits of a number. -/
def digit_Pad.D : Nat → Int → List Int
  | 0, _ => []
  | n + 1, x => digit_Pad.D n (digit_Pad.nx x) ++ [digit_Pad.dg x]
theorem digit_Pad.D_length : ∀ (n : Nat) (x : Int), (digit_Pad.D n x).length = n
  | 0, _ => rfl
  | n + 1, x => by simp [digit_Pad.D, digit_Pad.D_length n]
def digit_Pad.f (k : Nat) (a0 : Int) (a1 : Int) : Option (List Int × Int) :=
  if a1 < 1 then some ([], 42) else if a1 > 20 then some ([], 42) else
    (digit_Count.f k a0).bind fun c => if c > a1 then some ([], 40) else some (digit_Pad.D a1.toNat a0, 0)
theorem digit_Pad.mono : ∀ a0 a1 k, LeO (digit_Pad.f k a0 a1) (digit_Pad.f (k + 1) a0 a1) := by
  intro a0 a1 k
  unfold digit_Pad.f
  refine LeO.ite (LeO.refl _) (LeO.ite (LeO.refl _) (LeO.bind (digit_Count.mono _ _) (fun _ => LeO.refl _)))
set_option maxHeartbeats 1000000 in
theorem digit_Pad.callsA (k : Nat) (a0 a1 : Int) (w : World) (h1 : a1 < 1) :
    Calls Try.prog 9 #[.int .u64 a0, .int .i64 a1] w fun e w' => ∃ v0_ : Value, e = .returned (.tuple #[v0_, .int .i64 42]) ∧ Kd.R (Kd.int .u8) 5 w' w.heap.size (fun _ => True) v0_ [] ∧ Below w.heap.size w w' := by
  go_enter Try.func9, Try.ntmps9
  go_wp2_with fail
  go_ret2
  exact ⟨_, rfl, Kd.R_nil _ _ _ _ _, Below.refl _ _⟩
set_option maxHeartbeats 1000000 in
theorem digit_Pad.callsB (k : Nat) (a0 a1 : Int) (w : World) (h1 : ¬ a1 < 1) (h2 : a1 > 20) :
    Calls Try.prog 9 #[.int .u64 a0, .int .i64 a1] w fun e w' => ∃ v0_ : Value, e = .returned (.tuple #[v0_, .int .i64 42]) ∧ Kd.R (Kd.int .u8) 5 w' w.heap.size (fun _ => True) v0_ [] ∧ Below w.heap.size w w' := by
  go_enter Try.func9, Try.ntmps9
  go_wp2_with fail
  go_ret2
  exact ⟨_, rfl, Kd.R_nil _ _ _ _ _, Below.refl _ _⟩
set_option maxHeartbeats 1000000 in
theorem digit_Pad.callsC (k : Nat) (a0 a1 c : Int) (w : World) (h1 : ¬ a1 < 1) (h2 : ¬ a1 > 20) (hc : digit_Count.f k a0 = some c) (h3 : c > a1) :
    Calls Try.prog 9 #[.int .u64 a0, .int .i64 a1] w fun e w' => ∃ v0_ : Value, e = .returned (.tuple #[v0_, .int .i64 40]) ∧ Kd.R (Kd.int .u8) 5 w' w.heap.size (fun _ => True) v0_ [] ∧ Below w.heap.size w w' := by
  have HC := Aside0.mk hc
  clear hc
  go_enter Try.func9, Try.ntmps9
  go_wp2_with (first | (go_at_call 17; refine (digit_Count.calls k a0 c _ HC.out).mono ?_; rintro e w1 ⟨rfl, hd⟩))
  go_ret2
  exact ⟨_, rfl, Kd.R_nil _ _ _ _ _, hd.below⟩
theorem digit_Pad.set_row (n m : Nat) (ds : List Int) (u : Int) (x : Value) :
    (nums .u8 (List.replicate (n + 1) 0 ++ ds ++ List.replicate m 0)).toArray.setIfInBounds n (.int .u8 u) = (nums .u8 (List.replicate n 0 ++ (u :: ds) ++ List.replicate m 0)).toArray := by
  have h : (nums .u8 (List.replicate (n + 1) 0 ++ ds ++ List.replicate m 0)) = nums .u8 (List.replicate n 0) ++ (.int .u8 0) :: nums .u8 (ds ++ List.replicate m 0) := by
    rw [List.replicate_succ']; simp [nums]
  have h' : (nums .u8 (List.replicate n 0 ++ (u :: ds) ++ List.replicate m 0)) = nums .u8 (List.replicate n 0) ++ (.int .u8 u) :: nums .u8 (ds ++ List.replicate m 0) := by simp [nums]
  rw [h, h', List.setIfInBounds_toArray]
  congr 1
  have hl : (nums IntKind.u8 (List.replicate n 0)).length = n := by simp [nums]
  rw [List.set_append_right _ _ (by omega)]
  rw [hl, Nat.sub_self]; rfl
set_option maxHeartbeats 4000000 in
set_option maxRecDepth 100000 in
theorem digit_Pad.callsD (k : Nat) (a0 : Int) (wd : Nat) (c : Int) (w : World) (h1 : 1 ≤ wd) (h2 : wd ≤ 20) (hc : digit_Count.f k a0 = some c) (h3 : ¬ c > (wd : Int)) :
    Calls Try.prog 9 #[.int .u64 a0, .int .i64 (wd : Int)] w fun e w' => ∃ v0_ : Value, e = .returned (.tuple #[v0_, .int .i64 0]) ∧ Kd.R (Kd.int .u8) 5 w' w.heap.size (fun _ => True) v0_ (digit_Pad.D wd a0) ∧ Below w.heap.size w w' := by
  have HC := Aside0.mk hc
  clear hc
  have g1 : ¬ (wd : Int) < 1 := by omega
  have g2 : ¬ (wd : Int) > 20 := by omega
  have g3 : IntKind.i64.wrap ((wd : Int) - 1) = (wd : Int) - 1 := by rw [IntKind.wrap_i64]; omega
  go_enter Try.func9, Try.ntmps9
  go_wp2_with (first | (go_at_call 17; refine (digit_Count.calls k a0 c _ HC.out).mono ?_; rintro e w1 ⟨rfl, hd⟩))
  have hB1 := Aside0.mk hd.below
  clear hd
  have hsz : w.heap.size ≤ w1.heap.size := hB1.out.size
  generalize hg : w1.heap.size = g at *
  have hstart : w1.heap.size = g := hg
  have Hg := Aside0.mk hstart
  clear hg hstart
  go_loopw [0, 7] (fun x i wr => ∃ (n : Nat) (y : Int) (ds : List Int), n ≤ wd ∧ Aside0 (ds.length = wd - n) ∧ x = .int .u64 y ∧ i = .int .i64 ((n : Int) - 1) ∧ Aside0 (digit_Pad.D wd a0 = digit_Pad.D n y ++ ds) ∧
      Aside0 (wr.heap[g]? = some (.cells (nums .u8 (List.replicate n 0 ++ ds ++ List.replicate (20 - wd) 0)).toArray 58 (0, 0))) ∧ Aside0 (Below w.heap.size w wr))
    (fun _ i _ => (intOf i + 1).toNat)
  case atStart =>
    refine ⟨wd, a0, [], Nat.le_refl _, ⟨by simp⟩, rfl, rfl, ⟨by simp⟩, ⟨?_⟩, ⟨?_⟩⟩
    · have hn := heap_alloc_new w1 (.cells (nums .u8 (List.replicate 20 0)).toArray 58)
      rw [Hg.out] at hn
      have hw : List.replicate wd (0 : Int) ++ [] ++ List.replicate (20 - wd) 0 = List.replicate 20 0 := by
        rw [List.append_nil, List.replicate_append_replicate]; congr 1; omega
      rw [hw]
      exact hn
    · exact hB1.out.alloc (by rw [Hg.out]; exact hsz) _
  case round =>
    obtain ⟨n, y, ds, hn, hds, rfl, rfl, hD, hh, hb⟩ := hrel
    rcases Nat.eq_zero_or_pos n with rfl | hpos
    · have hneg : ¬ ((0 : Nat) : Int) - 1 ≥ 0 := by omega
      have hcells : ReadsInt wr .u8 (some ⟨g, 0, none⟩) wd (digit_Pad.D wd a0) := by
        have hlen := hds.out
        have e := hD.out
        simp only [digit_Pad.D, List.nil_append] at e
        rw [e]
        refine ⟨by omega, by omega, fun _ => ⟨_, rfl, fun j hj => ?_⟩⟩
        rw [add_plain, blk_cell hh.out]
        simp [nums, List.getElem?_append, hlen, hj, List.getD_eq_getElem?_getD]
      go_wp2_with (first | (at_builtin; refine print_append_row (w0 := w) w.heap.size rfl _ _ 29 5 .u8 1 rfl Try.underlying29 info5 (by decide) (.slice none 0 0) [] (digit_Pad.D wd a0) _ _ _ rfl rfl (own_nil _ _ _ _) hcells hb.out hb.out.size (by simp; omega) ?_; intro v1 w2 ho hb2 hg2 hat))
      go_ret2
      refine ⟨v1, rfl, ?_, hb2⟩
      rw [List.nil_append] at ho
      exact Kd.R_of_own ho (fun _ _ => trivial)
    · obtain ⟨m, rfl⟩ : ∃ m, n = m + 1 := ⟨n - 1, by omega⟩
      have ei : (((m + 1 : Nat) : Int)) - 1 = (m : Int) := by omega
      rw [ei]
      have hm20 : (m : Int) < 20 := by omega
      have hm0 : (0 : Int) ≤ (m : Int) := by omega
      have hge : (m : Int) ≥ 0 := hm0
      have hcell : wr.cell? ⟨g, m, none⟩ = some (.int .u8 0) := by
        rw [blk_cell hh.out]
        simp [nums, List.getElem?_append, List.getElem?_replicate]
      have hfr : wr.frozen? ⟨g, m, none⟩ = false := blk_frozen hh.out m
      go_wp2_with fail
      go_roundw
      case rel =>
        refine ⟨m, digit_Pad.nx y, digit_Pad.dg y :: ds, by omega, ⟨by have := hds.out; simp; omega⟩, rfl, (by first | rfl | go_num), ⟨by rw [hD.out]; simp [digit_Pad.D]⟩, ⟨?_⟩, ⟨below_set hb.out (by have := hB1.out.size; have := Hg.out; omega)⟩⟩
        rw [← digit_Pad.set_row m _ ds (digit_Pad.dg y) (.int .u8 0)]
        exact blk_set hh.out m _
      case measure => (simp [intOf] <;> omega)
theorem digit_Pad.calls (k : Nat) (a0 : Int) (a1 : Int) (r1 : List Int) (r2 : Int) (w : World) (h : digit_Pad.f k a0 a1 = some (r1, r2)) :
    Calls Try.prog 9 #[.int .u64 a0, .int .i64 a1] w fun e w' => ∃ v0_ : Value, e = .returned (.tuple #[v0_, .int .i64 r2]) ∧ Kd.R (Kd.int .u8) 5 w' w.heap.size (fun _ => True) v0_ r1 ∧ Below w.heap.size w w' := by
  unfold digit_Pad.f at h
  by_cases h1 : a1 < 1
  · rw [if_pos h1] at h; simp only [Option.some.injEq, Prod.mk.injEq] at h; obtain ⟨rfl, rfl⟩ := h
    exact digit_Pad.callsA k a0 a1 w h1
  · rw [if_neg h1] at h
    by_cases h2 : a1 > 20
    · rw [if_pos h2] at h; simp only [Option.some.injEq, Prod.mk.injEq] at h; obtain ⟨rfl, rfl⟩ := h
      exact digit_Pad.callsB k a0 a1 w h1 h2
    · rw [if_neg h2] at h
      obtain ⟨c, hc, h⟩ := Option.bind_eq_some_iff.1 h
      by_cases h3 : c > a1
      · rw [if_pos h3] at h; simp only [Option.some.injEq, Prod.mk.injEq] at h; obtain ⟨rfl, rfl⟩ := h
        exact digit_Pad.callsC k a0 a1 c w h1 h2 hc h3
      · rw [if_neg h3] at h; simp only [Option.some.injEq, Prod.mk.injEq] at h; obtain ⟨rfl, rfl⟩ := h
        obtain ⟨wd, rfl⟩ : ∃ wd : Nat, a1 = (wd : Int) := ⟨a1.toNat, by omega⟩
        rw [Int.toNat_natCast]
        exact digit_Pad.callsD k a0 wd c w (by omega) (by omega) hc h3

end

end Go.Proofs.Ytonlkffjpofpoaa.Q

namespace Go.Proofs.Ytonlkffjpofpoaa.Q
open Go.RowKit Go.Proofs.YtonlkffjpofpoaaW.PrintWords Go.Proofs.YtonlkffjpofpoaaW.PrintLast Go.Proofs.YtonlkffjpofpoaaW.PrintMore
attribute [local go_sem] max2_int min2_int max_two min_two max_three min_three max_four min_four   -- for this text's walks alone
set_option linter.unusedVariables false
set_option linter.unusedSimpArgs false

/-! ### digit_Text: function 8 -/
def digit_Text.f (k : Nat) (a0 : Int) : Option (List Int) := (digit_Count.f k a0).bind fun t101 => ((digit_Pad.f k a0 t101).bind fun bt102 => (some bt102.1))
theorem digit_Text.mono : ∀ a0 k, LeO (digit_Text.f k a0) (digit_Text.f (k + 1) a0) := by
  intro a0 k
  unfold digit_Text.f
  repeat' first
      | (with_reducible exact digit_Count.mono _ _)
      | (with_reducible exact digit_Pad.mono _ _ _)
      | (with_reducible exact LeO.refl _)
      | (with_reducible exact LeO.none _)
      | (with_reducible refine LeO.ite ?_ ?_)
      | (with_reducible refine LeO.bind ?_ (fun _ => ?_))
      | exact digit_Count.mono _ _
      | exact digit_Pad.mono _ _ _
      | exact LeO.none _
      | refine LeO.ite ?_ ?_
      | refine LeO.bind ?_ (fun _ => ?_)
set_option maxHeartbeats 8000000 in
set_option maxRecDepth 100000 in
theorem digit_Text.calls (k : Nat) (a0 : Int) (r : List Int) (w : World) (h : digit_Text.f k a0 = some r) :
    Calls Try.prog 8 #[.int .u64 a0] w fun e w' => ∃ v0_ : Value, e = .returned (v0_) ∧ Kd.R (Kd.int .u8) 5 w' w.heap.size (fun _ => True) v0_ r ∧ Below w.heap.size w w' := by
  have HB := Aside0.mk (Below.refl w.heap.size w)
  have H : ((digit_Count.f k a0).bind fun t101 => ((digit_Pad.f k a0 t101).bind fun bt102 => (some bt102.1))) = some r := h
  clear h
  replace H := Option.bind_eq_some_iff.mp H
  obtain ⟨t101, A20, H⟩ := H
  replace H : ((digit_Pad.f k a0 t101).bind fun bt102 => (some bt102.1)) = some r := H
  have A2 := Aside0.mk A20
  clear A20
  replace H := Option.bind_eq_some_iff.mp H
  obtain ⟨⟨t102, t103⟩, A30, H⟩ := H
  replace H : (some t102) = some r := H
  have A3 := Aside0.mk A30
  clear A30
  obtain rfl := Option.some.inj H
  go_enter Try.func8, Try.ntmps8
  go_wp2_with (first | ((with_reducible refine gate_callee (f := 17) rfl ?_); refine goesL_ (some 8) rfl rfl Try.func17 (by kernel_rfl) rfl #[.int .u64 a0] rfl (by (try simp only [List.map_toArray, List.map_cons, List.map_nil]); first | done | rfl | (simp only [List.length_drop, List.length_take]; rfl)) ?_; (with_reducible refine (digit_Count.calls k a0 t101 _ A2.out).mono ?_); rintro e w' ⟨rfl, ⟨nd, rfl⟩⟩; refine ⟨_, rfl, ?_⟩) | ((with_reducible refine gate_callee (f := 9) rfl ?_); refine goesL_ (some 9) rfl rfl Try.func9 (by kernel_rfl) rfl #[.int .u64 a0, .int .i64 t101] rfl (by (try simp only [List.map_toArray, List.map_cons, List.map_nil]); first | done | rfl | (simp only [List.length_drop, List.length_take]; rfl)) ?_; (with_reducible refine (digit_Pad.calls k a0 t101 t102 t103 _ A3.out).mono ?_); rintro e w4 ⟨v104, rfl, ho0, hb⟩; refine ⟨_, rfl, ?_⟩; have n0_ := Aside0.mk (Kd.R_lower ho0 (below_size (by repeat (first | (with_reducible first | exact HB.out | apply below_alloc | apply pw_below_drewN | apply below_drew1) | exact HB.out)))); have n1_ := Aside0.mk (below_step (by repeat (first | (with_reducible first | exact HB.out | apply below_alloc | apply pw_below_drewN | apply below_drew1) | exact HB.out)) hb); clear HB; have HO105 := n0_; have HB := n1_; clear n0_ n1_; (try clear hb); (try clear hb2); (try clear hk); (try clear hi); (try clear ho0)))
  go_ret
  exact ⟨_, by first | rfl | (simp [errW_none, errW_some] <;> rfl) | (simp [*, errW_none, errW_some] <;> rfl), by (with_reducible repeat (first | apply Kd.R_alloc | apply Kd.R_drewN | apply Kd.R_drew)); exact HO105.out, by repeat (first | (with_reducible first | exact HB.out | apply below_alloc | apply pw_below_drewN | apply below_drew1) | exact HB.out)⟩

end Go.Proofs.Ytonlkffjpofpoaa.Q

namespace Go.Proofs.Ytonlkffjpofpoaa.Q
open Go.RowKit Go.Proofs.YtonlkffjpofpoaaW.PrintWords Go.Proofs.YtonlkffjpofpoaaW.PrintLast Go.Proofs.YtonlkffjpofpoaaW.PrintMore
attribute [local go_sem] max2_int min2_int max_two min_two max_three min_three max_four min_four   -- for this text's walks alone
set_option linter.unusedVariables false
set_option linter.unusedSimpArgs false

/-! ### mintagekeep_Same: function 14 -/
def mintagekeep_Same.f (l0 : List Int) (l1 : List Int) : Option (Bool) := some ((strOfNums l0).toList == (strOfNums l1).toList)
set_option maxHeartbeats 8000000 in
set_option maxRecDepth 100000 in
theorem mintagekeep_Same.calls (A0 : Option Addr) (c0 : Nat) (l0 : List Int) (A1 : Option Addr) (c1 : Nat) (l1 : List Int) (r : Bool) (w : World) (hr0 : Kd.C (Kd.int .u8) w A0 l0.length l0) (hc0 : l0.length ≤ c0) (hr1 : Kd.C (Kd.int .u8) w A1 l1.length l1) (hc1 : l1.length ≤ c1) (h : mintagekeep_Same.f l0 l1 = some r) :
    Calls Try.prog 14 #[.slice A0 l0.length c0, .slice A1 l1.length c1] w fun e w' => e = .returned (.bool r) ∧ Drawn0 w w' := by
  have HR0 := Aside0.mk hr0
  have HC0 := Aside0.mk hc0
  clear hr0 hc0
  have HR1 := Aside0.mk hr1
  have HC1 := Aside0.mk hc1
  clear hr1 hc1
  have H : (some ((strOfNums l0).toList == (strOfNums l1).toList)) = some r := h
  clear h
  obtain rfl := Option.some.inj H
  have hcv3 := Kd.C_string (P := Try.prog) (A := A0) (c := c0) Try.underlying29 Try.underlying5 Try.underlying9 HR0.out
  have hcv4 := Kd.C_string (P := Try.prog) (A := A1) (c := c1) Try.underlying29 Try.underlying5 Try.underlying9 HR1.out
  go_enter Try.func14, Try.ntmps14
  go_wp2
  go_ret
  exact ⟨by first | rfl | (simp; done) | (simp [*]; done), by repeat (first | exact Drawn0.refl _ | apply Drawn0.step)⟩

end Go.Proofs.Ytonlkffjpofpoaa.Q

namespace Go.Proofs.Ytonlkffjpofpoaa.Q
open Go.RowKit Go.Proofs.YtonlkffjpofpoaaW.PrintWords Go.Proofs.YtonlkffjpofpoaaW.PrintLast Go.Proofs.YtonlkffjpofpoaaW.PrintMore
attribute [local go_sem] max2_int min2_int max_two min_two max_three min_three max_four min_four   -- for this text's walks alone
set_option linter.unusedVariables false
set_option linter.unusedSimpArgs false

/-! ### mintagelaw04_num: function 16 -/
def mintagelaw04_num.f (a0 : Int) : Option (Int) := some a0
set_option maxHeartbeats 8000000 in
set_option maxRecDepth 100000 in
theorem mintagelaw04_num.calls (a0 : Int) (r : Int) (w : World) (h : mintagelaw04_num.f a0 = some r) :
    Calls Try.prog 16 #[.int .i64 a0] w fun e w' => e = .returned (.int .i64 r) ∧ Drawn0 w w' := by
  have H : (some a0) = some r := h
  clear h
  obtain rfl := Option.some.inj H
  go_enter Try.func16, Try.ntmps16
  go_wp2
  go_ret
  exact ⟨by first | rfl | (simp; done) | (simp [*]; done), by repeat (first | exact Drawn0.refl _ | apply Drawn0.step)⟩

end Go.Proofs.Ytonlkffjpofpoaa.Q

namespace Go.Proofs.Ytonlkffjpofpoaa.Q
open Go.RowKit Go.Proofs.YtonlkffjpofpoaaW.PrintWords Go.Proofs.YtonlkffjpofpoaaW.PrintLast Go.Proofs.YtonlkffjpofpoaaW.PrintMore
attribute [local go_sem] max2_int min2_int max_two min_two max_three min_three max_four min_four   -- for this text's walks alone
set_option linter.unusedVariables false
set_option linter.unusedSimpArgs false

/-! ### mintagelaw04_wakes: function 20 -/
section
def mintagelaw04_wakes.f : Option Bool := some true
theorem mintagelaw04_wakes.const_reads (W : World) (xs : List Int) (e : TypeId) (fr : Nat × Nat) (h : xs.length ≤ 1000) : ReadsInt (W.alloc (.cells (nums .u8 xs).toArray e fr)) .u8 (some ⟨W.heap.size, 0, none⟩) xs.length xs := by
  refine ⟨rfl, by omega, fun _ => ⟨_, rfl, fun j hj => ?_⟩⟩
  rw [add_plain, cell_of_row _ _ _ _ _ fr (heap_alloc_new W _)]
  simp [nums, hj, List.getD_eq_getElem?_getD]
theorem mintagelaw04_wakes.eight (A : Addr) (W : World) (h : ReadsInt W .u8 (some A) 8 [48, 48, 49, 50, 51, 52, 53, 54]) :
    Calls Try.prog 24 #[.slice (some A) 8 8] W fun e w' => e = .returned (.tuple #[.int .u64 123456, .bool true]) ∧ Below W.heap.size W w' :=
  digit_Eight.calls (some A) 8 [48, 48, 49, 50, 51, 52, 53, 54] 123456 true W (Kd.C_of_reads (d := (0 : Int)) (h1 := fun _ => rfl) h) (Nat.le_refl _) (by decide +kernel)
theorem mintagelaw04_wakes.text (W : World) : Calls Try.prog 8 #[.int .u64 9050] W fun e w' => ∃ v0_ : Value, e = .returned (v0_) ∧ Kd.R (Kd.int .u8) 5 w' W.heap.size (fun _ => True) v0_ [57, 48, 53, 48] ∧ Below W.heap.size W w' :=
  digit_Text.calls 20 9050 [57, 48, 53, 48] W (by decide +kernel)
set_option maxHeartbeats 1000000 in
theorem mintagelaw04_wakes.calls (r : Bool) (w : World) (h : mintagelaw04_wakes.f = some r) : Calls Try.prog 20 #[] w fun e w' => e = .returned (.bool r) ∧ Below w.heap.size w w' := by
  obtain rfl : true = r := by simpa [mintagelaw04_wakes.f] using h
  clear h
  have kc := fun (w : World) (C : Array Value) (n c : Nat) => Lib.run_convert_bytes_const (P := Try.prog) w 29 5 C n c Try.underlying29 Try.underlying5
  go_enter Try.func20, Try.ntmps20
  go_wp2_with (first | (go_at_call 24; refine (mintagelaw04_wakes.eight _ _ (mintagelaw04_wakes.const_reads w [48, 48, 49, 50, 51, 52, 53, 54] 5 (8, 9) (by simp))).mono ?_; rintro e w1 ⟨rfl, hb⟩; have hB := Aside0.mk hb; clear hb) | (go_at_call 8; refine (mintagelaw04_wakes.text _).mono ?_; rintro e w2 ⟨v, rfl, ho, hb2⟩; have hB2 := Aside0.mk hb2; clear hb2; have hs := own_string (P := Try.prog) Try.underlying29 Try.underlying5 Try.underlying9 (Kd.own_of_R ho)))
  have hf : ((strOfNums [57, 48, 53, 48]).toList == [57, 48, 53, 48]) = true := by decide +kernel
  rw [hf]
  go_ret
  exact ⟨rfl, below_step (below_step ((Below.refl _ _).alloc (Nat.le_refl _) _) hB.out) hB2.out⟩

end

end Go.Proofs.Ytonlkffjpofpoaa.Q
