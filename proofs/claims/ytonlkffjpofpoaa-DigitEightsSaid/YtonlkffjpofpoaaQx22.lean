-- PRINTED by print.py (a twelfth state) out of the translation. Not trusted: Lean checks it.
import Derived.Test.YtonlkffjpofpoaaQx0
import Derived.Test.YtonlkffjpofpoaaQx8
import Derived.Test.YtonlkffjpofpoaaQx21
namespace Go.Proofs.Ytonlkffjpofpoaa.Q
open Go.RowKit Go.Proofs.YtonlkffjpofpoaaW.PrintWords Go.Proofs.YtonlkffjpofpoaaW.PrintLast Go.Proofs.YtonlkffjpofpoaaW.PrintMore
attribute [local go_sem] max2_int min2_int max_two min_two max_three min_three max_four min_four   -- for this text's walks alone
set_option linter.unusedVariables false
set_option linter.unusedSimpArgs false

/-! ### digit_Value: function 26 -/
mutual
def digit_Value.j0 : Nat → List Int → Bool → Option (Int × Int)
  | 0, _, _ => none
  | k + 1, x0, x17 => if x17 = true then (some (0, 41)) else (digit_Value.l0 k x0)
def digit_Value.j2 : Nat → List Int → Option (Int × Int)
  | 0, _ => none
  | k + 1, x0 => if (x0.length : Int) > 20 then (some (0, 40)) else (digit_Value.l1 k x0 0)
def digit_Value.l1 : Nat → List Int → Int → Option (Int × Int)
  | 0, _, _ => none
  | k + 1, x0, x4 => if (x0.length : Int) > 0 then ((digit_Eight.f x0).bind fun bt276 => (if bt276.2 = true then (digit_Value.j4 k x0 x4 bt276.1 (decide (x4 < 10000000000))) else (digit_Value.j4 k x0 x4 bt276.1 false))) else (some (x4, 0))
def digit_Value.j4 : Nat → List Int → Int → Int → Bool → Option (Int × Int)
  | 0, _, _, _, _ => none
  | k + 1, x0, x4, x5, x44 => if x44 = true then (if 8 ≤ (x0.length : Int) then (digit_Value.l1 k (x0.drop 8) (IntKind.u64.wrap ((IntKind.u64.wrap (x4 * 100000000)) + x5))) else (none)) else (if 0 < (x0.length : Int) then (if x4 > ((18446744073709551615 - (((rd x0 0) - 48) % 256)) / 10) then (some (0, 40)) else (if 1 ≤ (x0.length : Int) then (digit_Value.l1 k (x0.drop 1) (IntKind.u64.wrap ((IntKind.u64.wrap (10 * x4)) + (((rd x0 0) - 48) % 256)))) else (none))) else (none))
def digit_Value.l0 : Nat → List Int → Option (Int × Int)
  | 0, _ => none
  | k + 1, x0 => if (x0.length : Int) > 0 then (if 0 < (x0.length : Int) then (if (rd x0 0) = 48 then (if 1 ≤ (x0.length : Int) then (digit_Value.l0 k (x0.drop 1)) else (none)) else (digit_Value.j2 k x0)) else (none)) else (digit_Value.j2 k x0)
end
def digit_Value.f (k : Nat) (l0 : List Int) : Option (Int × Int) := if (l0.length : Int) = 0 then (digit_Value.j0 k l0 true) else ((digit_Run.f k l0 0).bind fun t269 => (digit_Value.j0 k l0 (decide (t269 < (l0.length : Int)))))
theorem digit_Value.mono_l : ∀ k, (∀ y0 y1, LeO (digit_Value.j0 k y0 y1) (digit_Value.j0 (k + 1) y0 y1)) ∧ (∀ y0, LeO (digit_Value.j2 k y0) (digit_Value.j2 (k + 1) y0)) ∧ (∀ y0 y1, LeO (digit_Value.l1 k y0 y1) (digit_Value.l1 (k + 1) y0 y1)) ∧ (∀ y0 y1 y2 y3, LeO (digit_Value.j4 k y0 y1 y2 y3) (digit_Value.j4 (k + 1) y0 y1 y2 y3)) ∧ (∀ y0, LeO (digit_Value.l0 k y0) (digit_Value.l0 (k + 1) y0))
  | 0 => ⟨fun _ _ r h => by simp [digit_Value.j0] at h, fun _ r h => by simp [digit_Value.j2] at h, fun _ _ r h => by simp [digit_Value.l1] at h, fun _ _ _ _ r h => by simp [digit_Value.j4] at h, fun _ r h => by simp [digit_Value.l0] at h⟩
  | k + 1 => by
    obtain ⟨ih0, ih1, ih2, ih3, ih4⟩ := digit_Value.mono_l k
    refine ⟨?_, ?_, ?_, ?_, ?_⟩
    · intro y0 y1
      unfold digit_Value.j0
      repeat' first
      | (with_reducible exact ih0 _ _)
      | (with_reducible exact ih1 _)
      | (with_reducible exact ih2 _ _)
      | (with_reducible exact ih3 _ _ _ _)
      | (with_reducible exact ih4 _)
      | (with_reducible exact digit_Run.mono _ _ _)
      | (with_reducible exact LeO.refl _)
      | (with_reducible exact LeO.none _)
      | (with_reducible refine LeO.ite ?_ ?_)
      | (with_reducible refine LeO.bind ?_ (fun _ => ?_))
      | exact ih0 _ _
      | exact ih1 _
      | exact ih2 _ _
      | exact ih3 _ _ _ _
      | exact ih4 _
      | exact digit_Run.mono _ _ _
      | exact LeO.none _
      | refine LeO.ite ?_ ?_
      | refine LeO.bind ?_ (fun _ => ?_)
    · intro y0
      unfold digit_Value.j2
      repeat' first
      | (with_reducible exact ih0 _ _)
      | (with_reducible exact ih1 _)
      | (with_reducible exact ih2 _ _)
      | (with_reducible exact ih3 _ _ _ _)
      | (with_reducible exact ih4 _)
      | (with_reducible exact digit_Run.mono _ _ _)
      | (with_reducible exact LeO.refl _)
      | (with_reducible exact LeO.none _)
      | (with_reducible refine LeO.ite ?_ ?_)
      | (with_reducible refine LeO.bind ?_ (fun _ => ?_))
      | exact ih0 _ _
      | exact ih1 _
      | exact ih2 _ _
      | exact ih3 _ _ _ _
      | exact ih4 _
      | exact digit_Run.mono _ _ _
      | exact LeO.none _
      | refine LeO.ite ?_ ?_
      | refine LeO.bind ?_ (fun _ => ?_)
    · intro y0 y1
      unfold digit_Value.l1
      repeat' first
      | (with_reducible exact ih0 _ _)
      | (with_reducible exact ih1 _)
      | (with_reducible exact ih2 _ _)
      | (with_reducible exact ih3 _ _ _ _)
      | (with_reducible exact ih4 _)
      | (with_reducible exact digit_Run.mono _ _ _)
      | (with_reducible exact LeO.refl _)
      | (with_reducible exact LeO.none _)
      | (with_reducible refine LeO.ite ?_ ?_)
      | (with_reducible refine LeO.bind ?_ (fun _ => ?_))
      | exact ih0 _ _
      | exact ih1 _
      | exact ih2 _ _
      | exact ih3 _ _ _ _
      | exact ih4 _
      | exact digit_Run.mono _ _ _
      | exact LeO.none _
      | refine LeO.ite ?_ ?_
      | refine LeO.bind ?_ (fun _ => ?_)
    · intro y0 y1 y2 y3
      unfold digit_Value.j4
      repeat' first
      | (with_reducible exact ih0 _ _)
      | (with_reducible exact ih1 _)
      | (with_reducible exact ih2 _ _)
      | (with_reducible exact ih3 _ _ _ _)
      | (with_reducible exact ih4 _)
      | (with_reducible exact digit_Run.mono _ _ _)
      | (with_reducible exact LeO.refl _)
      | (with_reducible exact LeO.none _)
      | (with_reducible refine LeO.ite ?_ ?_)
      | (with_reducible refine LeO.bind ?_ (fun _ => ?_))
      | exact ih0 _ _
      | exact ih1 _
      | exact ih2 _ _
      | exact ih3 _ _ _ _
      | exact ih4 _
      | exact digit_Run.mono _ _ _
      | exact LeO.none _
      | refine LeO.ite ?_ ?_
      | refine LeO.bind ?_ (fun _ => ?_)
    · intro y0
      unfold digit_Value.l0
      repeat' first
      | (with_reducible exact ih0 _ _)
      | (with_reducible exact ih1 _)
      | (with_reducible exact ih2 _ _)
      | (with_reducible exact ih3 _ _ _ _)
      | (with_reducible exact ih4 _)
      | (with_reducible exact digit_Run.mono _ _ _)
      | (with_reducible exact LeO.refl _)
      | (with_reducible exact LeO.none _)
      | (with_reducible refine LeO.ite ?_ ?_)
      | (with_reducible refine LeO.bind ?_ (fun _ => ?_))
      | exact ih0 _ _
      | exact ih1 _
      | exact ih2 _ _
      | exact ih3 _ _ _ _
      | exact ih4 _
      | exact digit_Run.mono _ _ _
      | exact LeO.none _
      | refine LeO.ite ?_ ?_
      | refine LeO.bind ?_ (fun _ => ?_)
theorem digit_Value.mono : ∀ a0 k, LeO (digit_Value.f k a0) (digit_Value.f (k + 1) a0) := by
  intro a0 k
  obtain ⟨ih0, ih1, ih2, ih3, ih4⟩ := digit_Value.mono_l k
  unfold digit_Value.f
  repeat' first
      | (with_reducible exact ih0 _ _)
      | (with_reducible exact ih1 _)
      | (with_reducible exact ih2 _ _)
      | (with_reducible exact ih3 _ _ _ _)
      | (with_reducible exact ih4 _)
      | (with_reducible exact digit_Run.mono _ _ _)
      | (with_reducible exact LeO.refl _)
      | (with_reducible exact LeO.none _)
      | (with_reducible refine LeO.ite ?_ ?_)
      | (with_reducible refine LeO.bind ?_ (fun _ => ?_))
      | exact ih0 _ _
      | exact ih1 _
      | exact ih2 _ _
      | exact ih3 _ _ _ _
      | exact ih4 _
      | exact digit_Run.mono _ _ _
      | exact LeO.none _
      | refine LeO.ite ?_ ?_
      | refine LeO.bind ?_ (fun _ => ?_)
set_option maxHeartbeats 8000000 in
set_option maxRecDepth 100000 in
theorem digit_Value.calls (k : Nat) (P0_ : Nat → Prop) (A0 : Option Addr) (c0 : Nat) (l0 : List Int) (r1 : Int) (r2 : Int) (w : World) (hs0 : Kd.V (Kd.int .u8) 5 w w.heap.size (fun k_ => P0_ k_) (.slice A0 l0.length c0) l0) (h : digit_Value.f k l0 = some (r1, r2)) :
    Calls Try.prog 26 #[.slice A0 l0.length c0] w fun e w' => e = .returned (.tuple #[.int .u64 r1, .int .i64 r2]) ∧ Below w.heap.size w w' := by
  have HO0 := Aside0.mk (show Kd.V (Kd.int .u8) 5 w w.heap.size (fun k_ => (P0_ k_ ∨ w.heap.size ≤ k_)) (.slice A0 l0.length c0) l0 from Kd.V_mono hs0 (fun k_ hk => .inl hk))
  have HB := Aside0.mk (Below.refl w.heap.size w)
  have H : (if (l0.length : Int) = 0 then (digit_Value.j0 k l0 true) else ((digit_Run.f k l0 0).bind fun t269 => (digit_Value.j0 k l0 (decide (t269 < (l0.length : Int)))))) = some (r1, r2) := h
  clear h
  have HC2 := Aside0.mk H
  clear H
  go_enter Try.func26, Try.ntmps26
  go_upto_region 1 with (fail)
  go_cut [17] (fun v17 wc => ∃ (kq : Nat) (x17_1 : Bool), v17 = .bool x17_1 ∧ Aside0 (digit_Value.j0 kq l0 x17_1 = some (r1, r2)) ∧ Aside0 (kq ≤ k) ∧ Aside0 (Kd.V (Kd.int .u8) 5 wc w.heap.size (fun k_ => (P0_ k_ ∨ w.heap.size ≤ k_)) (.slice A0 l0.length c0) l0) ∧ Aside0 (Below w.heap.size w wc))
  case first =>
    have H := HC2.out
    clear HC2
    by_cases c3 : (l0.length : Int) = 0
    · rw [if_pos c3] at H
      have c3b0 : ((l0.length : Int) == 0) = true := beq_iff_eq.mpr c3
      have c3b1 : ((l0.length : Int) != 0) = false := bne_eq_false_iff_eq.mpr c3
      clear c3
      (first | rw [c3b0] | (simp only [i64_w, i32_w]; rw [c3b0]) | skip)
      have H' := Aside0.mk H
      clear H
      go_wp2
      go_meet
      case rel => exact ⟨_, (true), (by first | rfl | (simp; done) | (simp [*]; done)), H', ⟨by first | omega | exact Nat.le_refl _⟩, ⟨by (with_reducible repeat (first | apply Kd.V_alloc | apply Kd.V_drewN | apply Kd.V_drew)); exact HO0.out⟩, ⟨by repeat (first | (with_reducible first | exact HB.out | apply below_alloc | apply pw_below_drewN | apply below_drew1) | exact HB.out)⟩⟩
    · rw [if_neg c3] at H
      have c3b0 : ((l0.length : Int) == 0) = false := beq_eq_false_iff_ne.mpr c3
      have c3b1 : ((l0.length : Int) != 0) = true := bne_iff_ne.mpr c3
      have c3b2 : ¬ (l0 = []) := fun h_ => c3 (by rw [h_]; rfl)
      (first | rw [c3b0] | (simp only [i64_w, i32_w]; rw [c3b0]) | skip)
      replace H := Option.bind_eq_some_iff.mp H
      obtain ⟨t269, A40, H⟩ := H
      replace H : (digit_Value.j0 k l0 (decide (t269 < (l0.length : Int)))) = some (r1, r2) := H
      have A4 := Aside0.mk A40
      clear A40
      have H' := Aside0.mk H
      clear H
      go_wp2_with (first | (go_at_call 28; (with_reducible refine (digit_Run.calls k _ _ l0 0 t269 _ ?side1 ?side2 A4.out).mono ?_); (case side1 => repeat (first | exact (Kd.V_reads' HO0.out).2.2 | (with_reducible refine Kd.C_alloc ?_ _) | (with_reducible refine Kd.C_drewN ?_ _) | (with_reducible refine Kd.C_drew ?_))); (case side2 => exact (Kd.V_reads' HO0.out).2.1); rintro e w' ⟨rfl, ⟨nd, rfl⟩⟩))
      go_meet
      case rel => exact ⟨_, (decide (t269 < (l0.length : Int))), (by first | rfl | (simp; done) | (simp [*]; done)), H', ⟨by first | omega | exact Nat.le_refl _⟩, ⟨by (with_reducible repeat (first | apply Kd.V_alloc | apply Kd.V_drewN | apply Kd.V_drew)); exact HO0.out⟩, ⟨by repeat (first | (with_reducible first | exact HB.out | apply below_alloc | apply pw_below_drewN | apply below_drew1) | exact HB.out)⟩⟩
  case rest =>
    clear HC2
    try clear c2
    try clear p2
    try clear c3
    try clear c3b0
    try clear c3b1
    try clear c3b2
    obtain ⟨kq, x17_1, rfl, HA, HJ1, HO_0, HB⟩ := hcut
    cases kq with
    | zero => exact absurd HA.out (by simp [digit_Value.j0])
    | succ kj1 =>
      have H := HA.out
      clear HA
      simp only [digit_Value.j0] at H
      by_cases c5 : x17_1 = true
      · subst c5
        have H1 : (some (0, 41)) = some (r1, r2) := by rw [if_pos rfl] at H; exact H
        clear H
        have H := H1
        clear H1
        simp only [Option.some.injEq, Prod.mk.injEq] at H
        obtain ⟨rfl, rfl⟩ := H
        go_wp2
        go_ret2
        exact ⟨by first | rfl | (simp [errW_none, errW_some] <;> rfl) | (simp [*, errW_none, errW_some] <;> rfl), by repeat (first | (with_reducible first | exact HB.out | apply below_alloc | apply pw_below_drewN | apply below_drew1) | exact HB.out)⟩
      · replace c5 := Bool.eq_false_iff.mpr c5
        subst c5
        have H1 : (digit_Value.l0 kj1 l0) = some (r1, r2) := by rw [if_neg (show ¬ (false = true) by decide)] at H; exact H
        clear H
        have H := H1
        clear H1
        have HC6 := Aside0.mk H
        clear H
        go_upto_block 0 with (fail)
        go_cut [0] (fun v0 wc => ∃ (kq : Nat) (x0_5 : List Int), Aside0 (digit_Value.j2 kq x0_5 = some (r1, r2)) ∧ Aside0 (kq ≤ kj1) ∧ Aside0 (Kd.V (Kd.int .u8) 5 wc w.heap.size (fun k_ => (P0_ k_ ∨ w.heap.size ≤ k_)) v0 x0_5) ∧ Aside0 (Below w.heap.size w wc))
        case first =>
          have H := HC6.out
          clear HC6
          have H' := Aside0.mk H
          clear H
          go_wp2
          go_loopg [0] kj1 (fun kq v0 w' => ∃ (x0_2 : List Int), Aside0 (digit_Value.l0 kq x0_2 = some (r1, r2)) ∧ Aside0 (kq ≤ kj1) ∧ Aside0 (Kd.V (Kd.int .u8) 5 w' w.heap.size (fun k_ => (P0_ k_ ∨ w.heap.size ≤ k_)) v0 x0_2) ∧ Aside0 (Below w.heap.size w w'))
          case atStart => exact ⟨(l0), H', ⟨Nat.le_refl _⟩, ⟨by (with_reducible repeat (first | apply Kd.V_alloc | apply Kd.V_drewN | apply Kd.V_drew)); exact HO_0.out⟩, ⟨by repeat (first | (with_reducible first | exact HB.out | apply below_alloc | apply pw_below_drewN | apply below_drew1) | exact HB.out)⟩⟩
          case round =>
            clear H'
            try clear c2
            try clear p2
            try clear c3
            try clear c3b0
            try clear c3b1
            try clear c3b2
            try clear c5
            try clear p2
            obtain ⟨x0_2, HA, HK2, HO_0, HB⟩ := hrel
            cases gk with
            | zero => exact absurd HA.out (by simp [digit_Value.l0])
            | succ k2 =>
              have H := HA.out
              clear HA
              simp only [digit_Value.l0] at H
              by_cases c7 : (x0_2.length : Int) > 0
              · rw [if_pos c7] at H
                have c7b0 : decide (0 < (x0_2.length : Int)) = true := decide_eq_true c7
                have c7b1 : decide (0 < x0_2.length) = true := decide_eq_true (by omega)
                clear c7
                (first | rw [c7b0] | (simp only [i64_w, i32_w]; rw [c7b0]) | skip)
                by_cases c8 : 0 < (x0_2.length : Int)
                · rw [if_pos c8] at H
                  have c8b0 : decide (0 < (x0_2.length : Int)) = true := decide_eq_true c8
                  have c8b1 : decide (0 < x0_2.length) = true := decide_eq_true (by omega)
                  clear c8
                  by_cases c9 : (rd x0_2 0) = 48
                  · rw [if_pos c9] at H
                    have c9b0 : ((rd x0_2 0) == 48) = true := beq_iff_eq.mpr c9
                    have c9b1 : ((rd x0_2 0) != 48) = false := bne_eq_false_iff_eq.mpr c9
                    clear c9
                    by_cases c10 : 1 ≤ (x0_2.length : Int)
                    · rw [if_pos c10] at H
                      have c10b0 := eq_true c10
                      have c10b1 : decide (1 ≤ (x0_2.length : Int)) = true := decide_eq_true c10
                      clear c10
                      obtain ⟨y271, hy271⟩ : ∃ y_ : List Int, y_ = (x0_2.drop 1) := ⟨_, rfl⟩
                      replace H : (digit_Value.l0 k2 y271) = some (r1, r2) := by first | (rw [hy271]; with_reducible exact H) | (have H2_ := (Option.bind_some _ _).symm.trans H; rw [hy271]; with_reducible exact H2_) | (have H2_ := (Option.bind_some _ _).symm.trans H; with_reducible exact H2_) | with_reducible exact H | (rw [hy271]; exact H) | exact H
                      have Ny271 := Aside0.mk hy271
                      clear hy271
                      have H' := Aside0.mk H
                      clear H
                      obtain ⟨Ao11, co11, eo11⟩ := Kd.V_slice HO_0.out
                      subst eo11
                      have p270 : 0 ≤ (0 : Int) := (by omega)
                      have q270 : 0 < (x0_2.length : Int) := of_decide_eq_true (by first | (with_reducible assumption) | assumption)
                      obtain ⟨ad270, e270, hx270_0⟩ := Kd.at_int (Kd.V_reads' HO_0.out).2.2 0 p270 q270
                      cases e270
                      have qi270 : (0 < x0_2.length) = True := eq_true (by omega)
                      (try rw [show ((0 : Int)).toNat = 0 from rfl] at hx270_0)
                      (try rw [Addr.add_zero'] at hx270_0)
                      replace p270 := eq_true p270
                      replace q270 := eq_true q270
                      (try (have qd270 := q270; simp only [List.length_drop] at qd270))
                      have q12 : (1 : Int) ≤ ((x0_2.length : Int) : Int) := of_decide_eq_true (by first | (with_reducible assumption) | assumption)
                      obtain ⟨i012, hi012, _, hsz12, _⟩ := info_parts info5
                      have hroom12 : x0_2.length ≤ co11 := (Kd.V_reads' HO_0.out).2.1
                      have hC12 : Kd.F (Kd.int .u8) _ _ (some ad270) x0_2.length x0_2 := (Kd.V_at (base := w.heap.size) HO_0.out).2.2
                      have hcut12 := cut_from (P := Try.prog) 29 5 .i64 Try.underlying29 hi012 1 hsz12 (some ad270) x0_2.length co11 1 (by omega) q12
                      have hr12 := Kd.F_cut (m := (1 : Int).toNat) (c := co11) hC12 (by omega) hroom12
                      obtain ⟨A12, hA12⟩ : ∃ A1, A1 = (if co11 = (1 : Int).toNat then (some ad270) else ((some ad270) : Option Addr).map (·.add ((1 : Int).toNat * 1))) := ⟨_, rfl⟩
                      obtain ⟨c12, hc12⟩ : ∃ c1, c1 = co11 - (1 : Int).toNat := ⟨_, rfl⟩
                      have hy12 : y271.length = x0_2.length - (1 : Int).toNat := (by rw [Ny271.out, List.length_drop] <;> omega)
                      rw [show (x0_2).drop (1 : Int).toNat = y271 from Ny271.out.symm] at hr12
                      replace hr12 : Kd.F (Kd.int .u8) _ _ A12 y271.length y271 := (by rw [hA12]; exact hr12)
                      rw [← hy12, ← hA12, ← hc12] at hcut12
                      have HO275 := Aside0.mk (show Kd.V (Kd.int .u8) 5 _ w.heap.size _ (.slice A12 y271.length c12) y271 from Kd.V_mk (by rw [hy12, hc12]; exact Nat.sub_le_sub_right hroom12 _) hr12)
                      have HC275 := Aside0.mk (show y271.length ≤ c12 from by rw [hy12, hc12]; exact Nat.sub_le_sub_right hroom12 _)
                      clear hr12 hC12 hroom12 hi012 hsz12 hc12
                      have KY12 := Aside0.mk hy12
                      have KA12 := Aside0.mk hA12
                      clear hy12 hA12
                      replace q12 := eq_true q12
                      (try (have qd12 := q12; simp only [List.length_drop] at qd12))
                      go_wp2
                      go_roundg k2
                      case measure => have := HJ1.out; have := HK2.out; omega
                      case rel => exact ⟨(y271), H', ⟨by have := HJ1.out; have := HK2.out; omega⟩, ⟨by (with_reducible repeat (first | apply Kd.V_alloc | apply Kd.V_drewN | apply Kd.V_drew)); exact HO275.out⟩, ⟨by repeat (first | (with_reducible first | exact HB.out | apply below_alloc | apply pw_below_drewN | apply below_drew1) | exact HB.out)⟩⟩
                    · rw [if_neg c10] at H
                      exact absurd H (by simp)
                  · rw [if_neg c9] at H
                    have c9b0 : ((rd x0_2 0) == 48) = false := beq_eq_false_iff_ne.mpr c9
                    have c9b1 : ((rd x0_2 0) != 48) = true := bne_iff_ne.mpr c9
                    have H' := Aside0.mk H
                    clear H
                    obtain ⟨Ao13, co13, eo13⟩ := Kd.V_slice HO_0.out
                    subst eo13
                    have p270 : 0 ≤ (0 : Int) := (by omega)
                    have q270 : 0 < (x0_2.length : Int) := of_decide_eq_true (by first | (with_reducible assumption) | assumption)
                    obtain ⟨ad270, e270, hx270_0⟩ := Kd.at_int (Kd.V_reads' HO_0.out).2.2 0 p270 q270
                    cases e270
                    have qi270 : (0 < x0_2.length) = True := eq_true (by omega)
                    (try rw [show ((0 : Int)).toNat = 0 from rfl] at hx270_0)
                    (try rw [Addr.add_zero'] at hx270_0)
                    replace p270 := eq_true p270
                    replace q270 := eq_true q270
                    (try (have qd270 := q270; simp only [List.length_drop] at qd270))
                    go_wp2
                    go_meet
                    case rel => exact ⟨_, (x0_2), H', ⟨by have := HJ1.out; have := HK2.out; first | omega | exact Nat.le_refl _⟩, ⟨by (with_reducible repeat (first | apply Kd.V_alloc | apply Kd.V_drewN | apply Kd.V_drew)); exact HO_0.out⟩, ⟨by repeat (first | (with_reducible first | exact HB.out | apply below_alloc | apply pw_below_drewN | apply below_drew1) | exact HB.out)⟩⟩
                · rw [if_neg c8] at H
                  exact absurd H (by simp)
              · rw [if_neg c7] at H
                have c7b0 : decide (0 < (x0_2.length : Int)) = false := decide_eq_false c7
                have c7b1 : decide (0 < x0_2.length) = false := decide_eq_false (by omega)
                clear c7
                (first | rw [c7b0] | (simp only [i64_w, i32_w]; rw [c7b0]) | skip)
                have H' := Aside0.mk H
                clear H
                obtain ⟨Ao14, co14, eo14⟩ := Kd.V_slice HO_0.out
                subst eo14
                go_wp2
                go_meet
                case rel => exact ⟨_, (x0_2), H', ⟨by have := HJ1.out; have := HK2.out; first | omega | exact Nat.le_refl _⟩, ⟨by (with_reducible repeat (first | apply Kd.V_alloc | apply Kd.V_drewN | apply Kd.V_drew)); exact HO_0.out⟩, ⟨by repeat (first | (with_reducible first | exact HB.out | apply below_alloc | apply pw_below_drewN | apply below_drew1) | exact HB.out)⟩⟩
        case rest =>
          clear HC6
          try clear c1
          try clear q1
          try clear c2
          try clear p2
          try clear q2
          try clear hx2
          try clear qi2
          try clear c3
          try clear c3b0
          try clear c3b1
          try clear c3b2
          try clear c5
          try clear c7
          try clear c7b0
          try clear c7b1
          try clear c8
          try clear c8b0
          try clear c8b1
          try clear c9
          try clear c9b0
          try clear c9b1
          try clear c10
          try clear c10b0
          try clear c10b1
          try clear c12
          try clear q12
          try clear hx270_0
          try clear p2
          try clear p270
          try clear q12
          try clear q270
          obtain ⟨kq, x0_5, HA, HJ5, HO_0, HB⟩ := hcut
          cases kq with
          | zero => exact absurd HA.out (by simp [digit_Value.j2])
          | succ kj5 =>
            have H := HA.out
            clear HA
            simp only [digit_Value.j2] at H
            by_cases c15 : (x0_5.length : Int) > 20
            · rw [if_pos c15] at H
              have c15b0 : decide (20 < (x0_5.length : Int)) = true := decide_eq_true c15
              have c15b1 : decide (20 < x0_5.length) = true := decide_eq_true (by omega)
              clear c15
              simp only [Option.some.injEq, Prod.mk.injEq] at H
              obtain ⟨rfl, rfl⟩ := H
              obtain ⟨Ao16, co16, eo16⟩ := Kd.V_slice HO_0.out
              subst eo16
              go_wp2
              go_ret2
              exact ⟨by first | rfl | (simp [errW_none, errW_some] <;> rfl) | (simp [*, errW_none, errW_some] <;> rfl), by repeat (first | (with_reducible first | exact HB.out | apply below_alloc | apply pw_below_drewN | apply below_drew1) | exact HB.out)⟩
            · rw [if_neg c15] at H
              have c15b0 : decide (20 < (x0_5.length : Int)) = false := decide_eq_false c15
              have c15b1 : decide (20 < x0_5.length) = false := decide_eq_false (by omega)
              clear c15
              have H' := Aside0.mk H
              clear H
              obtain ⟨Ao17, co17, eo17⟩ := Kd.V_slice HO_0.out
              subst eo17
              go_wp2
              go_loopg [0, 4] kj5 (fun kq v0 v4 w' => ∃ (x0_3 : List Int) (x4_3 : Int), v4 = .int .u64 x4_3 ∧ Aside0 (digit_Value.l1 kq x0_3 x4_3 = some (r1, r2)) ∧ Aside0 (kq ≤ kj5) ∧ Aside0 (Kd.V (Kd.int .u8) 5 w' w.heap.size (fun k_ => (P0_ k_ ∨ w.heap.size ≤ k_)) v0 x0_3) ∧ Aside0 (Below w.heap.size w w'))
              case atStart => exact ⟨(x0_5), (0), (by first | rfl | (simp; done) | (simp [*]; done)), H', ⟨Nat.le_refl _⟩, ⟨by (with_reducible repeat (first | apply Kd.V_alloc | apply Kd.V_drewN | apply Kd.V_drew)); exact HO_0.out⟩, ⟨by repeat (first | (with_reducible first | exact HB.out | apply below_alloc | apply pw_below_drewN | apply below_drew1) | exact HB.out)⟩⟩
              case round =>
                clear H'
                try clear c1
                try clear q1
                try clear c2
                try clear p2
                try clear q2
                try clear hx2
                try clear qi2
                try clear c3
                try clear c3b0
                try clear c3b1
                try clear c3b2
                try clear c5
                try clear c7
                try clear c7b0
                try clear c7b1
                try clear c8
                try clear c8b0
                try clear c8b1
                try clear c9
                try clear c9b0
                try clear c9b1
                try clear c10
                try clear c10b0
                try clear c10b1
                try clear c12
                try clear q12
                try clear c15
                try clear c15b0
                try clear c15b1
                try clear hx270_0
                try clear p2
                try clear p270
                try clear q1
                try clear q12
                try clear q2
                try clear q270
                obtain ⟨x0_3, x4_3, rfl, HA, HK3, HO_0, HB⟩ := hrel
                cases gk with
                | zero => exact absurd HA.out (by simp [digit_Value.l1])
                | succ k3 =>
                  have H := HA.out
                  clear HA
                  simp only [digit_Value.l1] at H
                  by_cases c18 : (x0_3.length : Int) > 0
                  · rw [if_pos c18] at H
                    have c18b0 : decide (0 < (x0_3.length : Int)) = true := decide_eq_true c18
                    have c18b1 : decide (0 < x0_3.length) = true := decide_eq_true (by omega)
                    clear c18
                    replace H := Option.bind_eq_some_iff.mp H
                    obtain ⟨⟨t276, t277⟩, A190, H⟩ := H
                    replace H : (if t277 = true then (digit_Value.j4 k3 x0_3 x4_3 t276 (decide (x4_3 < 10000000000))) else (digit_Value.j4 k3 x0_3 x4_3 t276 false)) = some (r1, r2) := H
                    have A19 := Aside0.mk A190
                    clear A190
                    have HC20 := Aside0.mk H
                    clear H
                    obtain ⟨Ao21, co21, eo21⟩ := Kd.V_slice HO_0.out
                    subst eo21
                    go_upto_region 10 with (first | ((with_reducible refine gate_callee (f := 24) rfl ?_); refine goesL_ (some 37) rfl rfl Try.func24 (by kernel_rfl) rfl #[.slice Ao21 x0_3.length co21] rfl (by (try simp only [List.map_toArray, List.map_cons, List.map_nil]); first | done | rfl | (simp only [List.length_drop, List.length_take]; rfl)) ?_; (with_reducible refine (digit_Eight.calls _ _ x0_3 t276 t277 _ ?side1 ?side2 A19.out).mono ?_); (case side1 => repeat (first | exact (Kd.V_reads' HO_0.out).2.2 | (with_reducible refine Kd.C_alloc ?_ _) | (with_reducible refine Kd.C_drewN ?_ _) | (with_reducible refine Kd.C_drew ?_))); (case side2 => exact (Kd.V_reads' HO_0.out).2.1); rintro e w22 ⟨rfl, hb⟩; refine ⟨_, rfl, ?_⟩; have n0_ := Aside0.mk (Kd.V_below (by (with_reducible repeat (first | apply Kd.V_alloc | apply Kd.V_drewN | apply Kd.V_drew)); exact HO_0.out) hb); have n1_ := Aside0.mk (below_step (by repeat (first | (with_reducible first | exact HB.out | apply below_alloc | apply pw_below_drewN | apply below_drew1) | exact HB.out)) hb); clear HO_0; clear HB; have HO_0 := n0_; have HB := n1_; clear n0_ n1_; (try clear hb); (try clear hb2); (try clear hk); (try clear hi)))
                    (try simp only [Act.put, List.setIfInBounds_toArray, List.set_cons_zero, List.set_cons_succ])
                    go_cut [44] (fun v44 wc => ∃ (kq : Nat) (x44_19 : Bool), v44 = .bool x44_19 ∧ Aside0 (digit_Value.j4 kq x0_3 x4_3 t276 x44_19 = some (r1, r2)) ∧ Aside0 (kq ≤ k3) ∧ Aside0 (Kd.V (Kd.int .u8) 5 wc w.heap.size (fun k_ => (P0_ k_ ∨ w.heap.size ≤ k_)) (.slice Ao21 x0_3.length co21) x0_3) ∧ Aside0 (Below w.heap.size w wc))
                    case first =>
                      have H := HC20.out
                      clear HC20
                      by_cases c23 : t277 = true
                      · subst c23
                        have H1 : (digit_Value.j4 k3 x0_3 x4_3 t276 (decide (x4_3 < 10000000000))) = some (r1, r2) := by rw [if_pos rfl] at H; exact H
                        clear H
                        have H := H1
                        clear H1
                        have H' := Aside0.mk H
                        clear H
                        go_wp2
                        go_meet
                        case rel => exact ⟨_, (decide (x4_3 < 10000000000)), (by first | rfl | (simp; done) | (simp [*]; done)), H', ⟨by have := HJ1.out; have := HJ5.out; have := HK3.out; first | omega | exact Nat.le_refl _⟩, ⟨by (with_reducible repeat (first | apply Kd.V_alloc | apply Kd.V_drewN | apply Kd.V_drew)); exact HO_0.out⟩, ⟨by repeat (first | (with_reducible first | exact HB.out | apply below_alloc | apply pw_below_drewN | apply below_drew1) | exact HB.out)⟩⟩
                      · replace c23 := Bool.eq_false_iff.mpr c23
                        subst c23
                        have H1 : (digit_Value.j4 k3 x0_3 x4_3 t276 false) = some (r1, r2) := by rw [if_neg (show ¬ (false = true) by decide)] at H; exact H
                        clear H
                        have H := H1
                        clear H1
                        have H' := Aside0.mk H
                        clear H
                        go_wp2
                        go_meet
                        case rel => exact ⟨_, (false), (by first | rfl | (simp; done) | (simp [*]; done)), H', ⟨by have := HJ1.out; have := HJ5.out; have := HK3.out; first | omega | exact Nat.le_refl _⟩, ⟨by (with_reducible repeat (first | apply Kd.V_alloc | apply Kd.V_drewN | apply Kd.V_drew)); exact HO_0.out⟩, ⟨by repeat (first | (with_reducible first | exact HB.out | apply below_alloc | apply pw_below_drewN | apply below_drew1) | exact HB.out)⟩⟩
                    case rest =>
                      clear HC20
                      try clear c1
                      try clear q1
                      try clear c2
                      try clear p2
                      try clear q2
                      try clear hx2
                      try clear qi2
                      try clear c3
                      try clear c3b0
                      try clear c3b1
                      try clear c3b2
                      try clear c5
                      try clear c7
                      try clear c7b0
                      try clear c7b1
                      try clear c8
                      try clear c8b0
                      try clear c8b1
                      try clear c9
                      try clear c9b0
                      try clear c9b1
                      try clear c10
                      try clear c10b0
                      try clear c10b1
                      try clear c12
                      try clear q12
                      try clear c15
                      try clear c15b0
                      try clear c15b1
                      try clear c18
                      try clear c18b0
                      try clear c18b1
                      try clear c23
                      try clear hx270_0
                      try clear p2
                      try clear p270
                      try clear q1
                      try clear q12
                      try clear q2
                      try clear q270
                      obtain ⟨kq, x44_19, rfl, HA, HJ19, HO_0, HB⟩ := hcut
                      cases kq with
                      | zero => exact absurd HA.out (by simp [digit_Value.j4])
                      | succ kj19 =>
                        have H := HA.out
                        clear HA
                        simp only [digit_Value.j4] at H
                        by_cases c24 : x44_19 = true
                        · subst c24
                          have H1 : (if 8 ≤ (x0_3.length : Int) then (digit_Value.l1 kj19 (x0_3.drop 8) (IntKind.u64.wrap ((IntKind.u64.wrap (x4_3 * 100000000)) + t276))) else (none)) = some (r1, r2) := by rw [if_pos rfl] at H; exact H
                          clear H
                          have H := H1
                          clear H1
                          by_cases c25 : 8 ≤ (x0_3.length : Int)
                          · rw [if_pos c25] at H
                            have c25b0 := eq_true c25
                            have c25b1 : decide (8 ≤ (x0_3.length : Int)) = true := decide_eq_true c25
                            clear c25
                            obtain ⟨y278, hy278⟩ : ∃ y_ : List Int, y_ = (x0_3.drop 8) := ⟨_, rfl⟩
                            replace H : (digit_Value.l1 kj19 y278 (IntKind.u64.wrap ((IntKind.u64.wrap (x4_3 * 100000000)) + t276))) = some (r1, r2) := by first | (rw [hy278]; with_reducible exact H) | (have H2_ := (Option.bind_some _ _).symm.trans H; rw [hy278]; with_reducible exact H2_) | (have H2_ := (Option.bind_some _ _).symm.trans H; with_reducible exact H2_) | with_reducible exact H | (rw [hy278]; exact H) | exact H
                            have Ny278 := Aside0.mk hy278
                            clear hy278
                            have H' := Aside0.mk H
                            clear H
                            have q26 : (8 : Int) ≤ ((x0_3.length : Int) : Int) := of_decide_eq_true (by first | (with_reducible assumption) | assumption)
                            obtain ⟨i026, hi026, _, hsz26, _⟩ := info_parts info5
                            have hroom26 : x0_3.length ≤ co21 := (Kd.V_reads' HO_0.out).2.1
                            have hC26 : Kd.F (Kd.int .u8) _ _ Ao21 x0_3.length x0_3 := (Kd.V_at (base := w.heap.size) HO_0.out).2.2
                            have hcut26 := cut_from (P := Try.prog) 29 5 .i64 Try.underlying29 hi026 1 hsz26 Ao21 x0_3.length co21 8 (by omega) q26
                            have hr26 := Kd.F_cut (m := (8 : Int).toNat) (c := co21) hC26 (by omega) hroom26
                            obtain ⟨A26, hA26⟩ : ∃ A1, A1 = (if co21 = (8 : Int).toNat then Ao21 else (Ao21 : Option Addr).map (·.add ((8 : Int).toNat * 1))) := ⟨_, rfl⟩
                            obtain ⟨c26, hc26⟩ : ∃ c1, c1 = co21 - (8 : Int).toNat := ⟨_, rfl⟩
                            have hy26 : y278.length = x0_3.length - (8 : Int).toNat := (by rw [Ny278.out, List.length_drop] <;> omega)
                            rw [show (x0_3).drop (8 : Int).toNat = y278 from Ny278.out.symm] at hr26
                            replace hr26 : Kd.F (Kd.int .u8) _ _ A26 y278.length y278 := (by rw [hA26]; exact hr26)
                            rw [← hy26, ← hA26, ← hc26] at hcut26
                            have HO282 := Aside0.mk (show Kd.V (Kd.int .u8) 5 _ w.heap.size _ (.slice A26 y278.length c26) y278 from Kd.V_mk (by rw [hy26, hc26]; exact Nat.sub_le_sub_right hroom26 _) hr26)
                            have HC282 := Aside0.mk (show y278.length ≤ c26 from by rw [hy26, hc26]; exact Nat.sub_le_sub_right hroom26 _)
                            clear hr26 hC26 hroom26 hi026 hsz26 hc26
                            have KY26 := Aside0.mk hy26
                            have KA26 := Aside0.mk hA26
                            clear hy26 hA26
                            replace q26 := eq_true q26
                            (try (have qd26 := q26; simp only [List.length_drop] at qd26))
                            go_wp2
                            go_roundg kj19
                            case measure => have := HJ1.out; have := HJ5.out; have := HK3.out; have := HJ19.out; omega
                            case rel => exact ⟨(y278), (IntKind.u64.wrap ((IntKind.u64.wrap (x4_3 * 100000000)) + t276)), (by first | rfl | (simp; done) | (simp [*]; done)), H', ⟨by have := HJ1.out; have := HJ5.out; have := HK3.out; have := HJ19.out; omega⟩, ⟨by (with_reducible repeat (first | apply Kd.V_alloc | apply Kd.V_drewN | apply Kd.V_drew)); exact HO282.out⟩, ⟨by repeat (first | (with_reducible first | exact HB.out | apply below_alloc | apply pw_below_drewN | apply below_drew1) | exact HB.out)⟩⟩
                          · rw [if_neg c25] at H
                            exact absurd H (by simp)
                        · replace c24 := Bool.eq_false_iff.mpr c24
                          subst c24
                          have H1 : (if 0 < (x0_3.length : Int) then (if x4_3 > ((18446744073709551615 - (((rd x0_3 0) - 48) % 256)) / 10) then (some (0, 40)) else (if 1 ≤ (x0_3.length : Int) then (digit_Value.l1 kj19 (x0_3.drop 1) (IntKind.u64.wrap ((IntKind.u64.wrap (10 * x4_3)) + (((rd x0_3 0) - 48) % 256)))) else (none))) else (none)) = some (r1, r2) := by rw [if_neg (show ¬ (false = true) by decide)] at H; exact H
                          clear H
                          have H := H1
                          clear H1
                          by_cases c27 : 0 < (x0_3.length : Int)
                          · rw [if_pos c27] at H
                            have c27b0 : decide (0 < (x0_3.length : Int)) = true := decide_eq_true c27
                            have c27b1 : decide (0 < x0_3.length) = true := decide_eq_true (by omega)
                            clear c27
                            by_cases c28 : x4_3 > ((18446744073709551615 - (((rd x0_3 0) - 48) % 256)) / 10)
                            · rw [if_pos c28] at H
                              have c28b0 : decide (((18446744073709551615 - (((rd x0_3 0) - 48) % 256)) / 10) < x4_3) = true := decide_eq_true c28
                              clear c28
                              simp only [Option.some.injEq, Prod.mk.injEq] at H
                              obtain ⟨rfl, rfl⟩ := H
                              have p283 : 0 ≤ (0 : Int) := (by omega)
                              have q283 : 0 < (x0_3.length : Int) := of_decide_eq_true (by first | (with_reducible assumption) | assumption)
                              obtain ⟨ad283, e283, hx283_0⟩ := Kd.at_int (Kd.V_reads' HO_0.out).2.2 0 p283 q283
                              cases e283
                              have qi283 : (0 < x0_3.length) = True := eq_true (by omega)
                              (try rw [show ((0 : Int)).toNat = 0 from rfl] at hx283_0)
                              (try rw [Addr.add_zero'] at hx283_0)
                              replace p283 := eq_true p283
                              replace q283 := eq_true q283
                              (try (have qd283 := q283; simp only [List.length_drop] at qd283))
                              go_wp2
                              go_ret2
                              exact ⟨by first | rfl | (simp [errW_none, errW_some] <;> rfl) | (simp [*, errW_none, errW_some] <;> rfl), by repeat (first | (with_reducible first | exact HB.out | apply below_alloc | apply pw_below_drewN | apply below_drew1) | exact HB.out)⟩
                            · rw [if_neg c28] at H
                              have c28b0 : decide (((18446744073709551615 - (((rd x0_3 0) - 48) % 256)) / 10) < x4_3) = false := decide_eq_false c28
                              clear c28
                              by_cases c29 : 1 ≤ (x0_3.length : Int)
                              · rw [if_pos c29] at H
                                have c29b0 := eq_true c29
                                have c29b1 : decide (1 ≤ (x0_3.length : Int)) = true := decide_eq_true c29
                                clear c29
                                obtain ⟨y284, hy284⟩ : ∃ y_ : List Int, y_ = (x0_3.drop 1) := ⟨_, rfl⟩
                                replace H : (digit_Value.l1 kj19 y284 (IntKind.u64.wrap ((IntKind.u64.wrap (10 * x4_3)) + (((rd x0_3 0) - 48) % 256)))) = some (r1, r2) := by first | (rw [hy284]; with_reducible exact H) | (have H2_ := (Option.bind_some _ _).symm.trans H; rw [hy284]; with_reducible exact H2_) | (have H2_ := (Option.bind_some _ _).symm.trans H; with_reducible exact H2_) | with_reducible exact H | (rw [hy284]; exact H) | exact H
                                have Ny284 := Aside0.mk hy284
                                clear hy284
                                have H' := Aside0.mk H
                                clear H
                                have p283 : 0 ≤ (0 : Int) := (by omega)
                                have q283 : 0 < (x0_3.length : Int) := of_decide_eq_true (by first | (with_reducible assumption) | assumption)
                                obtain ⟨ad283, e283, hx283_0⟩ := Kd.at_int (Kd.V_reads' HO_0.out).2.2 0 p283 q283
                                cases e283
                                have qi283 : (0 < x0_3.length) = True := eq_true (by omega)
                                (try rw [show ((0 : Int)).toNat = 0 from rfl] at hx283_0)
                                (try rw [Addr.add_zero'] at hx283_0)
                                replace p283 := eq_true p283
                                replace q283 := eq_true q283
                                (try (have qd283 := q283; simp only [List.length_drop] at qd283))
                                have q30 : (1 : Int) ≤ ((x0_3.length : Int) : Int) := of_decide_eq_true (by first | (with_reducible assumption) | assumption)
                                obtain ⟨i030, hi030, _, hsz30, _⟩ := info_parts info5
                                have hroom30 : x0_3.length ≤ co21 := (Kd.V_reads' HO_0.out).2.1
                                have hC30 : Kd.F (Kd.int .u8) _ _ (some ad283) x0_3.length x0_3 := (Kd.V_at (base := w.heap.size) HO_0.out).2.2
                                have hcut30 := cut_from (P := Try.prog) 29 5 .i64 Try.underlying29 hi030 1 hsz30 (some ad283) x0_3.length co21 1 (by omega) q30
                                have hr30 := Kd.F_cut (m := (1 : Int).toNat) (c := co21) hC30 (by omega) hroom30
                                obtain ⟨A30, hA30⟩ : ∃ A1, A1 = (if co21 = (1 : Int).toNat then (some ad283) else ((some ad283) : Option Addr).map (·.add ((1 : Int).toNat * 1))) := ⟨_, rfl⟩
                                obtain ⟨c30, hc30⟩ : ∃ c1, c1 = co21 - (1 : Int).toNat := ⟨_, rfl⟩
                                have hy30 : y284.length = x0_3.length - (1 : Int).toNat := (by rw [Ny284.out, List.length_drop] <;> omega)
                                rw [show (x0_3).drop (1 : Int).toNat = y284 from Ny284.out.symm] at hr30
                                replace hr30 : Kd.F (Kd.int .u8) _ _ A30 y284.length y284 := (by rw [hA30]; exact hr30)
                                rw [← hy30, ← hA30, ← hc30] at hcut30
                                have HO288 := Aside0.mk (show Kd.V (Kd.int .u8) 5 _ w.heap.size _ (.slice A30 y284.length c30) y284 from Kd.V_mk (by rw [hy30, hc30]; exact Nat.sub_le_sub_right hroom30 _) hr30)
                                have HC288 := Aside0.mk (show y284.length ≤ c30 from by rw [hy30, hc30]; exact Nat.sub_le_sub_right hroom30 _)
                                clear hr30 hC30 hroom30 hi030 hsz30 hc30
                                have KY30 := Aside0.mk hy30
                                have KA30 := Aside0.mk hA30
                                clear hy30 hA30
                                replace q30 := eq_true q30
                                (try (have qd30 := q30; simp only [List.length_drop] at qd30))
                                go_wp2
                                go_roundg kj19
                                case measure => have := HJ1.out; have := HJ5.out; have := HK3.out; have := HJ19.out; omega
                                case rel => exact ⟨(y284), (IntKind.u64.wrap ((IntKind.u64.wrap (10 * x4_3)) + (((rd x0_3 0) - 48) % 256))), (by first | rfl | (simp; done) | (simp [*]; done)), H', ⟨by have := HJ1.out; have := HJ5.out; have := HK3.out; have := HJ19.out; omega⟩, ⟨by (with_reducible repeat (first | apply Kd.V_alloc | apply Kd.V_drewN | apply Kd.V_drew)); exact HO288.out⟩, ⟨by repeat (first | (with_reducible first | exact HB.out | apply below_alloc | apply pw_below_drewN | apply below_drew1) | exact HB.out)⟩⟩
                              · rw [if_neg c29] at H
                                exact absurd H (by simp)
                          · rw [if_neg c27] at H
                            exact absurd H (by simp)
                  · rw [if_neg c18] at H
                    have c18b0 : decide (0 < (x0_3.length : Int)) = false := decide_eq_false c18
                    have c18b1 : decide (0 < x0_3.length) = false := decide_eq_false (by omega)
                    clear c18
                    simp only [Option.some.injEq, Prod.mk.injEq] at H
                    obtain ⟨rfl, rfl⟩ := H
                    obtain ⟨Ao31, co31, eo31⟩ := Kd.V_slice HO_0.out
                    subst eo31
                    go_wp2
                    go_ret2
                    exact ⟨by first | rfl | (simp [errW_none, errW_some] <;> rfl) | (simp [*, errW_none, errW_some] <;> rfl), by repeat (first | (with_reducible first | exact HB.out | apply below_alloc | apply pw_below_drewN | apply below_drew1) | exact HB.out)⟩

end Go.Proofs.Ytonlkffjpofpoaa.Q
