-- PRINTED by print.py (a twelfth state) out of the translation. Not trusted: Lean checks it.
import Derived.Test.YtlcglnnmcgpnpaaQx0
import Derived.Test.YtlcglnnmcgpnpaaQx1
import Derived.Test.YtlcglnnmcgpnpaaQx2
import Derived.Test.YtlcglnnmcgpnpaaQx3
namespace Go.Proofs.Ytlcglnnmcgpnpaa.Q
open Go.RowKit Go.Proofs.YtlcglnnmcgpnpaaW.PrintWords Go.Proofs.YtlcglnnmcgpnpaaW.PrintLast Go.Proofs.YtlcglnnmcgpnpaaW.PrintMore
attribute [local go_sem] max2_int min2_int max_two min_two max_three min_three max_four min_four   -- for this text's walks alone
set_option linter.unusedVariables false
set_option linter.unusedSimpArgs false

/-! ### whole_Parse: function 11 -/
mutual
def whole_Parse.j0 : Nat → List Int → Int → Bool → Int → Bool → Option (Int × Int × Int)
  | 0, _, _, _, _, _ => none
  | k + 1, x1, x7, x8, x10, x43 => if x43 = true then (whole_Parse.j1 k x1 x7 x8 1) else (whole_Parse.j1 k x1 x7 x8 x10)
def whole_Parse.j1 : Nat → List Int → Int → Bool → Int → Option (Int × Int × Int)
  | 0, _, _, _, _ => none
  | k + 1, x1, x7, x8, x10 => (digit_Run.f k x1 x10).bind fun t112 => (if (wrap64 (x10 + t112)) < (x1.length : Int) then (some (0, wrap64 (x10 + t112), 52)) else (if (wrap64 (x10 + t112)) = x10 then (some (0, wrap64 (x10 + t112), 51)) else (if 0 < (x1.length : Int) then ((whole_most.f x7 x8 ((rd x1 0) == 45)).bind fun t114 => (if 0 ≤ x10 then (if x10 ≤ (x1.length : Int) then (whole_Parse.l0 k x7 x10 ((rd x1 0) == 45) 0 t114 (x1.drop (x10 : Int).toNat) ((x1.drop (x10 : Int).toNat).length : Int) 0) else (none)) else (none))) else (none))))
def whole_Parse.l0 : Nat → Int → Int → Bool → Int → Int → List Int → Int → Int → Option (Int × Int × Int)
  | 0, _, _, _, _, _, _, _, _ => none
  | k + 1, x7, x10, x12, x13, x14, x70, x71, x72 => if x72 < x71 then (if 0 ≤ x72 then (if x72 < (x70.length : Int) then (if (((rd x70 x72) - 48) % 256) > x14 then (some (0, wrap64 (x10 + x72), 53)) else (if x13 > (IntKind.u64.wrap (Int.tdiv (IntKind.u64.wrap (x14 - (((rd x70 x72) - 48) % 256))) 10)) then (some (0, wrap64 (x10 + x72), 53)) else (whole_Parse.l0 k x7 x10 x12 (IntKind.u64.wrap ((IntKind.u64.wrap (10 * x13)) + (((rd x70 x72) - 48) % 256))) x14 x70 x71 (wrap64 (x72 + 1))))) else (none)) else (none)) else (if x12 = true then (if 0 ≤ (wrap64 (x7 - 1)) then (some (Go.bits .and .u64 (IntKind.u64.wrap (-x13)) (IntKind.u64.wrap ((IntKind.u64.wrap ((shl .u64 1 (wrap64 (x7 - 1))) * 2)) - 1)), 0, 0)) else (none)) else (some (x13, 0, 0)))
end
def whole_Parse.f (k : Nat) (a0 : Int) (l1 : List Int) : Option (Int × Int × Int) := (whole_width.f a0).bind fun bt107 => (if bt107.2.2 = true then (if (l1.length : Int) > 0 then (if 0 < (l1.length : Int) then (if (rd l1 0) = 43 then (whole_Parse.j0 k l1 bt107.1 bt107.2.1 0 true) else (if (rd l1 0) = 45 then (whole_Parse.j0 k l1 bt107.1 bt107.2.1 0 bt107.2.1) else (whole_Parse.j0 k l1 bt107.1 bt107.2.1 0 false))) else (none)) else (whole_Parse.j0 k l1 bt107.1 bt107.2.1 0 false)) else (some (0, 0, 50)))
theorem whole_Parse.mono_l : ∀ k, (∀ y0 y1 y2 y3 y4, LeO (whole_Parse.j0 k y0 y1 y2 y3 y4) (whole_Parse.j0 (k + 1) y0 y1 y2 y3 y4)) ∧ (∀ y0 y1 y2 y3, LeO (whole_Parse.j1 k y0 y1 y2 y3) (whole_Parse.j1 (k + 1) y0 y1 y2 y3)) ∧ (∀ y0 y1 y2 y3 y4 y5 y6 y7, LeO (whole_Parse.l0 k y0 y1 y2 y3 y4 y5 y6 y7) (whole_Parse.l0 (k + 1) y0 y1 y2 y3 y4 y5 y6 y7))
  | 0 => ⟨fun _ _ _ _ _ r h => by simp [whole_Parse.j0] at h, fun _ _ _ _ r h => by simp [whole_Parse.j1] at h, fun _ _ _ _ _ _ _ _ r h => by simp [whole_Parse.l0] at h⟩
  | k + 1 => by
    obtain ⟨ih0, ih1, ih2⟩ := whole_Parse.mono_l k
    refine ⟨?_, ?_, ?_⟩
    · intro y0 y1 y2 y3 y4
      unfold whole_Parse.j0
      repeat' first
      | (with_reducible exact ih0 _ _ _ _ _)
      | (with_reducible exact ih1 _ _ _ _)
      | (with_reducible exact ih2 _ _ _ _ _ _ _ _)
      | (with_reducible exact digit_Run.mono _ _ _)
      | (with_reducible exact LeO.refl _)
      | (with_reducible exact LeO.none _)
      | (with_reducible refine LeO.ite ?_ ?_)
      | (with_reducible refine LeO.bind ?_ (fun _ => ?_))
      | exact ih0 _ _ _ _ _
      | exact ih1 _ _ _ _
      | exact ih2 _ _ _ _ _ _ _ _
      | exact digit_Run.mono _ _ _
      | exact LeO.none _
      | refine LeO.ite ?_ ?_
      | refine LeO.bind ?_ (fun _ => ?_)
    · intro y0 y1 y2 y3
      unfold whole_Parse.j1
      repeat' first
      | (with_reducible exact ih0 _ _ _ _ _)
      | (with_reducible exact ih1 _ _ _ _)
      | (with_reducible exact ih2 _ _ _ _ _ _ _ _)
      | (with_reducible exact digit_Run.mono _ _ _)
      | (with_reducible exact LeO.refl _)
      | (with_reducible exact LeO.none _)
      | (with_reducible refine LeO.ite ?_ ?_)
      | (with_reducible refine LeO.bind ?_ (fun _ => ?_))
      | exact ih0 _ _ _ _ _
      | exact ih1 _ _ _ _
      | exact ih2 _ _ _ _ _ _ _ _
      | exact digit_Run.mono _ _ _
      | exact LeO.none _
      | refine LeO.ite ?_ ?_
      | refine LeO.bind ?_ (fun _ => ?_)
    · intro y0 y1 y2 y3 y4 y5 y6 y7
      unfold whole_Parse.l0
      repeat' first
      | (with_reducible exact ih0 _ _ _ _ _)
      | (with_reducible exact ih1 _ _ _ _)
      | (with_reducible exact ih2 _ _ _ _ _ _ _ _)
      | (with_reducible exact digit_Run.mono _ _ _)
      | (with_reducible exact LeO.refl _)
      | (with_reducible exact LeO.none _)
      | (with_reducible refine LeO.ite ?_ ?_)
      | (with_reducible refine LeO.bind ?_ (fun _ => ?_))
      | exact ih0 _ _ _ _ _
      | exact ih1 _ _ _ _
      | exact ih2 _ _ _ _ _ _ _ _
      | exact digit_Run.mono _ _ _
      | exact LeO.none _
      | refine LeO.ite ?_ ?_
      | refine LeO.bind ?_ (fun _ => ?_)
theorem whole_Parse.mono : ∀ a0 a1 k, LeO (whole_Parse.f k a0 a1) (whole_Parse.f (k + 1) a0 a1) := by
  intro a0 a1 k
  obtain ⟨ih0, ih1, ih2⟩ := whole_Parse.mono_l k
  unfold whole_Parse.f
  repeat' first
      | (with_reducible exact ih0 _ _ _ _ _)
      | (with_reducible exact ih1 _ _ _ _)
      | (with_reducible exact ih2 _ _ _ _ _ _ _ _)
      | (with_reducible exact digit_Run.mono _ _ _)
      | (with_reducible exact LeO.refl _)
      | (with_reducible exact LeO.none _)
      | (with_reducible refine LeO.ite ?_ ?_)
      | (with_reducible refine LeO.bind ?_ (fun _ => ?_))
      | exact ih0 _ _ _ _ _
      | exact ih1 _ _ _ _
      | exact ih2 _ _ _ _ _ _ _ _
      | exact digit_Run.mono _ _ _
      | exact LeO.none _
      | refine LeO.ite ?_ ?_
      | refine LeO.bind ?_ (fun _ => ?_)
set_option maxHeartbeats 8000000 in
set_option maxRecDepth 100000 in
theorem whole_Parse.calls (k : Nat) (a0 : Int) (A1 : Option Addr) (c1 : Nat) (l1 : List Int) (r1 : Int) (r2 : Int) (r3 : Int) (w : World) (hr1 : Kd.C (Kd.int .u8) w A1 l1.length l1) (hc1 : l1.length ≤ c1) (h : whole_Parse.f k a0 l1 = some (r1, r2, r3)) :
    Calls Try.prog 11 #[.int .i64 a0, .slice A1 l1.length c1] w fun e w' => e = .returned (.tuple #[.int .u64 r1, .int .i64 r2, .int .i64 r3]) ∧ Below w.heap.size w w' := by
  have HR1 := Aside0.mk hr1
  have HC1 := Aside0.mk hc1
  clear hr1 hc1
  have HB := Aside0.mk (Below.refl w.heap.size w)
  have H : ((whole_width.f a0).bind fun bt107 => (if bt107.2.2 = true then (if (l1.length : Int) > 0 then (if 0 < (l1.length : Int) then (if (rd l1 0) = 43 then (whole_Parse.j0 k l1 bt107.1 bt107.2.1 0 true) else (if (rd l1 0) = 45 then (whole_Parse.j0 k l1 bt107.1 bt107.2.1 0 bt107.2.1) else (whole_Parse.j0 k l1 bt107.1 bt107.2.1 0 false))) else (none)) else (whole_Parse.j0 k l1 bt107.1 bt107.2.1 0 false)) else (some (0, 0, 50)))) = some (r1, r2, r3) := h
  clear h
  replace H := Option.bind_eq_some_iff.mp H
  obtain ⟨⟨t107, t108, t109⟩, A30, H⟩ := H
  replace H : (if t109 = true then (if (l1.length : Int) > 0 then (if 0 < (l1.length : Int) then (if (rd l1 0) = 43 then (whole_Parse.j0 k l1 t107 t108 0 true) else (if (rd l1 0) = 45 then (whole_Parse.j0 k l1 t107 t108 0 t108) else (whole_Parse.j0 k l1 t107 t108 0 false))) else (none)) else (whole_Parse.j0 k l1 t107 t108 0 false)) else (some (0, 0, 50))) = some (r1, r2, r3) := H
  have A3 := Aside0.mk A30
  clear A30
  by_cases c4 : t109 = true
  · subst c4
    have H1 : (if (l1.length : Int) > 0 then (if 0 < (l1.length : Int) then (if (rd l1 0) = 43 then (whole_Parse.j0 k l1 t107 t108 0 true) else (if (rd l1 0) = 45 then (whole_Parse.j0 k l1 t107 t108 0 t108) else (whole_Parse.j0 k l1 t107 t108 0 false))) else (none)) else (whole_Parse.j0 k l1 t107 t108 0 false)) = some (r1, r2, r3) := by rw [if_pos rfl] at H; exact H
    clear H
    have H := H1
    clear H1
    have HC5 := Aside0.mk H
    clear H
    go_enter Try.func11, Try.ntmps11
    go_upto_region 5 with (first | ((with_reducible refine gate_callee (f := 27) rfl ?_); refine goesL_ (some 20) rfl rfl Try.func27 (by kernel_rfl) rfl #[.int .i64 a0] rfl (by (try simp only [List.map_toArray, List.map_cons, List.map_nil]); first | done | rfl | (simp only [List.length_drop, List.length_take]; rfl)) ?_; (with_reducible refine (whole_width.calls a0 t107 t108 true _ A3.out).mono ?_); rintro e w6 ⟨rfl, hb⟩; refine ⟨_, rfl, ?_⟩; have n0_ := Aside0.mk (below_step (by repeat (first | (with_reducible first | exact HB.out | apply below_alloc | apply pw_below_drewN | apply below_drew1) | exact HB.out)) hb); clear HB; have HB := n0_; clear n0_; (try clear hb); (try clear hb2); (try clear hk); (try clear hi)))
    (try simp only [Act.put, List.setIfInBounds_toArray, List.set_cons_zero, List.set_cons_succ])
    go_cut [43] (fun v43 wc => ∃ (kq : Nat) (x43_4 : Bool), v43 = .bool x43_4 ∧ Aside0 (whole_Parse.j0 kq l1 t107 t108 0 x43_4 = some (r1, r2, r3)) ∧ Aside0 (kq ≤ k) ∧ Aside0 (Below w.heap.size w wc))
    case first =>
      have H := HC5.out
      clear HC5
      by_cases c7 : (l1.length : Int) > 0
      · rw [if_pos c7] at H
        have c7b0 : decide (0 < (l1.length : Int)) = true := decide_eq_true c7
        have c7b1 : decide (0 < l1.length) = true := decide_eq_true (by omega)
        clear c7
        (first | rw [c7b0] | (simp only [i64_w, i32_w]; rw [c7b0]) | skip)
        by_cases c8 : 0 < (l1.length : Int)
        · rw [if_pos c8] at H
          have c8b0 : decide (0 < (l1.length : Int)) = true := decide_eq_true c8
          have c8b1 : decide (0 < l1.length) = true := decide_eq_true (by omega)
          clear c8
          by_cases c9 : (rd l1 0) = 43
          · rw [if_pos c9] at H
            have c9b0 : ((rd l1 0) == 43) = true := beq_iff_eq.mpr c9
            have c9b1 : ((rd l1 0) != 43) = false := bne_eq_false_iff_eq.mpr c9
            clear c9
            have H' := Aside0.mk H
            clear H
            have p110 : 0 ≤ (0 : Int) := (by omega)
            have q110 : 0 < (l1.length : Int) := of_decide_eq_true (by first | (with_reducible assumption) | assumption)
            obtain ⟨ad110, e110, hx110_0⟩ := Kd.at_int HR1.out 0 p110 q110
            cases e110
            have qi110 : (0 < l1.length) = True := eq_true (by omega)
            (try rw [show ((0 : Int)).toNat = 0 from rfl] at hx110_0)
            (try rw [Addr.add_zero'] at hx110_0)
            replace hx110_0 := (HB.out.cell (World.block_lt_of_cell? w _ hx110_0)).trans hx110_0
            replace p110 := eq_true p110
            replace q110 := eq_true q110
            (try (have qd110 := q110; simp only [List.length_drop] at qd110))
            go_wp2
            go_meet
            case rel => exact ⟨_, (true), (by first | rfl | (simp; done) | (simp [*]; done)), H', ⟨by first | omega | exact Nat.le_refl _⟩, ⟨by repeat (first | (with_reducible first | exact HB.out | apply below_alloc | apply pw_below_drewN | apply below_drew1) | exact HB.out)⟩⟩
          · rw [if_neg c9] at H
            have c9b0 : ((rd l1 0) == 43) = false := beq_eq_false_iff_ne.mpr c9
            have c9b1 : ((rd l1 0) != 43) = true := bne_iff_ne.mpr c9
            by_cases c10 : (rd l1 0) = 45
            · rw [if_pos c10] at H
              have c10b0 : ((rd l1 0) == 45) = true := beq_iff_eq.mpr c10
              have c10b1 : ((rd l1 0) != 45) = false := bne_eq_false_iff_eq.mpr c10
              clear c10
              have H' := Aside0.mk H
              clear H
              have p110 : 0 ≤ (0 : Int) := (by omega)
              have q110 : 0 < (l1.length : Int) := of_decide_eq_true (by first | (with_reducible assumption) | assumption)
              obtain ⟨ad110, e110, hx110_0⟩ := Kd.at_int HR1.out 0 p110 q110
              cases e110
              have qi110 : (0 < l1.length) = True := eq_true (by omega)
              (try rw [show ((0 : Int)).toNat = 0 from rfl] at hx110_0)
              (try rw [Addr.add_zero'] at hx110_0)
              replace hx110_0 := (HB.out.cell (World.block_lt_of_cell? w _ hx110_0)).trans hx110_0
              replace p110 := eq_true p110
              replace q110 := eq_true q110
              (try (have qd110 := q110; simp only [List.length_drop] at qd110))
              have p111 : 0 ≤ (0 : Int) := (by omega)
              have q111 : 0 < (l1.length : Int) := of_decide_eq_true (by first | (with_reducible assumption) | assumption)
              obtain ⟨ad111, e111, hx111_0⟩ := Kd.at_int HR1.out 0 p111 q111
              obtain rfl : ad110 = ad111 := (by injection e111)
              have qi111 : (0 < l1.length) = True := eq_true (by omega)
              (try rw [show ((0 : Int)).toNat = 0 from rfl] at hx111_0)
              (try rw [Addr.add_zero'] at hx111_0)
              replace hx111_0 := (HB.out.cell (World.block_lt_of_cell? w _ hx111_0)).trans hx111_0
              replace p111 := eq_true p111
              replace q111 := eq_true q111
              (try (have qd111 := q111; simp only [List.length_drop] at qd111))
              go_wp2
              go_meet
              case rel => exact ⟨_, (t108), (by first | rfl | (simp; done) | (simp [*]; done)), H', ⟨by first | omega | exact Nat.le_refl _⟩, ⟨by repeat (first | (with_reducible first | exact HB.out | apply below_alloc | apply pw_below_drewN | apply below_drew1) | exact HB.out)⟩⟩
            · rw [if_neg c10] at H
              have c10b0 : ((rd l1 0) == 45) = false := beq_eq_false_iff_ne.mpr c10
              have c10b1 : ((rd l1 0) != 45) = true := bne_iff_ne.mpr c10
              have H' := Aside0.mk H
              clear H
              have p110 : 0 ≤ (0 : Int) := (by omega)
              have q110 : 0 < (l1.length : Int) := of_decide_eq_true (by first | (with_reducible assumption) | assumption)
              obtain ⟨ad110, e110, hx110_0⟩ := Kd.at_int HR1.out 0 p110 q110
              cases e110
              have qi110 : (0 < l1.length) = True := eq_true (by omega)
              (try rw [show ((0 : Int)).toNat = 0 from rfl] at hx110_0)
              (try rw [Addr.add_zero'] at hx110_0)
              replace hx110_0 := (HB.out.cell (World.block_lt_of_cell? w _ hx110_0)).trans hx110_0
              replace p110 := eq_true p110
              replace q110 := eq_true q110
              (try (have qd110 := q110; simp only [List.length_drop] at qd110))
              have p111 : 0 ≤ (0 : Int) := (by omega)
              have q111 : 0 < (l1.length : Int) := of_decide_eq_true (by first | (with_reducible assumption) | assumption)
              obtain ⟨ad111, e111, hx111_0⟩ := Kd.at_int HR1.out 0 p111 q111
              obtain rfl : ad110 = ad111 := (by injection e111)
              have qi111 : (0 < l1.length) = True := eq_true (by omega)
              (try rw [show ((0 : Int)).toNat = 0 from rfl] at hx111_0)
              (try rw [Addr.add_zero'] at hx111_0)
              replace hx111_0 := (HB.out.cell (World.block_lt_of_cell? w _ hx111_0)).trans hx111_0
              replace p111 := eq_true p111
              replace q111 := eq_true q111
              (try (have qd111 := q111; simp only [List.length_drop] at qd111))
              go_wp2
              go_meet
              case rel => exact ⟨_, (false), (by first | rfl | (simp; done) | (simp [*]; done)), H', ⟨by first | omega | exact Nat.le_refl _⟩, ⟨by repeat (first | (with_reducible first | exact HB.out | apply below_alloc | apply pw_below_drewN | apply below_drew1) | exact HB.out)⟩⟩
        · rw [if_neg c8] at H
          exact absurd H (by simp)
      · rw [if_neg c7] at H
        have c7b0 : decide (0 < (l1.length : Int)) = false := decide_eq_false c7
        have c7b1 : decide (0 < l1.length) = false := decide_eq_false (by omega)
        clear c7
        (first | rw [c7b0] | (simp only [i64_w, i32_w]; rw [c7b0]) | skip)
        have H' := Aside0.mk H
        clear H
        go_wp2
        go_meet
        case rel => exact ⟨_, (false), (by first | rfl | (simp; done) | (simp [*]; done)), H', ⟨by first | omega | exact Nat.le_refl _⟩, ⟨by repeat (first | (with_reducible first | exact HB.out | apply below_alloc | apply pw_below_drewN | apply below_drew1) | exact HB.out)⟩⟩
    case rest =>
      clear HC5
      try clear c1
      try clear p1
      try clear q1
      try clear hx1
      try clear qi1
      try clear c2
      try clear p2
      try clear c4
      try clear c7
      try clear c7b0
      try clear c7b1
      try clear c8
      try clear c8b0
      try clear c8b1
      try clear c9
      try clear c9b0
      try clear c9b1
      try clear c10
      try clear c10b0
      try clear c10b1
      try clear hx110_0
      try clear hx111_0
      try clear p110
      try clear p111
      try clear q110
      try clear q111
      obtain ⟨kq, x43_4, rfl, HA, HJ4, HB⟩ := hcut
      cases kq with
      | zero => exact absurd HA.out (by simp [whole_Parse.j0])
      | succ kj4 =>
        have H := HA.out
        clear HA
        simp only [whole_Parse.j0] at H
        have HC11 := Aside0.mk H
        clear H
        go_upto_if 43 with (fail)
        go_cut [10] (fun v10 wc => ∃ (kq : Nat) (x10_10 : Int), v10 = .int .i64 x10_10 ∧ Aside0 (whole_Parse.j1 kq l1 t107 t108 x10_10 = some (r1, r2, r3)) ∧ Aside0 (kq ≤ kj4) ∧ Aside0 (Below w.heap.size w wc))
        case first =>
          have H := HC11.out
          clear HC11
          by_cases c12 : x43_4 = true
          · subst c12
            have H1 : (whole_Parse.j1 kj4 l1 t107 t108 1) = some (r1, r2, r3) := by rw [if_pos rfl] at H; exact H
            clear H
            have H := H1
            clear H1
            have H' := Aside0.mk H
            clear H
            go_wp2
            go_meet
            case rel => exact ⟨_, (1), (by first | rfl | (simp; done) | (simp [*]; done)), H', ⟨by have := HJ4.out; first | omega | exact Nat.le_refl _⟩, ⟨by repeat (first | (with_reducible first | exact HB.out | apply below_alloc | apply pw_below_drewN | apply below_drew1) | exact HB.out)⟩⟩
          · replace c12 := Bool.eq_false_iff.mpr c12
            subst c12
            have H1 : (whole_Parse.j1 kj4 l1 t107 t108 0) = some (r1, r2, r3) := by rw [if_neg (show ¬ (false = true) by decide)] at H; exact H
            clear H
            have H := H1
            clear H1
            have H' := Aside0.mk H
            clear H
            go_wp2
            go_meet
            case rel => exact ⟨_, (0), (by first | rfl | (simp; done) | (simp [*]; done)), H', ⟨by have := HJ4.out; first | omega | exact Nat.le_refl _⟩, ⟨by repeat (first | (with_reducible first | exact HB.out | apply below_alloc | apply pw_below_drewN | apply below_drew1) | exact HB.out)⟩⟩
        case rest =>
          clear HC11
          try clear c1
          try clear p1
          try clear q1
          try clear hx1
          try clear qi1
          try clear c2
          try clear p2
          try clear c4
          try clear c7
          try clear c7b0
          try clear c7b1
          try clear c8
          try clear c8b0
          try clear c8b1
          try clear c9
          try clear c9b0
          try clear c9b1
          try clear c10
          try clear c10b0
          try clear c10b1
          try clear c11
          try clear p11
          try clear q11
          try clear hx11
          try clear qi11
          try clear c12
          try clear hx110_0
          try clear hx111_0
          try clear p1
          try clear p110
          try clear p111
          try clear p2
          try clear q1
          try clear q110
          try clear q111
          obtain ⟨kq, x10_10, rfl, HA, HJ10, HB⟩ := hcut
          cases kq with
          | zero => exact absurd HA.out (by simp [whole_Parse.j1])
          | succ kj10 =>
            have H := HA.out
            clear HA
            simp only [whole_Parse.j1] at H
            replace H := Option.bind_eq_some_iff.mp H
            obtain ⟨t112, A130, H⟩ := H
            replace H : (if (wrap64 (x10_10 + t112)) < (l1.length : Int) then (some (0, wrap64 (x10_10 + t112), 52)) else (if (wrap64 (x10_10 + t112)) = x10_10 then (some (0, wrap64 (x10_10 + t112), 51)) else (if 0 < (l1.length : Int) then ((whole_most.f t107 t108 ((rd l1 0) == 45)).bind fun t114 => (if 0 ≤ x10_10 then (if x10_10 ≤ (l1.length : Int) then (whole_Parse.l0 kj10 t107 x10_10 ((rd l1 0) == 45) 0 t114 (l1.drop (x10_10 : Int).toNat) ((l1.drop (x10_10 : Int).toNat).length : Int) 0) else (none)) else (none))) else (none)))) = some (r1, r2, r3) := H
            have A13 := Aside0.mk A130
            clear A130
            by_cases c14 : (wrap64 (x10_10 + t112)) < (l1.length : Int)
            · rw [if_pos c14] at H
              have c14b0 : decide ((wrap64 (x10_10 + t112)) < (l1.length : Int)) = true := decide_eq_true c14
              clear c14
              simp only [Option.some.injEq, Prod.mk.injEq] at H
              obtain ⟨rfl, rfl, rfl⟩ := H
              go_wp2_with (first | ((with_reducible refine gate_callee (f := 28) rfl ?_); refine goesL_ (some 47) rfl rfl Try.func28 (by kernel_rfl) rfl #[.slice A1 l1.length c1, .int .i64 x10_10] rfl (by (try simp only [List.map_toArray, List.map_cons, List.map_nil]); first | done | rfl | (simp only [List.length_drop, List.length_take]; rfl)) ?_; (with_reducible refine (digit_Run.calls kj10 _ _ l1 x10_10 t112 _ ?side1 ?side2 A13.out).mono ?_); (case side1 => repeat (first | exact (Kd.C_below HR1.out HB.out) | (with_reducible refine Kd.C_alloc ?_ _) | (with_reducible refine Kd.C_drewN ?_ _) | (with_reducible refine Kd.C_drew ?_))); (case side2 => exact HC1.out); rintro e w' ⟨rfl, ⟨nd, rfl⟩⟩; refine ⟨_, rfl, ?_⟩))
              go_ret3
              exact ⟨by first | rfl | (simp [errW_none, errW_some] <;> rfl) | (simp [*, errW_none, errW_some] <;> rfl), by repeat (first | (with_reducible first | exact HB.out | apply below_alloc | apply pw_below_drewN | apply below_drew1) | exact HB.out)⟩
            · rw [if_neg c14] at H
              have c14b0 : decide ((wrap64 (x10_10 + t112)) < (l1.length : Int)) = false := decide_eq_false c14
              clear c14
              by_cases c15 : (wrap64 (x10_10 + t112)) = x10_10
              · rw [if_pos c15] at H
                have c15b0 : ((wrap64 (x10_10 + t112)) == x10_10) = true := beq_iff_eq.mpr c15
                have c15b1 : ((wrap64 (x10_10 + t112)) != x10_10) = false := bne_eq_false_iff_eq.mpr c15
                clear c15
                simp only [Option.some.injEq, Prod.mk.injEq] at H
                obtain ⟨rfl, rfl, rfl⟩ := H
                go_wp2_with (first | ((with_reducible refine gate_callee (f := 28) rfl ?_); refine goesL_ (some 47) rfl rfl Try.func28 (by kernel_rfl) rfl #[.slice A1 l1.length c1, .int .i64 x10_10] rfl (by (try simp only [List.map_toArray, List.map_cons, List.map_nil]); first | done | rfl | (simp only [List.length_drop, List.length_take]; rfl)) ?_; (with_reducible refine (digit_Run.calls kj10 _ _ l1 x10_10 t112 _ ?side1 ?side2 A13.out).mono ?_); (case side1 => repeat (first | exact (Kd.C_below HR1.out HB.out) | (with_reducible refine Kd.C_alloc ?_ _) | (with_reducible refine Kd.C_drewN ?_ _) | (with_reducible refine Kd.C_drew ?_))); (case side2 => exact HC1.out); rintro e w' ⟨rfl, ⟨nd, rfl⟩⟩; refine ⟨_, rfl, ?_⟩))
                go_ret3
                exact ⟨by first | rfl | (simp [errW_none, errW_some] <;> rfl) | (simp [*, errW_none, errW_some] <;> rfl), by repeat (first | (with_reducible first | exact HB.out | apply below_alloc | apply pw_below_drewN | apply below_drew1) | exact HB.out)⟩
              · rw [if_neg c15] at H
                have c15b0 : ((wrap64 (x10_10 + t112)) == x10_10) = false := beq_eq_false_iff_ne.mpr c15
                have c15b1 : ((wrap64 (x10_10 + t112)) != x10_10) = true := bne_iff_ne.mpr c15
                by_cases c16 : 0 < (l1.length : Int)
                · rw [if_pos c16] at H
                  have c16b0 : decide (0 < (l1.length : Int)) = true := decide_eq_true c16
                  have c16b1 : decide (0 < l1.length) = true := decide_eq_true (by omega)
                  clear c16
                  replace H := Option.bind_eq_some_iff.mp H
                  obtain ⟨t114, A170, H⟩ := H
                  replace H : (if 0 ≤ x10_10 then (if x10_10 ≤ (l1.length : Int) then (whole_Parse.l0 kj10 t107 x10_10 ((rd l1 0) == 45) 0 t114 (l1.drop (x10_10 : Int).toNat) ((l1.drop (x10_10 : Int).toNat).length : Int) 0) else (none)) else (none)) = some (r1, r2, r3) := H
                  have A17 := Aside0.mk A170
                  clear A170
                  by_cases c18 : 0 ≤ x10_10
                  · rw [if_pos c18] at H
                    have c18b0 := eq_true c18
                    have c18b1 : decide (0 ≤ x10_10) = true := decide_eq_true c18
                    clear c18
                    by_cases c19 : x10_10 ≤ (l1.length : Int)
                    · rw [if_pos c19] at H
                      have c19b0 := eq_true c19
                      have c19b1 : decide (x10_10 ≤ (l1.length : Int)) = true := decide_eq_true c19
                      clear c19
                      have H' := Aside0.mk H
                      clear H
                      go_wp2_with (first | ((with_reducible refine gate_callee (f := 28) rfl ?_); refine goesL_ (some 47) rfl rfl Try.func28 (by kernel_rfl) rfl #[.slice A1 l1.length c1, .int .i64 x10_10] rfl (by (try simp only [List.map_toArray, List.map_cons, List.map_nil]); first | done | rfl | (simp only [List.length_drop, List.length_take]; rfl)) ?_; (with_reducible refine (digit_Run.calls kj10 _ _ l1 x10_10 t112 _ ?side1 ?side2 A13.out).mono ?_); (case side1 => repeat (first | exact (Kd.C_below HR1.out HB.out) | (with_reducible refine Kd.C_alloc ?_ _) | (with_reducible refine Kd.C_drewN ?_ _) | (with_reducible refine Kd.C_drew ?_))); (case side2 => exact HC1.out); rintro e w' ⟨rfl, ⟨nd, rfl⟩⟩; refine ⟨_, rfl, ?_⟩; have p113 : 0 ≤ (0 : Int) := (by omega); have q113 : 0 < (l1.length : Int) := of_decide_eq_true (by first | (with_reducible assumption) | assumption); obtain ⟨ad113, e113, hx113_0⟩ := Kd.at_int HR1.out 0 p113 q113; cases e113; have qi113 : (0 < l1.length) = True := eq_true (by omega); (try rw [show ((0 : Int)).toNat = 0 from rfl] at hx113_0); (try rw [Addr.add_zero'] at hx113_0); replace hx113_0 := (HB.out.cell (World.block_lt_of_cell? w _ hx113_0)).trans hx113_0; replace p113 := eq_true p113; replace q113 := eq_true q113; (try (have qd113 := q113; simp only [List.length_drop] at qd113))) | ((with_reducible refine gate_callee (f := 29) rfl ?_); refine goesL_ (some 67) rfl rfl Try.func29 (by kernel_rfl) rfl #[.int .i64 t107, .bool t108, .bool ((rd l1 0) == 45)] rfl (by (try simp only [List.map_toArray, List.map_cons, List.map_nil]); first | done | rfl | (simp only [List.length_drop, List.length_take]; rfl)) ?_; (with_reducible refine (whole_most.calls t107 t108 ((rd l1 0) == 45) t114 _ A17.out).mono ?_); rintro e w' ⟨rfl, ⟨nd, rfl⟩⟩; refine ⟨_, rfl, ?_⟩; obtain ⟨i020, hi020, _, hsz20, _⟩ := info_parts info5; obtain ⟨A20, hcut20, hA20, hC20⟩ := print_drop_of (P := Try.prog) (Value.int .u8) 0 22 5 .i64 Try.underlying22 hi020 hsz20 (some ad113) c1 l1 x10_10 (of_decide_eq_true (by first | (with_reducible assumption) | assumption)) (of_decide_eq_true (by first | (with_reducible assumption) | assumption)) HC1.out; have HR115 := Aside0.mk (Kd.C_of_reads (h1 := fun _ => rfl) (hA20 _ (Kd.reads_of_C HR1.out))); have HC115 := Aside0.mk hC20; clear hA20 hC20 hi020 hsz20))
                      go_loopg [13, 72] kj10 (fun kq v13 v72 w' => ∃ (x13_3 : Int) (x72_3 : Int), v13 = .int .u64 x13_3 ∧ v72 = .int .i64 x72_3 ∧ Aside0 (whole_Parse.l0 kq t107 x10_10 ((rd l1 0) == 45) x13_3 t114 (l1.drop (x10_10 : Int).toNat) ((l1.drop (x10_10 : Int).toNat).length : Int) x72_3 = some (r1, r2, r3)) ∧ Aside0 (kq ≤ kj10) ∧ Aside0 (Below w.heap.size w w'))
                      case atStart => exact ⟨(0), (0), (by first | rfl | (simp; done) | (simp [*]; done)), (by first | rfl | (simp; done) | (simp [*]; done)), H', ⟨Nat.le_refl _⟩, ⟨by repeat (first | (with_reducible first | exact HB.out | apply below_alloc | apply pw_below_drewN | apply below_drew1) | exact HB.out)⟩⟩
                      case round =>
                        clear H'
                        try clear c1
                        try clear p1
                        try clear q1
                        try clear hx1
                        try clear qi1
                        try clear c2
                        try clear p2
                        try clear c4
                        try clear p6
                        try clear c7
                        try clear c7b0
                        try clear c7b1
                        try clear c8
                        try clear c8b0
                        try clear c8b1
                        try clear c9
                        try clear c9b0
                        try clear c9b1
                        try clear c10
                        try clear c10b0
                        try clear c10b1
                        try clear c11
                        try clear p11
                        try clear q11
                        try clear hx11
                        try clear qi11
                        try clear c12
                        try clear c14
                        try clear c14b0
                        try clear c15
                        try clear c15b0
                        try clear c15b1
                        try clear c16
                        try clear c16b0
                        try clear c16b1
                        try clear c18
                        try clear c18b0
                        try clear c18b1
                        try clear c19
                        try clear c19b0
                        try clear c19b1
                        try clear hx110_0
                        try clear hx111_0
                        try clear hx113_0
                        try clear p1
                        try clear p11
                        try clear p110
                        try clear p111
                        try clear p113
                        try clear p2
                        try clear q1
                        try clear q11
                        try clear q110
                        try clear q111
                        try clear q113
                        obtain ⟨x13_3, x72_3, rfl, rfl, HA, HK3, HB⟩ := hrel
                        cases gk with
                        | zero => exact absurd HA.out (by simp [whole_Parse.l0])
                        | succ k3 =>
                          have H := HA.out
                          clear HA
                          simp only [whole_Parse.l0] at H
                          by_cases c21 : x72_3 < ((l1.drop (x10_10 : Int).toNat).length : Int)
                          · rw [if_pos c21] at H
                            have c21b0 : decide (x72_3 < ((l1.drop (x10_10 : Int).toNat).length : Int)) = true := decide_eq_true c21
                            (try (have c21b1 : decide (x72_3 < ((l1.length - (x10_10 : Int).toNat : Nat) : Int)) = true := by have h_ : decide (x72_3 < ((l1.drop (x10_10 : Int).toNat).length : Int)) = true := decide_eq_true c21; simpa only [List.length_drop] using h_))
                            clear c21
                            by_cases c22 : 0 ≤ x72_3
                            · rw [if_pos c22] at H
                              have c22b0 : decide (0 ≤ x72_3) = true := decide_eq_true c22
                              clear c22
                              by_cases c23 : x72_3 < ((l1.drop (x10_10 : Int).toNat).length : Int)
                              · rw [if_pos c23] at H
                                have c23b0 : decide (x72_3 < ((l1.drop (x10_10 : Int).toNat).length : Int)) = true := decide_eq_true c23
                                (try (have c23b1 : decide (x72_3 < ((l1.length - (x10_10 : Int).toNat : Nat) : Int)) = true := by have h_ : decide (x72_3 < ((l1.drop (x10_10 : Int).toNat).length : Int)) = true := decide_eq_true c23; simpa only [List.length_drop] using h_))
                                clear c23
                                by_cases c24 : (((rd (l1.drop (x10_10 : Int).toNat) x72_3) - 48) % 256) > t114
                                · rw [if_pos c24] at H
                                  have c24b0 : decide (t114 < (((rd (l1.drop (x10_10 : Int).toNat) x72_3) - 48) % 256)) = true := decide_eq_true c24
                                  clear c24
                                  simp only [Option.some.injEq, Prod.mk.injEq] at H
                                  obtain ⟨rfl, rfl, rfl⟩ := H
                                  have p116 : 0 ≤ (x72_3 : Int) := of_decide_eq_true (by first | (with_reducible assumption) | assumption)
                                  have q116 : x72_3 < ((l1.drop (x10_10 : Int).toNat).length : Int) := of_decide_eq_true (by first | (with_reducible assumption) | assumption)
                                  obtain ⟨ad116, e116, hx116_0⟩ := Kd.at_int HR115.out x72_3 p116 q116
                                  cases e116
                                  replace hx116_0 := (HB.out.cell (World.block_lt_of_cell? w _ hx116_0)).trans hx116_0
                                  replace p116 := eq_true p116
                                  replace q116 := eq_true q116
                                  (try (have qd116 := q116; simp only [List.length_drop] at qd116))
                                  go_wp2
                                  go_ret3
                                  exact ⟨by first | rfl | (simp [errW_none, errW_some] <;> rfl) | (simp [*, errW_none, errW_some] <;> rfl), by repeat (first | (with_reducible first | exact HB.out | apply below_alloc | apply pw_below_drewN | apply below_drew1) | exact HB.out)⟩
                                · rw [if_neg c24] at H
                                  have c24b0 : decide (t114 < (((rd (l1.drop (x10_10 : Int).toNat) x72_3) - 48) % 256)) = false := decide_eq_false c24
                                  clear c24
                                  by_cases c25 : x13_3 > (IntKind.u64.wrap (Int.tdiv (IntKind.u64.wrap (t114 - (((rd (l1.drop (x10_10 : Int).toNat) x72_3) - 48) % 256))) 10))
                                  · rw [if_pos c25] at H
                                    have c25b0 : decide ((IntKind.u64.wrap (Int.tdiv (IntKind.u64.wrap (t114 - (((rd (l1.drop (x10_10 : Int).toNat) x72_3) - 48) % 256))) 10)) < x13_3) = true := decide_eq_true c25
                                    clear c25
                                    simp only [Option.some.injEq, Prod.mk.injEq] at H
                                    obtain ⟨rfl, rfl, rfl⟩ := H
                                    have p116 : 0 ≤ (x72_3 : Int) := of_decide_eq_true (by first | (with_reducible assumption) | assumption)
                                    have q116 : x72_3 < ((l1.drop (x10_10 : Int).toNat).length : Int) := of_decide_eq_true (by first | (with_reducible assumption) | assumption)
                                    obtain ⟨ad116, e116, hx116_0⟩ := Kd.at_int HR115.out x72_3 p116 q116
                                    cases e116
                                    replace hx116_0 := (HB.out.cell (World.block_lt_of_cell? w _ hx116_0)).trans hx116_0
                                    replace p116 := eq_true p116
                                    replace q116 := eq_true q116
                                    (try (have qd116 := q116; simp only [List.length_drop] at qd116))
                                    go_wp2
                                    go_ret3
                                    exact ⟨by first | rfl | (simp [errW_none, errW_some] <;> rfl) | (simp [*, errW_none, errW_some] <;> rfl), by repeat (first | (with_reducible first | exact HB.out | apply below_alloc | apply pw_below_drewN | apply below_drew1) | exact HB.out)⟩
                                  · rw [if_neg c25] at H
                                    have c25b0 : decide ((IntKind.u64.wrap (Int.tdiv (IntKind.u64.wrap (t114 - (((rd (l1.drop (x10_10 : Int).toNat) x72_3) - 48) % 256))) 10)) < x13_3) = false := decide_eq_false c25
                                    clear c25
                                    have H' := Aside0.mk H
                                    clear H
                                    have p116 : 0 ≤ (x72_3 : Int) := of_decide_eq_true (by first | (with_reducible assumption) | assumption)
                                    have q116 : x72_3 < ((l1.drop (x10_10 : Int).toNat).length : Int) := of_decide_eq_true (by first | (with_reducible assumption) | assumption)
                                    obtain ⟨ad116, e116, hx116_0⟩ := Kd.at_int HR115.out x72_3 p116 q116
                                    cases e116
                                    replace hx116_0 := (HB.out.cell (World.block_lt_of_cell? w _ hx116_0)).trans hx116_0
                                    replace p116 := eq_true p116
                                    replace q116 := eq_true q116
                                    (try (have qd116 := q116; simp only [List.length_drop] at qd116))
                                    go_wp2
                                    go_roundg k3
                                    case measure => have := HJ4.out; have := HJ10.out; have := HK3.out; omega
                                    case rel => exact ⟨(IntKind.u64.wrap ((IntKind.u64.wrap (10 * x13_3)) + (((rd (l1.drop (x10_10 : Int).toNat) x72_3) - 48) % 256))), (wrap64 (x72_3 + 1)), (by first | rfl | (simp; done) | (simp [*]; done)), (by first | rfl | (simp; done) | (simp [*]; done)), H', ⟨by have := HJ4.out; have := HJ10.out; have := HK3.out; omega⟩, ⟨by repeat (first | (with_reducible first | exact HB.out | apply below_alloc | apply pw_below_drewN | apply below_drew1) | exact HB.out)⟩⟩
                              · rw [if_neg c23] at H
                                exact absurd H (by simp)
                            · rw [if_neg c22] at H
                              exact absurd H (by simp)
                          · rw [if_neg c21] at H
                            have c21b0 : decide (x72_3 < ((l1.drop (x10_10 : Int).toNat).length : Int)) = false := decide_eq_false c21
                            (try (have c21b1 : decide (x72_3 < ((l1.length - (x10_10 : Int).toNat : Nat) : Int)) = false := by have h_ : decide (x72_3 < ((l1.drop (x10_10 : Int).toNat).length : Int)) = false := decide_eq_false c21; simpa only [List.length_drop] using h_))
                            clear c21
                            by_cases c26 : ((rd l1 0) == 45) = true
                            · rw [if_pos c26] at H
                              have c26b0 : ((rd l1 0) == 45) = true := c26
                              (try (have c26b1 : decide ((rd l1 0) = 45) = true := by simpa using c26))
                              (try (have c26b2 : ((rd l1 0) == 45) = true := by simpa using c26))
                              clear c26
                              obtain ⟨ji27, hji27⟩ : ∃ j_ : Int, (wrap64 (t107 - 1)) = j_ := ⟨_, rfl⟩
                              replace H : (if 0 ≤ (ji27) then (some (Go.bits .and .u64 (IntKind.u64.wrap (-x13_3)) (IntKind.u64.wrap ((IntKind.u64.wrap ((shl .u64 1 (ji27)) * 2)) - 1)), 0, 0)) else (none)) = some (r1, r2, r3) := by first | (rw [hji27] at H; exact H) | (simp only [hji27] at H ⊢; exact H)
                              have hji27w : (IntKind.i64.wrap (t107 - 1)) = ji27 := (i64_w _).trans hji27
                              by_cases c28 : 0 ≤ (ji27)
                              · rw [if_pos c28] at H
                                have c28b0 := eq_true c28
                                have c28b1 : decide (0 ≤ (ji27)) = true := decide_eq_true c28
                                clear c28
                                obtain ⟨ji29, hji29⟩ : ∃ j_ : Int, (shl .u64 1 (ji27)) = j_ := ⟨_, rfl⟩
                                replace H : (some (Go.bits .and .u64 (IntKind.u64.wrap (-x13_3)) (IntKind.u64.wrap ((IntKind.u64.wrap ((ji29) * 2)) - 1)), 0, 0)) = some (r1, r2, r3) := by first | (rw [hji29] at H; exact H) | (simp only [hji29] at H ⊢; exact H)
                                have hji29_ : (IntKind.u64.wrap (1 * 2 ^ min (ji27).toNat 64)) = ji29 := hji29
                                have hji29z : (ji27) ≤ 64 → (IntKind.u64.wrap (1 * 2 ^ (ji27).toNat)) = ji29 := shl_small hji29
                                have hji29u : (IntKind.u64.wrap (2 ^ min (ji27).toNat 64)) = ji29 := by have h_ := hji29_; rw [Int.one_mul] at h_; exact h_
                                have hji29v : (ji27) ≤ 64 → (IntKind.u64.wrap (2 ^ (ji27).toNat)) = ji29 := fun hle_ => by have h_ := hji29z hle_; rw [Int.one_mul] at h_; exact h_
                                simp only [Option.some.injEq, Prod.mk.injEq] at H
                                obtain ⟨rfl, rfl, rfl⟩ := H
                                go_wp2
                                go_ret3
                                exact ⟨by first | rfl | (simp [errW_none, errW_some] <;> rfl) | (simp only [← hji27, ← hji29]; first | rfl | (simp [errW_none, errW_some] <;> rfl)) | (simp [*, errW_none, errW_some] <;> rfl), by repeat (first | (with_reducible first | exact HB.out | apply below_alloc | apply pw_below_drewN | apply below_drew1) | exact HB.out)⟩
                              · rw [if_neg c28] at H
                                exact absurd H (by simp)
                            · rw [if_neg c26] at H
                              have c26b0 : ((rd l1 0) == 45) = false := by simpa using c26
                              (try (have c26b1 : decide ((rd l1 0) = 45) = false := by simpa using c26))
                              (try (have c26b2 : ((rd l1 0) == 45) = false := by simpa using c26))
                              (try (have c26b3 : ¬ ((rd l1 0) = 45) := by simpa using c26))
                              clear c26
                              simp only [Option.some.injEq, Prod.mk.injEq] at H
                              obtain ⟨rfl, rfl, rfl⟩ := H
                              go_wp2
                              go_ret3
                              exact ⟨by first | rfl | (simp [errW_none, errW_some] <;> rfl) | (simp [*, errW_none, errW_some] <;> rfl), by repeat (first | (with_reducible first | exact HB.out | apply below_alloc | apply pw_below_drewN | apply below_drew1) | exact HB.out)⟩
                    · rw [if_neg c19] at H
                      exact absurd H (by simp)
                  · rw [if_neg c18] at H
                    exact absurd H (by simp)
                · rw [if_neg c16] at H
                  exact absurd H (by simp)
  · replace c4 := Bool.eq_false_iff.mpr c4
    subst c4
    have H1 : (some (0, 0, 50)) = some (r1, r2, r3) := by rw [if_neg (show ¬ (false = true) by decide)] at H; exact H
    clear H
    have H := H1
    clear H1
    simp only [Option.some.injEq, Prod.mk.injEq] at H
    obtain ⟨rfl, rfl, rfl⟩ := H
    go_enter Try.func11, Try.ntmps11
    go_wp2_with (first | ((with_reducible refine gate_callee (f := 27) rfl ?_); refine goesL_ (some 20) rfl rfl Try.func27 (by kernel_rfl) rfl #[.int .i64 a0] rfl (by (try simp only [List.map_toArray, List.map_cons, List.map_nil]); first | done | rfl | (simp only [List.length_drop, List.length_take]; rfl)) ?_; (with_reducible refine (whole_width.calls a0 t107 t108 false _ A3.out).mono ?_); rintro e w30 ⟨rfl, hb⟩; refine ⟨_, rfl, ?_⟩; have n0_ := Aside0.mk (below_step (by repeat (first | (with_reducible first | exact HB.out | apply below_alloc | apply pw_below_drewN | apply below_drew1) | exact HB.out)) hb); clear HB; have HB := n0_; clear n0_; (try clear hb); (try clear hb2); (try clear hk); (try clear hi)))
    go_ret3
    exact ⟨by first | rfl | (simp [errW_none, errW_some] <;> rfl) | (simp [*, errW_none, errW_some] <;> rfl), by repeat (first | (with_reducible first | exact HB.out | apply below_alloc | apply pw_below_drewN | apply below_drew1) | exact HB.out)⟩

end Go.Proofs.Ytlcglnnmcgpnpaa.Q
