-- Printed functions, merged (wip/tools/pack.py).
import Derived.Test.YtobgpdmiiipmmaaQ0ZDateParts
import Derived.Test.YtobgpdmiiipmmaaQ1ZDateParts
namespace Go.Proofs.Ytobgpdmiiipmmaa.Q
open Go.RowKit Go.Proofs.YtobgpdmiiipmmaaW.PrintWords Go.Proofs.YtobgpdmiiipmmaaW.PrintLast Go.Proofs.YtobgpdmiiipmmaaW.PrintMore
attribute [local go_sem] max2_int min2_int max_two min_two max_three min_three max_four min_four   -- for this text's walks alone
set_option linter.unusedVariables false
set_option linter.unusedSimpArgs false

theorem size_lit1_16 (b : UInt8) : (⟨#[b]⟩ : ByteArray).size = 1 := rfl
/-! ### mintageref13_text: function 34 -/
mutual
def mintageref13_text.l0 : Nat → Int → Int → Option (ByteArray)
  | 0, _, _ => none
  | k + 1, x0, x3 => (mintageref13_year.f x3).bind fun t149 => (if x0 ≥ t149 then ((mintageref13_year.f x3).bind fun t150 => (mintageref13_text.l0 k (wrap64 (x0 - t150)) (wrap64 (x3 + 1)))) else (mintageref13_text.l1 k x0 x3 1))
def mintageref13_text.l1 : Nat → Int → Int → Int → Option (ByteArray)
  | 0, _, _, _ => none
  | k + 1, x0, x3, x4 => (mintageref13_Length.f k x3 x4).bind fun t151 => (if x0 ≥ t151 then ((mintageref13_Length.f k x3 x4).bind fun t152 => (mintageref13_text.l1 k (wrap64 (x0 - t152)) x3 (wrap64 (x4 + 1)))) else ((mintageref13_digits.f k x3 4).bind fun t153 => (if t153.size + 1 ≤ 9223372036854775807 then ((mintageref13_digits.f k x4 2).bind fun t154 => (if (t153 ++ (⟨#[45]⟩ : ByteArray)).size + t154.size ≤ 9223372036854775807 then (if ((t153 ++ (⟨#[45]⟩ : ByteArray)) ++ t154).size + 1 ≤ 9223372036854775807 then ((mintageref13_digits.f k (wrap64 (x0 + 1)) 2).bind fun t155 => (if (((t153 ++ (⟨#[45]⟩ : ByteArray)) ++ t154) ++ (⟨#[45]⟩ : ByteArray)).size + t155.size ≤ 9223372036854775807 then (some ((((t153 ++ (⟨#[45]⟩ : ByteArray)) ++ t154) ++ (⟨#[45]⟩ : ByteArray)) ++ t155)) else (none))) else (none)) else (none))) else (none))))
end
def mintageref13_text.f (k : Nat) (a0 : Int) : Option (ByteArray) := mintageref13_text.l0 k (wrap64 (a0 - (-719528))) 0
theorem mintageref13_text.mono_l : ∀ k, (∀ y0 y1, LeO (mintageref13_text.l0 k y0 y1) (mintageref13_text.l0 (k + 1) y0 y1)) ∧ (∀ y0 y1 y2, LeO (mintageref13_text.l1 k y0 y1 y2) (mintageref13_text.l1 (k + 1) y0 y1 y2))
  | 0 => ⟨fun _ _ r h => by simp [mintageref13_text.l0] at h, fun _ _ _ r h => by simp [mintageref13_text.l1] at h⟩
  | k + 1 => by
    obtain ⟨ih0, ih1⟩ := mintageref13_text.mono_l k
    refine ⟨?_, ?_⟩
    · intro y0 y1
      unfold mintageref13_text.l0
      repeat' first
      | (with_reducible exact ih0 _ _)
      | (with_reducible exact ih1 _ _ _)
      | (with_reducible exact mintageref13_Length.mono _ _ _)
      | (with_reducible exact mintageref13_digits.mono _ _ _)
      | (with_reducible exact LeO.refl _)
      | (with_reducible exact LeO.none _)
      | (with_reducible refine LeO.ite ?_ ?_)
      | (with_reducible refine LeO.bind ?_ (fun _ => ?_))
      | exact ih0 _ _
      | exact ih1 _ _ _
      | exact mintageref13_Length.mono _ _ _
      | exact mintageref13_digits.mono _ _ _
      | exact LeO.none _
      | refine LeO.ite ?_ ?_
      | refine LeO.bind ?_ (fun _ => ?_)
    · intro y0 y1 y2
      unfold mintageref13_text.l1
      repeat' first
      | (with_reducible exact ih0 _ _)
      | (with_reducible exact ih1 _ _ _)
      | (with_reducible exact mintageref13_Length.mono _ _ _)
      | (with_reducible exact mintageref13_digits.mono _ _ _)
      | (with_reducible exact LeO.refl _)
      | (with_reducible exact LeO.none _)
      | (with_reducible refine LeO.ite ?_ ?_)
      | (with_reducible refine LeO.bind ?_ (fun _ => ?_))
      | exact ih0 _ _
      | exact ih1 _ _ _
      | exact mintageref13_Length.mono _ _ _
      | exact mintageref13_digits.mono _ _ _
      | exact LeO.none _
      | refine LeO.ite ?_ ?_
      | refine LeO.bind ?_ (fun _ => ?_)
theorem mintageref13_text.mono : ∀ a0 k, LeO (mintageref13_text.f k a0) (mintageref13_text.f (k + 1) a0) := by
  intro a0 k
  obtain ⟨ih0, ih1⟩ := mintageref13_text.mono_l k
  unfold mintageref13_text.f
  repeat' first
      | (with_reducible exact ih0 _ _)
      | (with_reducible exact ih1 _ _ _)
      | (with_reducible exact mintageref13_Length.mono _ _ _)
      | (with_reducible exact mintageref13_digits.mono _ _ _)
      | (with_reducible exact LeO.refl _)
      | (with_reducible exact LeO.none _)
      | (with_reducible refine LeO.ite ?_ ?_)
      | (with_reducible refine LeO.bind ?_ (fun _ => ?_))
      | exact ih0 _ _
      | exact ih1 _ _ _
      | exact mintageref13_Length.mono _ _ _
      | exact mintageref13_digits.mono _ _ _
      | exact LeO.none _
      | refine LeO.ite ?_ ?_
      | refine LeO.bind ?_ (fun _ => ?_)
set_option maxHeartbeats 8000000 in
set_option maxRecDepth 100000 in
theorem mintageref13_text.calls (k : Nat) (a0 : Int) (r : ByteArray) (w : World) (h : mintageref13_text.f k a0 = some r) :
    Calls Try.prog 34 #[.int .i64 a0] w fun e w' => e = .returned (.string r) ∧ Below w.heap.size w w' := by
  have HB := Aside0.mk (Below.refl w.heap.size w)
  have H : (mintageref13_text.l0 k (wrap64 (a0 - (-719528))) 0) = some r := h
  clear h
  have H' := Aside0.mk H
  clear H
  go_enter Try.func34, Try.ntmps34
  go_wp2
  go_loopg [0, 3] k (fun kq v0 v3 w' => ∃ (x0_1 : Int) (x3_1 : Int), v0 = .int .i64 x0_1 ∧ v3 = .int .i64 x3_1 ∧ Aside0 (mintageref13_text.l0 kq x0_1 x3_1 = some r) ∧ Aside0 (kq ≤ k) ∧ Aside0 (Below w.heap.size w w'))
  case atStart => exact ⟨(wrap64 (a0 - (-719528))), (0), (by first | rfl | (simp; done) | (simp [*]; done)), (by first | rfl | (simp; done) | (simp [*]; done)), H', ⟨Nat.le_refl _⟩, ⟨by repeat (first | (with_reducible first | exact HB.out | apply below_alloc | apply pw_below_drewN | apply below_drew1) | exact HB.out)⟩⟩
  case round =>
    clear H'
    obtain ⟨x0_1, x3_1, rfl, rfl, HA, HK1, HB⟩ := hrel
    cases gk with
    | zero => exact absurd HA.out (by simp [mintageref13_text.l0])
    | succ k1 =>
      have H := HA.out
      clear HA
      simp only [mintageref13_text.l0] at H
      replace H := Option.bind_eq_some_iff.mp H
      obtain ⟨t149, A20, H⟩ := H
      replace H : (if x0_1 ≥ t149 then ((mintageref13_year.f x3_1).bind fun t150 => (mintageref13_text.l0 k1 (wrap64 (x0_1 - t150)) (wrap64 (x3_1 + 1)))) else (mintageref13_text.l1 k1 x0_1 x3_1 1)) = some r := H
      have A2 := Aside0.mk A20
      clear A20
      by_cases c3 : x0_1 ≥ t149
      · rw [if_pos c3] at H
        have c3b0 : decide (t149 ≤ x0_1) = true := decide_eq_true c3
        clear c3
        replace H := Option.bind_eq_some_iff.mp H
        obtain ⟨t150, A40, H⟩ := H
        replace H : (mintageref13_text.l0 k1 (wrap64 (x0_1 - t150)) (wrap64 (x3_1 + 1))) = some r := H
        have A4 := Aside0.mk A40
        clear A40
        have H' := Aside0.mk H
        clear H
        go_wp2_with (first | ((with_reducible refine gate_callee (f := 52) rfl ?_); refine goesL_ (some 9) rfl rfl Try.func52 (by kernel_rfl) rfl #[.int .i64 x3_1] rfl (by (try simp only [List.map_toArray, List.map_cons, List.map_nil]); first | done | rfl | (simp only [List.length_drop, List.length_take]; rfl)) ?_; (with_reducible refine (mintageref13_year.calls x3_1 t149 _ A2.out).mono ?_); rintro e w' ⟨rfl, ⟨nd, rfl⟩⟩; refine ⟨_, rfl, ?_⟩) | ((with_reducible refine gate_callee (f := 52) rfl ?_); refine goesL_ (some 13) rfl rfl Try.func52 (by kernel_rfl) rfl #[.int .i64 x3_1] rfl (by (try simp only [List.map_toArray, List.map_cons, List.map_nil]); first | done | rfl | (simp only [List.length_drop, List.length_take]; rfl)) ?_; (with_reducible refine (mintageref13_year.calls x3_1 t150 _ A4.out).mono ?_); rintro e w' ⟨rfl, ⟨nd, rfl⟩⟩; refine ⟨_, rfl, ?_⟩))
        go_roundg k1
        case measure => have := HK1.out; omega
        case rel => exact ⟨(wrap64 (x0_1 - t150)), (wrap64 (x3_1 + 1)), (by first | rfl | (simp; done) | (simp [*]; done)), (by first | rfl | (simp; done) | (simp [*]; done)), H', ⟨by have := HK1.out; omega⟩, ⟨by repeat (first | (with_reducible first | exact HB.out | apply below_alloc | apply pw_below_drewN | apply below_drew1) | exact HB.out)⟩⟩
      · rw [if_neg c3] at H
        have c3b0 : decide (t149 ≤ x0_1) = false := decide_eq_false c3
        clear c3
        have H' := Aside0.mk H
        clear H
        go_wp2_with (first | ((with_reducible refine gate_callee (f := 52) rfl ?_); refine goesL_ (some 9) rfl rfl Try.func52 (by kernel_rfl) rfl #[.int .i64 x3_1] rfl (by (try simp only [List.map_toArray, List.map_cons, List.map_nil]); first | done | rfl | (simp only [List.length_drop, List.length_take]; rfl)) ?_; (with_reducible refine (mintageref13_year.calls x3_1 t149 _ A2.out).mono ?_); rintro e w' ⟨rfl, ⟨nd, rfl⟩⟩; refine ⟨_, rfl, ?_⟩))
        go_loopg [0, 4] k1 (fun kq v0 v4 w' => ∃ (x0_2 : Int) (x4_2 : Int), v0 = .int .i64 x0_2 ∧ v4 = .int .i64 x4_2 ∧ Aside0 (mintageref13_text.l1 kq x0_2 x3_1 x4_2 = some r) ∧ Aside0 (kq ≤ k1) ∧ Aside0 (Below w.heap.size w w'))
        case atStart => exact ⟨(x0_1), (1), (by first | rfl | (simp; done) | (simp [*]; done)), (by first | rfl | (simp; done) | (simp [*]; done)), H', ⟨Nat.le_refl _⟩, ⟨by repeat (first | (with_reducible first | exact HB.out | apply below_alloc | apply pw_below_drewN | apply below_drew1) | exact HB.out)⟩⟩
        case round =>
          clear H'
          try clear p2
          try clear c3
          try clear c3b0
          obtain ⟨x0_2, x4_2, rfl, rfl, HA, HK2, HB⟩ := hrel
          cases gk with
          | zero => exact absurd HA.out (by simp [mintageref13_text.l1])
          | succ k2 =>
            have H := HA.out
            clear HA
            simp only [mintageref13_text.l1] at H
            replace H := Option.bind_eq_some_iff.mp H
            obtain ⟨t151, A50, H⟩ := H
            replace H : (if x0_2 ≥ t151 then ((mintageref13_Length.f k2 x3_1 x4_2).bind fun t152 => (mintageref13_text.l1 k2 (wrap64 (x0_2 - t152)) x3_1 (wrap64 (x4_2 + 1)))) else ((mintageref13_digits.f k2 x3_1 4).bind fun t153 => (if t153.size + 1 ≤ 9223372036854775807 then ((mintageref13_digits.f k2 x4_2 2).bind fun t154 => (if (t153 ++ (⟨#[45]⟩ : ByteArray)).size + t154.size ≤ 9223372036854775807 then (if ((t153 ++ (⟨#[45]⟩ : ByteArray)) ++ t154).size + 1 ≤ 9223372036854775807 then ((mintageref13_digits.f k2 (wrap64 (x0_2 + 1)) 2).bind fun t155 => (if (((t153 ++ (⟨#[45]⟩ : ByteArray)) ++ t154) ++ (⟨#[45]⟩ : ByteArray)).size + t155.size ≤ 9223372036854775807 then (some ((((t153 ++ (⟨#[45]⟩ : ByteArray)) ++ t154) ++ (⟨#[45]⟩ : ByteArray)) ++ t155)) else (none))) else (none)) else (none))) else (none)))) = some r := H
            have A5 := Aside0.mk A50
            clear A50
            by_cases c6 : x0_2 ≥ t151
            · rw [if_pos c6] at H
              have c6b0 : decide (t151 ≤ x0_2) = true := decide_eq_true c6
              clear c6
              replace H := Option.bind_eq_some_iff.mp H
              obtain ⟨t152, A70, H⟩ := H
              replace H : (mintageref13_text.l1 k2 (wrap64 (x0_2 - t152)) x3_1 (wrap64 (x4_2 + 1))) = some r := H
              have A7 := Aside0.mk A70
              clear A70
              have H' := Aside0.mk H
              clear H
              go_wp2_with (first | ((with_reducible refine gate_callee (f := 28) rfl ?_); refine goesL_ (some 20) rfl rfl Try.func28 (by kernel_rfl) rfl #[.int .i64 x3_1, .int .i64 x4_2] rfl (by (try simp only [List.map_toArray, List.map_cons, List.map_nil]); first | done | rfl | (simp only [List.length_drop, List.length_take]; rfl)) ?_; (with_reducible refine (mintageref13_Length.calls k2 x3_1 x4_2 t151 _ A5.out).mono ?_); rintro e w' ⟨rfl, ⟨nd, rfl⟩⟩; refine ⟨_, rfl, ?_⟩) | ((with_reducible refine gate_callee (f := 28) rfl ?_); refine goesL_ (some 25) rfl rfl Try.func28 (by kernel_rfl) rfl #[.int .i64 x3_1, .int .i64 x4_2] rfl (by (try simp only [List.map_toArray, List.map_cons, List.map_nil]); first | done | rfl | (simp only [List.length_drop, List.length_take]; rfl)) ?_; (with_reducible refine (mintageref13_Length.calls k2 x3_1 x4_2 t152 _ A7.out).mono ?_); rintro e w' ⟨rfl, ⟨nd, rfl⟩⟩; refine ⟨_, rfl, ?_⟩))
              go_roundg k2
              case measure => have := HK1.out; have := HK2.out; omega
              case rel => exact ⟨(wrap64 (x0_2 - t152)), (wrap64 (x4_2 + 1)), (by first | rfl | (simp; done) | (simp [*]; done)), (by first | rfl | (simp; done) | (simp [*]; done)), H', ⟨by have := HK1.out; have := HK2.out; omega⟩, ⟨by repeat (first | (with_reducible first | exact HB.out | apply below_alloc | apply pw_below_drewN | apply below_drew1) | exact HB.out)⟩⟩
            · rw [if_neg c6] at H
              have c6b0 : decide (t151 ≤ x0_2) = false := decide_eq_false c6
              clear c6
              replace H := Option.bind_eq_some_iff.mp H
              obtain ⟨t153, A80, H⟩ := H
              replace H : (if t153.size + 1 ≤ 9223372036854775807 then ((mintageref13_digits.f k2 x4_2 2).bind fun t154 => (if (t153 ++ (⟨#[45]⟩ : ByteArray)).size + t154.size ≤ 9223372036854775807 then (if ((t153 ++ (⟨#[45]⟩ : ByteArray)) ++ t154).size + 1 ≤ 9223372036854775807 then ((mintageref13_digits.f k2 (wrap64 (x0_2 + 1)) 2).bind fun t155 => (if (((t153 ++ (⟨#[45]⟩ : ByteArray)) ++ t154) ++ (⟨#[45]⟩ : ByteArray)).size + t155.size ≤ 9223372036854775807 then (some ((((t153 ++ (⟨#[45]⟩ : ByteArray)) ++ t154) ++ (⟨#[45]⟩ : ByteArray)) ++ t155)) else (none))) else (none)) else (none))) else (none)) = some r := H
              have A8 := Aside0.mk A80
              clear A80
              by_cases c9 : t153.size + 1 ≤ 9223372036854775807
              · rw [if_pos c9] at H
                have c9b0 := eq_true c9
                have c9b1 : decide (t153.size + 1 ≤ 9223372036854775807) = true := decide_eq_true c9
                try have c9b2 : (9223372036854775807 < t153.size + 1) = False := eq_false (Nat.not_lt.2 c9)
                replace H := Option.bind_eq_some_iff.mp H
                obtain ⟨t154, A100, H⟩ := H
                replace H : (if (t153 ++ (⟨#[45]⟩ : ByteArray)).size + t154.size ≤ 9223372036854775807 then (if ((t153 ++ (⟨#[45]⟩ : ByteArray)) ++ t154).size + 1 ≤ 9223372036854775807 then ((mintageref13_digits.f k2 (wrap64 (x0_2 + 1)) 2).bind fun t155 => (if (((t153 ++ (⟨#[45]⟩ : ByteArray)) ++ t154) ++ (⟨#[45]⟩ : ByteArray)).size + t155.size ≤ 9223372036854775807 then (some ((((t153 ++ (⟨#[45]⟩ : ByteArray)) ++ t154) ++ (⟨#[45]⟩ : ByteArray)) ++ t155)) else (none))) else (none)) else (none)) = some r := H
                have A10 := Aside0.mk A100
                clear A100
                by_cases c11 : (t153 ++ (⟨#[45]⟩ : ByteArray)).size + t154.size ≤ 9223372036854775807
                · rw [if_pos c11] at H
                  have c11b0 := eq_true c11
                  have c11b1 : decide ((t153 ++ (⟨#[45]⟩ : ByteArray)).size + t154.size ≤ 9223372036854775807) = true := decide_eq_true c11
                  try have c11b2 : (9223372036854775807 < (t153 ++ (⟨#[45]⟩ : ByteArray)).size + t154.size) = False := eq_false (Nat.not_lt.2 c11)
                  try (have c11s := c11; simp only [ByteArray.size_append, size_lit1_16] at c11s)
                  by_cases c12 : ((t153 ++ (⟨#[45]⟩ : ByteArray)) ++ t154).size + 1 ≤ 9223372036854775807
                  · rw [if_pos c12] at H
                    have c12b0 := eq_true c12
                    have c12b1 : decide (((t153 ++ (⟨#[45]⟩ : ByteArray)) ++ t154).size + 1 ≤ 9223372036854775807) = true := decide_eq_true c12
                    try have c12b2 : (9223372036854775807 < ((t153 ++ (⟨#[45]⟩ : ByteArray)) ++ t154).size + 1) = False := eq_false (Nat.not_lt.2 c12)
                    try (have c12s := c12; simp only [ByteArray.size_append, size_lit1_16] at c12s)
                    replace H := Option.bind_eq_some_iff.mp H
                    obtain ⟨t155, A130, H⟩ := H
                    replace H : (if (((t153 ++ (⟨#[45]⟩ : ByteArray)) ++ t154) ++ (⟨#[45]⟩ : ByteArray)).size + t155.size ≤ 9223372036854775807 then (some ((((t153 ++ (⟨#[45]⟩ : ByteArray)) ++ t154) ++ (⟨#[45]⟩ : ByteArray)) ++ t155)) else (none)) = some r := H
                    have A13 := Aside0.mk A130
                    clear A130
                    by_cases c14 : (((t153 ++ (⟨#[45]⟩ : ByteArray)) ++ t154) ++ (⟨#[45]⟩ : ByteArray)).size + t155.size ≤ 9223372036854775807
                    · rw [if_pos c14] at H
                      have c14b0 := eq_true c14
                      have c14b1 : decide ((((t153 ++ (⟨#[45]⟩ : ByteArray)) ++ t154) ++ (⟨#[45]⟩ : ByteArray)).size + t155.size ≤ 9223372036854775807) = true := decide_eq_true c14
                      try have c14b2 : (9223372036854775807 < (((t153 ++ (⟨#[45]⟩ : ByteArray)) ++ t154) ++ (⟨#[45]⟩ : ByteArray)).size + t155.size) = False := eq_false (Nat.not_lt.2 c14)
                      try (have c14s := c14; simp only [ByteArray.size_append, size_lit1_16] at c14s)
                      obtain rfl := Option.some.inj H
                      go_wp2_with (first | ((with_reducible refine gate_callee (f := 28) rfl ?_); refine goesL_ (some 20) rfl rfl Try.func28 (by kernel_rfl) rfl #[.int .i64 x3_1, .int .i64 x4_2] rfl (by (try simp only [List.map_toArray, List.map_cons, List.map_nil]); first | done | rfl | (simp only [List.length_drop, List.length_take]; rfl)) ?_; (with_reducible refine (mintageref13_Length.calls k2 x3_1 x4_2 t151 _ A5.out).mono ?_); rintro e w' ⟨rfl, ⟨nd, rfl⟩⟩; refine ⟨_, rfl, ?_⟩) | ((with_reducible refine gate_callee (f := 38) rfl ?_); refine goesL_ (some 30) rfl rfl Try.func38 (by kernel_rfl) rfl #[.int .i64 x3_1, .int .i64 4] rfl (by (try simp only [List.map_toArray, List.map_cons, List.map_nil]); first | done | rfl | (simp only [List.length_drop, List.length_take]; rfl)) ?_; (with_reducible refine (mintageref13_digits.calls k2 x3_1 4 t153 _ A8.out).mono ?_); rintro e w15 ⟨rfl, hb⟩; refine ⟨_, rfl, ?_⟩; have n0_ := Aside0.mk (below_step (by repeat (first | (with_reducible first | exact HB.out | apply below_alloc | apply pw_below_drewN | apply below_drew1) | exact HB.out)) hb); clear HB; have HB := n0_; clear n0_; (try clear hb); (try clear hb2); (try clear hk); (try clear hi)) | ((with_reducible refine gate_callee (f := 38) rfl ?_); refine goesL_ (some 33) rfl rfl Try.func38 (by kernel_rfl) rfl #[.int .i64 x4_2, .int .i64 2] rfl (by (try simp only [List.map_toArray, List.map_cons, List.map_nil]); first | done | rfl | (simp only [List.length_drop, List.length_take]; rfl)) ?_; (with_reducible refine (mintageref13_digits.calls k2 x4_2 2 t154 _ A10.out).mono ?_); rintro e w16 ⟨rfl, hb⟩; refine ⟨_, rfl, ?_⟩; have n0_ := Aside0.mk (below_step (by repeat (first | (with_reducible first | exact HB.out | apply below_alloc | apply pw_below_drewN | apply below_drew1) | exact HB.out)) hb); clear HB; have HB := n0_; clear n0_; (try clear hb); (try clear hb2); (try clear hk); (try clear hi)) | ((with_reducible refine gate_callee (f := 38) rfl ?_); refine goesL_ (some 38) rfl rfl Try.func38 (by kernel_rfl) rfl #[.int .i64 (wrap64 (x0_2 + 1)), .int .i64 2] rfl (by (try simp only [List.map_toArray, List.map_cons, List.map_nil]); first | done | rfl | (simp only [List.length_drop, List.length_take]; rfl)) ?_; (with_reducible refine (mintageref13_digits.calls k2 (wrap64 (x0_2 + 1)) 2 t155 _ A13.out).mono ?_); rintro e w17 ⟨rfl, hb⟩; refine ⟨_, rfl, ?_⟩; have n0_ := Aside0.mk (below_step (by repeat (first | (with_reducible first | exact HB.out | apply below_alloc | apply pw_below_drewN | apply below_drew1) | exact HB.out)) hb); clear HB; have HB := n0_; clear n0_; (try clear hb); (try clear hb2); (try clear hk); (try clear hi)))
                      go_ret
                      exact ⟨by first | rfl | (simp [errW_none, errW_some] <;> rfl) | (simp [*, errW_none, errW_some] <;> rfl), by repeat (first | (with_reducible first | exact HB.out | apply below_alloc | apply pw_below_drewN | apply below_drew1) | exact HB.out)⟩
                    · rw [if_neg c14] at H
                      exact absurd H (by simp)
                  · rw [if_neg c12] at H
                    exact absurd H (by simp)
                · rw [if_neg c11] at H
                  exact absurd H (by simp)
              · rw [if_neg c9] at H
                exact absurd H (by simp)

end Go.Proofs.Ytobgpdmiiipmmaa.Q

namespace Go.Proofs.Ytobgpdmiiipmmaa.Q
open Go.RowKit Go.Proofs.YtobgpdmiiipmmaaW.PrintWords Go.Proofs.YtobgpdmiiipmmaaW.PrintLast Go.Proofs.YtobgpdmiiipmmaaW.PrintMore
attribute [local go_sem] max2_int min2_int max_two min_two max_three min_three max_four min_four   -- for this text's walks alone
set_option linter.unusedVariables false
set_option linter.unusedSimpArgs false

/-! ### mintageref13_IsMoment: function 37 -/
def mintageref13_IsMoment.f (a0 : Int) : Option (Int × Bool) := if (wrap64 (a0)) ≥ (-62167219200000000) then (some (wrap64 (a0), decide ((wrap64 (a0)) < 253402300800000000))) else (some (wrap64 (a0), false))
set_option maxHeartbeats 8000000 in
set_option maxRecDepth 100000 in
theorem mintageref13_IsMoment.calls (a0 : Int) (r1 : Int) (r2 : Bool) (w : World) (h : mintageref13_IsMoment.f a0 = some (r1, r2)) :
    Calls Try.prog 37 #[.int .u64 a0] w fun e w' => e = .returned (.tuple #[.int .i64 r1, .bool r2]) ∧ Drawn0 w w' := by
  have H : (if (wrap64 (a0)) ≥ (-62167219200000000) then (some (wrap64 (a0), decide ((wrap64 (a0)) < 253402300800000000))) else (some (wrap64 (a0), false))) = some (r1, r2) := h
  clear h
  by_cases c2 : (wrap64 (a0)) ≥ (-62167219200000000)
  · rw [if_pos c2] at H
    have c2b0 : decide ((-62167219200000000) ≤ (wrap64 (a0))) = true := decide_eq_true c2
    clear c2
    simp only [Option.some.injEq, Prod.mk.injEq] at H
    obtain ⟨rfl, rfl⟩ := H
    go_enter Try.func37, Try.ntmps37
    go_wp2
    go_ret2
    exact ⟨by first | rfl | (simp; done) | (simp [*]; done), by repeat (first | exact Drawn0.refl _ | apply Drawn0.step)⟩
  · rw [if_neg c2] at H
    have c2b0 : decide ((-62167219200000000) ≤ (wrap64 (a0))) = false := decide_eq_false c2
    clear c2
    simp only [Option.some.injEq, Prod.mk.injEq] at H
    obtain ⟨rfl, rfl⟩ := H
    go_enter Try.func37, Try.ntmps37
    go_wp2
    go_ret2
    exact ⟨by first | rfl | (simp; done) | (simp [*]; done), by repeat (first | exact Drawn0.refl _ | apply Drawn0.step)⟩

end Go.Proofs.Ytobgpdmiiipmmaa.Q

namespace Go.Proofs.Ytobgpdmiiipmmaa.Q
open Go.RowKit Go.Proofs.YtobgpdmiiipmmaaW.PrintWords Go.Proofs.YtobgpdmiiipmmaaW.PrintLast Go.Proofs.YtobgpdmiiipmmaaW.PrintMore
attribute [local go_sem] max2_int min2_int max_two min_two max_three min_three max_four min_four   -- for this text's walks alone
set_option linter.unusedVariables false
set_option linter.unusedSimpArgs false

/-! ### mintageref13_IsDay: function 33 -/
def mintageref13_IsDay.f (a0 : Int) : Option (Int × Bool) := if (wrap64 (a0)) ≥ (-719528) then (some (wrap64 (a0), decide ((wrap64 (a0)) ≤ 2932896))) else (some (wrap64 (a0), false))
set_option maxHeartbeats 8000000 in
set_option maxRecDepth 100000 in
theorem mintageref13_IsDay.calls (a0 : Int) (r1 : Int) (r2 : Bool) (w : World) (h : mintageref13_IsDay.f a0 = some (r1, r2)) :
    Calls Try.prog 33 #[.int .u64 a0] w fun e w' => e = .returned (.tuple #[.int .i64 r1, .bool r2]) ∧ Drawn0 w w' := by
  have H : (if (wrap64 (a0)) ≥ (-719528) then (some (wrap64 (a0), decide ((wrap64 (a0)) ≤ 2932896))) else (some (wrap64 (a0), false))) = some (r1, r2) := h
  clear h
  by_cases c2 : (wrap64 (a0)) ≥ (-719528)
  · rw [if_pos c2] at H
    have c2b0 : decide ((-719528) ≤ (wrap64 (a0))) = true := decide_eq_true c2
    clear c2
    simp only [Option.some.injEq, Prod.mk.injEq] at H
    obtain ⟨rfl, rfl⟩ := H
    go_enter Try.func33, Try.ntmps33
    go_wp2
    go_ret2
    exact ⟨by first | rfl | (simp; done) | (simp [*]; done), by repeat (first | exact Drawn0.refl _ | apply Drawn0.step)⟩
  · rw [if_neg c2] at H
    have c2b0 : decide ((-719528) ≤ (wrap64 (a0))) = false := decide_eq_false c2
    clear c2
    simp only [Option.some.injEq, Prod.mk.injEq] at H
    obtain ⟨rfl, rfl⟩ := H
    go_enter Try.func33, Try.ntmps33
    go_wp2
    go_ret2
    exact ⟨by first | rfl | (simp; done) | (simp [*]; done), by repeat (first | exact Drawn0.refl _ | apply Drawn0.step)⟩

end Go.Proofs.Ytobgpdmiiipmmaa.Q

namespace Go.Proofs.Ytobgpdmiiipmmaa.Q
open Go.RowKit Go.Proofs.YtobgpdmiiipmmaaW.PrintWords Go.Proofs.YtobgpdmiiipmmaaW.PrintLast Go.Proofs.YtobgpdmiiipmmaaW.PrintMore
attribute [local go_sem] max2_int min2_int max_two min_two max_three min_three max_four min_four   -- for this text's walks alone
set_option linter.unusedVariables false
set_option linter.unusedSimpArgs false

/-! ### mintagelaw13_text: function 30 -/
def mintagelaw13_text.l0 : Nat → Int → Int → ByteArray → Int → Option (ByteArray)
  | 0, _, _, _, _ => none
  | k + 1, x0, x1, x5, x6 => if x6 < x1 then ((some (([(IntKind.u64.wrap (48 + (Int.tmod x0 10))) % 256] : List Int) : List Int)).bind fun y385 => (if (strOfNums y385).size + x5.size ≤ 9223372036854775807 then (mintagelaw13_text.l0 k (IntKind.u64.wrap (Int.tdiv x0 10)) x1 ((strOfNums y385) ++ x5) (wrap64 (x6 + 1))) else (none))) else (some x5)
def mintagelaw13_text.f (k : Nat) (a0 : Int) (a1 : Int) : Option (ByteArray) := mintagelaw13_text.l0 k a0 a1 (⟨#[]⟩ : ByteArray) 0
theorem mintagelaw13_text.mono_l : ∀ k, (∀ y0 y1 y2 y3, LeO (mintagelaw13_text.l0 k y0 y1 y2 y3) (mintagelaw13_text.l0 (k + 1) y0 y1 y2 y3))
  | 0 => fun _ _ _ _ r h => by simp [mintagelaw13_text.l0] at h
  | k + 1 => by
    have ih0 := mintagelaw13_text.mono_l k
    · intro y0 y1 y2 y3
      unfold mintagelaw13_text.l0
      repeat' first
      | (with_reducible exact ih0 _ _ _ _)
      | (with_reducible exact LeO.refl _)
      | (with_reducible exact LeO.none _)
      | (with_reducible refine LeO.ite ?_ ?_)
      | (with_reducible refine LeO.bind ?_ (fun _ => ?_))
      | exact ih0 _ _ _ _
      | exact LeO.none _
      | refine LeO.ite ?_ ?_
      | refine LeO.bind ?_ (fun _ => ?_)
theorem mintagelaw13_text.mono : ∀ a0 a1 k, LeO (mintagelaw13_text.f k a0 a1) (mintagelaw13_text.f (k + 1) a0 a1) := by
  intro a0 a1 k
  have ih0 := mintagelaw13_text.mono_l k
  unfold mintagelaw13_text.f
  repeat' first
      | (with_reducible exact ih0 _ _ _ _)
      | (with_reducible exact LeO.refl _)
      | (with_reducible exact LeO.none _)
      | (with_reducible refine LeO.ite ?_ ?_)
      | (with_reducible refine LeO.bind ?_ (fun _ => ?_))
      | exact ih0 _ _ _ _
      | exact LeO.none _
      | refine LeO.ite ?_ ?_
      | refine LeO.bind ?_ (fun _ => ?_)
set_option maxHeartbeats 8000000 in
set_option maxRecDepth 100000 in
theorem mintagelaw13_text.calls (k : Nat) (a0 : Int) (a1 : Int) (r : ByteArray) (w : World) (h : mintagelaw13_text.f k a0 a1 = some r) :
    Calls Try.prog 30 #[.int .u64 a0, .int .i64 a1] w fun e w' => e = .returned (.string r) ∧ Below w.heap.size w w' := by
  have HB := Aside0.mk (Below.refl w.heap.size w)
  have H : (mintagelaw13_text.l0 k a0 a1 (⟨#[]⟩ : ByteArray) 0) = some r := h
  clear h
  have H' := Aside0.mk H
  clear H
  go_enter Try.func30, Try.ntmps30
  go_wp2
  go_loopg [0, 5, 6] k (fun kq v0 v5 v6 w' => ∃ (x0_1 : Int) (x5_1 : ByteArray) (x6_1 : Int), v0 = .int .u64 x0_1 ∧ v5 = .string x5_1 ∧ v6 = .int .i64 x6_1 ∧ Aside0 (mintagelaw13_text.l0 kq x0_1 a1 x5_1 x6_1 = some r) ∧ Aside0 (kq ≤ k) ∧ Aside0 (Below w.heap.size w w'))
  case atStart => exact ⟨(a0), ((⟨#[]⟩ : ByteArray)), (0), (by first | rfl | (simp; done) | (simp [*]; done)), (by first | rfl | (simp; done) | (simp [*]; done)), (by first | rfl | (simp; done) | (simp [*]; done)), H', ⟨Nat.le_refl _⟩, ⟨by repeat (first | (with_reducible first | exact HB.out | apply below_alloc | apply pw_below_drewN | apply below_drew1) | exact HB.out)⟩⟩
  case round =>
    clear H'
    try clear p2
    obtain ⟨x0_1, x5_1, x6_1, rfl, rfl, rfl, HA, HK1, HB⟩ := hrel
    cases gk with
    | zero => exact absurd HA.out (by simp [mintagelaw13_text.l0])
    | succ k1 =>
      have H := HA.out
      clear HA
      simp only [mintagelaw13_text.l0] at H
      by_cases c3 : x6_1 < a1
      · rw [if_pos c3] at H
        have c3b0 : decide (x6_1 < a1) = true := decide_eq_true c3
        clear c3
        obtain ⟨y385, hy385⟩ : ∃ y_ : List Int, y_ = (([(IntKind.u64.wrap (48 + (Int.tmod x0_1 10))) % 256] : List Int)) := ⟨_, rfl⟩
        replace H : (if (strOfNums y385).size + x5_1.size ≤ 9223372036854775807 then (mintagelaw13_text.l0 k1 (IntKind.u64.wrap (Int.tdiv x0_1 10)) a1 ((strOfNums y385) ++ x5_1) (wrap64 (x6_1 + 1))) else (none)) = some r := by first | (rw [hy385]; with_reducible exact H) | (have H2_ := (Option.bind_some _ _).symm.trans H; rw [hy385]; with_reducible exact H2_) | (have H2_ := (Option.bind_some _ _).symm.trans H; with_reducible exact H2_) | with_reducible exact H | (rw [hy385]; exact H) | exact H
        have Ny385 := Aside0.mk hy385
        clear hy385
        by_cases c4 : (strOfNums y385).size + x5_1.size ≤ 9223372036854775807
        · rw [if_pos c4] at H
          have c4b0 := eq_true c4
          have c4b1 : decide ((strOfNums y385).size + x5_1.size ≤ 9223372036854775807) = true := decide_eq_true c4
          try have c4b2 : (9223372036854775807 < (strOfNums y385).size + x5_1.size) = False := eq_false (Nat.not_lt.2 c4)
          have H' := Aside0.mk H
          clear H
          go_wp2_with (first | ((with_reducible refine gate_dst (N := 16) rfl ?_); refine Kd.R_lit (Kd.int .u8) _ 5 ?hg (N := 16) ?hd (xs := ([(IntKind.u64.wrap (48 + (Int.tmod x0_1 10))) % 256] : List Int)) (inner := [.int .u8 ((IntKind.u64.wrap (48 + (Int.tmod x0_1 10))) % 256)]) (ok := fun _ => True) (okp := fun _ => True) ?hr ?hp (fun _ hk => hk) trivial (Below.refl _ _) (Nat.le_refl _) (by simp) ?_; (case hd => rfl); (case hg => rfl); (case hr => first | (go_simp; done) | (go_simp; rfl) | (go_simp; simp only [u64_of_u8, i64_of_u8]; done) | (go_simp; simp only [u64_of_u8, i64_of_u8]; rfl)); (case hp => exact (Reps.one (show Kd.M (Kd.int .u8) _ _ _ ((IntKind.u64.wrap (48 + (Int.tmod x0_1 10))) % 256) [.int .u8 ((IntKind.u64.wrap (48 + (Int.tmod x0_1 10))) % 256)] from rfl) (Reps.none _ _))); intro v386 w5 ho6 hb hg_ hnew_; clear hg_ hnew_; (first | rw [← Ny385.out] at ho6 | (simp only [Int.reduceToNat] at ho6; rw [← Ny385.out] at ho6)); have n0_ := Aside0.mk (Kd.R_lower ho6 (below_size (by repeat (first | (with_reducible first | exact HB.out | apply below_alloc | apply pw_below_drewN | apply below_drew1) | exact HB.out)))); have n1_ := Aside0.mk (below_step (by repeat (first | (with_reducible first | exact HB.out | apply below_alloc | apply pw_below_drewN | apply below_drew1) | exact HB.out)) hb); clear HB; have HO387 := n0_; have HB := n1_; clear n0_ n1_; clear hb ho6; have hcv7 := own_string (P := Try.prog) Try.underlying29 Try.underlying5 Try.underlying9 (Kd.own_of_R HO387.out); (try (have hcv7n := fun n_ => own_string (P := Try.prog) Try.underlying29 Try.underlying5 Try.underlying9 (Kd.own_of_R (Kd.R_drewN HO387.out n_))))))
          go_roundg k1
          case measure => have := HK1.out; omega
          case rel => exact ⟨(IntKind.u64.wrap (Int.tdiv x0_1 10)), ((strOfNums y385) ++ x5_1), (wrap64 (x6_1 + 1)), (by first | rfl | (simp; done) | (simp [*]; done)), (by first | rfl | (simp; done) | (simp [*]; done)), (by first | rfl | (simp; done) | (simp [*]; done)), H', ⟨by have := HK1.out; omega⟩, ⟨by repeat (first | (with_reducible first | exact HB.out | apply below_alloc | apply pw_below_drewN | apply below_drew1) | exact HB.out)⟩⟩
        · rw [if_neg c4] at H
          exact absurd H (by simp)
      · rw [if_neg c3] at H
        have c3b0 : decide (x6_1 < a1) = false := decide_eq_false c3
        clear c3
        obtain rfl := Option.some.inj H
        go_wp2
        go_ret
        exact ⟨by first | rfl | (simp [errW_none, errW_some] <;> rfl) | (simp [*, errW_none, errW_some] <;> rfl), by repeat (first | (with_reducible first | exact HB.out | apply below_alloc | apply pw_below_drewN | apply below_drew1) | exact HB.out)⟩

end Go.Proofs.Ytobgpdmiiipmmaa.Q

namespace Go.Proofs.Ytobgpdmiiipmmaa.Q
open Go.RowKit Go.Proofs.YtobgpdmiiipmmaaW.PrintWords Go.Proofs.YtobgpdmiiipmmaaW.PrintLast Go.Proofs.YtobgpdmiiipmmaaW.PrintMore
attribute [local go_sem] max2_int min2_int max_two min_two max_three min_three max_four min_four   -- for this text's walks alone
set_option linter.unusedVariables false
set_option linter.unusedSimpArgs false

/-! ### mintagekeep_Same: function 15 -/
def mintagekeep_Same.f (l0 : List Int) (l1 : List Int) : Option (Bool) := some ((strOfNums l0).toList == (strOfNums l1).toList)
set_option maxHeartbeats 8000000 in
set_option maxRecDepth 100000 in
theorem mintagekeep_Same.calls (A0 : Option Addr) (c0 : Nat) (l0 : List Int) (A1 : Option Addr) (c1 : Nat) (l1 : List Int) (r : Bool) (w : World) (hr0 : Kd.C (Kd.int .u8) w A0 l0.length l0) (hc0 : l0.length ≤ c0) (hr1 : Kd.C (Kd.int .u8) w A1 l1.length l1) (hc1 : l1.length ≤ c1) (h : mintagekeep_Same.f l0 l1 = some r) :
    Calls Try.prog 15 #[.slice A0 l0.length c0, .slice A1 l1.length c1] w fun e w' => e = .returned (.bool r) ∧ Drawn0 w w' := by
  have HR0 := Aside0.mk hr0
  have HC0 := Aside0.mk hc0
  clear hr0 hc0
  have HR1 := Aside0.mk hr1
  have HC1 := Aside0.mk hc1
  clear hr1 hc1
  have H : (some ((strOfNums l0).toList == (strOfNums l1).toList)) = some r := h
  clear h
  obtain rfl := Option.some.inj H
  have hcv3 := Kd.C_string (P := Try.prog) (A := A0) (c := c0) Try.underlying29 Try.underlying5 Try.underlying9 HR0.out
  have hcv4 := Kd.C_string (P := Try.prog) (A := A1) (c := c1) Try.underlying29 Try.underlying5 Try.underlying9 HR1.out
  go_enter Try.func15, Try.ntmps15
  go_wp2
  go_ret
  exact ⟨by first | rfl | (simp; done) | (simp [*]; done), by repeat (first | exact Drawn0.refl _ | apply Drawn0.step)⟩

end Go.Proofs.Ytobgpdmiiipmmaa.Q

namespace Go.Proofs.Ytobgpdmiiipmmaa.Q
open Go.RowKit Go.Proofs.YtobgpdmiiipmmaaW.PrintWords Go.Proofs.YtobgpdmiiipmmaaW.PrintLast Go.Proofs.YtobgpdmiiipmmaaW.PrintMore
attribute [local go_sem] max2_int min2_int max_two min_two max_three min_three max_four min_four   -- for this text's walks alone
set_option linter.unusedVariables false
set_option linter.unusedSimpArgs false

/-! ### mintagelaw13_num: function 16 -/
def mintagelaw13_num.f (a0 : Int) : Option (Int) := some a0
set_option maxHeartbeats 8000000 in
set_option maxRecDepth 100000 in
theorem mintagelaw13_num.calls (a0 : Int) (r : Int) (w : World) (h : mintagelaw13_num.f a0 = some r) :
    Calls Try.prog 16 #[.int .i64 a0] w fun e w' => e = .returned (.int .i64 r) ∧ Drawn0 w w' := by
  have H : (some a0) = some r := h
  clear h
  obtain rfl := Option.some.inj H
  go_enter Try.func16, Try.ntmps16
  go_wp2
  go_ret
  exact ⟨by first | rfl | (simp; done) | (simp [*]; done), by repeat (first | exact Drawn0.refl _ | apply Drawn0.step)⟩

end Go.Proofs.Ytobgpdmiiipmmaa.Q

namespace Go.Proofs.Ytobgpdmiiipmmaa.Q
open Go.RowKit Go.Proofs.YtobgpdmiiipmmaaW.PrintWords Go.Proofs.YtobgpdmiiipmmaaW.PrintLast Go.Proofs.YtobgpdmiiipmmaaW.PrintMore
attribute [local go_sem] max2_int min2_int max_two min_two max_three min_three max_four min_four   -- for this text's walks alone
set_option linter.unusedVariables false
set_option linter.unusedSimpArgs false

/-! ### mintagelaw13_wakes: function 18 -/
section
def mintagelaw13_wakes.f : Option Bool := some true
theorem mintagelaw13_wakes.const_reads (W : World) (xs : List Int) (e : TypeId) (fr : Nat × Nat) (h : xs.length ≤ 1000) : ReadsInt (W.alloc (.cells (nums .u8 xs).toArray e fr)) .u8 (some ⟨W.heap.size, 0, none⟩) xs.length xs := by
  refine ⟨rfl, by omega, fun _ => ⟨_, rfl, fun j hj => ?_⟩⟩
  rw [add_plain, cell_of_row _ _ _ _ _ fr (heap_alloc_new W _)]
  simp [nums, hj, List.getD_eq_getElem?_getD]
theorem mintagelaw13_wakes.p1 (A : Addr) (W : World) (h : ReadsInt W .u8 (some A) 10 [50, 48, 48, 48, 45, 48, 50, 45, 50, 57]) :
    Calls Try.prog 23 #[.slice (some A) 10 10] W fun e w' => e = .returned (.tuple #[.int .u64 11016, .int .i64 0, .int .i64 0]) ∧ Below W.heap.size W w' :=
  date_Day.calls 40 (some A) 10 [50, 48, 48, 48, 45, 48, 50, 45, 50, 57] 11016 0 0 W (Kd.C_of_reads (d := (0 : Int)) (h1 := fun _ => rfl) h) (Nat.le_refl _) (by decide +kernel)
def mintagelaw13_wakes.tx : List Int := [49, 57, 55, 48, 45, 48, 49, 45, 48, 49, 84, 48, 48, 58, 48, 48, 58, 48, 49, 46, 53]
theorem mintagelaw13_wakes.p2 (W : World) : Calls Try.prog 13 #[.int .u64 1500000] W fun e w' => ∃ v0_ : Value, e = .returned (.tuple #[v0_, .int .i64 0]) ∧ Kd.R (Kd.int .u8) 5 w' W.heap.size (fun _ => True) v0_ mintagelaw13_wakes.tx ∧ Below W.heap.size W w' :=
  date_PrintMoment.calls 60 1500000 mintagelaw13_wakes.tx 0 W (by decide +kernel)
set_option maxHeartbeats 1000000 in
theorem mintagelaw13_wakes.calls (r : Bool) (w : World) (h : mintagelaw13_wakes.f = some r) : Calls Try.prog 18 #[] w fun e w' => e = .returned (.bool r) ∧ Below w.heap.size w w' := by
  obtain rfl : true = r := by simpa [mintagelaw13_wakes.f] using h
  clear h
  have kc := fun (w : World) (C : Array Value) (n c : Nat) => Lib.run_convert_bytes_const (P := Try.prog) w 29 5 C n c Try.underlying29 Try.underlying5
  go_enter Try.func18, Try.ntmps18
  go_wp2_with (first | (go_at_call 23; with_reducible refine (mintagelaw13_wakes.p1 _ _ (mintagelaw13_wakes.const_reads w [50, 48, 48, 48, 45, 48, 50, 45, 50, 57] 5 (10, 11) (by simp))).mono ?_; rintro e w1 ⟨rfl, hb⟩; have hB := Aside0.mk hb; clear hb) | (go_at_call 13; refine (mintagelaw13_wakes.p2 _).mono ?_; rintro e w2 ⟨v, rfl, ho, hb2⟩; have hB2 := Aside0.mk hb2; clear hb2; have hs := fun n => own_string (P := Try.prog) Try.underlying29 Try.underlying5 Try.underlying9 (Kd.own_of_R (Kd.R_drewN ho n))) | (go_at_call 16; refine (mintagelaw13_num.calls _ _ _ rfl).mono ?_; rintro e w3 ⟨rfl, ⟨nd, rfl⟩⟩))
  have hf : ((strOfNums mintagelaw13_wakes.tx).toList == [49, 57, 55, 48, 45, 48, 49, 45, 48, 49, 84, 48, 48, 58, 48, 48, 58, 48, 49, 46, 53]) = true := by decide +kernel
  rw [hf]
  go_ret
  exact ⟨rfl, by repeat (first | exact Below.refl _ _ | apply pw_below_drewN | refine below_step ?_ hB2.out | refine below_step ?_ hB.out | apply below_alloc)⟩

end

end Go.Proofs.Ytobgpdmiiipmmaa.Q
