-- PRINTED by print.py (a twelfth state) out of the translation. Not trusted: Lean checks it.
import Derived.Test.YtonlkffjpofpoaaQx0
import Derived.Test.YtonlkffjpofpoaaQx1
import Derived.Test.YtonlkffjpofpoaaQx4
import Derived.Test.YtonlkffjpofpoaaQx5
import Derived.Test.YtonlkffjpofpoaaQx9
namespace Go.Proofs.Ytonlkffjpofpoaa.Q
open Go.RowKit Go.Proofs.YtonlkffjpofpoaaW.PrintWords Go.Proofs.YtonlkffjpofpoaaW.PrintLast Go.Proofs.YtonlkffjpofpoaaW.PrintMore
attribute [local go_sem] max2_int min2_int max_two min_two max_three min_three max_four min_four   -- for this text's walks alone
set_option linter.unusedVariables false
set_option linter.unusedSimpArgs false

/-! ### mintagelaw04_DigitCounts: function 4 -/
def mintagelaw04_DigitCounts.f (k : Nat) (a0 : Int) (a1 : Int) : Option (Bool) := (mintagekeep_Within.f a1 0 19).bind fun t165 => ((digit_Ten.f k t165).bind fun bt166 => ((mintagelaw04_num.f bt166.2).bind fun t168 => (if t168 = 0 then ((digit_Count.f k a0).bind fun t169 => (if a0 ≥ bt166.1 then (if ((decide (t169 > t165)) == true) = true then ((digit_Count.f k bt166.1).bind fun t170 => (if t170 = (wrap64 (t165 + 1)) then (if t165 = 0 then ((mintagelaw04_wakes.f).bind fun t171 => (some t171)) else ((digit_Count.f k (IntKind.u64.wrap (bt166.1 - 1))).bind fun t172 => (if t172 = t165 then ((mintagelaw04_wakes.f).bind fun t173 => (some t173)) else (some false)))) else (some false))) else (some false)) else (if ((decide (t169 > t165)) == (t165 == 0)) = true then ((digit_Count.f k bt166.1).bind fun t174 => (if t174 = (wrap64 (t165 + 1)) then (if t165 = 0 then ((mintagelaw04_wakes.f).bind fun t175 => (some t175)) else ((digit_Count.f k (IntKind.u64.wrap (bt166.1 - 1))).bind fun t176 => (if t176 = t165 then ((mintagelaw04_wakes.f).bind fun t177 => (some t177)) else (some false)))) else (some false))) else (some false)))) else (some false))))
theorem mintagelaw04_DigitCounts.mono : ∀ a0 a1 k, LeO (mintagelaw04_DigitCounts.f k a0 a1) (mintagelaw04_DigitCounts.f (k + 1) a0 a1) := by
  intro a0 a1 k
  unfold mintagelaw04_DigitCounts.f
  repeat' first
      | (with_reducible exact digit_Count.mono _ _)
      | (with_reducible exact digit_Ten.mono _ _)
      | (with_reducible exact LeO.refl _)
      | (with_reducible exact LeO.none _)
      | (with_reducible refine LeO.ite ?_ ?_)
      | (with_reducible refine LeO.bind ?_ (fun _ => ?_))
      | exact digit_Count.mono _ _
      | exact digit_Ten.mono _ _
      | exact LeO.none _
      | refine LeO.ite ?_ ?_
      | refine LeO.bind ?_ (fun _ => ?_)
set_option maxHeartbeats 8000000 in
set_option maxRecDepth 100000 in
theorem mintagelaw04_DigitCounts.calls (k : Nat) (a0 : Int) (a1 : Int) (r : Bool) (w : World) (h : mintagelaw04_DigitCounts.f k a0 a1 = some r) :
    Calls Try.prog 4 #[.int .u64 a0, .int .i64 a1] w fun e w' => e = .returned (.bool r) ∧ Below w.heap.size w w' := by
  have HB := Aside0.mk (Below.refl w.heap.size w)
  have H : ((mintagekeep_Within.f a1 0 19).bind fun t165 => ((digit_Ten.f k t165).bind fun bt166 => ((mintagelaw04_num.f bt166.2).bind fun t168 => (if t168 = 0 then ((digit_Count.f k a0).bind fun t169 => (if a0 ≥ bt166.1 then (if ((decide (t169 > t165)) == true) = true then ((digit_Count.f k bt166.1).bind fun t170 => (if t170 = (wrap64 (t165 + 1)) then (if t165 = 0 then ((mintagelaw04_wakes.f).bind fun t171 => (some t171)) else ((digit_Count.f k (IntKind.u64.wrap (bt166.1 - 1))).bind fun t172 => (if t172 = t165 then ((mintagelaw04_wakes.f).bind fun t173 => (some t173)) else (some false)))) else (some false))) else (some false)) else (if ((decide (t169 > t165)) == (t165 == 0)) = true then ((digit_Count.f k bt166.1).bind fun t174 => (if t174 = (wrap64 (t165 + 1)) then (if t165 = 0 then ((mintagelaw04_wakes.f).bind fun t175 => (some t175)) else ((digit_Count.f k (IntKind.u64.wrap (bt166.1 - 1))).bind fun t176 => (if t176 = t165 then ((mintagelaw04_wakes.f).bind fun t177 => (some t177)) else (some false)))) else (some false))) else (some false)))) else (some false))))) = some r := h
  clear h
  replace H := Option.bind_eq_some_iff.mp H
  obtain ⟨t165, A30, H⟩ := H
  replace H : ((digit_Ten.f k t165).bind fun bt166 => ((mintagelaw04_num.f bt166.2).bind fun t168 => (if t168 = 0 then ((digit_Count.f k a0).bind fun t169 => (if a0 ≥ bt166.1 then (if ((decide (t169 > t165)) == true) = true then ((digit_Count.f k bt166.1).bind fun t170 => (if t170 = (wrap64 (t165 + 1)) then (if t165 = 0 then ((mintagelaw04_wakes.f).bind fun t171 => (some t171)) else ((digit_Count.f k (IntKind.u64.wrap (bt166.1 - 1))).bind fun t172 => (if t172 = t165 then ((mintagelaw04_wakes.f).bind fun t173 => (some t173)) else (some false)))) else (some false))) else (some false)) else (if ((decide (t169 > t165)) == (t165 == 0)) = true then ((digit_Count.f k bt166.1).bind fun t174 => (if t174 = (wrap64 (t165 + 1)) then (if t165 = 0 then ((mintagelaw04_wakes.f).bind fun t175 => (some t175)) else ((digit_Count.f k (IntKind.u64.wrap (bt166.1 - 1))).bind fun t176 => (if t176 = t165 then ((mintagelaw04_wakes.f).bind fun t177 => (some t177)) else (some false)))) else (some false))) else (some false)))) else (some false)))) = some r := H
  have A3 := Aside0.mk A30
  clear A30
  replace H := Option.bind_eq_some_iff.mp H
  obtain ⟨⟨t166, t167⟩, A40, H⟩ := H
  replace H : ((mintagelaw04_num.f t167).bind fun t168 => (if t168 = 0 then ((digit_Count.f k a0).bind fun t169 => (if a0 ≥ t166 then (if ((decide (t169 > t165)) == true) = true then ((digit_Count.f k t166).bind fun t170 => (if t170 = (wrap64 (t165 + 1)) then (if t165 = 0 then ((mintagelaw04_wakes.f).bind fun t171 => (some t171)) else ((digit_Count.f k (IntKind.u64.wrap (t166 - 1))).bind fun t172 => (if t172 = t165 then ((mintagelaw04_wakes.f).bind fun t173 => (some t173)) else (some false)))) else (some false))) else (some false)) else (if ((decide (t169 > t165)) == (t165 == 0)) = true then ((digit_Count.f k t166).bind fun t174 => (if t174 = (wrap64 (t165 + 1)) then (if t165 = 0 then ((mintagelaw04_wakes.f).bind fun t175 => (some t175)) else ((digit_Count.f k (IntKind.u64.wrap (t166 - 1))).bind fun t176 => (if t176 = t165 then ((mintagelaw04_wakes.f).bind fun t177 => (some t177)) else (some false)))) else (some false))) else (some false)))) else (some false))) = some r := H
  have A4 := Aside0.mk A40
  clear A40
  replace H := Option.bind_eq_some_iff.mp H
  obtain ⟨t168, A50, H⟩ := H
  replace H : (if t168 = 0 then ((digit_Count.f k a0).bind fun t169 => (if a0 ≥ t166 then (if ((decide (t169 > t165)) == true) = true then ((digit_Count.f k t166).bind fun t170 => (if t170 = (wrap64 (t165 + 1)) then (if t165 = 0 then ((mintagelaw04_wakes.f).bind fun t171 => (some t171)) else ((digit_Count.f k (IntKind.u64.wrap (t166 - 1))).bind fun t172 => (if t172 = t165 then ((mintagelaw04_wakes.f).bind fun t173 => (some t173)) else (some false)))) else (some false))) else (some false)) else (if ((decide (t169 > t165)) == (t165 == 0)) = true then ((digit_Count.f k t166).bind fun t174 => (if t174 = (wrap64 (t165 + 1)) then (if t165 = 0 then ((mintagelaw04_wakes.f).bind fun t175 => (some t175)) else ((digit_Count.f k (IntKind.u64.wrap (t166 - 1))).bind fun t176 => (if t176 = t165 then ((mintagelaw04_wakes.f).bind fun t177 => (some t177)) else (some false)))) else (some false))) else (some false)))) else (some false)) = some r := H
  have A5 := Aside0.mk A50
  clear A50
  by_cases c6 : t168 = 0
  · rw [if_pos c6] at H
    have c6b0 : (t168 == 0) = true := beq_iff_eq.mpr c6
    have c6b1 : (t168 != 0) = false := bne_eq_false_iff_eq.mpr c6
    clear c6
    replace H := Option.bind_eq_some_iff.mp H
    obtain ⟨t169, A70, H⟩ := H
    replace H : (if a0 ≥ t166 then (if ((decide (t169 > t165)) == true) = true then ((digit_Count.f k t166).bind fun t170 => (if t170 = (wrap64 (t165 + 1)) then (if t165 = 0 then ((mintagelaw04_wakes.f).bind fun t171 => (some t171)) else ((digit_Count.f k (IntKind.u64.wrap (t166 - 1))).bind fun t172 => (if t172 = t165 then ((mintagelaw04_wakes.f).bind fun t173 => (some t173)) else (some false)))) else (some false))) else (some false)) else (if ((decide (t169 > t165)) == (t165 == 0)) = true then ((digit_Count.f k t166).bind fun t174 => (if t174 = (wrap64 (t165 + 1)) then (if t165 = 0 then ((mintagelaw04_wakes.f).bind fun t175 => (some t175)) else ((digit_Count.f k (IntKind.u64.wrap (t166 - 1))).bind fun t176 => (if t176 = t165 then ((mintagelaw04_wakes.f).bind fun t177 => (some t177)) else (some false)))) else (some false))) else (some false))) = some r := H
    have A7 := Aside0.mk A70
    clear A70
    by_cases c8 : a0 ≥ t166
    · rw [if_pos c8] at H
      have c8b0 : decide (t166 ≤ a0) = true := decide_eq_true c8
      clear c8
      by_cases c9 : ((decide (t169 > t165)) == true) = true
      · rw [if_pos c9] at H
        have c9b0 : ((decide (t169 > t165)) == true) = true := c9
        (try (have c9b1 : decide ((decide (t169 > t165)) = true) = true := by simpa using c9))
        (try (have c9b2 : ((decide (t169 > t165)) == true) = true := by simpa using c9))
        clear c9
        replace H := Option.bind_eq_some_iff.mp H
        obtain ⟨t170, A100, H⟩ := H
        replace H : (if t170 = (wrap64 (t165 + 1)) then (if t165 = 0 then ((mintagelaw04_wakes.f).bind fun t171 => (some t171)) else ((digit_Count.f k (IntKind.u64.wrap (t166 - 1))).bind fun t172 => (if t172 = t165 then ((mintagelaw04_wakes.f).bind fun t173 => (some t173)) else (some false)))) else (some false)) = some r := H
        have A10 := Aside0.mk A100
        clear A100
        by_cases c11 : t170 = (wrap64 (t165 + 1))
        · rw [if_pos c11] at H
          have c11b0 : (t170 == (wrap64 (t165 + 1))) = true := beq_iff_eq.mpr c11
          have c11b1 : (t170 != (wrap64 (t165 + 1))) = false := bne_eq_false_iff_eq.mpr c11
          clear c11
          by_cases c12 : t165 = 0
          · rw [if_pos c12] at H
            have c12b0 : (t165 == 0) = true := beq_iff_eq.mpr c12
            have c12b1 : (t165 != 0) = false := bne_eq_false_iff_eq.mpr c12
            clear c12
            replace H := Option.bind_eq_some_iff.mp H
            obtain ⟨t171, A130, H⟩ := H
            replace H : (some t171) = some r := H
            have A13 := Aside0.mk A130
            clear A130
            obtain rfl := Option.some.inj H
            go_enter Try.func4, Try.ntmps4
            go_wp2_with (first | ((with_reducible refine gate_callee (f := 21) rfl ?_); refine goesL_ (some 8) rfl rfl Try.func21 (by kernel_rfl) rfl #[.int .i64 a1, .int .i64 0, .int .i64 19] rfl (by (try simp only [List.map_toArray, List.map_cons, List.map_nil]); first | done | rfl | (simp only [List.length_drop, List.length_take]; rfl)) ?_; (with_reducible refine (mintagekeep_Within.calls a1 0 19 t165 _ A3.out).mono ?_); rintro e w' ⟨rfl, ⟨nd, rfl⟩⟩; refine ⟨_, rfl, ?_⟩) | ((with_reducible refine gate_callee (f := 11) rfl ?_); refine goesL_ (some 11) rfl rfl Try.func11 (by kernel_rfl) rfl #[.int .i64 t165] rfl (by (try simp only [List.map_toArray, List.map_cons, List.map_nil]); first | done | rfl | (simp only [List.length_drop, List.length_take]; rfl)) ?_; (with_reducible refine (digit_Ten.calls k t165 t166 t167 _ A4.out).mono ?_); rintro e w' ⟨rfl, ⟨nd, rfl⟩⟩; refine ⟨_, rfl, ?_⟩) | ((with_reducible refine gate_callee (f := 16) rfl ?_); refine goesL_ (some 15) rfl rfl Try.func16 (by kernel_rfl) rfl #[.int .i64 t167] rfl (by (try simp only [List.map_toArray, List.map_cons, List.map_nil]); first | done | rfl | (simp only [List.length_drop, List.length_take]; rfl)) ?_; (with_reducible refine (mintagelaw04_num.calls t167 t168 _ A5.out).mono ?_); rintro e w' ⟨rfl, ⟨nd, rfl⟩⟩; refine ⟨_, rfl, ?_⟩) | (go_at_call 17; (with_reducible refine (digit_Count.calls k a0 t169 _ A7.out).mono ?_); rintro e w' ⟨rfl, ⟨nd, rfl⟩⟩) | (go_at_call 17; (with_reducible refine (digit_Count.calls k t166 t170 _ A10.out).mono ?_); rintro e w' ⟨rfl, ⟨nd, rfl⟩⟩) | (go_at_call 20; (with_reducible refine (mintagelaw04_wakes.calls  t171 _ A13.out).mono ?_); rintro e w14 ⟨rfl, hb⟩; have n0_ := Aside0.mk (below_step (by repeat (first | (with_reducible first | exact HB.out | apply below_alloc | apply pw_below_drewN | apply below_drew1) | exact HB.out)) hb); clear HB; have HB := n0_; clear n0_; (try clear hb); (try clear hb2); (try clear hk); (try clear hi)))
            all_goals first | (exfalso; simp_all; done) | (exfalso; simp_all; omega) | skip
            go_ret
            exact ⟨by first | rfl | (simp [errW_none, errW_some] <;> rfl) | (simp [*, errW_none, errW_some] <;> rfl), by repeat (first | (with_reducible first | exact HB.out | apply below_alloc | apply pw_below_drewN | apply below_drew1) | exact HB.out)⟩
          · rw [if_neg c12] at H
            have c12b0 : (t165 == 0) = false := beq_eq_false_iff_ne.mpr c12
            have c12b1 : (t165 != 0) = true := bne_iff_ne.mpr c12
            replace H := Option.bind_eq_some_iff.mp H
            obtain ⟨t172, A150, H⟩ := H
            replace H : (if t172 = t165 then ((mintagelaw04_wakes.f).bind fun t173 => (some t173)) else (some false)) = some r := H
            have A15 := Aside0.mk A150
            clear A150
            by_cases c16 : t172 = t165
            · rw [if_pos c16] at H
              have c16b0 : (t172 == t165) = true := beq_iff_eq.mpr c16
              have c16b1 : (t172 != t165) = false := bne_eq_false_iff_eq.mpr c16
              clear c16
              replace H := Option.bind_eq_some_iff.mp H
              obtain ⟨t173, A170, H⟩ := H
              replace H : (some t173) = some r := H
              have A17 := Aside0.mk A170
              clear A170
              obtain rfl := Option.some.inj H
              go_enter Try.func4, Try.ntmps4
              go_wp2_with (first | ((with_reducible refine gate_callee (f := 21) rfl ?_); refine goesL_ (some 8) rfl rfl Try.func21 (by kernel_rfl) rfl #[.int .i64 a1, .int .i64 0, .int .i64 19] rfl (by (try simp only [List.map_toArray, List.map_cons, List.map_nil]); first | done | rfl | (simp only [List.length_drop, List.length_take]; rfl)) ?_; (with_reducible refine (mintagekeep_Within.calls a1 0 19 t165 _ A3.out).mono ?_); rintro e w' ⟨rfl, ⟨nd, rfl⟩⟩; refine ⟨_, rfl, ?_⟩) | ((with_reducible refine gate_callee (f := 11) rfl ?_); refine goesL_ (some 11) rfl rfl Try.func11 (by kernel_rfl) rfl #[.int .i64 t165] rfl (by (try simp only [List.map_toArray, List.map_cons, List.map_nil]); first | done | rfl | (simp only [List.length_drop, List.length_take]; rfl)) ?_; (with_reducible refine (digit_Ten.calls k t165 t166 t167 _ A4.out).mono ?_); rintro e w' ⟨rfl, ⟨nd, rfl⟩⟩; refine ⟨_, rfl, ?_⟩) | ((with_reducible refine gate_callee (f := 16) rfl ?_); refine goesL_ (some 15) rfl rfl Try.func16 (by kernel_rfl) rfl #[.int .i64 t167] rfl (by (try simp only [List.map_toArray, List.map_cons, List.map_nil]); first | done | rfl | (simp only [List.length_drop, List.length_take]; rfl)) ?_; (with_reducible refine (mintagelaw04_num.calls t167 t168 _ A5.out).mono ?_); rintro e w' ⟨rfl, ⟨nd, rfl⟩⟩; refine ⟨_, rfl, ?_⟩) | (go_at_call 17; (with_reducible refine (digit_Count.calls k a0 t169 _ A7.out).mono ?_); rintro e w' ⟨rfl, ⟨nd, rfl⟩⟩) | (go_at_call 17; (with_reducible refine (digit_Count.calls k t166 t170 _ A10.out).mono ?_); rintro e w' ⟨rfl, ⟨nd, rfl⟩⟩) | (go_at_call 17; (with_reducible refine (digit_Count.calls k (IntKind.u64.wrap (t166 - 1)) t172 _ A15.out).mono ?_); rintro e w' ⟨rfl, ⟨nd, rfl⟩⟩) | (go_at_call 20; (with_reducible refine (mintagelaw04_wakes.calls  t173 _ A17.out).mono ?_); rintro e w18 ⟨rfl, hb⟩; have n0_ := Aside0.mk (below_step (by repeat (first | (with_reducible first | exact HB.out | apply below_alloc | apply pw_below_drewN | apply below_drew1) | exact HB.out)) hb); clear HB; have HB := n0_; clear n0_; (try clear hb); (try clear hb2); (try clear hk); (try clear hi)))
              all_goals first | (exfalso; simp_all; done) | (exfalso; simp_all; omega) | skip
              go_ret
              exact ⟨by first | rfl | (simp [errW_none, errW_some] <;> rfl) | (simp [*, errW_none, errW_some] <;> rfl), by repeat (first | (with_reducible first | exact HB.out | apply below_alloc | apply pw_below_drewN | apply below_drew1) | exact HB.out)⟩
            · rw [if_neg c16] at H
              have c16b0 : (t172 == t165) = false := beq_eq_false_iff_ne.mpr c16
              have c16b1 : (t172 != t165) = true := bne_iff_ne.mpr c16
              obtain rfl := Option.some.inj H
              go_enter Try.func4, Try.ntmps4
              go_wp2_with (first | ((with_reducible refine gate_callee (f := 21) rfl ?_); refine goesL_ (some 8) rfl rfl Try.func21 (by kernel_rfl) rfl #[.int .i64 a1, .int .i64 0, .int .i64 19] rfl (by (try simp only [List.map_toArray, List.map_cons, List.map_nil]); first | done | rfl | (simp only [List.length_drop, List.length_take]; rfl)) ?_; (with_reducible refine (mintagekeep_Within.calls a1 0 19 t165 _ A3.out).mono ?_); rintro e w' ⟨rfl, ⟨nd, rfl⟩⟩; refine ⟨_, rfl, ?_⟩) | ((with_reducible refine gate_callee (f := 11) rfl ?_); refine goesL_ (some 11) rfl rfl Try.func11 (by kernel_rfl) rfl #[.int .i64 t165] rfl (by (try simp only [List.map_toArray, List.map_cons, List.map_nil]); first | done | rfl | (simp only [List.length_drop, List.length_take]; rfl)) ?_; (with_reducible refine (digit_Ten.calls k t165 t166 t167 _ A4.out).mono ?_); rintro e w' ⟨rfl, ⟨nd, rfl⟩⟩; refine ⟨_, rfl, ?_⟩) | ((with_reducible refine gate_callee (f := 16) rfl ?_); refine goesL_ (some 15) rfl rfl Try.func16 (by kernel_rfl) rfl #[.int .i64 t167] rfl (by (try simp only [List.map_toArray, List.map_cons, List.map_nil]); first | done | rfl | (simp only [List.length_drop, List.length_take]; rfl)) ?_; (with_reducible refine (mintagelaw04_num.calls t167 t168 _ A5.out).mono ?_); rintro e w' ⟨rfl, ⟨nd, rfl⟩⟩; refine ⟨_, rfl, ?_⟩) | (go_at_call 17; (with_reducible refine (digit_Count.calls k a0 t169 _ A7.out).mono ?_); rintro e w' ⟨rfl, ⟨nd, rfl⟩⟩) | (go_at_call 17; (with_reducible refine (digit_Count.calls k t166 t170 _ A10.out).mono ?_); rintro e w' ⟨rfl, ⟨nd, rfl⟩⟩) | (go_at_call 17; (with_reducible refine (digit_Count.calls k (IntKind.u64.wrap (t166 - 1)) t172 _ A15.out).mono ?_); rintro e w' ⟨rfl, ⟨nd, rfl⟩⟩))
              all_goals first | (exfalso; simp_all; done) | (exfalso; simp_all; omega) | skip
              go_ret
              exact ⟨by first | rfl | (simp [errW_none, errW_some] <;> rfl) | (simp [*, errW_none, errW_some] <;> rfl), by repeat (first | (with_reducible first | exact HB.out | apply below_alloc | apply pw_below_drewN | apply below_drew1) | exact HB.out)⟩
        · rw [if_neg c11] at H
          have c11b0 : (t170 == (wrap64 (t165 + 1))) = false := beq_eq_false_iff_ne.mpr c11
          have c11b1 : (t170 != (wrap64 (t165 + 1))) = true := bne_iff_ne.mpr c11
          obtain rfl := Option.some.inj H
          go_enter Try.func4, Try.ntmps4
          go_wp2_with (first | ((with_reducible refine gate_callee (f := 21) rfl ?_); refine goesL_ (some 8) rfl rfl Try.func21 (by kernel_rfl) rfl #[.int .i64 a1, .int .i64 0, .int .i64 19] rfl (by (try simp only [List.map_toArray, List.map_cons, List.map_nil]); first | done | rfl | (simp only [List.length_drop, List.length_take]; rfl)) ?_; (with_reducible refine (mintagekeep_Within.calls a1 0 19 t165 _ A3.out).mono ?_); rintro e w' ⟨rfl, ⟨nd, rfl⟩⟩; refine ⟨_, rfl, ?_⟩) | ((with_reducible refine gate_callee (f := 11) rfl ?_); refine goesL_ (some 11) rfl rfl Try.func11 (by kernel_rfl) rfl #[.int .i64 t165] rfl (by (try simp only [List.map_toArray, List.map_cons, List.map_nil]); first | done | rfl | (simp only [List.length_drop, List.length_take]; rfl)) ?_; (with_reducible refine (digit_Ten.calls k t165 t166 t167 _ A4.out).mono ?_); rintro e w' ⟨rfl, ⟨nd, rfl⟩⟩; refine ⟨_, rfl, ?_⟩) | ((with_reducible refine gate_callee (f := 16) rfl ?_); refine goesL_ (some 15) rfl rfl Try.func16 (by kernel_rfl) rfl #[.int .i64 t167] rfl (by (try simp only [List.map_toArray, List.map_cons, List.map_nil]); first | done | rfl | (simp only [List.length_drop, List.length_take]; rfl)) ?_; (with_reducible refine (mintagelaw04_num.calls t167 t168 _ A5.out).mono ?_); rintro e w' ⟨rfl, ⟨nd, rfl⟩⟩; refine ⟨_, rfl, ?_⟩) | (go_at_call 17; (with_reducible refine (digit_Count.calls k a0 t169 _ A7.out).mono ?_); rintro e w' ⟨rfl, ⟨nd, rfl⟩⟩) | (go_at_call 17; (with_reducible refine (digit_Count.calls k t166 t170 _ A10.out).mono ?_); rintro e w' ⟨rfl, ⟨nd, rfl⟩⟩))
          all_goals first | (exfalso; simp_all; done) | (exfalso; simp_all; omega) | skip
          go_ret
          exact ⟨by first | rfl | (simp [errW_none, errW_some] <;> rfl) | (simp [*, errW_none, errW_some] <;> rfl), by repeat (first | (with_reducible first | exact HB.out | apply below_alloc | apply pw_below_drewN | apply below_drew1) | exact HB.out)⟩
      · rw [if_neg c9] at H
        have c9b0 : ((decide (t169 > t165)) == true) = false := by simpa using c9
        (try (have c9b1 : decide ((decide (t169 > t165)) = true) = false := by simpa using c9))
        (try (have c9b2 : ((decide (t169 > t165)) == true) = false := by simpa using c9))
        (try (have c9b3 : ¬ ((decide (t169 > t165)) = true) := by simpa using c9))
        clear c9
        obtain rfl := Option.some.inj H
        go_enter Try.func4, Try.ntmps4
        go_wp2_with (first | ((with_reducible refine gate_callee (f := 21) rfl ?_); refine goesL_ (some 8) rfl rfl Try.func21 (by kernel_rfl) rfl #[.int .i64 a1, .int .i64 0, .int .i64 19] rfl (by (try simp only [List.map_toArray, List.map_cons, List.map_nil]); first | done | rfl | (simp only [List.length_drop, List.length_take]; rfl)) ?_; (with_reducible refine (mintagekeep_Within.calls a1 0 19 t165 _ A3.out).mono ?_); rintro e w' ⟨rfl, ⟨nd, rfl⟩⟩; refine ⟨_, rfl, ?_⟩) | ((with_reducible refine gate_callee (f := 11) rfl ?_); refine goesL_ (some 11) rfl rfl Try.func11 (by kernel_rfl) rfl #[.int .i64 t165] rfl (by (try simp only [List.map_toArray, List.map_cons, List.map_nil]); first | done | rfl | (simp only [List.length_drop, List.length_take]; rfl)) ?_; (with_reducible refine (digit_Ten.calls k t165 t166 t167 _ A4.out).mono ?_); rintro e w' ⟨rfl, ⟨nd, rfl⟩⟩; refine ⟨_, rfl, ?_⟩) | ((with_reducible refine gate_callee (f := 16) rfl ?_); refine goesL_ (some 15) rfl rfl Try.func16 (by kernel_rfl) rfl #[.int .i64 t167] rfl (by (try simp only [List.map_toArray, List.map_cons, List.map_nil]); first | done | rfl | (simp only [List.length_drop, List.length_take]; rfl)) ?_; (with_reducible refine (mintagelaw04_num.calls t167 t168 _ A5.out).mono ?_); rintro e w' ⟨rfl, ⟨nd, rfl⟩⟩; refine ⟨_, rfl, ?_⟩) | (go_at_call 17; (with_reducible refine (digit_Count.calls k a0 t169 _ A7.out).mono ?_); rintro e w' ⟨rfl, ⟨nd, rfl⟩⟩))
        all_goals first | (exfalso; simp_all; done) | (exfalso; simp_all; omega) | skip
        go_ret
        exact ⟨by first | rfl | (simp [errW_none, errW_some] <;> rfl) | (simp [*, errW_none, errW_some] <;> rfl), by repeat (first | (with_reducible first | exact HB.out | apply below_alloc | apply pw_below_drewN | apply below_drew1) | exact HB.out)⟩
    · rw [if_neg c8] at H
      have c8b0 : decide (t166 ≤ a0) = false := decide_eq_false c8
      clear c8
      by_cases c19 : ((decide (t169 > t165)) == (t165 == 0)) = true
      · rw [if_pos c19] at H
        have c19b0 : ((decide (t169 > t165)) == (t165 == 0)) = true := c19
        (try (have c19b1 : decide ((decide (t169 > t165)) = (t165 == 0)) = true := by simpa using c19))
        (try (have c19b2 : ((decide (t169 > t165)) == (t165 == 0)) = true := by simpa using c19))
        clear c19
        replace H := Option.bind_eq_some_iff.mp H
        obtain ⟨t174, A200, H⟩ := H
        replace H : (if t174 = (wrap64 (t165 + 1)) then (if t165 = 0 then ((mintagelaw04_wakes.f).bind fun t175 => (some t175)) else ((digit_Count.f k (IntKind.u64.wrap (t166 - 1))).bind fun t176 => (if t176 = t165 then ((mintagelaw04_wakes.f).bind fun t177 => (some t177)) else (some false)))) else (some false)) = some r := H
        have A20 := Aside0.mk A200
        clear A200
        by_cases c21 : t174 = (wrap64 (t165 + 1))
        · rw [if_pos c21] at H
          have c21b0 : (t174 == (wrap64 (t165 + 1))) = true := beq_iff_eq.mpr c21
          have c21b1 : (t174 != (wrap64 (t165 + 1))) = false := bne_eq_false_iff_eq.mpr c21
          clear c21
          by_cases c22 : t165 = 0
          · rw [if_pos c22] at H
            have c22b0 : (t165 == 0) = true := beq_iff_eq.mpr c22
            have c22b1 : (t165 != 0) = false := bne_eq_false_iff_eq.mpr c22
            clear c22
            replace H := Option.bind_eq_some_iff.mp H
            obtain ⟨t175, A230, H⟩ := H
            replace H : (some t175) = some r := H
            have A23 := Aside0.mk A230
            clear A230
            obtain rfl := Option.some.inj H
            go_enter Try.func4, Try.ntmps4
            go_wp2_with (first | ((with_reducible refine gate_callee (f := 21) rfl ?_); refine goesL_ (some 8) rfl rfl Try.func21 (by kernel_rfl) rfl #[.int .i64 a1, .int .i64 0, .int .i64 19] rfl (by (try simp only [List.map_toArray, List.map_cons, List.map_nil]); first | done | rfl | (simp only [List.length_drop, List.length_take]; rfl)) ?_; (with_reducible refine (mintagekeep_Within.calls a1 0 19 t165 _ A3.out).mono ?_); rintro e w' ⟨rfl, ⟨nd, rfl⟩⟩; refine ⟨_, rfl, ?_⟩) | ((with_reducible refine gate_callee (f := 11) rfl ?_); refine goesL_ (some 11) rfl rfl Try.func11 (by kernel_rfl) rfl #[.int .i64 t165] rfl (by (try simp only [List.map_toArray, List.map_cons, List.map_nil]); first | done | rfl | (simp only [List.length_drop, List.length_take]; rfl)) ?_; (with_reducible refine (digit_Ten.calls k t165 t166 t167 _ A4.out).mono ?_); rintro e w' ⟨rfl, ⟨nd, rfl⟩⟩; refine ⟨_, rfl, ?_⟩) | ((with_reducible refine gate_callee (f := 16) rfl ?_); refine goesL_ (some 15) rfl rfl Try.func16 (by kernel_rfl) rfl #[.int .i64 t167] rfl (by (try simp only [List.map_toArray, List.map_cons, List.map_nil]); first | done | rfl | (simp only [List.length_drop, List.length_take]; rfl)) ?_; (with_reducible refine (mintagelaw04_num.calls t167 t168 _ A5.out).mono ?_); rintro e w' ⟨rfl, ⟨nd, rfl⟩⟩; refine ⟨_, rfl, ?_⟩) | (go_at_call 17; (with_reducible refine (digit_Count.calls k a0 t169 _ A7.out).mono ?_); rintro e w' ⟨rfl, ⟨nd, rfl⟩⟩) | (go_at_call 17; (with_reducible refine (digit_Count.calls k t166 t174 _ A20.out).mono ?_); rintro e w' ⟨rfl, ⟨nd, rfl⟩⟩) | (go_at_call 20; (with_reducible refine (mintagelaw04_wakes.calls  t175 _ A23.out).mono ?_); rintro e w24 ⟨rfl, hb⟩; have n0_ := Aside0.mk (below_step (by repeat (first | (with_reducible first | exact HB.out | apply below_alloc | apply pw_below_drewN | apply below_drew1) | exact HB.out)) hb); clear HB; have HB := n0_; clear n0_; (try clear hb); (try clear hb2); (try clear hk); (try clear hi)))
            all_goals first | (exfalso; simp_all; done) | (exfalso; simp_all; omega) | skip
            go_ret
            exact ⟨by first | rfl | (simp [errW_none, errW_some] <;> rfl) | (simp [*, errW_none, errW_some] <;> rfl), by repeat (first | (with_reducible first | exact HB.out | apply below_alloc | apply pw_below_drewN | apply below_drew1) | exact HB.out)⟩
          · rw [if_neg c22] at H
            have c22b0 : (t165 == 0) = false := beq_eq_false_iff_ne.mpr c22
            have c22b1 : (t165 != 0) = true := bne_iff_ne.mpr c22
            replace H := Option.bind_eq_some_iff.mp H
            obtain ⟨t176, A250, H⟩ := H
            replace H : (if t176 = t165 then ((mintagelaw04_wakes.f).bind fun t177 => (some t177)) else (some false)) = some r := H
            have A25 := Aside0.mk A250
            clear A250
            by_cases c26 : t176 = t165
            · rw [if_pos c26] at H
              have c26b0 : (t176 == t165) = true := beq_iff_eq.mpr c26
              have c26b1 : (t176 != t165) = false := bne_eq_false_iff_eq.mpr c26
              clear c26
              replace H := Option.bind_eq_some_iff.mp H
              obtain ⟨t177, A270, H⟩ := H
              replace H : (some t177) = some r := H
              have A27 := Aside0.mk A270
              clear A270
              obtain rfl := Option.some.inj H
              go_enter Try.func4, Try.ntmps4
              go_wp2_with (first | ((with_reducible refine gate_callee (f := 21) rfl ?_); refine goesL_ (some 8) rfl rfl Try.func21 (by kernel_rfl) rfl #[.int .i64 a1, .int .i64 0, .int .i64 19] rfl (by (try simp only [List.map_toArray, List.map_cons, List.map_nil]); first | done | rfl | (simp only [List.length_drop, List.length_take]; rfl)) ?_; (with_reducible refine (mintagekeep_Within.calls a1 0 19 t165 _ A3.out).mono ?_); rintro e w' ⟨rfl, ⟨nd, rfl⟩⟩; refine ⟨_, rfl, ?_⟩) | ((with_reducible refine gate_callee (f := 11) rfl ?_); refine goesL_ (some 11) rfl rfl Try.func11 (by kernel_rfl) rfl #[.int .i64 t165] rfl (by (try simp only [List.map_toArray, List.map_cons, List.map_nil]); first | done | rfl | (simp only [List.length_drop, List.length_take]; rfl)) ?_; (with_reducible refine (digit_Ten.calls k t165 t166 t167 _ A4.out).mono ?_); rintro e w' ⟨rfl, ⟨nd, rfl⟩⟩; refine ⟨_, rfl, ?_⟩) | ((with_reducible refine gate_callee (f := 16) rfl ?_); refine goesL_ (some 15) rfl rfl Try.func16 (by kernel_rfl) rfl #[.int .i64 t167] rfl (by (try simp only [List.map_toArray, List.map_cons, List.map_nil]); first | done | rfl | (simp only [List.length_drop, List.length_take]; rfl)) ?_; (with_reducible refine (mintagelaw04_num.calls t167 t168 _ A5.out).mono ?_); rintro e w' ⟨rfl, ⟨nd, rfl⟩⟩; refine ⟨_, rfl, ?_⟩) | (go_at_call 17; (with_reducible refine (digit_Count.calls k a0 t169 _ A7.out).mono ?_); rintro e w' ⟨rfl, ⟨nd, rfl⟩⟩) | (go_at_call 17; (with_reducible refine (digit_Count.calls k t166 t174 _ A20.out).mono ?_); rintro e w' ⟨rfl, ⟨nd, rfl⟩⟩) | (go_at_call 17; (with_reducible refine (digit_Count.calls k (IntKind.u64.wrap (t166 - 1)) t176 _ A25.out).mono ?_); rintro e w' ⟨rfl, ⟨nd, rfl⟩⟩) | (go_at_call 20; (with_reducible refine (mintagelaw04_wakes.calls  t177 _ A27.out).mono ?_); rintro e w28 ⟨rfl, hb⟩; have n0_ := Aside0.mk (below_step (by repeat (first | (with_reducible first | exact HB.out | apply below_alloc | apply pw_below_drewN | apply below_drew1) | exact HB.out)) hb); clear HB; have HB := n0_; clear n0_; (try clear hb); (try clear hb2); (try clear hk); (try clear hi)))
              all_goals first | (exfalso; simp_all; done) | (exfalso; simp_all; omega) | skip
              go_ret
              exact ⟨by first | rfl | (simp [errW_none, errW_some] <;> rfl) | (simp [*, errW_none, errW_some] <;> rfl), by repeat (first | (with_reducible first | exact HB.out | apply below_alloc | apply pw_below_drewN | apply below_drew1) | exact HB.out)⟩
            · rw [if_neg c26] at H
              have c26b0 : (t176 == t165) = false := beq_eq_false_iff_ne.mpr c26
              have c26b1 : (t176 != t165) = true := bne_iff_ne.mpr c26
              obtain rfl := Option.some.inj H
              go_enter Try.func4, Try.ntmps4
              go_wp2_with (first | ((with_reducible refine gate_callee (f := 21) rfl ?_); refine goesL_ (some 8) rfl rfl Try.func21 (by kernel_rfl) rfl #[.int .i64 a1, .int .i64 0, .int .i64 19] rfl (by (try simp only [List.map_toArray, List.map_cons, List.map_nil]); first | done | rfl | (simp only [List.length_drop, List.length_take]; rfl)) ?_; (with_reducible refine (mintagekeep_Within.calls a1 0 19 t165 _ A3.out).mono ?_); rintro e w' ⟨rfl, ⟨nd, rfl⟩⟩; refine ⟨_, rfl, ?_⟩) | ((with_reducible refine gate_callee (f := 11) rfl ?_); refine goesL_ (some 11) rfl rfl Try.func11 (by kernel_rfl) rfl #[.int .i64 t165] rfl (by (try simp only [List.map_toArray, List.map_cons, List.map_nil]); first | done | rfl | (simp only [List.length_drop, List.length_take]; rfl)) ?_; (with_reducible refine (digit_Ten.calls k t165 t166 t167 _ A4.out).mono ?_); rintro e w' ⟨rfl, ⟨nd, rfl⟩⟩; refine ⟨_, rfl, ?_⟩) | ((with_reducible refine gate_callee (f := 16) rfl ?_); refine goesL_ (some 15) rfl rfl Try.func16 (by kernel_rfl) rfl #[.int .i64 t167] rfl (by (try simp only [List.map_toArray, List.map_cons, List.map_nil]); first | done | rfl | (simp only [List.length_drop, List.length_take]; rfl)) ?_; (with_reducible refine (mintagelaw04_num.calls t167 t168 _ A5.out).mono ?_); rintro e w' ⟨rfl, ⟨nd, rfl⟩⟩; refine ⟨_, rfl, ?_⟩) | (go_at_call 17; (with_reducible refine (digit_Count.calls k a0 t169 _ A7.out).mono ?_); rintro e w' ⟨rfl, ⟨nd, rfl⟩⟩) | (go_at_call 17; (with_reducible refine (digit_Count.calls k t166 t174 _ A20.out).mono ?_); rintro e w' ⟨rfl, ⟨nd, rfl⟩⟩) | (go_at_call 17; (with_reducible refine (digit_Count.calls k (IntKind.u64.wrap (t166 - 1)) t176 _ A25.out).mono ?_); rintro e w' ⟨rfl, ⟨nd, rfl⟩⟩))
              all_goals first | (exfalso; simp_all; done) | (exfalso; simp_all; omega) | skip
              go_ret
              exact ⟨by first | rfl | (simp [errW_none, errW_some] <;> rfl) | (simp [*, errW_none, errW_some] <;> rfl), by repeat (first | (with_reducible first | exact HB.out | apply below_alloc | apply pw_below_drewN | apply below_drew1) | exact HB.out)⟩
        · rw [if_neg c21] at H
          have c21b0 : (t174 == (wrap64 (t165 + 1))) = false := beq_eq_false_iff_ne.mpr c21
          have c21b1 : (t174 != (wrap64 (t165 + 1))) = true := bne_iff_ne.mpr c21
          obtain rfl := Option.some.inj H
          go_enter Try.func4, Try.ntmps4
          go_wp2_with (first | ((with_reducible refine gate_callee (f := 21) rfl ?_); refine goesL_ (some 8) rfl rfl Try.func21 (by kernel_rfl) rfl #[.int .i64 a1, .int .i64 0, .int .i64 19] rfl (by (try simp only [List.map_toArray, List.map_cons, List.map_nil]); first | done | rfl | (simp only [List.length_drop, List.length_take]; rfl)) ?_; (with_reducible refine (mintagekeep_Within.calls a1 0 19 t165 _ A3.out).mono ?_); rintro e w' ⟨rfl, ⟨nd, rfl⟩⟩; refine ⟨_, rfl, ?_⟩) | ((with_reducible refine gate_callee (f := 11) rfl ?_); refine goesL_ (some 11) rfl rfl Try.func11 (by kernel_rfl) rfl #[.int .i64 t165] rfl (by (try simp only [List.map_toArray, List.map_cons, List.map_nil]); first | done | rfl | (simp only [List.length_drop, List.length_take]; rfl)) ?_; (with_reducible refine (digit_Ten.calls k t165 t166 t167 _ A4.out).mono ?_); rintro e w' ⟨rfl, ⟨nd, rfl⟩⟩; refine ⟨_, rfl, ?_⟩) | ((with_reducible refine gate_callee (f := 16) rfl ?_); refine goesL_ (some 15) rfl rfl Try.func16 (by kernel_rfl) rfl #[.int .i64 t167] rfl (by (try simp only [List.map_toArray, List.map_cons, List.map_nil]); first | done | rfl | (simp only [List.length_drop, List.length_take]; rfl)) ?_; (with_reducible refine (mintagelaw04_num.calls t167 t168 _ A5.out).mono ?_); rintro e w' ⟨rfl, ⟨nd, rfl⟩⟩; refine ⟨_, rfl, ?_⟩) | (go_at_call 17; (with_reducible refine (digit_Count.calls k a0 t169 _ A7.out).mono ?_); rintro e w' ⟨rfl, ⟨nd, rfl⟩⟩) | (go_at_call 17; (with_reducible refine (digit_Count.calls k t166 t174 _ A20.out).mono ?_); rintro e w' ⟨rfl, ⟨nd, rfl⟩⟩))
          all_goals first | (exfalso; simp_all; done) | (exfalso; simp_all; omega) | skip
          go_ret
          exact ⟨by first | rfl | (simp [errW_none, errW_some] <;> rfl) | (simp [*, errW_none, errW_some] <;> rfl), by repeat (first | (with_reducible first | exact HB.out | apply below_alloc | apply pw_below_drewN | apply below_drew1) | exact HB.out)⟩
      · rw [if_neg c19] at H
        have c19b0 : ((decide (t169 > t165)) == (t165 == 0)) = false := by simpa using c19
        (try (have c19b1 : decide ((decide (t169 > t165)) = (t165 == 0)) = false := by simpa using c19))
        (try (have c19b2 : ((decide (t169 > t165)) == (t165 == 0)) = false := by simpa using c19))
        (try (have c19b3 : ¬ ((decide (t169 > t165)) = (t165 == 0)) := by simpa using c19))
        clear c19
        obtain rfl := Option.some.inj H
        go_enter Try.func4, Try.ntmps4
        go_wp2_with (first | ((with_reducible refine gate_callee (f := 21) rfl ?_); refine goesL_ (some 8) rfl rfl Try.func21 (by kernel_rfl) rfl #[.int .i64 a1, .int .i64 0, .int .i64 19] rfl (by (try simp only [List.map_toArray, List.map_cons, List.map_nil]); first | done | rfl | (simp only [List.length_drop, List.length_take]; rfl)) ?_; (with_reducible refine (mintagekeep_Within.calls a1 0 19 t165 _ A3.out).mono ?_); rintro e w' ⟨rfl, ⟨nd, rfl⟩⟩; refine ⟨_, rfl, ?_⟩) | ((with_reducible refine gate_callee (f := 11) rfl ?_); refine goesL_ (some 11) rfl rfl Try.func11 (by kernel_rfl) rfl #[.int .i64 t165] rfl (by (try simp only [List.map_toArray, List.map_cons, List.map_nil]); first | done | rfl | (simp only [List.length_drop, List.length_take]; rfl)) ?_; (with_reducible refine (digit_Ten.calls k t165 t166 t167 _ A4.out).mono ?_); rintro e w' ⟨rfl, ⟨nd, rfl⟩⟩; refine ⟨_, rfl, ?_⟩) | ((with_reducible refine gate_callee (f := 16) rfl ?_); refine goesL_ (some 15) rfl rfl Try.func16 (by kernel_rfl) rfl #[.int .i64 t167] rfl (by (try simp only [List.map_toArray, List.map_cons, List.map_nil]); first | done | rfl | (simp only [List.length_drop, List.length_take]; rfl)) ?_; (with_reducible refine (mintagelaw04_num.calls t167 t168 _ A5.out).mono ?_); rintro e w' ⟨rfl, ⟨nd, rfl⟩⟩; refine ⟨_, rfl, ?_⟩) | (go_at_call 17; (with_reducible refine (digit_Count.calls k a0 t169 _ A7.out).mono ?_); rintro e w' ⟨rfl, ⟨nd, rfl⟩⟩))
        all_goals first | (exfalso; simp_all; done) | (exfalso; simp_all; omega) | skip
        go_ret
        exact ⟨by first | rfl | (simp [errW_none, errW_some] <;> rfl) | (simp [*, errW_none, errW_some] <;> rfl), by repeat (first | (with_reducible first | exact HB.out | apply below_alloc | apply pw_below_drewN | apply below_drew1) | exact HB.out)⟩
  · rw [if_neg c6] at H
    have c6b0 : (t168 == 0) = false := beq_eq_false_iff_ne.mpr c6
    have c6b1 : (t168 != 0) = true := bne_iff_ne.mpr c6
    obtain rfl := Option.some.inj H
    go_enter Try.func4, Try.ntmps4
    go_wp2_with (first | ((with_reducible refine gate_callee (f := 21) rfl ?_); refine goesL_ (some 8) rfl rfl Try.func21 (by kernel_rfl) rfl #[.int .i64 a1, .int .i64 0, .int .i64 19] rfl (by (try simp only [List.map_toArray, List.map_cons, List.map_nil]); first | done | rfl | (simp only [List.length_drop, List.length_take]; rfl)) ?_; (with_reducible refine (mintagekeep_Within.calls a1 0 19 t165 _ A3.out).mono ?_); rintro e w' ⟨rfl, ⟨nd, rfl⟩⟩; refine ⟨_, rfl, ?_⟩) | ((with_reducible refine gate_callee (f := 11) rfl ?_); refine goesL_ (some 11) rfl rfl Try.func11 (by kernel_rfl) rfl #[.int .i64 t165] rfl (by (try simp only [List.map_toArray, List.map_cons, List.map_nil]); first | done | rfl | (simp only [List.length_drop, List.length_take]; rfl)) ?_; (with_reducible refine (digit_Ten.calls k t165 t166 t167 _ A4.out).mono ?_); rintro e w' ⟨rfl, ⟨nd, rfl⟩⟩; refine ⟨_, rfl, ?_⟩) | ((with_reducible refine gate_callee (f := 16) rfl ?_); refine goesL_ (some 15) rfl rfl Try.func16 (by kernel_rfl) rfl #[.int .i64 t167] rfl (by (try simp only [List.map_toArray, List.map_cons, List.map_nil]); first | done | rfl | (simp only [List.length_drop, List.length_take]; rfl)) ?_; (with_reducible refine (mintagelaw04_num.calls t167 t168 _ A5.out).mono ?_); rintro e w' ⟨rfl, ⟨nd, rfl⟩⟩; refine ⟨_, rfl, ?_⟩))
    all_goals first | (exfalso; simp_all; done) | (exfalso; simp_all; omega) | skip
    go_ret
    exact ⟨by first | rfl | (simp [errW_none, errW_some] <;> rfl) | (simp [*, errW_none, errW_some] <;> rfl), by repeat (first | (with_reducible first | exact HB.out | apply below_alloc | apply pw_below_drewN | apply below_drew1) | exact HB.out)⟩

/-- THE ONE PURE STATEMENT of mintagelaw04_DigitCounts: yours. -/
def mintagelaw04_DigitCounts.Pure : Prop := ∀ (a0 : Int) (a1 : Int), (Lit.int .u64 a0).wf = true → (Lit.int .i64 a1).wf = true → ∃ k, mintagelaw04_DigitCounts.f k a0 a1 = some true
theorem mintagelaw04_DigitCounts.walk (P : mintagelaw04_DigitCounts.Pure) (a0 : Int) (a1 : Int) (w : World) (w0 : (Lit.int .u64 a0).wf = true) (w1 : (Lit.int .i64 a1).wf = true) :
    Calls Try.prog 4 #[.int .u64 a0, .int .i64 a1] w fun e w' => e = .returned (.bool true) ∧ Below w.heap.size w w' := by
  obtain ⟨k, h⟩ := P a0 a1 w0 w1
  refine (mintagelaw04_DigitCounts.calls k a0 a1 true w h).mono ?_
  rintro e w' ⟨rfl, hd⟩
  exact ⟨rfl, hd⟩

end Go.Proofs.Ytonlkffjpofpoaa.Q
