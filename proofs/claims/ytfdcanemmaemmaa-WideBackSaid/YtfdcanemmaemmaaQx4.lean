-- PRINTED by print.py (a twelfth state) out of the translation. Not trusted: Lean checks it.
import Derived.Test.YtfdcanemmaemmaaQx0
namespace Go.Proofs.Ytfdcanemmaemmaa.Q
open Go.RowKit Go.Proofs.YtfdcanemmaemmaaW.PrintWords Go.Proofs.YtfdcanemmaemmaaW.PrintLast Go.Proofs.YtfdcanemmaemmaaW.PrintMore
attribute [local go_sem] max2_int min2_int max_two min_two max_three min_three max_four min_four   -- for this text's walks alone
set_option linter.unusedVariables false
set_option linter.unusedSimpArgs false

/-! ### wide_Shl: function 13 -/
section
def wide_Shl.f (a0_0 : Int) (a0_1 : Int) (a1 : Int) : Option (Int × Int × Bool) :=
  if a1 ≤ 0 then some (a0_0, a0_1, false)
  else if a1 ≥ 128 then some (0, 0, (!(a0_0 == 0) || !(a0_1 == 0)))
  else if a1 ≥ 64 then (if (a0_0 != 0) = true then some (IntKind.u64.wrap (a0_1 * 2 ^ (a1 - 64).toNat), 0, true) else some (IntKind.u64.wrap (a0_1 * 2 ^ (a1 - 64).toNat), 0, (a0_1 / 2 ^ (128 - a1).toNat != 0)))
  else some (Go.bits .or .u64 (IntKind.u64.wrap (a0_0 * 2 ^ a1.toNat)) (a0_1 / 2 ^ (64 - a1).toNat), IntKind.u64.wrap (a0_1 * 2 ^ a1.toNat), (a0_0 / 2 ^ (64 - a1).toNat != 0))
theorem wide_Shl.eqs (d : Nat) (w : World) (x0 y0 : Int) (x1 y1 : Int) :
    (Op.equalIn (d + 2) 24 (.agg #[.int .u64 x0, .int .u64 x1]) (.agg #[.int .u64 y0, .int .u64 y1])).run Try.prog w = .ok (x0 == y0 && (x1 == y1)) w := by
  refine eqA_of Try.underlying24 (by kernel_rfl) ?_
  refine eqf_cons (by rfl) (by go_simp; rfl) (by go_simp; rfl) (by go_simp) ?_
  exact eqf_last (by rfl) (by go_simp; rfl) (by go_simp; rfl) (by go_simp)
attribute [local go_sem high] wide_Shl.eqs
set_option maxHeartbeats 400000 in
theorem wide_Shl.calls0 (a0_0 : Int) (a0_1 : Int) (a1 : Int) (w : World) (h1 : a1 ≤ 0) :
    Calls Try.prog 13 #[.agg #[.int .u64 a0_0, .int .u64 a0_1], .int .i64 a1] w fun e w' => e = .returned (.tuple #[.agg #[.int .u64 a0_0, .int .u64 a0_1], .bool false]) ∧ Below w.heap.size w w' := by
  go_enter Try.func13, Try.ntmps13
  go_wp2
  exact bodyPost_ret (v := .tuple #[.agg #[.int .u64 a0_0, .int .u64 a0_1], .bool false]) (by simp [results, Try.results13, go_sem]) rfl ⟨rfl, by repeat (first | exact Below.refl _ _ | apply below_alloc | apply below_drew)⟩
set_option maxHeartbeats 400000 in
theorem wide_Shl.calls1 (a0_0 : Int) (a0_1 : Int) (a1 : Int) (w : World) (h1 : ¬ a1 ≤ 0) (h2 : a1 ≥ 128) :
    Calls Try.prog 13 #[.agg #[.int .u64 a0_0, .int .u64 a0_1], .int .i64 a1] w fun e w' => e = .returned (.tuple #[.agg #[.int .u64 0, .int .u64 0], .bool (!(a0_0 == 0) || !(a0_1 == 0))]) ∧ Below w.heap.size w w' := by
  go_enter Try.func13, Try.ntmps13
  go_wp2
  go_region
  all_goals go_wp2
  all_goals exact bodyPost_ret (v := .tuple #[.agg #[.int .u64 0, .int .u64 0], .bool (!(a0_0 == 0) || !(a0_1 == 0))]) (by simp [results, Try.results13, go_sem]) rfl ⟨rfl, by repeat (first | exact Below.refl _ _ | apply below_alloc | apply below_drew)⟩
set_option maxHeartbeats 400000 in
theorem wide_Shl.calls2 (a0_0 : Int) (a0_1 : Int) (a1 : Int) (w : World) (h1 : ¬ a1 ≤ 0) (h2 : ¬ a1 ≥ 128) (h3 : a1 ≥ 64) (h4 : (a0_0 != 0) = true) :
    Calls Try.prog 13 #[.agg #[.int .u64 a0_0, .int .u64 a0_1], .int .i64 a1] w fun e w' => e = .returned (.tuple #[.agg #[.int .u64 (IntKind.u64.wrap (a0_1 * 2 ^ (a1 - 64).toNat)), .int .u64 0], .bool true]) ∧ Below w.heap.size w w' := by
  go_enter Try.func13, Try.ntmps13
  go_wp2
  go_region
  all_goals go_wp2
  all_goals exact bodyPost_ret (v := .tuple #[.agg #[.int .u64 (IntKind.u64.wrap (a0_1 * 2 ^ (a1 - 64).toNat)), .int .u64 0], .bool true]) (by simp [results, Try.results13, go_sem]) rfl ⟨rfl, by repeat (first | exact Below.refl _ _ | apply below_alloc | apply below_drew)⟩
set_option maxHeartbeats 400000 in
theorem wide_Shl.calls3 (a0_0 : Int) (a0_1 : Int) (a1 : Int) (w : World) (h1 : ¬ a1 ≤ 0) (h2 : ¬ a1 ≥ 128) (h3 : a1 ≥ 64) (h4 : (a0_0 != 0) = false) :
    Calls Try.prog 13 #[.agg #[.int .u64 a0_0, .int .u64 a0_1], .int .i64 a1] w fun e w' => e = .returned (.tuple #[.agg #[.int .u64 (IntKind.u64.wrap (a0_1 * 2 ^ (a1 - 64).toNat)), .int .u64 0], .bool (a0_1 / 2 ^ (128 - a1).toNat != 0)]) ∧ Below w.heap.size w w' := by
  have e1 : IntKind.i64.wrap (128 - a1) = 128 - a1 := IntWalk.i64_in _ (by omega)
  have e2 : 0 ≤ 128 - a1 := by omega
  have e3 : 128 - a1 ≤ 64 := by omega
  go_enter Try.func13, Try.ntmps13
  go_wp2
  go_region
  all_goals go_wp2
  all_goals exact bodyPost_ret (v := .tuple #[.agg #[.int .u64 (IntKind.u64.wrap (a0_1 * 2 ^ (a1 - 64).toNat)), .int .u64 0], .bool (a0_1 / 2 ^ (128 - a1).toNat != 0)]) (by simp [results, Try.results13, go_sem]) rfl ⟨rfl, by repeat (first | exact Below.refl _ _ | apply below_alloc | apply below_drew)⟩
set_option maxHeartbeats 400000 in
theorem wide_Shl.calls4 (a0_0 : Int) (a0_1 : Int) (a1 : Int) (w : World) (h1 : ¬ a1 ≤ 0) (h2 : ¬ a1 ≥ 128) (h3 : ¬ a1 ≥ 64) :
    Calls Try.prog 13 #[.agg #[.int .u64 a0_0, .int .u64 a0_1], .int .i64 a1] w fun e w' => e = .returned (.tuple #[.agg #[.int .u64 (Go.bits .or .u64 (IntKind.u64.wrap (a0_0 * 2 ^ a1.toNat)) (a0_1 / 2 ^ (64 - a1).toNat)), .int .u64 (IntKind.u64.wrap (a0_1 * 2 ^ a1.toNat))], .bool (a0_0 / 2 ^ (64 - a1).toNat != 0)]) ∧ Below w.heap.size w w' := by
  have e1 : IntKind.i64.wrap (64 - a1) = 64 - a1 := IntWalk.i64_in _ (by omega)
  have e2 : 0 ≤ 64 - a1 := by omega
  have e3 : 64 - a1 ≤ 64 := by omega
  go_enter Try.func13, Try.ntmps13
  go_wp2
  go_region
  all_goals go_wp2
  all_goals exact bodyPost_ret (v := .tuple #[.agg #[.int .u64 (Go.bits .or .u64 (IntKind.u64.wrap (a0_0 * 2 ^ a1.toNat)) (a0_1 / 2 ^ (64 - a1).toNat)), .int .u64 (IntKind.u64.wrap (a0_1 * 2 ^ a1.toNat))], .bool (a0_0 / 2 ^ (64 - a1).toNat != 0)]) (by simp [results, Try.results13, go_sem]) rfl ⟨rfl, by repeat (first | exact Below.refl _ _ | apply below_alloc | apply below_drew)⟩
theorem wide_Shl.calls (a0_0 : Int) (a0_1 : Int) (a1 : Int) (r1 : Int) (r2 : Int) (r3 : Bool) (w : World) (h : wide_Shl.f a0_0 a0_1 a1 = some (r1, r2, r3)) :
    Calls Try.prog 13 #[.agg #[.int .u64 a0_0, .int .u64 a0_1], .int .i64 a1] w fun e w' => e = .returned (.tuple #[.agg #[.int .u64 r1, .int .u64 r2], .bool r3]) ∧ Below w.heap.size w w' := by
  unfold wide_Shl.f at h
  by_cases h1 : a1 ≤ 0
  · rw [if_pos h1] at h; simp only [Option.some.injEq, Prod.mk.injEq] at h; obtain ⟨rfl, rfl, rfl⟩ := h
    exact wide_Shl.calls0 _ _ _ w h1
  · rw [if_neg h1] at h
    by_cases h2 : a1 ≥ 128
    · rw [if_pos h2] at h; simp only [Option.some.injEq, Prod.mk.injEq] at h; obtain ⟨rfl, rfl, rfl⟩ := h
      exact wide_Shl.calls1 _ _ _ w h1 h2
    · rw [if_neg h2] at h
      by_cases h3 : a1 ≥ 64
      · rw [if_pos h3] at h
        by_cases h4 : (a0_0 != 0) = true
        · rw [if_pos h4] at h; simp only [Option.some.injEq, Prod.mk.injEq] at h; obtain ⟨rfl, rfl, rfl⟩ := h
          exact wide_Shl.calls2 _ _ _ w h1 h2 h3 h4
        · rw [if_neg h4] at h; simp only [Option.some.injEq, Prod.mk.injEq] at h; obtain ⟨rfl, rfl, rfl⟩ := h
          exact wide_Shl.calls3 _ _ _ w h1 h2 h3 (by simpa using h4)
      · rw [if_neg h3] at h; simp only [Option.some.injEq, Prod.mk.injEq] at h; obtain ⟨rfl, rfl, rfl⟩ := h
        exact wide_Shl.calls4 _ _ _ w h1 h2 h3

end

end Go.Proofs.Ytfdcanemmaemmaa.Q
