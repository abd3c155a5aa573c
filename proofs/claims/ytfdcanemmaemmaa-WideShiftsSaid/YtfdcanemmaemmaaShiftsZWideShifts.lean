/- WideShifts: the printed function answers true. -/
import Derived.Test.YtfdcanemmaemmaaBigcZWideShifts
import Derived.Test.YtfdcanemmaemmaaBigdZWideShifts
import Derived.Test.YtfdcanemmaemmaaLenZWideShifts
import Derived.Test.YtfdcanemmaemmaaQ2ZWideShifts
namespace Go.Proofs.Ytfdcanemmaemmaa.Sums
set_option linter.unusedVariables false
open Go.RowKit Go.Proofs.Ytfdcanemmaemmaa.Q Go.Proofs.Ytfdcanemmaemmaa.Wid Go.Proofs.Ytfdcanemmaemmaa.Big Go.Proofs.YtfdcanemmaemmaaW.PrintWords Go.Proofs.YtfdcanemmaemmaaW.PrintLast

theorem pow_nat (n : Nat) : ((2 ^ n : Nat) : Int) = 2 ^ n := by simp
theorem shl_both {a1 a0 : Int} (n : Int) (h1 : U a1) (h0 : U a0) : ∃ h l o, wide_Shl.f a1 a0 n = some (h, l, o) ∧ Ev (fun k => mintageref01_Shl.f k a1 a0 n) (h, l, o) := by
  obtain ⟨h, l, e, uh, ul, v⟩ := shl_spec a1 a0 n h1 h0
  refine ⟨h, l, _, e, ?_⟩
  have wa := W_bounds h1 h0
  have la := len130 (n := (W a1 a0).toNat) (by omega)
  -- by a count from 0 to 128
  have key : ∀ m : Nat, m ≤ 128 → (W a1 a0).toNat * 2 ^ m < 115792089237316195423570985008687907853269984665640564039457584007913129639936 := by
    intro m hm
    have hp : 2 ^ m ≤ 2 ^ 128 := Nat.pow_le_pow_right (by decide) hm
    have e128 : (2 : Nat) ^ 128 = 340282366920938463463374607431768211456 := by decide +kernel
    rw [e128] at hp
    exact Nat.lt_of_le_of_lt (Nat.mul_le_mul (show (W a1 a0).toNat ≤ 340282366920938463463374607431768211455 by omega) hp) (by decide)
  have run : ∀ m : Nat, m ≤ 128 → Ev (fun k => (mintageref01_Of.f k a1 a0).bind fun t377 => ((mintageref01_Left.f k t377 (m : Int)).bind fun t380 => ((mintageref01_Wide.f k t380).bind fun bt383 => (some (bt383.1, bt383.2.1, bt383.2.2))))) (lo2 ((W a1 a0).toNat * 2 ^ m)) := by
    intro m hm
    refine Ev.bind (of_ev h1 h0) ?_
    refine Ev.bind (left_ev (by omega) (by omega)) ?_
    have := len130 (key m hm)
    refine Ev.bind (wide_ev (by omega)) ?_
    exact Ev.now _
  have fits : ∀ m : Nat, (W h l = W a1 a0 * 2 ^ m % 340282366920938463463374607431768211456) → lo2 ((W a1 a0).toNat * 2 ^ m) = (h, l, decide (W a1 a0 * 2 ^ m ≥ 340282366920938463463374607431768211456)) := by
    intro m hv
    have ec : (((W a1 a0).toNat * 2 ^ m : Nat) : Int) = W a1 a0 * 2 ^ m := by
      rw [Int.natCast_mul, pow_nat, Int.toNat_of_nonneg wa.1]
    unfold lo2
    generalize (W a1 a0).toNat * 2 ^ m = x at *
    rw [← ec] at hv ⊢
    unfold W U at *
    refine Prod.ext (by simp only; omega) (Prod.ext (by simp only; omega) ?_)
    simp only
    by_cases hb : 340282366920938463463374607431768211456 ≤ x
    · rw [decide_eq_true hb, decide_eq_true (by omega)]
    · rw [decide_eq_false hb, decide_eq_false (by omega)]
  unfold mintageref01_Shl.f
  by_cases hneg : n < 0
  · simp only [if_pos hneg]
    refine Ev.step (fun k => by simp only [mintageref01_Shl.j0]; rw [if_neg (by decide)]) ?_
    have e0 : n.toNat = 0 := by omega
    rw [e0] at v ⊢
    have := run 0 (by omega)
    rw [fits 0 v] at this
    exact this
  · simp only [if_neg hneg]
    by_cases hbig : n > 128
    · refine Ev.step (fun k => by simp only [mintageref01_Shl.j0]; rw [if_pos hbig]) ?_
      have hp := pow_ge_128 (n := n) (by omega)
      have e128 : (2 : Int) ^ 128 = 340282366920938463463374607431768211456 := by decide +kernel
      have hdiv : ∃ q : Int, (2 : Int) ^ n.toNat = 340282366920938463463374607431768211456 * q ∧ 1 ≤ q := by
        refine ⟨2 ^ (n.toNat - 128), ?_, ?_⟩
        · have hx : 128 + (n.toNat - 128) = n.toNat := by omega
          rw [← e128, ← Int.pow_add, hx]
        · have : (0 : Int) < 2 ^ (n.toNat - 128) := Int.pow_pos (by decide)
          omega
      obtain ⟨q, hq, hq1⟩ := hdiv
      have z : W a1 a0 * 2 ^ n.toNat % 340282366920938463463374607431768211456 = 0 := by
        rw [hq, show W a1 a0 * (340282366920938463463374607431768211456 * q) = 340282366920938463463374607431768211456 * (W a1 a0 * q) from by grind]
        exact Int.mul_emod_right _ _
      have z2 : W a1 a0 * 2 ^ 128 % 340282366920938463463374607431768211456 = 0 := by rw [e128]; exact Int.mul_emod_left _ _
      have hlost : decide (W a1 a0 * 2 ^ n.toNat ≥ 340282366920938463463374607431768211456) = decide (W a1 a0 * 2 ^ 128 ≥ 340282366920938463463374607431768211456) := by
        by_cases hw : W a1 a0 = 0
        · rw [hw]; simp
        · rw [decide_eq_true, decide_eq_true]
          · rw [e128]; have := wa.1; omega
          · have h3 : 1 * (2 : Int) ^ n.toNat ≤ W a1 a0 * 2 ^ n.toNat := Int.mul_le_mul_of_nonneg_right (by have := wa.1; omega) (by omega)
            omega
      rw [hlost]
      have hf : W h l = W a1 a0 * 2 ^ 128 % 340282366920938463463374607431768211456 := v.trans (z.trans z2.symm)
      have hr := run 128 (by decide)
      have hq := fits 128 hf
      rw [hq] at hr
      exact hr
    · refine Ev.step (fun k => by simp only [mintageref01_Shl.j0]; rw [if_neg hbig]) ?_
      have := run n.toNat (by omega)
      rw [fits _ v, Int.toNat_of_nonneg (by omega)] at this
      exact this
theorem shr_both {a1 a0 : Int} (n : Int) (h1 : U a1) (h0 : U a0) : ∃ h l o, wide_Shr.f a1 a0 n = some (h, l, o) ∧ Ev (fun k => mintageref01_Shr.f k a1 a0 n) (h, l, o) := by
  obtain ⟨h, l, e, uh, ul, v⟩ := shr_spec a1 a0 n h1 h0
  refine ⟨h, l, _, e, ?_⟩
  have wa := W_bounds h1 h0
  have la := len130 (n := (W a1 a0).toNat) (by omega)
  have run : ∀ m : Nat, (W h l = W a1 a0 / 2 ^ m) → Ev (fun k => (mintageref01_Of.f k a1 a0).bind fun t415 => ((mintageref01_Right.f k t415 (m : Int)).bind fun bt418 => ((mintageref01_Wide.f k bt418.1).bind fun bt422 => (some (bt422.1, bt422.2.1, bt418.2))))) (h, l, decide (W a1 a0 % 2 ^ m ≠ 0)) := by
    intro m hv
    refine Ev.bind (of_ev h1 h0) ?_
    refine Ev.bind (right_ev (by omega) m) ?_
    have hle : (W a1 a0).toNat / 2 ^ m ≤ (W a1 a0).toNat := Nat.div_le_self _ _
    have lq := len130 (n := (W a1 a0).toNat / 2 ^ m) (by omega)
    refine Ev.bind (wide_ev (by omega)) ?_
    have eq : (((W a1 a0).toNat / 2 ^ m : Nat) : Int) = W a1 a0 / 2 ^ m := by rw [Int.natCast_ediv, pow_nat, Int.toNat_of_nonneg wa.1]
    have er : (((W a1 a0).toNat % 2 ^ m : Nat) : Int) = W a1 a0 % 2 ^ m := by rw [Int.natCast_emod, pow_nat, Int.toNat_of_nonneg wa.1]
    have hb : decide ((W a1 a0).toNat % 2 ^ m ≠ 0) = decide (W a1 a0 % 2 ^ m ≠ 0) := by
      rw [← er]
      by_cases hz : (W a1 a0).toNat % 2 ^ m = 0
      · rw [hz]; rfl
      · rw [decide_eq_true hz, decide_eq_true (by omega)]
    have hh : (lo2 ((W a1 a0).toNat / 2 ^ m)).1 = h ∧ (lo2 ((W a1 a0).toNat / 2 ^ m)).2.1 = l := by
      unfold lo2
      rw [← eq] at hv
      generalize (W a1 a0).toNat / 2 ^ m = x at *
      unfold W U at *
      constructor
      · simp only; omega
      · simp only; omega
    simp only [hh.1, hh.2, hb]
    exact Ev.now _
  unfold mintageref01_Shr.f
  by_cases hneg : n < 0
  · simp only [if_pos hneg]
    have e0 : n.toNat = 0 := by omega
    rw [e0] at v ⊢
    exact run 0 v
  · simp only [if_neg hneg]
    have := run n.toNat v
    rw [Int.toNat_of_nonneg (by omega)] at this
    exact this
theorem bl_same (n : Nat) : Wid.bl n = Big.bl n := by
  induction n using Nat.strongRecOn with
  | _ n ih =>
    by_cases h : n = 0
    · subst h; rw [Wid.bl_zero, Big.bl_zero]
    · rw [Wid.bl_pos h, Big.bl_pos h, ih (n / 2) (by omega)]
theorem shifts_ev {a1 a0 b1 b0 : Int} (n : Int) (h1 : U a1) (h0 : U a0) (g1 : U b1) (g0 : U b0) : ∃ k, mintagelaw01_WideShifts.f k a1 a0 b1 b0 n = some true := by
  obtain ⟨s1, s0, o, es, vs⟩ := shl_both n h1 h0
  obtain ⟨d1, d0, u, ed, vd⟩ := shr_both n h1 h0
  have wa := W_bounds h1 h0
  have wb := W_bounds g1 g0
  have la := len130 (n := (W a1 a0).toNat) (by omega)
  have lb := len130 (n := (W b1 b0).toNat) (by omega)
  refine Ev.rounds ?_
  unfold mintagelaw01_WideShifts.f
  simp only [es, ed, Option.bind_some]
  refine Ev.bind vs ?_
  refine Ev.bind vd ?_
  refine Ev.bind (of_ev h1 h0) ?_
  refine Ev.bind (of_ev g1 g0) ?_
  simp only [beq_self_eq_true, Bool.and_self, if_true, cmp_spec a1 a0 b1 b0 h0 g0, Option.bind_some]
  refine Ev.bind (cmp_ev (by unfold Sm; omega) (by unfold Sm; omega)) ?_
  have ec : (if W a1 a0 < W b1 b0 then (-1 : Int) else if W a1 a0 = W b1 b0 then 0 else 1) = (if (W a1 a0).toNat < (W b1 b0).toNat then -1 else if (W a1 a0).toNat > (W b1 b0).toNat then 1 else 0) := by
    by_cases c1 : W a1 a0 < W b1 b0
    · rw [if_pos c1, if_pos (by omega)]
    · rw [if_neg c1, if_neg (show ¬ (W a1 a0).toNat < (W b1 b0).toNat by omega)]
      by_cases c2 : W a1 a0 = W b1 b0
      · rw [if_pos c2, if_neg (by omega)]
      · rw [if_neg c2, if_pos (by omega)]
  simp only [if_pos ec]
  refine Ev.bind (lenf_ev a1 a0 h1 h0) ?_
  refine Ev.bind (bits_ev (by unfold Sm; omega)) ?_
  rw [bl_same]
  simp only [if_true]
  exact Ev.bind wakes_ev (Ev.now _)
theorem shifts_walk (a1 a0 b1 b0 n : Int) (w : World) (h1 : (Lit.int .u64 a1).wf = true) (h0 : (Lit.int .u64 a0).wf = true) (g1 : (Lit.int .u64 b1).wf = true) (g0 : (Lit.int .u64 b0).wf = true) (_hn : (Lit.int .i64 n).wf = true) :
    Calls Try.prog 6 #[.agg #[.int .u64 a1, .int .u64 a0], .agg #[.int .u64 b1, .int .u64 b0], .int .i64 n] w fun e w' => e = .returned (.bool true) ∧ Below w.heap.size w w' := by
  obtain ⟨k, h⟩ := shifts_ev n (wf_u64 h1) (wf_u64 h0) (wf_u64 g1) (wf_u64 g0)
  exact mintagelaw01_WideShifts.calls k a1 a0 b1 b0 n true w h rfl
end Go.Proofs.Ytfdcanemmaemmaa.Sums
