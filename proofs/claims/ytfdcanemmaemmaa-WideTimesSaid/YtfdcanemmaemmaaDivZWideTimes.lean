/- Plain facts on wide: Div, with its rounds. -/
import Derived.Test.YtfdcanemmaemmaaLenZWideTimes
import Derived.Test.YtfdcanemmaemmaaQ1ZWideTimes
namespace Go.Proofs.Ytfdcanemmaemmaa.Wid
open Go.RowKit Go.Proofs.Ytfdcanemmaemmaa.Q Go.Proofs.YtfdcanemmaemmaaW.PrintWords Go.Proofs.YtfdcanemmaemmaaW.PrintLast

/-- Div, bit by bit: behind i rounds the number's top i bits are divided. -/
theorem div_ev (j : Nat) : ∀ (d r i a1 a0 q1 q0 : Int) (A : Int), U d → 0 < d → U a1 → U a0 → U q1 → U q0 → 0 ≤ r → r < d → i + j = 128 → 0 ≤ i →
    W a1 a0 = (A * 2 ^ i.toNat) % 340282366920938463463374607431768211456 → 0 ≤ A → A < 340282366920938463463374607431768211456 →
    A / 2 ^ j = W q1 q0 * d + r → W q1 q0 < 2 ^ i.toNat →
    ∃ q1' q0' r', Ev (fun k => wide_Div.l0 k d r i a1 a0 q1 q0) (q1', q0', r', true) ∧ U q1' ∧ U q0' ∧ 0 ≤ r' ∧ r' < d ∧ A = W q1' q0' * d + r' := by
  induction j with
  | zero =>
    intro d r i a1 a0 q1 q0 A hd hd0 h1 h0 g1 g0 hr hrd hi hi0 hW hA hA' hq _
    refine ⟨q1, q0, r, ?_, g1, g0, hr, hrd, by simpa using hq⟩
    refine Ev.step (fun k => by simp only [wide_Div.l0]; rfl) ?_
    simp only [if_neg (show ¬ i < 128 by omega)]
    exact Ev.now _
  | succ j ih =>
    intro d r i a1 a0 q1 q0 A hd hd0 h1 h0 g1 g0 hr hrd hi hi0 hW hA hA' hq hqb
    have hi128 : i < 128 := by omega
    obtain ⟨b1, b0, eb, ub1, ub0, vb⟩ := shl_spec a1 a0 1 h1 h0
    obtain ⟨c1, c0, ec, uc1, uc0, vc⟩ := shl_spec q1 q0 1 g1 g0
    have two1 : (2 : Int) ^ (1 : Int).toNat = 2 := by rfl
    rw [two1] at vb vc
    -- the top bit
    have htop : a1 / 9223372036854775808 = W a1 a0 / 170141183460469231731687303715884105728 := by unfold W U at *; omega
    have hp := two_pow_pos i.toNat
    have hpj := two_pow_pos j
    have hsplit : (2 : Int) ^ i.toNat * 2 ^ (j + 1) = 340282366920938463463374607431768211456 := by
      rw [← Int.pow_add]
      have : i.toNat + (j + 1) = 128 := by omega
      rw [this]; rfl
    have hsplit2 : (2 : Int) ^ i.toNat * 2 ^ j = 170141183460469231731687303715884105728 := by
      rw [← Int.pow_add]
      have : i.toNat + j = 127 := by omega
      rw [this]; rfl
    -- the digit that comes: A / 2^j = 2 (A / 2^(j+1)) + bit
    have hbit : A / 2 ^ j = 2 * (A / 2 ^ (j + 1)) + W a1 a0 / 170141183460469231731687303715884105728 := by
      have m1 : (A * 2 ^ i.toNat) % (2 ^ i.toNat * 2 ^ (j + 1)) = 2 ^ i.toNat * (A % 2 ^ (j + 1)) := by
        rw [Int.mul_comm A, Int.mul_emod_mul_of_pos _ _ hp]
      rw [hsplit] at m1
      rw [hW, m1, ← hsplit2, Int.mul_ediv_mul_of_pos _ _ hp]
      have e1 := Int.emod_add_mul_ediv A (2 ^ (j + 1))
      have e2 : A / 2 ^ j = (A % 2 ^ (j + 1) + 2 ^ j * (2 * (A / 2 ^ (j + 1)))) / 2 ^ j := by
        congr 1
        rw [Int.pow_succ] at e1 ⊢
        grind
      rw [e2, Int.add_mul_ediv_left _ _ (by omega)]
      omega
    have htb : 0 ≤ W a1 a0 / 170141183460469231731687303715884105728 ∧ W a1 a0 / 170141183460469231731687303715884105728 ≤ 1 := by
      have := W_bounds h1 h0; omega
    refine ?_
    have hnext : W b1 b0 = (A * 2 ^ (i + 1).toNat) % 340282366920938463463374607431768211456 := by
      have : (i + 1).toNat = i.toNat + 1 := by omega
      rw [vb, hW, this, Int.pow_succ, ← Int.mul_assoc]
      generalize A * 2 ^ i.toNat = X
      omega
    have hq2 : W q1 q0 * 2 < 2 ^ (i + 1).toNat := by
      have : (i + 1).toNat = i.toNat + 1 := by omega
      rw [this, Int.pow_succ]; omega
    have hq128 : (2 : Int) ^ (i + 1).toNat ≤ 340282366920938463463374607431768211456 := by
      have : (i + 1).toNat = i.toNat + 1 := by omega
      rw [this, Int.pow_succ]
      rw [Int.pow_succ] at hsplit
      have := Int.mul_le_mul_of_nonneg_left (show (1 : Int) ≤ 2 ^ j by omega) (show (0 : Int) ≤ 2 ^ i.toNat * 2 by omega)
      grind
    have hcv : W c1 c0 = W q1 q0 * 2 := by
      rw [vc, Int.emod_eq_of_lt]
      · have := (W_bounds g1 g0).1; omega
      · omega
    have hc0 : c0 % 2 = 0 := by unfold W U at *; omega
    have hrr : Go.bits .or .u64 (IntKind.u64.wrap (r * 2)) (a1 / 9223372036854775808) = (r * 2) % 18446744073709551616 + a1 / 9223372036854775808 := by
      rw [IntKind.wrap_u64]
      exact or_join 1 (by omega) (by omega) (by unfold U at h1; omega) (by unfold U at h1; omega) (by omega) (by unfold U at h1; omega)
    have hc1 : Go.bits .or .u64 c0 1 = c0 + 1 := or_join 1 uc0.1 uc0.2 (by omega) (by omega) hc0 (by omega)
    have key : A / 2 ^ j = (W q1 q0 * 2) * d + (r * 2 + a1 / 9223372036854775808) := by rw [hbit, hq, htop]; grind
    have ed : A / 2 ^ (j + 1) = A / 2 ^ (j + 1) := rfl
    by_cases hge : r * 2 + a1 / 9223372036854775808 ≥ d
    · have hdr : d ≤ r * 2 + 1 := by omega
      have huc : U (c0 + 1) := by unfold U at *; omega
      have hW1 : W c1 (c0 + 1) = W q1 q0 * 2 + 1 := by rw [← hcv]; unfold W; omega
      have wr : IntKind.u64.wrap (((r * 2) % 18446744073709551616 + a1 / 9223372036854775808) - d) = r * 2 + a1 / 9223372036854775808 - d := by
        rw [IntKind.wrap_u64]; unfold U at *; omega
      obtain ⟨q1', q0', r', he, x1, x2, x3, x4, x5⟩ := ih d (r * 2 + a1 / 9223372036854775808 - d) (i + 1) b1 b0 c1 (c0 + 1) A hd hd0 ub1 ub0 uc1 huc (by omega) (by omega) (by omega) (by omega) hnext hA hA'
        (by rw [key, hW1]; grind) (by rw [hW1]; have : W q1 q0 + 1 ≤ 2 ^ i.toNat := by omega
                                      have e : (i + 1).toNat = i.toNat + 1 := by omega
                                      rw [e, Int.pow_succ]; omega)
      refine ⟨q1', q0', r', ?_, x1, x2, x3, x4, x5⟩
      refine Ev.step (fun k => by simp only [wide_Div.l0]; rfl) ?_
      simp only [if_pos hi128, eb, ec, Option.bind_some, hrr, hc1, wr, wrap64_id (show -9223372036854775808 ≤ i + 1 by omega) (show i + 1 < 9223372036854775808 by omega)]
      by_cases ht : r / 9223372036854775808 = 1
      · simp only [if_pos ht]; exact he
      · simp only [if_neg ht, if_pos (show (r * 2) % 18446744073709551616 + a1 / 9223372036854775808 ≥ d by unfold U at *; omega)]; exact he
    · have wr : (r * 2) % 18446744073709551616 + a1 / 9223372036854775808 = r * 2 + a1 / 9223372036854775808 := by unfold U at *; omega
      obtain ⟨q1', q0', r', he, x1, x2, x3, x4, x5⟩ := ih d (r * 2 + a1 / 9223372036854775808) (i + 1) b1 b0 c1 c0 A hd hd0 ub1 ub0 uc1 uc0 (by unfold U at h1; omega) (by omega) (by omega) (by omega) hnext hA hA'
        (by rw [key, hcv]) (by rw [hcv]; exact hq2)
      refine ⟨q1', q0', r', ?_, x1, x2, x3, x4, x5⟩
      refine Ev.step (fun k => by simp only [wide_Div.l0]; rfl) ?_
      simp only [if_pos hi128, eb, ec, Option.bind_some, hrr, wr, wrap64_id (show -9223372036854775808 ≤ i + 1 by omega) (show i + 1 < 9223372036854775808 by omega)]
      simp only [if_neg (show ¬ r / 9223372036854775808 = 1 by unfold U at *; omega), if_neg hge]
      exact he

theorem divf_ev (a1 a0 d : Int) (h1 : U a1) (h0 : U a0) (hd : U d) : (d = 0 → Ev (fun k => wide_Div.f k a1 a0 d) (0, 0, 0, false)) ∧
    (0 < d → ∃ q1 q0 r, Ev (fun k => wide_Div.f k a1 a0 d) (q1, q0, r, true) ∧ U q1 ∧ U q0 ∧ 0 ≤ r ∧ r < d ∧ W a1 a0 = W q1 q0 * d + r) := by
  constructor
  · intro h
    unfold wide_Div.f
    simp only [if_pos h]
    exact Ev.now _
  · intro h
    unfold wide_Div.f
    simp only [if_neg (show ¬ d = 0 by omega)]
    have hw := W_bounds h1 h0
    have p128 : (2 : Int) ^ 128 = 340282366920938463463374607431768211456 := by rfl
    exact div_ev 128 d 0 0 a1 a0 0 0 (W a1 a0) hd h h1 h0 (by unfold U; omega) (by unfold U; omega) (by omega) h (by omega) (by omega)
      (by rw [show (0 : Int).toNat = 0 from rfl, Int.pow_zero, Int.mul_one, Int.emod_eq_of_lt hw.1 hw.2]) hw.1 hw.2
      (by rw [p128, Int.ediv_eq_zero_of_lt hw.1 hw.2]; unfold W; omega) (by unfold W; simp)

end Go.Proofs.Ytfdcanemmaemmaa.Wid
