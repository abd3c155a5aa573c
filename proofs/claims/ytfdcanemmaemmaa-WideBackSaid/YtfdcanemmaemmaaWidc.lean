/- Plain facts on wide: Len and Div, with their rounds; the pure statements of WideMoves and WideBack, and their walks. -/
import Derived.Test.YtfdcanemmaemmaaWidb
import Derived.Test.YtfdcanemmaemmaaQx11
import Derived.Test.YtfdcanemmaemmaaQx13
import Derived.Test.YtfdcanemmaemmaaQx2
import Derived.Test.YtfdcanemmaemmaaQx5
namespace Go.Proofs.Ytfdcanemmaemmaa.Wid
open Go.RowKit Go.Proofs.Ytfdcanemmaemmaa.Q Go.Proofs.YtfdcanemmaemmaaW.PrintWords Go.Proofs.YtfdcanemmaemmaaW.PrintLast

/-- How many bits a number has. -/
def bl (n : Nat) : Nat := if h : n = 0 then 0 else bl (n / 2) + 1
theorem bl_zero : bl 0 = 0 := by rw [bl]; simp
theorem bl_pos {n : Nat} (h : n ≠ 0) : bl n = bl (n / 2) + 1 := by rw [bl]; simp [h]
theorem bl_mul (m : Nat) {n : Nat} (h : n ≠ 0) : bl (n * 2 ^ m) = bl n + m := by
  induction m with
  | zero => simp
  | succ m ih =>
    have e : n * 2 ^ (m + 1) = 2 * (n * 2 ^ m) := by rw [Nat.pow_succ]; grind
    have hp : 0 < n * 2 ^ m := Nat.mul_pos (by omega) (Nat.two_pow_pos m)
    rw [e, bl_pos (by omega), Nat.mul_div_cancel_left _ (by decide), ih]
    omega
theorem bl_le (d : Nat) : ∀ n, n < 2 ^ d → bl n ≤ d := by
  induction d with
  | zero => intro n h; have : n = 0 := by simpa using h
            rw [this, bl_zero]; exact Nat.le_refl 0
  | succ d ih =>
    intro n h
    by_cases z : n = 0
    · rw [z, bl_zero]; omega
    · rw [bl_pos z]
      have := ih (n / 2) (by rw [Nat.pow_succ] at h; omega)
      omega

theorem wrap64_id {x : Int} (h : -9223372036854775808 ≤ x) (h' : x < 9223372036854775808) : wrap64 x = x := by unfold wrap64; omega

theorem len_ev (d : Nat) : ∀ (n a1 a0 : Int), U a1 → U a0 → (W a1 a0).toNat < 2 ^ d → 0 ≤ n → n + d ≤ 1000 → Ev (fun k => wide_Len.l0 k n a1 a0) (n + bl (W a1 a0).toNat) := by
  induction d with
  | zero =>
    intro n a1 a0 h1 h0 hd hn hl
    have hz : W a1 a0 = 0 := by have := W_bounds h1 h0; have : (W a1 a0).toNat = 0 := by simpa using hd
                                omega
    have z1 : a1 = 0 := by unfold W U at *; omega
    have z0 : a0 = 0 := by unfold W U at *; omega
    rw [hz]
    refine Ev.step (fun k => by simp only [wide_Len.l0]; rfl) ?_
    simp only [z1, z0, beq_self_eq_true, Bool.not_true, Bool.or_self, Bool.false_eq_true, if_false]
    have : (0 : Int).toNat = 0 := rfl
    rw [this, bl_zero]
    simpa using Ev.now n
  | succ d ih =>
    intro n a1 a0 h1 h0 hd hn hl
    refine Ev.step (fun k => by simp only [wide_Len.l0]; rfl) ?_
    by_cases hz : W a1 a0 = 0
    · have z1 : a1 = 0 := by unfold W U at *; omega
      have z0 : a0 = 0 := by unfold W U at *; omega
      rw [hz]
      simp only [z1, z0, beq_self_eq_true, Bool.not_true, Bool.or_self, Bool.false_eq_true, if_false]
      have : (0 : Int).toNat = 0 := rfl
      rw [this, bl_zero]
      simpa using Ev.now n
    · have hne : (!(a1 == 0) || !(a0 == 0)) = true := by
        simp only [Bool.or_eq_true, Bool.not_eq_true', beq_eq_false_iff_ne]
        unfold W U at *; omega
      simp only [hne, if_true]
      obtain ⟨h, l, e, u1, u0, v⟩ := shr_spec a1 a0 1 h1 h0
      simp only [e, Option.bind_some]
      have hw := W_bounds h1 h0
      have ev : (W h l).toNat = (W a1 a0).toNat / 2 := by
        rw [v]
        have : (2 : Int) ^ (1 : Int).toNat = 2 := by rfl
        rw [this]; omega
      have := ih (n + 1) h l u1 u0 (by rw [ev]; rw [Nat.pow_succ] at hd; omega) (by omega) (by omega)
      rw [ev] at this
      rw [wrap64_id (by omega) (by omega)]
      have e2 : n + (bl (W a1 a0).toNat : Int) = n + 1 + (bl ((W a1 a0).toNat / 2) : Int) := by
        rw [bl_pos (show (W a1 a0).toNat ≠ 0 by omega)]; omega
      rw [e2]; exact this

theorem lenf_ev (a1 a0 : Int) (h1 : U a1) (h0 : U a0) : Ev (fun k => wide_Len.f k a1 a0) (bl (W a1 a0).toNat) := by
  have hw := W_bounds h1 h0
  have := len_ev 128 0 a1 a0 h1 h0 (by have : (2 : Nat) ^ 128 = 340282366920938463463374607431768211456 := by rfl
                                       omega) (by omega) (by omega)
  rw [Int.zero_add] at this
  exact this

/-- Div, bit by bit: behind i rounds the number's top i bits are divided. -/
theorem div_ev (j : Nat) : ∀ (d r i a1 a0 q1 q0 : Int) (A : Int), U d → 0 < d → U a1 → U a0 → U q1 → U q0 → 0 ≤ r → r < d → i + j = 128 → 0 ≤ i →
    W a1 a0 = (A * 2 ^ i.toNat) % 340282366920938463463374607431768211456 → 0 ≤ A → A < 340282366920938463463374607431768211456 →
    A / 2 ^ j = W q1 q0 * d + r → W q1 q0 < 2 ^ i.toNat →
    ∃ q1' q0' r', Ev (fun k => wide_Div.l0 k d r i a1 a0 q1 q0) (q1', q0', r', true) ∧ U q1' ∧ U q0' ∧ 0 ≤ r' ∧ r' < d ∧ A = W q1' q0' * d + r' := by
  induction j with
  | zero =>
    intro d r i a1 a0 q1 q0 A hd hd0 h1 h0 g1 g0 hr hrd hi hi0 hW hA hA' hq _
    refine ⟨q1, q0, r, ?_, g1, g0, hr, hrd, by simpa using hq⟩
    refine Ev.step (fun k => by simp only [wide_Div.l0]; rfl) ?_
    simp only [if_neg (show ¬ i < 128 by omega)]
    exact Ev.now _
  | succ j ih =>
    intro d r i a1 a0 q1 q0 A hd hd0 h1 h0 g1 g0 hr hrd hi hi0 hW hA hA' hq hqb
    have hi128 : i < 128 := by omega
    obtain ⟨b1, b0, eb, ub1, ub0, vb⟩ := shl_spec a1 a0 1 h1 h0
    obtain ⟨c1, c0, ec, uc1, uc0, vc⟩ := shl_spec q1 q0 1 g1 g0
    have two1 : (2 : Int) ^ (1 : Int).toNat = 2 := by rfl
    rw [two1] at vb vc
    -- the top bit
    have htop : a1 / 9223372036854775808 = W a1 a0 / 170141183460469231731687303715884105728 := by unfold W U at *; omega
    have hp := two_pow_pos i.toNat
    have hpj := two_pow_pos j
    have hsplit : (2 : Int) ^ i.toNat * 2 ^ (j + 1) = 340282366920938463463374607431768211456 := by
      rw [← Int.pow_add]
      have : i.toNat + (j + 1) = 128 := by omega
      rw [this]; rfl
    have hsplit2 : (2 : Int) ^ i.toNat * 2 ^ j = 170141183460469231731687303715884105728 := by
      rw [← Int.pow_add]
      have : i.toNat + j = 127 := by omega
      rw [this]; rfl
    -- the digit that comes: A / 2^j = 2 (A / 2^(j+1)) + bit
    have hbit : A / 2 ^ j = 2 * (A / 2 ^ (j + 1)) + W a1 a0 / 170141183460469231731687303715884105728 := by
      have m1 : (A * 2 ^ i.toNat) % (2 ^ i.toNat * 2 ^ (j + 1)) = 2 ^ i.toNat * (A % 2 ^ (j + 1)) := by
        rw [Int.mul_comm A, Int.mul_emod_mul_of_pos _ _ hp]
      rw [hsplit] at m1
      rw [hW, m1, ← hsplit2, Int.mul_ediv_mul_of_pos _ _ hp]
      have e1 := Int.emod_add_mul_ediv A (2 ^ (j + 1))
      have e2 : A / 2 ^ j = (A % 2 ^ (j + 1) + 2 ^ j * (2 * (A / 2 ^ (j + 1)))) / 2 ^ j := by
        congr 1
        rw [Int.pow_succ] at e1 ⊢
        grind
      rw [e2, Int.add_mul_ediv_left _ _ (by omega)]
      omega
    have htb : 0 ≤ W a1 a0 / 170141183460469231731687303715884105728 ∧ W a1 a0 / 170141183460469231731687303715884105728 ≤ 1 := by
      have := W_bounds h1 h0; omega
    refine ?_
    have hnext : W b1 b0 = (A * 2 ^ (i + 1).toNat) % 340282366920938463463374607431768211456 := by
      have : (i + 1).toNat = i.toNat + 1 := by omega
      rw [vb, hW, this, Int.pow_succ, ← Int.mul_assoc]
      generalize A * 2 ^ i.toNat = X
      omega
    have hq2 : W q1 q0 * 2 < 2 ^ (i + 1).toNat := by
      have : (i + 1).toNat = i.toNat + 1 := by omega
      rw [this, Int.pow_succ]; omega
    have hq128 : (2 : Int) ^ (i + 1).toNat ≤ 340282366920938463463374607431768211456 := by
      have : (i + 1).toNat = i.toNat + 1 := by omega
      rw [this, Int.pow_succ]
      rw [Int.pow_succ] at hsplit
      have := Int.mul_le_mul_of_nonneg_left (show (1 : Int) ≤ 2 ^ j by omega) (show (0 : Int) ≤ 2 ^ i.toNat * 2 by omega)
      grind
    have hcv : W c1 c0 = W q1 q0 * 2 := by
      rw [vc, Int.emod_eq_of_lt]
      · have := (W_bounds g1 g0).1; omega
      · omega
    have hc0 : c0 % 2 = 0 := by unfold W U at *; omega
    have hrr : Go.bits .or .u64 (IntKind.u64.wrap (r * 2)) (a1 / 9223372036854775808) = (r * 2) % 18446744073709551616 + a1 / 9223372036854775808 := by
      rw [IntKind.wrap_u64]
      exact or_join 1 (by omega) (by omega) (by unfold U at h1; omega) (by unfold U at h1; omega) (by omega) (by unfold U at h1; omega)
    have hc1 : Go.bits .or .u64 c0 1 = c0 + 1 := or_join 1 uc0.1 uc0.2 (by omega) (by omega) hc0 (by omega)
    have key : A / 2 ^ j = (W q1 q0 * 2) * d + (r * 2 + a1 / 9223372036854775808) := by rw [hbit, hq, htop]; grind
    have ed : A / 2 ^ (j + 1) = A / 2 ^ (j + 1) := rfl
    by_cases hge : r * 2 + a1 / 9223372036854775808 ≥ d
    · have hdr : d ≤ r * 2 + 1 := by omega
      have huc : U (c0 + 1) := by unfold U at *; omega
      have hW1 : W c1 (c0 + 1) = W q1 q0 * 2 + 1 := by rw [← hcv]; unfold W; omega
      have wr : IntKind.u64.wrap (((r * 2) % 18446744073709551616 + a1 / 9223372036854775808) - d) = r * 2 + a1 / 9223372036854775808 - d := by
        rw [IntKind.wrap_u64]; unfold U at *; omega
      obtain ⟨q1', q0', r', he, x1, x2, x3, x4, x5⟩ := ih d (r * 2 + a1 / 9223372036854775808 - d) (i + 1) b1 b0 c1 (c0 + 1) A hd hd0 ub1 ub0 uc1 huc (by omega) (by omega) (by omega) (by omega) hnext hA hA'
        (by rw [key, hW1]; grind) (by rw [hW1]; have : W q1 q0 + 1 ≤ 2 ^ i.toNat := by omega
                                      have e : (i + 1).toNat = i.toNat + 1 := by omega
                                      rw [e, Int.pow_succ]; omega)
      refine ⟨q1', q0', r', ?_, x1, x2, x3, x4, x5⟩
      refine Ev.step (fun k => by simp only [wide_Div.l0]; rfl) ?_
      simp only [if_pos hi128, eb, ec, Option.bind_some, hrr, hc1, wr, wrap64_id (show -9223372036854775808 ≤ i + 1 by omega) (show i + 1 < 9223372036854775808 by omega)]
      by_cases ht : r / 9223372036854775808 = 1
      · simp only [if_pos ht]; exact he
      · simp only [if_neg ht, if_pos (show (r * 2) % 18446744073709551616 + a1 / 9223372036854775808 ≥ d by unfold U at *; omega)]; exact he
    · have wr : (r * 2) % 18446744073709551616 + a1 / 9223372036854775808 = r * 2 + a1 / 9223372036854775808 := by unfold U at *; omega
      obtain ⟨q1', q0', r', he, x1, x2, x3, x4, x5⟩ := ih d (r * 2 + a1 / 9223372036854775808) (i + 1) b1 b0 c1 c0 A hd hd0 ub1 ub0 uc1 uc0 (by unfold U at h1; omega) (by omega) (by omega) (by omega) hnext hA hA'
        (by rw [key, hcv]) (by rw [hcv]; exact hq2)
      refine ⟨q1', q0', r', ?_, x1, x2, x3, x4, x5⟩
      refine Ev.step (fun k => by simp only [wide_Div.l0]; rfl) ?_
      simp only [if_pos hi128, eb, ec, Option.bind_some, hrr, wr, wrap64_id (show -9223372036854775808 ≤ i + 1 by omega) (show i + 1 < 9223372036854775808 by omega)]
      simp only [if_neg (show ¬ r / 9223372036854775808 = 1 by unfold U at *; omega), if_neg hge]
      exact he

theorem divf_ev (a1 a0 d : Int) (h1 : U a1) (h0 : U a0) (hd : U d) : (d = 0 → Ev (fun k => wide_Div.f k a1 a0 d) (0, 0, 0, false)) ∧
    (0 < d → ∃ q1 q0 r, Ev (fun k => wide_Div.f k a1 a0 d) (q1, q0, r, true) ∧ U q1 ∧ U q0 ∧ 0 ≤ r ∧ r < d ∧ W a1 a0 = W q1 q0 * d + r) := by
  constructor
  · intro h
    unfold wide_Div.f
    simp only [if_pos h]
    exact Ev.now _
  · intro h
    unfold wide_Div.f
    simp only [if_neg (show ¬ d = 0 by omega)]
    have hw := W_bounds h1 h0
    have p128 : (2 : Int) ^ 128 = 340282366920938463463374607431768211456 := by rfl
    exact div_ev 128 d 0 0 a1 a0 0 0 (W a1 a0) hd h h1 h0 (by unfold U; omega) (by unfold U; omega) (by omega) h (by omega) (by omega)
      (by rw [show (0 : Int).toNat = 0 from rfl, Int.pow_zero, Int.mul_one, Int.emod_eq_of_lt hw.1 hw.2]) hw.1 hw.2
      (by rw [p128, Int.ediv_eq_zero_of_lt hw.1 hw.2]; unfold W; omega) (by unfold W; simp)

/-- The pure statement of WideBack. -/
theorem back_ev (a1 a0 b1 b0 d : Int) (h1 : U a1) (h0 : U a0) (g1 : U b1) (g0 : U b0) (hd : U d) : ∃ k, mintagelaw01_WideBack.f k a1 a0 b1 b0 d = some true := by
  refine Ev.rounds (g := fun k => mintagelaw01_WideBack.f k a1 a0 b1 b0 d) ?_
  unfold mintagelaw01_WideBack.f
  obtain ⟨s1, s0, o, es, us1, us0, vs⟩ := add_spec a1 a0 b1 b0 h1 h0 g1 g0
  obtain ⟨t1, t0, et, ut1, ut0, vt⟩ := sub_spec s1 s0 b1 b0 us1 us0 g1 g0
  have wa := W_bounds h1 h0
  have wb := W_bounds g1 g0
  have ws := W_bounds us1 us0
  have wt := W_bounds ut1 ut0
  have ho : decide (W s1 s0 < W b1 b0) = o := by
    cases o
    · simp at vs ⊢; omega
    · simp at vs ⊢; omega
  have hv : W t1 t0 = W a1 a0 := by
    rw [vt]
    cases o
    · simp at ho vs; rw [if_neg (by omega)]; omega
    · simp at ho vs; rw [if_pos (by omega)]; omega
  obtain ⟨rfl, rfl⟩ := W_inj ut0 h0 hv
  simp only [es, et, Option.bind_some, beq_self_eq_true, Bool.not_true, Bool.or_self, Bool.false_eq_true, if_false, ho, bne_self_eq_false]
  refine Ev.step (fun k => by simp only [mintagelaw01_WideBack.j0]; rfl) ?_
  simp only [Bool.false_eq_true, if_false]
  obtain ⟨dz, dp⟩ := divf_ev t1 t0 d h1 h0 hd
  by_cases hd0 : d = 0
  · refine Ev.bind (dz hd0) ?_
    simp only [show decide (d > 0) = false by simp; omega, bne_self_eq_false, Bool.false_eq_true, if_false, beq_self_eq_true, Bool.and_self, if_true]
    exact Ev.bind wakes_ev (Ev.now _)
  · obtain ⟨q1, q0, r, he, uq1, uq0, r0, rd, v⟩ := dp (by unfold U at hd; omega)
    refine Ev.bind he ?_
    have ur : U r := by unfold U at *; omega
    obtain ⟨x2, x1, x0, ex, ux2, ux1, ux0, vx⟩ := times_spec q1 q0 d uq1 uq0 hd
    obtain ⟨y1, y0, o2, ey, uy1, uy0, vy⟩ := add_spec x1 x0 0 r ux1 ux0 (by unfold U; omega) ur
    have hx2 : x2 = 0 := by unfold W U at *; omega
    have ho2 : o2 = false := by
      cases o2
      · rfl
      · exfalso; simp at vy; unfold W U at *; omega
    have hw : W y1 y0 = W t1 t0 := by
      rw [ho2] at vy; simp at vy
      unfold W U at *; omega
    obtain ⟨rfl, rfl⟩ := W_inj uy0 h0 hw
    simp only [show decide (d > 0) = true by simp; unfold U at hd; omega, bne_self_eq_false, Bool.false_eq_true, if_false, if_true, ex, ey, Option.bind_some, hx2, ho2, beq_self_eq_true, Bool.and_self, if_pos rd]
    exact Ev.bind wakes_ev (Ev.now _)

/-- One step of the doubling in WideMoves. -/
theorem moves_loop (j : Nat) : ∀ (n i a1 a0 x1 x0 : Int) (lost : Bool), U a1 → U a0 → U x1 → U x0 → i + j = n → 0 ≤ i → n ≤ 130 →
    W x1 x0 = W a1 a0 * 2 ^ i.toNat % 340282366920938463463374607431768211456 → lost = decide (W a1 a0 * 2 ^ i.toNat ≥ 340282366920938463463374607431768211456) →
    Ev (fun k => mintagelaw01_WideMoves.l0 k n lost i a1 a0 x1 x0) true := by
  induction j with
  | zero =>
    intro n i a1 a0 x1 x0 lost h1 h0 u1 u0 hi hi0 hn hv hl
    have hin : i = n := by omega
    subst hin
    refine Ev.step (fun k => by simp only [mintagelaw01_WideMoves.l0]; rfl) ?_
    simp only [if_neg (show ¬ i < i by omega)]
    obtain ⟨l1, l0, el, ul1, ul0, vl⟩ := shl_spec a1 a0 i h1 h0
    have hx : W l1 l0 = W x1 x0 := by rw [vl, hv]
    obtain ⟨rfl, rfl⟩ := W_inj ul0 u0 hx
    simp only [el, Option.bind_some, beq_self_eq_true, Bool.not_true, Bool.or_self, Bool.false_eq_true, if_false, ← hl, bne_self_eq_false]
    refine Ev.step (fun k => by simp only [mintagelaw01_WideMoves.j3]; rfl) ?_
    simp only [Bool.false_eq_true, if_false]
    obtain ⟨r1, r0, er, ur1, ur0, vr⟩ := shr_spec l1 l0 i ul1 ul0
    simp only [er, Option.bind_some]
    cases lost with
    | true =>
      simp only [if_true]
      refine Ev.step (fun k => by simp only [mintagelaw01_WideMoves.j4]; rfl) ?_
      simp only [Bool.false_eq_true, if_false, if_true]
      exact Ev.bind wakes_ev (Ev.now _)
    | false =>
      have hnl : W a1 a0 * 2 ^ i.toNat < 340282366920938463463374607431768211456 := by
        have := hl.symm; simp at this; exact this
      have hp := two_pow_pos i.toNat
      have hWa := W_bounds h1 h0
      have hval : W l1 l0 = W a1 a0 * 2 ^ i.toNat := by
        rw [vl, Int.emod_eq_of_lt (Int.mul_nonneg hWa.1 (by omega)) hnl]
      have hr : W r1 r0 = W a1 a0 := by rw [vr, hval, Int.mul_ediv_cancel _ (by omega)]
      obtain ⟨rfl, rfl⟩ := W_inj ur0 h0 hr
      have hm : decide (W l1 l0 % 2 ^ i.toNat ≠ 0) = false := by rw [hval, Int.mul_emod_left]; rfl
      simp only [Bool.false_eq_true, if_false, beq_self_eq_true, Bool.not_true, Bool.or_self, hm]
      refine Ev.step (fun k => by simp only [mintagelaw01_WideMoves.j4]; rfl) ?_
      simp only [Bool.false_eq_true, if_false]
      by_cases hz : (r1 == 0 && (r0 == 0)) = true
      · simp only [if_pos hz]
        exact Ev.bind wakes_ev (Ev.now _)
      · simp only [if_neg hz]
        have hne : W r1 r0 ≠ 0 := by
          intro h
          apply hz
          unfold W U at *
          simp; omega
        refine Ev.bind (lenf_ev l1 l0 ul1 ul0) ?_
        refine Ev.bind (lenf_ev r1 r0 h1 h0) ?_
        have hb : bl (W l1 l0).toNat = bl (W r1 r0).toNat + i.toNat := by
          have : (W l1 l0).toNat = (W r1 r0).toNat * 2 ^ i.toNat := by
            rw [hval]
            have e : ((2 : Int) ^ i.toNat) = ((2 ^ i.toNat : Nat) : Int) := by simp
            rw [e, Int.toNat_mul hWa.1 (by omega), Int.toNat_natCast]
          rw [this, bl_mul _ (by omega)]
        have hbb := bl_le 128 (W r1 r0).toNat (by have : (2 : Nat) ^ 128 = 340282366920938463463374607431768211456 := by rfl
                                                  omega)
        rw [wrap64_id (by omega) (by omega)]
        simp only [if_pos (show ((bl (W l1 l0).toNat : Nat) : Int) = ((bl (W r1 r0).toNat : Nat) : Int) + i by omega)]
        exact Ev.bind wakes_ev (Ev.now _)
  | succ j ih =>
    intro n i a1 a0 x1 x0 lost h1 h0 u1 u0 hi hi0 hn hv hl
    refine Ev.step (fun k => by simp only [mintagelaw01_WideMoves.l0]; rfl) ?_
    simp only [if_pos (show i < n by omega)]
    obtain ⟨y1, y0, o, ey, uy1, uy0, vy⟩ := add_spec x1 x0 x1 x0 u1 u0 u1 u0
    simp only [ey, Option.bind_some]
    rw [wrap64_id (by omega) (by omega)]
    have hWa := W_bounds h1 h0
    have hWx := W_bounds u1 u0
    have hWy := W_bounds uy1 uy0
    have hp := two_pow_pos i.toNat
    have e1 : (i + 1).toNat = i.toNat + 1 := by omega
    have hX : 0 ≤ W a1 a0 * 2 ^ i.toNat := Int.mul_nonneg hWa.1 (by omega)
    have hpw : W a1 a0 * 2 ^ (i + 1).toNat = W a1 a0 * 2 ^ i.toNat * 2 := by rw [e1, Int.pow_succ]; grind
    have hv' : W y1 y0 = W a1 a0 * 2 ^ (i + 1).toNat % 340282366920938463463374607431768211456 := by
      rw [hpw]
      generalize W a1 a0 * 2 ^ i.toNat = X at *
      cases o <;> simp at vy <;> omega
    have hl' : (lost || o) = decide (W a1 a0 * 2 ^ (i + 1).toNat ≥ 340282366920938463463374607431768211456) := by
      rw [hpw, hl]
      generalize W a1 a0 * 2 ^ i.toNat = X at *
      rw [Bool.eq_iff_iff]
      cases o
      · simp at vy ⊢; omega
      · simp at vy ⊢; omega
    have := ih n (i + 1) a1 a0 y1 y0 (lost || o) h1 h0 uy1 uy0 (by omega) (by omega) hn hv' hl'
    cases lost with
    | true => simpa using this
    | false => simpa using this

theorem moves_ev (a1 a0 n : Int) (h1 : U a1) (h0 : U a0) (hn : -9223372036854775808 ≤ n ∧ n < 9223372036854775808) : ∃ k, mintagelaw01_WideMoves.f k a1 a0 n = some true := by
  refine Ev.rounds (g := fun k => mintagelaw01_WideMoves.f k a1 a0 n) ?_
  have hW := W_bounds h1 h0
  have start : ∀ m : Int, 0 ≤ m → m ≤ 130 → Ev (fun k => mintagelaw01_WideMoves.j1 k m a1 a0) true := by
    intro m hm hm'
    refine Ev.step (fun k => by simp only [mintagelaw01_WideMoves.j1]; rfl) ?_
    exact moves_loop m.toNat m 0 a1 a0 a1 a0 false h1 h0 h1 h0 (by omega) (by omega) hm'
      (by rw [show (0 : Int).toNat = 0 from rfl, Int.pow_zero, Int.mul_one, Int.emod_eq_of_lt hW.1 hW.2])
      (by rw [show (0 : Int).toNat = 0 from rfl, Int.pow_zero, Int.mul_one]; simp; omega)
  have band : 0 ≤ Go.bits .and .i64 n 127 ∧ Go.bits .and .i64 n 127 ≤ 127 := by
    have e : Go.bits .and .i64 n 127 = IntKind.i64.wrap ((BitVec.ofInt 64 n &&& BitVec.ofInt 64 127).toNat : Int) := rfl
    have hx : (BitVec.ofInt 64 n &&& BitVec.ofInt 64 127).toNat ≤ 127 := by
      rw [BitVec.toNat_and]
      exact Nat.and_le_right
    rw [e, IntKind.wrap_i64]
    omega
  unfold mintagelaw01_WideMoves.f
  by_cases hneg : n < 0
  · simp only [if_pos hneg]
    refine Ev.step (fun k => by simp only [mintagelaw01_WideMoves.j0]; rfl) ?_
    simp only [if_true]
    exact start _ band.1 (by omega)
  · simp only [if_neg hneg]
    refine Ev.step (fun k => by simp only [mintagelaw01_WideMoves.j0]; rfl) ?_
    by_cases hb : n > 130
    · simp only [show decide (n > 130) = true by simpa using hb, if_true]
      exact start _ band.1 (by omega)
    · simp only [show decide (n > 130) = false by simpa using hb, Bool.false_eq_true, if_false]
      exact start n (by omega) (by omega)

theorem moves_walk (a1 a0 n : Int) (w : World) (h1 : (Lit.int .u64 a1).wf = true) (h0 : (Lit.int .u64 a0).wf = true) (hn : (Lit.int .i64 n).wf = true) :
    Calls Try.prog 4 #[.agg #[.int .u64 a1, .int .u64 a0], .int .i64 n] w fun e w' => e = .returned (.bool true) ∧ Below w.heap.size w w' := by
  obtain ⟨k, h⟩ := moves_ev a1 a0 n (wf_u64 h1) (wf_u64 h0) (wf_i64 hn)
  exact mintagelaw01_WideMoves.calls k a1 a0 n true w h
theorem back_walk (a1 a0 b1 b0 d : Int) (w : World) (h1 : (Lit.int .u64 a1).wf = true) (h0 : (Lit.int .u64 a0).wf = true) (g1 : (Lit.int .u64 b1).wf = true) (g0 : (Lit.int .u64 b0).wf = true) (hd : (Lit.int .u64 d).wf = true) :
    Calls Try.prog 8 #[.agg #[.int .u64 a1, .int .u64 a0], .agg #[.int .u64 b1, .int .u64 b0], .int .u64 d] w fun e w' => e = .returned (.bool true) ∧ Below w.heap.size w w' := by
  obtain ⟨k, h⟩ := back_ev a1 a0 b1 b0 d (wf_u64 h1) (wf_u64 h0) (wf_u64 g1) (wf_u64 g0) (wf_u64 hd)
  exact mintagelaw01_WideBack.calls k a1 a0 b1 b0 d true w h
end Go.Proofs.Ytfdcanemmaemmaa.Wid
