/- Plain facts on wide: shifts, Len, Times, Div, and the closed check 'wakes'. -/
import Derived.Test.YtfdcanemmaemmaaWidZWideTimes
import Derived.Test.YtfdcanemmaemmaaQ1ZWideTimes
import Derived.Test.YtfdcanemmaemmaaQ0ZWideTimes
namespace Go.Proofs.Ytfdcanemmaemmaa.Wid
open Go.RowKit Go.Proofs.Ytfdcanemmaemmaa.Q Go.Proofs.YtfdcanemmaemmaaW.PrintWords Go.Proofs.YtfdcanemmaemmaaW.PrintLast

theorem two_pow_split (m : Nat) (h : m ≤ 64) : (2 : Int) ^ m * 2 ^ (64 - m) = 18446744073709551616 := by
  rw [← Int.pow_add]
  have : m + (64 - m) = 64 := by omega
  rw [this]
  rfl
theorem two_pow_pos (m : Nat) : (0 : Int) < 2 ^ m := Int.pow_pos (by decide)

/-- The core of a shift by less than a word: P Q = 2^64. -/
theorem shr_core {a1 a0 P Q : Int} (hP : 0 < P) (hQ : 0 < Q) (hPQ : P * Q = 18446744073709551616) (h1 : U a1) (h0 : U a0) :
    (a1 * Q) % 18446744073709551616 = (a1 % P) * Q ∧ W a1 a0 / P = (a1 / P) * 18446744073709551616 + (a1 % P) * Q + a0 / P ∧ W a1 a0 % P = a0 % P ∧
    0 ≤ a1 / P ∧ a1 / P < 18446744073709551616 ∧ 0 ≤ a0 / P ∧ a0 / P < Q ∧ 0 ≤ (a1 % P) * Q ∧ (a1 % P) * Q + Q ≤ 18446744073709551616 := by
  have e1 := Int.emod_add_mul_ediv a1 P
  have e0 := Int.emod_add_mul_ediv a0 P
  have b1 := Int.emod_nonneg a1 (show P ≠ 0 by omega)
  have b2 := Int.emod_lt_of_pos a1 hP
  have c1 : 0 ≤ a1 / P := Int.ediv_nonneg h1.1 (by omega)
  have c0 : 0 ≤ a0 / P := Int.ediv_nonneg h0.1 (by omega)
  have m1 : (a1 * Q) % (P * Q) = (a1 % P) * Q := by
    rw [Int.mul_comm a1 Q, Int.mul_comm P Q, Int.mul_emod_mul_of_pos _ _ hQ, Int.mul_comm]
  rw [hPQ] at m1
  have w1 : W a1 a0 = a0 + P * (a1 * Q) := by unfold W; rw [← hPQ]; grind
  have d1 : W a1 a0 / P = a0 / P + a1 * Q := by rw [w1]; exact Int.add_mul_ediv_left _ _ (by omega)
  have d2 : W a1 a0 % P = a0 % P := by rw [w1]; exact Int.add_mul_emod_self_left _ _ _
  refine ⟨m1, ?_, d2, c1, ?_, c0, ?_, Int.mul_nonneg b1 (by omega), ?_⟩
  · rw [d1]
    have : a1 * Q = (a1 / P) * (P * Q) + (a1 % P) * Q := by
      conv => lhs; rw [← e1]
      grind
    rw [this, hPQ]; omega
  · exact Int.lt_of_le_of_lt (Int.ediv_le_self _ h1.1) h1.2
  · apply Int.ediv_lt_of_lt_mul hP
    rw [Int.mul_comm, hPQ]; exact h0.2
  · have : (a1 % P + 1) * Q ≤ P * Q := Int.mul_le_mul_of_nonneg_right (by omega) (by omega)
    rw [hPQ] at this
    grind

theorem W_bounds {a1 a0 : Int} (h1 : U a1) (h0 : U a0) : 0 ≤ W a1 a0 ∧ W a1 a0 < 340282366920938463463374607431768211456 := by unfold W U at *; omega

theorem pow_ge_128 {n : Int} (h : n ≥ 128) : (340282366920938463463374607431768211456 : Int) ≤ 2 ^ n.toNat := by
  obtain ⟨j, hj⟩ : ∃ j, n.toNat = 128 + j := ⟨n.toNat - 128, by omega⟩
  rw [hj, Int.pow_add]
  have e : (2 : Int) ^ 128 = 340282366920938463463374607431768211456 := by rfl
  rw [e]
  have := two_pow_pos j
  omega

theorem shr_spec (a1 a0 n : Int) (h1 : U a1) (h0 : U a0) : ∃ h l, wide_Shr.f a1 a0 n = some (h, l, decide (W a1 a0 % 2 ^ n.toNat ≠ 0)) ∧ U h ∧ U l ∧ W h l = W a1 a0 / 2 ^ n.toNat := by
  unfold wide_Shr.f
  have hw := W_bounds h1 h0
  split
  · rename_i hn
    have e : n.toNat = 0 := by omega
    rw [e]
    exact ⟨a1, a0, by simp [Int.emod_one], h1, h0, by simp⟩
  · rename_i hn
    split
    · rename_i hn2
      have hp := pow_ge_128 hn2
      refine ⟨0, 0, ?_, by unfold U; omega, by unfold U; omega, ?_⟩
      · rw [Int.emod_eq_of_lt hw.1 (by omega)]
        have : (!(a1 == 0) || !(a0 == 0)) = decide (W a1 a0 ≠ 0) := by
          rw [Bool.eq_iff_iff]
          simp only [Bool.or_eq_true, Bool.not_eq_true', beq_eq_false_iff_ne, decide_eq_true_eq]
          unfold W U at *; omega
        rw [this]
      · rw [Int.ediv_eq_zero_of_lt hw.1 (by omega)]; unfold W; omega
    · rename_i hn2
      split
      · rename_i hn3
        have hP := two_pow_pos (n - 64).toNat
        have hQ := two_pow_pos (128 - n).toNat
        have hPQ : (2 : Int) ^ (n - 64).toNat * 2 ^ (128 - n).toNat = 18446744073709551616 := by
          have := two_pow_split (n - 64).toNat (by omega)
          have e : 64 - (n - 64).toNat = (128 - n).toNat := by omega
          rw [e] at this; exact this
        have hpw : (2 : Int) ^ n.toNat = 18446744073709551616 * 2 ^ (n - 64).toNat := by
          have e : n.toNat = 64 + (n - 64).toNat := by omega
          rw [e, Int.pow_add]; rfl
        generalize (2 : Int) ^ (n - 64).toNat = P at *
        generalize (2 : Int) ^ (128 - n).toNat = Q at *
        rw [hpw]
        obtain ⟨m1, -, -, c1, c2, -, -, -, -⟩ := shr_core hP hQ hPQ h1 h0
        have dv : W a1 a0 / (18446744073709551616 * P) = a1 / P := by
          rw [← Int.ediv_ediv_of_nonneg (by omega)]
          congr 1; unfold W U at *; omega
        have md : W a1 a0 % (18446744073709551616 * P) = (a1 % P) * 18446744073709551616 + a0 := by
          have e1 := Int.emod_add_mul_ediv a1 P
          have b1 := Int.emod_nonneg a1 (show P ≠ 0 by omega)
          have b2 := Int.emod_lt_of_pos a1 hP
          have : W a1 a0 = ((a1 % P) * 18446744073709551616 + a0) + (18446744073709551616 * P) * (a1 / P) := by
            unfold W; conv => lhs; rw [← e1]
            grind
          rw [this, Int.add_mul_emod_self_left]
          apply Int.emod_eq_of_lt
          · unfold U at *; omega
          · have : (a1 % P + 1) * 18446744073709551616 ≤ P * 18446744073709551616 := Int.mul_le_mul_of_nonneg_right (by omega) (by omega)
            unfold U at *; omega
        have b1 := Int.emod_nonneg a1 (show P ≠ 0 by omega)
        rw [dv, md]
        simp only [IntKind.wrap_u64]
        rw [m1]
        have fl : ((a1 % P) * Q != 0) = decide (a1 % P ≠ 0) := by
          by_cases z : a1 % P = 0
          · rw [z]; simp
          · have : a1 % P * Q ≠ 0 := Int.mul_ne_zero z (by omega)
            simp [z, this]
        split
        · rename_i hz
          refine ⟨0, a1 / P, ?_, by unfold U; omega, ⟨c1, c2⟩, by unfold W; omega⟩
          have : a0 ≠ 0 := by simpa using hz
          congr 3
          unfold U at *
          simp; omega
        · rename_i hz
          refine ⟨0, a1 / P, ?_, by unfold U; omega, ⟨c1, c2⟩, by unfold W; omega⟩
          have : a0 = 0 := by simpa using hz
          rw [fl]
          congr 3
          simp [this]
      · rename_i hn3
        have hP := two_pow_pos n.toNat
        have hQ := two_pow_pos (64 - n).toNat
        have hPQ : (2 : Int) ^ n.toNat * 2 ^ (64 - n).toNat = 18446744073709551616 := by
          have := two_pow_split n.toNat (by omega)
          have e : 64 - n.toNat = (64 - n).toNat := by omega
          rw [e] at this; exact this
        have eQ : (2 : Int) ^ (64 - n).toNat = 2 ^ (64 - n).toNat := rfl
        obtain ⟨m1, dv, md, c1, c2, c3, c4, c5, c6⟩ := shr_core hP hQ hPQ h1 h0
        obtain ⟨m0, -, -, -, -, -, -, -, -⟩ := shr_core hP hQ hPQ h0 h0
        simp only [IntKind.wrap_u64]
        rw [dv, md, m1, m0]
        have cQ : (2 : Int) ^ (64 - n).toNat ≤ 18446744073709551616 := by
          have := Int.mul_le_mul_of_nonneg_right (show (1 : Int) ≤ 2 ^ n.toNat by omega) (show (0 : Int) ≤ 2 ^ (64 - n).toNat by omega)
          rw [hPQ] at this; omega
        have jn : Go.bits .or .u64 (a0 / 2 ^ n.toNat) (a1 % 2 ^ n.toNat * 2 ^ (64 - n).toNat) = a1 % 2 ^ n.toNat * 2 ^ (64 - n).toNat + a0 / 2 ^ n.toNat := by
          have cm : Go.bits .or .u64 (a0 / 2 ^ n.toNat) (a1 % 2 ^ n.toNat * 2 ^ (64 - n).toNat) = Go.bits .or .u64 (a1 % 2 ^ n.toNat * 2 ^ (64 - n).toNat) (a0 / 2 ^ n.toNat) := by
            rw [u64_or _ _ (by omega) (by omega) (by omega) (by omega), u64_or _ _ (by omega) (by omega) (by omega) (by omega), Nat.or_comm]
          rw [cm]
          exact or_join (64 - n).toNat c5 (by omega) c3 (by omega) (Int.mul_emod_left _ _) c4
        rw [jn]
        have fl : (a0 % 2 ^ n.toNat * 2 ^ (64 - n).toNat != 0) = decide (a0 % 2 ^ n.toNat ≠ 0) := by
          by_cases z : a0 % 2 ^ n.toNat = 0
          · rw [z]; simp
          · have : a0 % 2 ^ n.toNat * 2 ^ (64 - n).toNat ≠ 0 := Int.mul_ne_zero z (by omega)
            simp [z, this]
        rw [fl]
        refine ⟨_, _, rfl, ⟨c1, c2⟩, ⟨by omega, by omega⟩, by unfold W; omega⟩

theorem shl_spec (a1 a0 n : Int) (h1 : U a1) (h0 : U a0) : ∃ h l, wide_Shl.f a1 a0 n = some (h, l, decide (W a1 a0 * 2 ^ n.toNat ≥ 340282366920938463463374607431768211456)) ∧ U h ∧ U l ∧
    W h l = W a1 a0 * 2 ^ n.toNat % 340282366920938463463374607431768211456 := by
  unfold wide_Shl.f
  have hw := W_bounds h1 h0
  split
  · rename_i hn
    have e : n.toNat = 0 := by omega
    rw [e]
    refine ⟨a1, a0, by simp; omega, h1, h0, by simp; omega⟩
  · rename_i hn
    split
    · rename_i hn2
      have hp := pow_ge_128 hn2
      obtain ⟨j, hj⟩ : ∃ j, n.toNat = 128 + j := ⟨n.toNat - 128, by omega⟩
      have e : (2 : Int) ^ n.toNat = 340282366920938463463374607431768211456 * 2 ^ j := by rw [hj, Int.pow_add]; rfl
      refine ⟨0, 0, ?_, by unfold U; omega, by unfold U; omega, ?_⟩
      · have : (!(a1 == 0) || !(a0 == 0)) = decide (W a1 a0 * 2 ^ n.toNat ≥ 340282366920938463463374607431768211456) := by
          rw [Bool.eq_iff_iff]
          simp only [Bool.or_eq_true, Bool.not_eq_true', beq_eq_false_iff_ne, decide_eq_true_eq]
          constructor
          · intro hz
            have h1 : 1 ≤ W a1 a0 := by unfold W U at *; omega
            have := Int.mul_le_mul_of_nonneg_right h1 (show (0 : Int) ≤ 2 ^ n.toNat by omega)
            omega
          · intro hz
            have : W a1 a0 ≠ 0 := by intro z; rw [z] at hz; simp at hz
            unfold W U at *; omega
        rw [this]
      · rw [e]
        have : W a1 a0 * (340282366920938463463374607431768211456 * 2 ^ j) = 340282366920938463463374607431768211456 * (W a1 a0 * 2 ^ j) := by grind
        rw [this, Int.mul_emod_right]; rfl
    · rename_i hn2
      split
      · rename_i hn3
        have hP := two_pow_pos (128 - n).toNat
        have hQ := two_pow_pos (n - 64).toNat
        have hPQ : (2 : Int) ^ (128 - n).toNat * 2 ^ (n - 64).toNat = 18446744073709551616 := by
          have := two_pow_split (128 - n).toNat (by omega)
          have e : 64 - (128 - n).toNat = (n - 64).toNat := by omega
          rw [e] at this; exact this
        have hpw : (2 : Int) ^ n.toNat = 18446744073709551616 * 2 ^ (n - 64).toNat := by
          have e : n.toNat = 64 + (n - 64).toNat := by omega
          rw [e, Int.pow_add]; rfl
        generalize (2 : Int) ^ (n - 64).toNat = Q at *
        generalize (2 : Int) ^ (128 - n).toNat = P at *
        rw [hpw]
        obtain ⟨m1, -, -, c1, c2, c3, c4, c5, c6⟩ := shr_core hP hQ hPQ h0 h0
        simp only [IntKind.wrap_u64]
        rw [m1]
        -- a0 Q = (a0/P) 2^64 + (a0%P) Q
        have e0 : a0 * Q = (a0 / P) * 18446744073709551616 + (a0 % P) * Q := by
          have e1 := Int.emod_add_mul_ediv a0 P
          conv => lhs; rw [← e1]
          rw [← hPQ]; grind
        have ev : W a1 a0 * (18446744073709551616 * Q) = (a0 % P) * Q * 18446744073709551616 + 340282366920938463463374607431768211456 * (a1 * Q + a0 / P) := by
          unfold W
          have : (a1 * 18446744073709551616 + a0) * (18446744073709551616 * Q) = a1 * Q * 340282366920938463463374607431768211456 + a0 * Q * 18446744073709551616 := by grind
          rw [this, e0]; grind
        have hb : 0 ≤ a1 * Q := Int.mul_nonneg h1.1 (by omega)
        have vm : W a1 a0 * (18446744073709551616 * Q) % 340282366920938463463374607431768211456 = (a0 % P) * Q * 18446744073709551616 := by
          rw [ev, Int.add_mul_emod_self_left, Int.emod_eq_of_lt (by omega) (by omega)]
        have lost : (W a1 a0 * (18446744073709551616 * Q) ≥ 340282366920938463463374607431768211456) ↔ (a1 ≠ 0 ∨ a0 / P ≠ 0) := by
          rw [ev]
          constructor
          · intro h
            by_cases z1 : a1 = 0
            · right
              intro z
              rw [z1, z] at h
              omega
            · exact .inl z1
          · intro h
            have : 1 ≤ a1 * Q + a0 / P := by
              rcases h with h | h
              · have := Int.mul_le_mul_of_nonneg_right (show (1 : Int) ≤ a1 by unfold U at *; omega) (show (0 : Int) ≤ Q by omega)
                omega
              · omega
            omega
        rw [vm]
        have wz : W (a0 % P * Q) 0 = a0 % P * Q * 18446744073709551616 := by unfold W; omega
        split
        · rename_i hz
          refine ⟨_, 0, ?_, ⟨c5, by omega⟩, by unfold U; omega, wz⟩
          have : a1 ≠ 0 := by simpa using hz
          have : (true : Bool) = decide (W a1 a0 * (18446744073709551616 * Q) ≥ 340282366920938463463374607431768211456) := by
            rw [eq_comm, decide_eq_true_eq, lost]; exact .inl this
          rw [← this]
        · rename_i hz
          refine ⟨_, 0, ?_, ⟨c5, by omega⟩, by unfold U; omega, wz⟩
          have z1 : a1 = 0 := by simpa using hz
          have : (a0 / P != 0) = decide (W a1 a0 * (18446744073709551616 * Q) ≥ 340282366920938463463374607431768211456) := by
            rw [Bool.eq_iff_iff, decide_eq_true_eq, lost]; simp [z1]
          rw [← this]
      · rename_i hn3
        have hP := two_pow_pos (64 - n).toNat
        have hQ := two_pow_pos n.toNat
        have hPQ : (2 : Int) ^ (64 - n).toNat * 2 ^ n.toNat = 18446744073709551616 := by
          have := two_pow_split n.toNat (by omega)
          have e : 64 - n.toNat = (64 - n).toNat := by omega
          rw [e, Int.mul_comm] at this; exact this
        obtain ⟨m1, -, -, c1, c2, c3, c4, c5, c6⟩ := shr_core hP hQ hPQ h1 h0
        obtain ⟨m0, -, -, d1, d2, d3, d4, d5, d6⟩ := shr_core hP hQ hPQ h0 h0
        simp only [IntKind.wrap_u64]
        rw [m1, m0]
        have ks : (2 : Int) ^ n.toNat ≤ 18446744073709551616 := by omega
        have jn : Go.bits .or .u64 (a1 % 2 ^ (64 - n).toNat * 2 ^ n.toNat) (a0 / 2 ^ (64 - n).toNat) = a1 % 2 ^ (64 - n).toNat * 2 ^ n.toNat + a0 / 2 ^ (64 - n).toNat :=
          or_join n.toNat c5 (by omega) c3 (by omega) (Int.mul_emod_left _ _) c4
        rw [jn]
        generalize (2 : Int) ^ n.toNat = Q at *
        generalize (2 : Int) ^ (64 - n).toNat = P at *
        have e0 : a0 * Q = (a0 / P) * 18446744073709551616 + (a0 % P) * Q := by
          have e1 := Int.emod_add_mul_ediv a0 P
          conv => lhs; rw [← e1]
          rw [← hPQ]; grind
        have e1 : a1 * Q = (a1 / P) * 18446744073709551616 + (a1 % P) * Q := by
          have e1 := Int.emod_add_mul_ediv a1 P
          conv => lhs; rw [← e1]
          rw [← hPQ]; grind
        have ev : W a1 a0 * Q = W (a1 % P * Q + a0 / P) (a0 % P * Q) + 340282366920938463463374607431768211456 * (a1 / P) := by
          unfold W
          have : (a1 * 18446744073709551616 + a0) * Q = (a1 * Q) * 18446744073709551616 + a0 * Q := by grind
          rw [this, e0, e1]; omega
        have bw : 0 ≤ W (a1 % P * Q + a0 / P) (a0 % P * Q) ∧ W (a1 % P * Q + a0 / P) (a0 % P * Q) < 340282366920938463463374607431768211456 := by unfold W; omega
        refine ⟨a1 % P * Q + a0 / P, a0 % P * Q, ?_, ⟨by omega, by omega⟩, ⟨by omega, by omega⟩, ?_⟩
        · have : (a1 / P != 0) = decide (W a1 a0 * Q ≥ 340282366920938463463374607431768211456) := by
            rw [Bool.eq_iff_iff, decide_eq_true_eq, ev]
            simp only [bne_iff_ne]
            omega
          rw [← this]
        · rw [ev, Int.add_mul_emod_self_left, Int.emod_eq_of_lt bw.1 bw.2]

theorem times_spec (a1 a0 b : Int) (h1 : U a1) (h0 : U a0) (hb : U b) : ∃ h m l, wide_Times.f a1 a0 b = some (h, m, l) ∧ U h ∧ U m ∧ U l ∧ W h m * 18446744073709551616 + l = W a1 a0 * b := by
  unfold wide_Times.f
  obtain ⟨p1, p2, ep, u1, u2, vp⟩ := mul_spec a0 b h0 hb
  obtain ⟨q1, q2, eq, v1, v2, vq⟩ := mul_spec a1 b h1 hb
  obtain ⟨s1, s2, o, es, w1, w2, vs⟩ := add_spec q1 q2 0 p1 v1 v2 (by unfold U; omega) u1
  rw [ep]; simp only [Option.bind_some]; rw [eq]; simp only [Option.bind_some]; rw [es]
  refine ⟨s1, s2, p2, rfl, w1, w2, u2, ?_⟩
  have hq : a1 * b ≤ 18446744073709551615 * 18446744073709551615 := Int.mul_le_mul (by unfold U at h1; omega) (by unfold U at hb; omega) hb.1 (by omega)
  have ow : ¬ (o = true) := by
    intro ho
    rw [if_pos ho] at vs
    have := W_bounds w1 w2
    rw [vq] at vs
    unfold W U at *; omega
  rw [if_neg ow] at vs
  have : W a1 a0 * b = a1 * b * 18446744073709551616 + a0 * b := by unfold W; grind
  rw [this, ← vp, ← vq]
  unfold W at *; omega

theorem wakes_ok : mintagelaw01_wakes.f 100 = some true := by decide +kernel
theorem wakes_ev : Ev (fun k => mintagelaw01_wakes.f k) true := Ev.of (fun k => mintagelaw01_wakes.mono k) wakes_ok
end Go.Proofs.Ytfdcanemmaemmaa.Wid
