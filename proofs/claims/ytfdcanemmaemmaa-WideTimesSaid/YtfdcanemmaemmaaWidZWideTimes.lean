/- Plain facts on the printed functions of package wide: their values as numbers of 128 bits. -/
import Derived.Test.YtfdcanemmaemmaaQ0ZWideTimes
import Derived.Test.YtfdcanemmaemmaaQ1ZWideTimes
import Derived.Laws.BitsAllLaws
import Derived.Laws.Bits64
namespace Go.Proofs.Ytfdcanemmaemmaa.Wid
open Go.RowKit Go.Proofs.Ytfdcanemmaemmaa.Q Go.Proofs.YtfdcanemmaemmaaW.PrintWords Go.Proofs.YtfdcanemmaemmaaW.PrintLast

theorem wf_u64 {a : Int} (h : (Lit.int .u64 a).wf = true) : 0 ≤ a ∧ a < 18446744073709551616 := by
  have h1 : (decide (IntKind.u64.min ≤ a) && decide (a ≤ IntKind.u64.max)) = true := h
  have e1 : IntKind.u64.min = 0 := by rfl
  have e2 : IntKind.u64.max = 18446744073709551615 := by rfl
  rw [e1, e2] at h1
  simp at h1
  omega
theorem wf_i64 {a : Int} (h : (Lit.int .i64 a).wf = true) : -9223372036854775808 ≤ a ∧ a < 9223372036854775808 := by
  have h1 : (decide (IntKind.i64.min ≤ a) && decide (a ≤ IntKind.i64.max)) = true := h
  have e1 : IntKind.i64.min = -9223372036854775808 := by rfl
  have e2 : IntKind.i64.max = 9223372036854775807 := by rfl
  rw [e1, e2] at h1
  simp at h1
  omega

theorem and_low {a : Int} (h : 0 ≤ a) (h' : a < 18446744073709551616) : Go.bits .and .u64 a 4294967295 = a % 4294967296 := by
  rw [u64_and a 4294967295 h h' (by omega) (by omega)]
  have : (4294967295 : Int).toNat = 4294967295 := rfl
  rw [this, nat_mask32]
  omega
theorem or_join (k : Nat) {x y : Int} (hx : 0 ≤ x) (hx' : x < 18446744073709551616) (hy : 0 ≤ y) (hy' : y < 18446744073709551616) (h1 : x % 2 ^ k = 0) (h2 : y < 2 ^ k) :
    Go.bits .or .u64 x y = x + y := by
  rw [u64_or x y hx hx' hy hy']
  obtain ⟨n, rfl⟩ := Int.eq_ofNat_of_zero_le hx
  obtain ⟨m, rfl⟩ := Int.eq_ofNat_of_zero_le hy
  simp only [Int.toNat_natCast]
  have e1 : n % 2 ^ k = 0 := by
    have : ((n % 2 ^ k : Nat) : Int) = 0 := by simpa using h1
    omega
  have e2 : m < 2 ^ k := by
    have : ((m : Nat) : Int) < ((2 ^ k : Nat) : Int) := by simpa using h2
    omega
  rw [nat_join k n m e1 e2]
  simp

/-- The number that two words are. -/
def W (h l : Int) : Int := h * 18446744073709551616 + l
abbrev U (x : Int) : Prop := 0 ≤ x ∧ x < 18446744073709551616

theorem mul_bound {x y : Int} (hx : 0 ≤ x) (hx' : x < 4294967296) (hy : 0 ≤ y) (hy' : y < 4294967296) : 0 ≤ x * y ∧ x * y ≤ 18446744065119617025 := by
  constructor
  · exact Int.mul_nonneg hx hy
  · exact Int.mul_le_mul (by omega : x ≤ 4294967295) (by omega : y ≤ 4294967295) hy (by omega)

theorem mul_spec (a b : Int) (ha : U a) (hb : U b) : ∃ h l, wide_Mul.f a b = some (h, l) ∧ U h ∧ U l ∧ W h l = a * b := by
  have a0 := Int.emod_add_mul_ediv a 4294967296
  have b0 := Int.emod_add_mul_ediv b 4294967296
  have ab : a * b = (a / 4294967296) * (b / 4294967296) * 18446744073709551616 + ((a / 4294967296) * (b % 4294967296) + (a % 4294967296) * (b / 4294967296)) * 4294967296 + (a % 4294967296) * (b % 4294967296) := by
    conv => lhs; rw [← a0, ← b0]
    grind
  unfold wide_Mul.f
  rw [and_low ha.1 ha.2, and_low hb.1 hb.2]
  have p11 := mul_bound (x := a / 4294967296) (y := b / 4294967296) (by omega) (by omega) (by omega) (by omega)
  have p10 := mul_bound (x := a / 4294967296) (y := b % 4294967296) (by omega) (by omega) (by omega) (by omega)
  have p01 := mul_bound (x := a % 4294967296) (y := b / 4294967296) (by omega) (by omega) (by omega) (by omega)
  have p00 := mul_bound (x := a % 4294967296) (y := b % 4294967296) (by omega) (by omega) (by omega) (by omega)
  rw [ab]
  clear a0 b0 ab
  generalize (a / 4294967296) * (b / 4294967296) = q11 at *
  generalize (a / 4294967296) * (b % 4294967296) = q10 at *
  generalize (a % 4294967296) * (b / 4294967296) = q01 at *
  generalize (a % 4294967296) * (b % 4294967296) = q00 at *
  simp only [IntKind.wrap_u64]
  have e00 : q00 % 18446744073709551616 = q00 := by omega
  have e10 : q10 % 18446744073709551616 = q10 := by omega
  have e01 : q01 % 18446744073709551616 = q01 := by omega
  have e11 : q11 % 18446744073709551616 = q11 := by omega
  rw [e00, e10, e01, e11]
  have l1 : (q10 + q00 / 4294967296) % 18446744073709551616 = q10 + q00 / 4294967296 := by omega
  rw [l1, and_low (by omega) (by omega), and_low (by omega) (by omega)]
  have r1 : (q01 + (q10 + q00 / 4294967296) % 4294967296) % 18446744073709551616 = q01 + (q10 + q00 / 4294967296) % 4294967296 := by omega
  rw [r1]
  refine ⟨_, _, rfl, ?_, ?_, ?_⟩
  · unfold U; omega
  · rw [or_join 32 (by omega) (by omega) (by omega) (by omega) (by omega) (by omega)]; unfold U; omega
  · rw [or_join 32 (by omega) (by omega) (by omega) (by omega) (by omega) (by omega)]; unfold W; omega

theorem add_spec (a1 a0 b1 b0 : Int) (h1 : U a1) (h2 : U a0) (h3 : U b1) (h4 : U b0) : ∃ h l o, wide_Add.f a1 a0 b1 b0 = some (h, l, o) ∧ U h ∧ U l ∧
    W h l + (if o = true then 340282366920938463463374607431768211456 else 0) = W a1 a0 + W b1 b0 := by
  unfold wide_Add.f U W at *
  simp only [IntKind.wrap_u64]
  split
  · split
    · exact ⟨_, _, _, rfl, by omega, by omega, by simp; omega⟩
    · refine ⟨_, _, _, rfl, by omega, by omega, ?_⟩
      by_cases h : ((a1 + b1) % 18446744073709551616 + 1) % 18446744073709551616 = 0
      · rw [if_pos (by simpa using h)]; omega
      · rw [if_neg (by simpa using h)]; omega
  · refine ⟨_, _, _, rfl, by omega, by omega, ?_⟩
    by_cases h : (a1 + b1) % 18446744073709551616 < a1
    · rw [if_pos (by simpa using h)]; omega
    · rw [if_neg (by simpa using h)]; omega

theorem cmp_spec (a1 a0 b1 b0 : Int) (h2 : U a0) (h4 : U b0) : wide_Cmp.f a1 a0 b1 b0 = some (if W a1 a0 < W b1 b0 then -1 else if W a1 a0 = W b1 b0 then 0 else 1) := by
  unfold wide_Cmp.f U W at *
  by_cases h : (a1 == b1 && (a0 == b0)) = true
  · rw [if_pos h]; simp at h; obtain ⟨rfl, rfl⟩ := h; simp
  · rw [if_neg h]; simp at h
    split
    · rw [if_pos (by omega)]
    · split
      · split
        · rw [if_pos (by omega)]
        · rw [if_neg (by omega), if_neg (by omega)]
      · rw [if_neg (by omega), if_neg (by omega)]

theorem sub_spec (a1 a0 b1 b0 : Int) (h1 : U a1) (h2 : U a0) (h3 : U b1) (h4 : U b0) : ∃ h l, wide_Sub.f a1 a0 b1 b0 = some (h, l, decide (W a1 a0 < W b1 b0)) ∧ U h ∧ U l ∧
    W h l = W a1 a0 - W b1 b0 + (if W a1 a0 < W b1 b0 then 340282366920938463463374607431768211456 else 0) := by
  unfold wide_Sub.f
  rw [cmp_spec a1 a0 b1 b0 h2 h4]
  simp only [Option.bind_some, IntKind.wrap_u64]
  have hd : decide ((if W a1 a0 < W b1 b0 then (-1 : Int) else if W a1 a0 = W b1 b0 then 0 else 1) < 0) = decide (W a1 a0 < W b1 b0) := by
    split
    · simp [*]
    · split <;> simp [*]
  rw [hd]
  unfold U W at *
  split
  · exact ⟨_, _, rfl, by omega, by omega, by split <;> omega⟩
  · exact ⟨_, _, rfl, by omega, by omega, by split <;> omega⟩
theorem W_inj {a1 a0 b1 b0 : Int} (h2 : U a0) (h4 : U b0) (h : W a1 a0 = W b1 b0) : a1 = b1 ∧ a0 = b0 := by
  unfold W U at *; omega
end Go.Proofs.Ytfdcanemmaemmaa.Wid
