/- Plain facts: eight digits in a word (digit.Eight). -/
import Derived.Test.YtjefmcfkhalagaaQ0ZScaledReads
import Derived.Test.YtjefmcfkhalagaaDigZScaledReads
namespace Go.Proofs.Ytjefmcfkhalagaa.Dig
open Go.RowKit Go.Proofs.Ytjefmcfkhalagaa.Q Go.Proofs.YtjefmcfkhalagaaW.PrintWords Go.Proofs.YtjefmcfkhalagaaW.PrintLast

/-! ### Eight digits in a word -/
theorem and_split (k a b : Nat) : a &&& b = (a / 2 ^ k &&& b / 2 ^ k) * 2 ^ k + (a % 2 ^ k &&& b % 2 ^ k) := by
  have e := Nat.div_add_mod (a &&& b) (2 ^ k)
  rw [Nat.and_div_two_pow, Nat.and_mod_two_pow] at e
  rw [← e, Nat.mul_comm]
theorem and_even (V : Nat) : V &&& 71777214294589695 = V % 256 + (V / 65536 % 256) * 65536 + (V / 4294967296 % 256) * 4294967296 + (V / 281474976710656 % 256) * 281474976710656 := by
  have m8 (x : Nat) : x &&& 255 = x % 256 := Nat.and_two_pow_sub_one_eq_mod x 8
  have t (x : Nat) : x % 65536 &&& 255 = x % 256 := by rw [m8]; omega
  rw [and_split 16 V 71777214294589695, and_split 16 (V / 2 ^ 16), and_split 16 (V / 2 ^ 16 / 2 ^ 16)]
  simp only [Nat.reducePow, Nat.reduceDiv, Nat.reduceMod, t, m8]
  omega
theorem and_even2 (V : Nat) : V &&& 281470681808895 = V % 65536 + (V / 4294967296 % 65536) * 4294967296 := by
  have m16 (x : Nat) : x &&& 65535 = x % 65536 := Nat.and_two_pow_sub_one_eq_mod x 16
  have t (x : Nat) : x % 4294967296 &&& 65535 = x % 65536 := by rw [m16]; omega
  rw [and_split 32 V 281470681808895]
  simp only [Nat.reducePow, Nat.reduceDiv, Nat.reduceMod, t, m16]
  omega
theorem bytes8 (b0 b1 b2 b3 b4 b5 b6 b7 V : Nat) (h0 : b0 < 256) (h1 : b1 < 256) (h2 : b2 < 256) (h3 : b3 < 256) (h4 : b4 < 256) (h5 : b5 < 256) (h6 : b6 < 256)
    (hV : V = b0 + 256 * (b1 + 256 * (b2 + 256 * (b3 + 256 * (b4 + 256 * (b5 + 256 * (b6 + 256 * b7))))))) : V &&& 71777214294589695 = b0 + b2 * 65536 + b4 * 4294967296 + b6 * 281474976710656 := by
  rw [and_even]
  have e0 : V % 256 = b0 := by omega
  have s1 : V / 256 = b1 + 256 * (b2 + 256 * (b3 + 256 * (b4 + 256 * (b5 + 256 * (b6 + 256 * b7))))) := by omega
  have s2 : V / 65536 = b2 + 256 * (b3 + 256 * (b4 + 256 * (b5 + 256 * (b6 + 256 * b7)))) := by
    have : V / 65536 = V / 256 / 256 := by omega
    rw [this, s1]; omega
  have s3 : V / 4294967296 = b4 + 256 * (b5 + 256 * (b6 + 256 * b7)) := by
    have : V / 4294967296 = V / 65536 / 65536 := by omega
    rw [this, s2]; omega
  have s4 : V / 281474976710656 = b6 + 256 * b7 := by
    have : V / 281474976710656 = V / 4294967296 / 65536 := by omega
    rw [this, s3]; omega
  rw [e0, s2, s3, s4]
  omega
theorem v1 (d0 d1 d2 d3 d4 d5 d6 d7 : Nat) :
    (d0 + d1 * 256 + d2 * 65536 + d3 * 16777216 + d4 * 4294967296 + d5 * 1099511627776 + d6 * 281474976710656 + d7 * 72057594037927936) * 10 + (d1 + d2 * 256 + d3 * 65536 + d4 * 16777216 + d5 * 4294967296 + d6 * 1099511627776 + d7 * 281474976710656) =
    (10 * d0 + d1) + 256 * ((10 * d1 + d2) + 256 * ((10 * d2 + d3) + 256 * ((10 * d3 + d4) + 256 * ((10 * d4 + d5) + 256 * ((10 * d5 + d6) + 256 * ((10 * d6 + d7) + 256 * (10 * d7))))))) := by omega
theorem v1d (d0 d1 d2 d3 d4 d5 d6 d7 : Nat) (h0 : d0 < 256) :
    (d0 + d1 * 256 + d2 * 65536 + d3 * 16777216 + d4 * 4294967296 + d5 * 1099511627776 + d6 * 281474976710656 + d7 * 72057594037927936) / 256 = d1 + d2 * 256 + d3 * 65536 + d4 * 16777216 + d5 * 4294967296 + d6 * 1099511627776 + d7 * 281474976710656 := by
  have : d0 + d1 * 256 + d2 * 65536 + d3 * 16777216 + d4 * 4294967296 + d5 * 1099511627776 + d6 * 281474976710656 + d7 * 72057594037927936 = d0 + 256 * (d1 + d2 * 256 + d3 * 65536 + d4 * 16777216 + d5 * 4294967296 + d6 * 1099511627776 + d7 * 281474976710656) := by omega
  rw [this, Nat.add_mul_div_left _ _ (by decide), Nat.div_eq_of_lt h0]; omega
theorem v1b (d0 d1 d2 d3 d4 d5 d6 d7 : Nat) (h0 : d0 ≤ 9) (h1 : d1 ≤ 9) (h2 : d2 ≤ 9) (h3 : d3 ≤ 9) (h4 : d4 ≤ 9) (h5 : d5 ≤ 9) (h6 : d6 ≤ 9) (h7 : d7 ≤ 9) :
    d0 + d1 * 256 + d2 * 65536 + d3 * 16777216 + d4 * 4294967296 + d5 * 1099511627776 + d6 * 281474976710656 + d7 * 72057594037927936 < 720575940379279360 := by omega
theorem and64 (a b : Nat) (h : a < 18446744073709551616) (h' : b < 18446744073709551616) : Go.bits .and .u64 (a : Int) (b : Int) = ((a &&& b : Nat) : Int) := by
  rw [u64_and _ _ (by omega) (by omega) (by omega) (by omega)]; rfl
theorem join1 (d0 d1 d2 d3 d4 d5 d6 d7 : Nat) (h0 : d0 ≤ 9) (h1 : d1 ≤ 9) (h2 : d2 ≤ 9) (h3 : d3 ≤ 9) (h4 : d4 ≤ 9) (h5 : d5 ≤ 9) (h6 : d6 ≤ 9) (h7 : d7 ≤ 9) (x : Nat)
    (hx : x = d0 + d1 * 256 + d2 * 65536 + d3 * 16777216 + d4 * 4294967296 + d5 * 1099511627776 + d6 * 281474976710656 + d7 * 72057594037927936) :
    Go.bits .and .u64 (IntKind.u64.wrap (IntKind.u64.wrap ((x : Int) * 10) + (x : Int) / 256)) 71777214294589695 = (((10 * d0 + d1) + (10 * d2 + d3) * 65536 + (10 * d4 + d5) * 4294967296 + (10 * d6 + d7) * 281474976710656 : Nat) : Int) := by
  have x8 : x / 256 = d1 + d2 * 256 + d3 * 65536 + d4 * 16777216 + d5 * 4294967296 + d6 * 1099511627776 + d7 * 281474976710656 := by
    rw [hx]; exact v1d _ _ _ _ _ _ _ _ (by omega)
  have xb : x < 720575940379279360 := by rw [hx]; exact v1b _ _ _ _ _ _ _ _ h0 h1 h2 h3 h4 h5 h6 h7
  have e : IntKind.u64.wrap (IntKind.u64.wrap ((x : Int) * 10) + (x : Int) / 256) = ((x * 10 + x / 256 : Nat) : Int) := by
    rw [w64, w64]; clear hx x8; omega
  have k : (71777214294589695 : Int) = ((71777214294589695 : Nat) : Int) := rfl
  rw [e, k, and64 _ _ (by clear hx x8; omega) (by omega), bytes8 (10 * d0 + d1) (10 * d1 + d2) (10 * d2 + d3) (10 * d3 + d4) (10 * d4 + d5) (10 * d5 + d6) (10 * d6 + d7) (10 * d7) _ (by omega) (by omega) (by omega) (by omega) (by omega) (by omega) (by omega) (by rw [x8, hx]; exact v1 _ _ _ _ _ _ _ _)]
theorem join2 (p0 p1 p2 p3 : Nat) (h0 : p0 ≤ 99) (h1 : p1 ≤ 99) (h2 : p2 ≤ 99) (h3 : p3 ≤ 99) (x : Nat)
    (hx : x = p0 + p1 * 65536 + p2 * 4294967296 + p3 * 281474976710656) :
    Go.bits .and .u64 (IntKind.u64.wrap (IntKind.u64.wrap ((x : Int) * 100) + (x : Int) / 65536)) 281470681808895 = (((100 * p0 + p1) + (100 * p2 + p3) * 4294967296 : Nat) : Int) := by
  have x8 : x / 65536 = p1 + p2 * 65536 + p3 * 4294967296 := by omega
  have xb : x < 28147497671065600 := by omega
  have e : IntKind.u64.wrap (IntKind.u64.wrap ((x : Int) * 100) + (x : Int) / 65536) = ((x * 100 + x / 65536 : Nat) : Int) := by
    rw [w64, w64]; clear hx x8; omega
  have k : (281470681808895 : Int) = ((281470681808895 : Nat) : Int) := rfl
  rw [e, k, and64 _ _ (by clear hx x8; omega) (by omega), and_even2]
  have hv : x * 100 + x / 65536 = (100 * p0 + p1) + 65536 * ((100 * p1 + p2) + 65536 * ((100 * p2 + p3) + 65536 * (100 * p3))) := by rw [x8, hx]; clear x8 hx e; omega
  rw [hv]
  clear hv e x8 hx xb
  have s1 : ((100 * p0 + p1) + 65536 * ((100 * p1 + p2) + 65536 * ((100 * p2 + p3) + 65536 * (100 * p3)))) % 65536 = 100 * p0 + p1 := by
    rw [Nat.add_mul_mod_self_left]; omega
  have s2 : ((100 * p0 + p1) + 65536 * ((100 * p1 + p2) + 65536 * ((100 * p2 + p3) + 65536 * (100 * p3)))) / 4294967296 = (100 * p2 + p3) + 65536 * (100 * p3) := by
    rw [show (4294967296 : Nat) = 65536 * 65536 from rfl, ← Nat.div_div_eq_div_mul, Nat.add_mul_div_left _ _ (by decide), Nat.div_eq_of_lt (show 100 * p0 + p1 < 65536 by omega), Nat.zero_add, Nat.add_mul_div_left _ _ (by decide), Nat.div_eq_of_lt (show 100 * p1 + p2 < 65536 by omega), Nat.zero_add]
  rw [s1, s2, Nat.add_mul_mod_self_left, Nat.mod_eq_of_lt (show 100 * p2 + p3 < 65536 by omega)]
theorem join3 (q0 q1 : Nat) (h0 : q0 ≤ 9999) (h1 : q1 ≤ 9999) (x : Nat) (hx : x = q0 + q1 * 4294967296) :
    Go.bits .and .u64 (IntKind.u64.wrap (IntKind.u64.wrap ((x : Int) * 10000) + (x : Int) / 4294967296)) 4294967295 = ((10000 * q0 + q1 : Nat) : Int) := by
  have x8 : x / 4294967296 = q1 := by omega
  have xb : x < 42949672960000 := by omega
  have e : IntKind.u64.wrap (IntKind.u64.wrap ((x : Int) * 10000) + (x : Int) / 4294967296) = ((x * 10000 + x / 4294967296 : Nat) : Int) := by
    rw [w64, w64]; clear hx x8; omega
  have k : (4294967295 : Int) = ((4294967295 : Nat) : Int) := rfl
  rw [e, k, and64 _ _ (by clear hx x8; omega) (by omega), nat_mask32, x8, hx]
  have hv : (q0 + q1 * 4294967296) * 10000 + q1 = (10000 * q0 + q1) + 4294967296 * (10000 * q1) := by omega
  rw [hv, Nat.add_mul_mod_self_left, Nat.mod_eq_of_lt (by omega)]
theorem joined_eq (y : Nat → Int) (h : ∀ j, j < 8 → IsD (y j)) : digit_Eight.joined (digit_Eight.wordF y 8) = dval [y 0, y 1, y 2, y 3, y 4, y 5, y 6, y 7] := by
  have a0 := h 0 (by omega); have a1 := h 1 (by omega); have a2 := h 2 (by omega); have a3 := h 3 (by omega); have a4 := h 4 (by omega); have a5 := h 5 (by omega); have a6 := h 6 (by omega); have a7 := h 7 (by omega)
  unfold IsD at a0 a1 a2 a3 a4 a5 a6 a7
  obtain ⟨d0, e0⟩ := Int.eq_ofNat_of_zero_le (show 0 ≤ y 0 - 48 by omega)
  obtain ⟨d1, e1⟩ := Int.eq_ofNat_of_zero_le (show 0 ≤ y 1 - 48 by omega)
  obtain ⟨d2, e2⟩ := Int.eq_ofNat_of_zero_le (show 0 ≤ y 2 - 48 by omega)
  obtain ⟨d3, e3⟩ := Int.eq_ofNat_of_zero_le (show 0 ≤ y 3 - 48 by omega)
  obtain ⟨d4, e4⟩ := Int.eq_ofNat_of_zero_le (show 0 ≤ y 4 - 48 by omega)
  obtain ⟨d5, e5⟩ := Int.eq_ofNat_of_zero_le (show 0 ≤ y 5 - 48 by omega)
  obtain ⟨d6, e6⟩ := Int.eq_ofNat_of_zero_le (show 0 ≤ y 6 - 48 by omega)
  obtain ⟨d7, e7⟩ := Int.eq_ofNat_of_zero_le (show 0 ≤ y 7 - 48 by omega)
  have hw : digit_Eight.wordF y 8 = ((d0 + d1 * 256 + d2 * 65536 + d3 * 16777216 + d4 * 4294967296 + d5 * 1099511627776 + d6 * 281474976710656 + d7 * 72057594037927936 : Nat) : Int) := by
    simp only [digit_Eight.wordF]
    simp only [e0, e1, e2, e3, e4, e5, e6, e7]
    simp
  have dv0 : dval [y 0, y 1, y 2, y 3, y 4, y 5, y 6, y 7] = 10 * (10 * (10 * (10 * (10 * (10 * (10 * (10 * 0 + (d0 : Int)) + d1) + d2) + d3) + d4) + d5) + d6) + d7 := by
    simp only [dval, dv, e0, e1, e2, e3, e4, e5, e6, e7]
  unfold digit_Eight.joined
  simp only
  rw [dv0, hw]
  rw [join1 d0 d1 d2 d3 d4 d5 d6 d7 (by omega) (by omega) (by omega) (by omega) (by omega) (by omega) (by omega) (by omega) _ rfl]
  rw [join2 _ _ _ _ (by omega) (by omega) (by omega) (by omega) _ rfl]
  rw [join3 _ _ (by omega) (by omega) _ rfl]
  clear hw dv0
  omega
end Go.Proofs.Ytjefmcfkhalagaa.Dig
