/- Plain facts on wide: Len, with its rounds. -/
import Derived.Test.YtfdcanemmaemmaaWidbZWideTimes
import Derived.Test.YtfdcanemmaemmaaQ1ZWideTimes
namespace Go.Proofs.Ytfdcanemmaemmaa.Wid
open Go.RowKit Go.Proofs.Ytfdcanemmaemmaa.Q Go.Proofs.YtfdcanemmaemmaaW.PrintWords Go.Proofs.YtfdcanemmaemmaaW.PrintLast

/-- How many bits a number has. -/
def bl (n : Nat) : Nat := if h : n = 0 then 0 else bl (n / 2) + 1
theorem bl_zero : bl 0 = 0 := by rw [bl]; simp
theorem bl_pos {n : Nat} (h : n ≠ 0) : bl n = bl (n / 2) + 1 := by rw [bl]; simp [h]
theorem bl_mul (m : Nat) {n : Nat} (h : n ≠ 0) : bl (n * 2 ^ m) = bl n + m := by
  induction m with
  | zero => simp
  | succ m ih =>
    have e : n * 2 ^ (m + 1) = 2 * (n * 2 ^ m) := by rw [Nat.pow_succ]; grind
    have hp : 0 < n * 2 ^ m := Nat.mul_pos (by omega) (Nat.two_pow_pos m)
    rw [e, bl_pos (by omega), Nat.mul_div_cancel_left _ (by decide), ih]
    omega
theorem bl_le (d : Nat) : ∀ n, n < 2 ^ d → bl n ≤ d := by
  induction d with
  | zero => intro n h; have : n = 0 := by simpa using h
            rw [this, bl_zero]; exact Nat.le_refl 0
  | succ d ih =>
    intro n h
    by_cases z : n = 0
    · rw [z, bl_zero]; omega
    · rw [bl_pos z]
      have := ih (n / 2) (by rw [Nat.pow_succ] at h; omega)
      omega

theorem wrap64_id {x : Int} (h : -9223372036854775808 ≤ x) (h' : x < 9223372036854775808) : wrap64 x = x := by unfold wrap64; omega

theorem len_ev (d : Nat) : ∀ (n a1 a0 : Int), U a1 → U a0 → (W a1 a0).toNat < 2 ^ d → 0 ≤ n → n + d ≤ 1000 → Ev (fun k => wide_Len.l0 k n a1 a0) (n + bl (W a1 a0).toNat) := by
  induction d with
  | zero =>
    intro n a1 a0 h1 h0 hd hn hl
    have hz : W a1 a0 = 0 := by have := W_bounds h1 h0; have : (W a1 a0).toNat = 0 := by simpa using hd
                                omega
    have z1 : a1 = 0 := by unfold W U at *; omega
    have z0 : a0 = 0 := by unfold W U at *; omega
    rw [hz]
    refine Ev.step (fun k => by simp only [wide_Len.l0]; rfl) ?_
    simp only [z1, z0, beq_self_eq_true, Bool.not_true, Bool.or_self, Bool.false_eq_true, if_false]
    have : (0 : Int).toNat = 0 := rfl
    rw [this, bl_zero]
    simpa using Ev.now n
  | succ d ih =>
    intro n a1 a0 h1 h0 hd hn hl
    refine Ev.step (fun k => by simp only [wide_Len.l0]; rfl) ?_
    by_cases hz : W a1 a0 = 0
    · have z1 : a1 = 0 := by unfold W U at *; omega
      have z0 : a0 = 0 := by unfold W U at *; omega
      rw [hz]
      simp only [z1, z0, beq_self_eq_true, Bool.not_true, Bool.or_self, Bool.false_eq_true, if_false]
      have : (0 : Int).toNat = 0 := rfl
      rw [this, bl_zero]
      simpa using Ev.now n
    · have hne : (!(a1 == 0) || !(a0 == 0)) = true := by
        simp only [Bool.or_eq_true, Bool.not_eq_true', beq_eq_false_iff_ne]
        unfold W U at *; omega
      simp only [hne, if_true]
      obtain ⟨h, l, e, u1, u0, v⟩ := shr_spec a1 a0 1 h1 h0
      simp only [e, Option.bind_some]
      have hw := W_bounds h1 h0
      have ev : (W h l).toNat = (W a1 a0).toNat / 2 := by
        rw [v]
        have : (2 : Int) ^ (1 : Int).toNat = 2 := by rfl
        rw [this]; omega
      have := ih (n + 1) h l u1 u0 (by rw [ev]; rw [Nat.pow_succ] at hd; omega) (by omega) (by omega)
      rw [ev] at this
      rw [wrap64_id (by omega) (by omega)]
      have e2 : n + (bl (W a1 a0).toNat : Int) = n + 1 + (bl ((W a1 a0).toNat / 2) : Int) := by
        rw [bl_pos (show (W a1 a0).toNat ≠ 0 by omega)]; omega
      rw [e2]; exact this

theorem lenf_ev (a1 a0 : Int) (h1 : U a1) (h0 : U a0) : Ev (fun k => wide_Len.f k a1 a0) (bl (W a1 a0).toNat) := by
  have hw := W_bounds h1 h0
  have := len_ev 128 0 a1 a0 h1 h0 (by have : (2 : Nat) ^ 128 = 340282366920938463463374607431768211456 := by rfl
                                       omega) (by omega) (by omega)
  rw [Int.zero_add] at this
  exact this

end Go.Proofs.Ytfdcanemmaemmaa.Wid
