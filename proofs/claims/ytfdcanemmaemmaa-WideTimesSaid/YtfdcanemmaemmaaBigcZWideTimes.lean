/- The printed functions of mintageref01 on numbers of 128 bits: they come to what wide's do. -/
import Derived.Test.YtfdcanemmaemmaaBigbZWideTimes
import Derived.Test.YtfdcanemmaemmaaWidbZWideTimes
import Derived.Test.YtfdcanemmaemmaaQ1ZWideTimes
import Derived.Test.YtfdcanemmaemmaaQ2ZWideTimes
namespace Go.Proofs.Ytfdcanemmaemmaa.Big
set_option linter.unusedVariables false
open Go.RowKit Go.Proofs.Ytfdcanemmaemmaa.Q Go.Proofs.Ytfdcanemmaemmaa.Wid Go.Proofs.YtfdcanemmaemmaaW.PrintWords Go.Proofs.YtfdcanemmaemmaaW.PrintLast

theorem of_ev {a1 a0 : Int} (h1 : U a1) (h0 : U a0) : Ev (fun k => mintageref01_Of.f k a1 a0) (dig (W a1 a0).toNat) := by
  have := num_ev (ws := [a0, a1]) (fun x hx => by simp at hx; rcases hx with rfl | rfl; exact h0; exact h1) (by simp)
  have e : valW [a0, a1] = W a1 a0 := by simp only [valW]; unfold W; omega
  rw [e] at this
  exact Ev.bind this (Ev.now _)
/-- The two lowest words, and whether there is more. -/
def lo2 (n : Nat) : Int × Int × Bool := (((n / 18446744073709551616 % 18446744073709551616 : Nat) : Int), ((n % 18446744073709551616 : Nat) : Int), decide (340282366920938463463374607431768211456 ≤ n))
theorem wide_ev {n : Nat} (h : (dig n).length ≤ 1000000) : Ev (fun k => mintageref01_Wide.f k (dig n)) (lo2 n) := by
  unfold mintageref01_Wide.f
  refine Ev.bind (words_ev (by unfold Sm; omega)) ?_
  simp only [Option.bind_some]
  have hw := wrd_len n
  have e1 : (wrd n).length + ([0, 0] : List Int).length < 17592186044416 := by simp; omega
  have hl : (wrd n ++ ([0, 0] : List Int)).length = (wrd n).length + 2 := by simp
  have r0 := rd_wrd 0 n 2
  have r1 := rd_wrd 1 n 2
  simp only [Nat.pow_zero, Nat.div_one, Nat.pow_one] at r0 r1
  have c0 : (0 : Int) < ((wrd n ++ ([0, 0] : List Int)).length : Int) := by omega
  have c1 : (1 : Int) < ((wrd n ++ ([0, 0] : List Int)).length : Int) := by omega
  simp only [if_pos e1, if_pos c0, if_pos c1]
  refine Ev.bind (bits_ev (by unfold Sm; omega)) ?_
  have e2 : decide ((bl n : Int) > 128) = decide (340282366920938463463374607431768211456 ≤ n) := by
    have := bl_le_iff n 128
    have e : (2 : Nat) ^ 128 = 340282366920938463463374607431768211456 := by decide +kernel
    rw [e] at this
    by_cases hb : bl n ≤ 128
    · have := this.1 hb
      rw [decide_eq_false (by omega), decide_eq_false (by omega)]
    · have : ¬ n < 340282366920938463463374607431768211456 := fun h => hb (this.2 h)
      rw [decide_eq_true (by omega), decide_eq_true (by omega)]
  rw [e2]
  have q0 : rd (wrd n ++ [0, 0]) 0 = ((n % 18446744073709551616 : Nat) : Int) := r0
  have q1 : rd (wrd n ++ [0, 0]) 1 = ((n / 18446744073709551616 % 18446744073709551616 : Nat) : Int) := r1
  simp only [q0, q1]
  exact Ev.now _
theorem len_lt {n k : Nat} (h : n < 65536 ^ k) (hk : k ≤ 1000) : (dig n).length ≤ 1000 := Nat.le_trans (dig_len h) hk
theorem len130 {n : Nat} (h : n < 115792089237316195423570985008687907853269984665640564039457584007913129639936) : (dig n).length ≤ 16 := dig_len (k := 16) (by
  have : (65536 : Nat) ^ 16 = 115792089237316195423570985008687907853269984665640564039457584007913129639936 := by decide +kernel
  omega)
theorem add_both {a1 a0 b1 b0 : Int} (h1 : U a1) (h0 : U a0) (g1 : U b1) (g0 : U b0) : ∃ h l o, wide_Add.f a1 a0 b1 b0 = some (h, l, o) ∧ Ev (fun k => mintageref01_Add.f k a1 a0 b1 b0) (h, l, o) ∧ U h ∧ U l := by
  obtain ⟨h, l, o, e, uh, ul, v⟩ := add_spec a1 a0 b1 b0 h1 h0 g1 g0
  refine ⟨h, l, o, e, ?_, uh, ul⟩
  have wa := W_bounds h1 h0
  have wb := W_bounds g1 g0
  unfold mintageref01_Add.f
  refine Ev.bind (of_ev h1 h0) ?_
  refine Ev.bind (of_ev g1 g0) ?_
  have la := len130 (n := (W a1 a0).toNat) (by omega)
  have lb := len130 (n := (W b1 b0).toNat) (by omega)
  have ls := len130 (n := (W a1 a0).toNat + (W b1 b0).toNat) (by omega)
  refine Ev.bind (sum_ev (by unfold Sm; omega) (by unfold Sm; omega)) ?_
  refine Ev.bind (wide_ev (by omega)) ?_
  have : lo2 ((W a1 a0).toNat + (W b1 b0).toNat) = (h, l, o) := by
    unfold lo2
    generalize W a1 a0 = x at *
    generalize W b1 b0 = y at *
    unfold W U at *
    cases o
    · simp only [Bool.false_eq_true, if_false] at v
      refine Prod.ext (by simp only; omega) (Prod.ext (by simp only; omega) ?_)
      simp only; rw [decide_eq_false (by omega)]
    · simp only [if_true] at v
      refine Prod.ext (by simp only; omega) (Prod.ext (by simp only; omega) ?_)
      simp only; rw [decide_eq_true (by omega)]
  rw [this]
  exact Ev.now _
theorem sub_both {a1 a0 b1 b0 : Int} (h1 : U a1) (h0 : U a0) (g1 : U b1) (g0 : U b0) : ∃ h l o, wide_Sub.f a1 a0 b1 b0 = some (h, l, o) ∧ Ev (fun k => mintageref01_Sub.f k a1 a0 b1 b0) (h, l, o) ∧ U h ∧ U l := by
  obtain ⟨h, l, e, uh, ul, v⟩ := sub_spec a1 a0 b1 b0 h1 h0 g1 g0
  refine ⟨h, l, _, e, ?_, uh, ul⟩
  have wa := W_bounds h1 h0
  have wb := W_bounds g1 g0
  unfold mintageref01_Sub.f
  refine Ev.bind (of_ev h1 h0) ?_
  refine Ev.bind (of_ev g1 g0) ?_
  have la := len130 (n := (W a1 a0).toNat) (by omega)
  have lb := len130 (n := (W b1 b0).toNat) (by omega)
  refine Ev.bind (cmp_ev (by unfold Sm; omega) (by unfold Sm; omega)) ?_
  by_cases hc : W a1 a0 < W b1 b0
  · rw [if_pos (by omega)]
    simp only [if_pos (show (-1 : Int) < 0 by decide)]
    have l1 : dig 1 = [1] := dig_small (by decide) (by decide)
    have hleft := left_ev (a := 1) (n := 128) (by rw [l1]; decide) (by decide)
    rw [l1] at hleft
    have e128 : 1 * 2 ^ 128 = 340282366920938463463374607431768211456 := by decide +kernel
    rw [e128] at hleft
    refine Ev.bind hleft ?_
    have lt := len130 (n := 340282366920938463463374607431768211456) (by decide)
    refine Ev.bind (sum_ev (by unfold Sm; omega) (by unfold Sm; omega)) ?_
    have lu := len130 (n := (W a1 a0).toNat + 340282366920938463463374607431768211456) (by omega)
    refine Ev.bind (less_ev (by unfold Sm; omega) (by unfold Sm; omega) (by omega)) ?_
    have lv := len130 (n := (W a1 a0).toNat + 340282366920938463463374607431768211456 - (W b1 b0).toNat) (by omega)
    refine Ev.bind (wide_ev (by omega)) ?_
    have : (lo2 ((W a1 a0).toNat + 340282366920938463463374607431768211456 - (W b1 b0).toNat)).1 = h ∧ (lo2 ((W a1 a0).toNat + 340282366920938463463374607431768211456 - (W b1 b0).toNat)).2.1 = l := by
      unfold lo2
      rw [if_pos hc] at v
      generalize W a1 a0 = x at *
      generalize W b1 b0 = y at *
      unfold W U at *
      constructor
      · simp only; omega
      · simp only; omega
    rw [this.1, this.2, decide_eq_true hc, decide_eq_true (show (-1 : Int) < 0 by decide)]
    exact Ev.now _
  · have hcm : ¬ (if (W a1 a0).toNat < (W b1 b0).toNat then (-1 : Int) else if (W a1 a0).toNat > (W b1 b0).toNat then 1 else 0) < 0 := by
      rw [if_neg (by omega)]; split <;> omega
    simp only [if_neg hcm]
    refine Ev.bind (less_ev (by unfold Sm; omega) (by unfold Sm; omega) (by omega)) ?_
    have lv := len130 (n := (W a1 a0).toNat - (W b1 b0).toNat) (by omega)
    refine Ev.bind (wide_ev (by omega)) ?_
    have : (lo2 ((W a1 a0).toNat - (W b1 b0).toNat)).1 = h ∧ (lo2 ((W a1 a0).toNat - (W b1 b0).toNat)).2.1 = l := by
      unfold lo2
      rw [if_neg hc] at v
      generalize W a1 a0 = x at *
      generalize W b1 b0 = y at *
      unfold W U at *
      constructor
      · simp only; omega
      · simp only; omega
    rw [this.1, this.2, decide_eq_false hc, decide_eq_false hcm]
    exact Ev.now _
theorem mul_both {a b : Int} (ha : U a) (hb : U b) : ∃ h l, wide_Mul.f a b = some (h, l) ∧ Ev (fun k => mintageref01_Mul.f k a b) (h, l) ∧ U h ∧ U l := by
  obtain ⟨h, l, e, uh, ul, v⟩ := mul_spec a b ha hb
  refine ⟨h, l, e, ?_, uh, ul⟩
  have wv := W_bounds uh ul
  have hn : a.toNat * b.toNat = (W h l).toNat := by
    rw [v]
    obtain ⟨x, rfl⟩ := Int.eq_ofNat_of_zero_le ha.1
    obtain ⟨y, rfl⟩ := Int.eq_ofNat_of_zero_le hb.1
    rw [← Int.natCast_mul, Int.toNat_natCast, Int.toNat_natCast, Int.toNat_natCast]
  unfold mintageref01_Mul.f
  refine Ev.bind (num1_ev ha.1 ha.2) ?_
  refine Ev.bind (num1_ev hb.1 hb.2) ?_
  have la := len130 (n := a.toNat) (by unfold U at *; omega)
  have lb := len130 (n := b.toNat) (by unfold U at *; omega)
  refine Ev.bind (prod_ev (by omega) (by omega)) ?_
  rw [hn]
  have lv := len130 (n := (W h l).toNat) (by omega)
  refine Ev.bind (wide_ev (by omega)) ?_
  have : (lo2 (W h l).toNat).1 = h ∧ (lo2 (W h l).toNat).2.1 = l := by
    unfold lo2
    unfold W U at *
    constructor
    · simp only; omega
    · simp only; omega
  rw [this.1, this.2]
  exact Ev.now _
end Go.Proofs.Ytfdcanemmaemmaa.Big
