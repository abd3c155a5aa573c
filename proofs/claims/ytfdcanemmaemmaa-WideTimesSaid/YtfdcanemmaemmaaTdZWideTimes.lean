/- Times and Div: both sides' answers are the same; the document's Div, walked. -/
import Derived.Test.YtfdcanemmaemmaaBigcZWideTimes
import Derived.Test.YtfdcanemmaemmaaOverZWideTimes
import Derived.Test.YtfdcanemmaemmaaDivZWideTimes
import Derived.Deep.RegionHeld3
import Derived.Test.YtfdcanemmaemmaaQ0ZWideTimes
import Derived.Test.YtfdcanemmaemmaaQ1ZWideTimes
import Derived.Test.YtfdcanemmaemmaaQ2ZWideTimes
namespace Go.Proofs.Ytfdcanemmaemmaa.Td
set_option linter.unusedVariables false
set_option linter.unusedSimpArgs false
open Go.RowKit Go.Proofs.Ytfdcanemmaemmaa.Q Go.Proofs.Ytfdcanemmaemmaa.Wid Go.Proofs.Ytfdcanemmaemmaa.Big Go.Proofs.YtfdcanemmaemmaaW.PrintWords Go.Proofs.YtfdcanemmaemmaaW.PrintLast

theorem times_both {a1 a0 b : Int} (h1 : U a1) (h0 : U a0) (hb : U b) : ∃ h m l, wide_Times.f a1 a0 b = some (h, m, l) ∧ Ev (fun k => mintageref01_Times.f k a1 a0 b) (h, m, l) := by
  obtain ⟨h, m, l, e, uh, um, ul, v⟩ := times_spec a1 a0 b h1 h0 hb
  refine ⟨h, m, l, e, ?_⟩
  have wa := W_bounds h1 h0
  have wv := W_bounds uh um
  have hn : (((W a1 a0).toNat * b.toNat : Nat) : Int) = W h m * 18446744073709551616 + l := by
    rw [v]
    unfold U at hb
    push_cast
    rw [Int.toNat_of_nonneg wa.1, Int.toNat_of_nonneg hb.1]
  unfold mintageref01_Times.f
  refine Ev.bind (of_ev h1 h0) ?_
  refine Ev.bind (num1_ev hb.1 hb.2) ?_
  have la := len130 (n := (W a1 a0).toNat) (by omega)
  have lb := len130 (n := b.toNat) (by unfold U at *; omega)
  refine Ev.bind (prod_ev (by omega) (by omega)) ?_
  generalize (W a1 a0).toNat * b.toNat = N at hn ⊢
  have lv := len130 (n := N) (by unfold U at ul; omega)
  refine Ev.bind (words_ev (by unfold Sm; omega)) ?_
  simp only [Option.bind_some]
  have hw := wrd_len N
  have hl : (wrd N ++ ([0, 0, 0] : List Int)).length = (wrd N).length + 3 := by simp
  have e1 : (wrd N).length + ([0, 0, 0] : List Int).length < 17592186044416 := by simp; omega
  simp only [if_pos e1, if_pos (show (1 : Int) < ((wrd N ++ ([0, 0, 0] : List Int)).length : Int) by omega), if_pos (show (2 : Int) < ((wrd N ++ ([0, 0, 0] : List Int)).length : Int) by omega), if_pos (show (0 : Int) < ((wrd N ++ ([0, 0, 0] : List Int)).length : Int) by omega)]
  have r0 := rd_wrd 0 N 3
  have r1 := rd_wrd 1 N 3
  have r2 := rd_wrd 2 N 3
  have q0 : rd (wrd N ++ [0, 0, 0]) 0 = l := by
    refine r0.trans ?_
    unfold W U at *; simp only [Nat.pow_zero, Nat.div_one]; omega
  have q1 : rd (wrd N ++ [0, 0, 0]) 1 = m := by
    refine r1.trans ?_
    unfold W U at *; simp only [Nat.pow_one]; omega
  have q2 : rd (wrd N ++ [0, 0, 0]) 2 = h := by
    refine r2.trans ?_
    have : 18446744073709551616 ^ 2 = 340282366920938463463374607431768211456 := by decide
    rw [this]
    unfold W U at *; omega
  rw [q0, q1, q2]
  exact Ev.now _
/-- What the document's Div needs. -/
structure Dv (K : Nat) (a1 a0 d q1 q0 r : Int) (da dd dq dr wr : List Int) (o : Bool) : Prop where
  of_ : mintageref01_Of.f K a1 a0 = some da
  num : mintageref01_Num.f K [d] = some dd
  over : mintageref01_Over.f K da dd = some (dq, dr)
  wide : mintageref01_Wide.f K dq = some (q1, q0, o)
  words : mintageref01_Words.f K dr = some wr
  len : wr.length ≤ 1000
  at_ : rd (wr ++ [0]) 0 = r
theorem div_both {a1 a0 d : Int} (h1 : U a1) (h0 : U a0) (hd : U d) (hp : 0 < d) : ∃ K q1 q0 r da dd dq dr wr o, wide_Div.f K a1 a0 d = some (q1, q0, r, true) ∧ Dv K a1 a0 d q1 q0 r da dd dq dr wr o := by
  obtain ⟨q1, q0, r, ev, u1, u0, r0, rd_, v⟩ := (divf_ev a1 a0 d h1 h0 hd).2 hp
  have wa := W_bounds h1 h0
  have wq := W_bounds u1 u0
  obtain ⟨A, hA⟩ := Int.eq_ofNat_of_zero_le wa.1
  obtain ⟨D, rfl⟩ := Int.eq_ofNat_of_zero_le (Int.le_of_lt hp)
  obtain ⟨Q, hQ⟩ := Int.eq_ofNat_of_zero_le wq.1
  obtain ⟨R, rfl⟩ := Int.eq_ofNat_of_zero_le r0
  have hD : 0 < D := by omega
  have hRD : R < D := by omega
  have hAQ : R + D * Q = A := by
    rw [hA, hQ] at v
    rw [Nat.mul_comm]
    have : ((A : Nat) : Int) = ((Q * D + R : Nat) : Int) := by rw [Int.natCast_add, Int.natCast_mul]; exact v
    have := Int.ofNat_inj.1 this
    omega
  have hdm := (Nat.div_mod_unique (a := A) (c := R) (d := Q) hD).2 ⟨hAQ, hRD⟩
  have la := len130 (n := A) (by omega)
  have lD := len130 (n := D) (by unfold U at hd; omega)
  have lQ := len130 (n := Q) (by omega)
  have lR := len130 (n := R) (by unfold U at hd; omega)
  obtain ⟨K0, k0⟩ := ev
  obtain ⟨K1, k1⟩ := of_ev h1 h0
  obtain ⟨K2, k2⟩ := num1_ev hd.1 hd.2
  obtain ⟨K3, k3⟩ := over_ev (a := A) (b := D) hD (by omega) (by omega)
  obtain ⟨K4, k4⟩ := wide_ev (n := Q) (by omega)
  obtain ⟨K5, k5⟩ := words_ev (a := R) (by unfold Sm; omega)
  rw [hA, Int.toNat_natCast] at k1
  rw [Int.toNat_natCast] at k2
  rw [hdm.1, hdm.2] at k3
  have hlo : lo2 Q = (q1, q0, decide (340282366920938463463374607431768211456 ≤ Q)) := by
    have e1 : ((Q / 18446744073709551616 % 18446744073709551616 : Nat) : Int) = q1 := by unfold W U at *; omega
    have e0 : ((Q % 18446744073709551616 : Nat) : Int) = q0 := by unfold W U at *; omega
    unfold lo2
    rw [e1, e0]
  rw [hlo] at k4
  have hw := wrd_len R
  have hr := rd_wrd 0 R 1
  refine ⟨K0 + K1 + K2 + K3 + K4 + K5, q1, q0, (R : Int), _, _, _, _, _, _, k0 _ (by omega), ⟨k1 _ (by omega), k2 _ (by omega), k3 _ (by omega), k4 _ (by omega), k5 _ (by omega), by omega, ?_⟩⟩
  refine hr.trans ?_
  unfold U at hd
  simp only [Nat.pow_zero, Nat.div_one]
  rw [Nat.mod_eq_of_lt (by omega)]
end Go.Proofs.Ytfdcanemmaemmaa.Td
