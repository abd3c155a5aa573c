/- The document's text of a day (plain). -/
import Derived.Test.YtobgpdmiiipmmaaRdgZDateParts
import Derived.Test.YtobgpdmiiipmmaaCalpZDateParts
import Derived.Test.YtobgpdmiiipmmaaPadbZDateParts
import Derived.Test.YtobgpdmiiipmmaaConvZDateParts
import Derived.Test.YtobgpdmiiipmmaaQ1ZDateParts
import Derived.Test.YtobgpdmiiipmmaaQ2ZDateParts
namespace Go.Proofs.Ytobgpdmiiipmmaa.Cal
set_option linter.unusedVariables false
set_option linter.unusedSimpArgs false
open Go.RowKit Go.Proofs.Ytobgpdmiiipmmaa.Q Go.Proofs.Ytobgpdmiiipmmaa.Dig Go.Proofs.YtobgpdmiiipmmaaW.PrintWords Go.Proofs.YtobgpdmiiipmmaaW.PrintLast
open Go.Proofs.Ytobgpdmiiipmmaa.Keep (str_append Bts)

theorem D_bts {n : Nat} {x : Int} (h : 0 ≤ x) (h' : x < 18446744073709551616) : Bts (digit_Pad.D n x) := fun c hc => by
  have := D_all n h h' c hc
  unfold IsD at this; omega
theorem digits_ev {x : Int} (h : 0 ≤ x) {w : Nat} (hw : 1 ≤ w) (hx : x < 10 ^ w) (hw' : w ≤ 18) : Ev (fun k => mintageref13_digits.f k x (w : Int)) (strOfNums (digit_Pad.D w x)) := by
  have h64 : x < 18446744073709551616 := by
    have : (10 : Int) ^ w ≤ 10 ^ 18 := by exact_mod_cast Nat.pow_le_pow_right (by decide) hw'
    omega
  obtain ⟨p, e, h1, h2, -⟩ := pad_both h h64 (w : Int)
  have hs := Ev.same h1 (padd h hw hx hw')
  rw [hs] at h2
  refine Ev.congr (fun k => by unfold mintageref13_digits.f; rw [u64_pos h h64]) ?_
  exact Ev.bind h2 (Ev.now _)
theorem lit1 (b : UInt8) : (⟨#[b]⟩ : ByteArray) = strOfNums [(b.toNat : Int)] := by
  apply ByteArray.ext
  simp [strOfNums]
theorem ar1 {cm d ci l c1 : Int} (hc : c1 = ci + l) (h0 : 0 ≤ ci ∧ ci ≤ 366) (h1 : 0 ≤ cm ∧ cm ≤ 366) (h2 : 1 ≤ d ∧ d < 100) (h3 : 28 ≤ l ∧ l ≤ 31) (h4 : ci + l ≤ cm) : wrap64 (cm + d - 1 - ci - l) = cm + d - 1 - c1 ∧ cm + d - 1 - ci ≥ l := by
  refine ⟨?_, by omega⟩
  rw [wrap64_id (by omega) (by omega)]; omega
theorem ar2 {a h c j z : Int} (h1 : c = h + j) (h2 : c ≤ z) (h3 : z ≤ a) (h4 : a ≤ 3652424) (h5 : 0 ≤ h) (h6 : 0 ≤ c) : wrap64 (a - h - j) = a - c ∧ a - h ≥ j := by
  refine ⟨?_, by omega⟩
  rw [wrap64_id (by omega) (by omega)]; omega
theorem wr1 {i : Nat} (h : i < 100000) : wrap64 ((i : Int) + 1) = ((i + 1 : Nat) : Int) := by rw [wrap64_id (by omega) (by omega)]; omega
theorem wr2 {i : Nat} (h : i < 100000) : wrap64 ((i : Int) + 1 + 1) = ((i + 1 : Nat) : Int) + 1 := by rw [wrap64_id (by omega) (by omega)]; omega
theorem rtext_months {y d : Int} {m : Nat} (hk : Ok y m d) : ∀ (e i : Nat), i + e = m → Ev (fun k => mintageref13_text.l1 k (cum (leap y) m + d - 1 - cum (leap y) i) y ((i : Int) + 1)) (strOfNums (day y ((m : Int) + 1) d)) := by
  have hm := hk.m1
  have hs := hk.small
  have hy := hk.y1
  have hd0 := hk.d0
  have hd1 := hk.d1
  have hlm := len_lo (leap y) m hm
  intro e
  induction e with
  | zero =>
    intro i hi
    obtain rfl : i = m := by omega
    have e1 : cum (leap y) i + d - 1 - cum (leap y) i = d - 1 := by omega
    rw [e1]
    refine Ev.step (fun k => by simp only [mintageref13_text.l1]; rfl) ?_
    refine Ev.bind (rlength_ok (m := i) hk.y0 hy hm) ?_
    simp only [if_neg (show ¬ d - 1 ≥ len (leap y) i by omega)]
    refine Ev.bind (digits_ev (w := 4) hk.y0 (by omega) (by omega) (by omega)) ?_
    simp only [lit1, str_append, strOfNums_size, List.length_append, D_len, List.length_cons, List.length_nil, if_pos (show (4 : Nat) + 1 ≤ 9223372036854775807 by omega)]
    refine Ev.bind (digits_ev (w := 2) hs.1 (by omega) hs.2.1 (by omega)) ?_
    simp only [lit1, str_append, strOfNums_size, List.length_append, D_len, List.length_cons, List.length_nil, if_pos (show (4 : Nat) + (0 + 1) + 2 ≤ 9223372036854775807 by omega), if_pos (show (4 : Nat) + (0 + 1) + 2 + 1 ≤ 9223372036854775807 by omega)]
    have w1 : wrap64 (d - 1 + 1) = d := by rw [wrap64_id (by omega) (by omega)]; omega
    rw [w1]
    refine Ev.bind (digits_ev (w := 2) hs.2.2.1 (by omega) hs.2.2.2 (by omega)) ?_
    simp only [lit1, str_append, strOfNums_size, List.length_append, D_len, List.length_cons, List.length_nil, if_pos (show (4 : Nat) + (0 + 1) + 2 + (0 + 1) + 2 ≤ 9223372036854775807 by omega)]
    exact Ev.now _
  | succ e ih =>
    intro i hi
    have hi12 : i < 12 := by omega
    have q1 : i < m := by omega
    have q2 : m ≤ 12 := by omega
    have q3 : i ≤ 12 := by omega
    have q4 : i + 1 + e = m := by omega
    have q5 : 1 ≤ d ∧ d < 100 := ⟨hd0, hs.2.2.2⟩
    obtain ⟨w1, hge⟩ := ar1 (cum_succ (leap y) i hi12) (cum_bd (leap y) i q3) (cum_bd (leap y) m q2) q5 (len_lo (leap y) i hi12) (cum_mono (leap y) q1 q2)
    have w2 := wr2 (show i < 100000 by omega)
    refine Ev.step (fun k => by simp only [mintageref13_text.l1]; rfl) ?_
    refine Ev.bind (rlength_ok (m := i) hk.y0 hy hi12) ?_
    simp only [if_pos hge]
    refine Ev.bind (rlength_ok (m := i) hk.y0 hy hi12) ?_
    rw [w1, w2]
    exact ih (i + 1) q4
theorem rtext_years {y d : Int} {m : Nat} (hk : Ok y m d) : ∀ (e i : Nat), (i : Int) + e = y → Ev (fun k => mintageref13_text.l0 k (num y m d - A i) (i : Int)) (strOfNums (day y ((m : Int) + 1) d)) := by
  have hy := hk.y1
  have hn := num_bd hk
  have ht := num_top hk
  have hn0 := num_pos hk
  intro e
  induction e with
  | zero =>
    intro i hi
    obtain rfl : y = (i : Int) := by omega
    have hs := A_step (y := (i : Int)) (by omega)
    have q0 : (0 : Int) ≤ (i : Int) := by omega
    refine Ev.step (fun k => by simp only [mintageref13_text.l0]; rw [year_ev (y := (i : Int)) q0 hy]) ?_
    simp only [Option.bind_some, if_neg (show ¬ num (i : Int) m d - A (i : Int) ≥ cum (leap (i : Int)) 12 by omega)]
    have e1 : num (i : Int) m d - A (i : Int) = cum (leap (i : Int)) m + d - 1 - cum (leap (i : Int)) 0 := by
      have : cum (leap (i : Int)) 0 = 0 := rfl
      unfold num; omega
    rw [e1]
    exact rtext_months hk m 0 (by omega)
  | succ e ih =>
    intro i hi
    have q0 : (0 : Int) ≤ (i : Int) := by omega
    have q1 : (i : Int) ≤ 9999 := by omega
    have q2 : (i : Int) + 1 ≤ y := by omega
    have q3 : (0 : Int) ≤ (i : Int) + 1 := by omega
    have q4 : ((i + 1 : Nat) : Int) + e = y := by omega
    have q5 : i < 100000 := by omega
    obtain ⟨w1, hge⟩ := ar2 (A_step (y := (i : Int)) q0) (A_mono' (y := (i : Int) + 1) (z := y) q3 q2) hn.1 ht (Int.le_trans (Int.mul_nonneg (by decide) q0) (A_le (y := (i : Int)) q0).1) (Int.le_trans (Int.mul_nonneg (by decide) q3) (A_le (y := (i : Int) + 1) q3).1)
    have w2 := wr1 q5
    rw [show (i : Int) + 1 = ((i + 1 : Nat) : Int) from rfl] at w1
    refine Ev.step (fun k => by simp only [mintageref13_text.l0]; rw [year_ev (y := (i : Int)) q0 q1]) ?_
    simp only [Option.bind_some, if_pos hge]
    rw [w1, w2]
    exact ih (i + 1) q4
theorem rtext_ev {n y d : Int} {m : Nat} (hk : Ok y m d) (hn : num y m d = n + 719528) : Ev (fun k => mintageref13_text.f k n) (strOfNums (day y ((m : Int) + 1) d)) := by
  have h0 := num_pos hk
  have h1 := num_top hk
  obtain ⟨z, hz⟩ : ∃ z : Nat, y = (z : Int) := ⟨y.toNat, by have := hk.y0; omega⟩
  have h := rtext_years hk z 0 (by omega)
  have e : num y m d - A ((0 : Nat) : Int) = n + 719528 := by have : A ((0 : Nat) : Int) = 0 := by decide
                                                              omega
  rw [e] at h
  refine Ev.congr (fun k => ?_) h
  unfold mintageref13_text.f
  rw [wrap64_id (x := n - -719528) (by omega) (by omega), show n - -719528 = n + 719528 by omega]; rfl
theorem day_bts {y d : Int} {m : Nat} (hk : Ok y m d) : Bts (day y ((m : Int) + 1) d) := by
  have hs := hk.small
  have hy := hk.y1
  have c45 : Bts [45] := fun c hc => by simp at hc; omega
  exact ((((D_bts hk.y0 (by omega)).append c45).append (D_bts hs.1 (by omega))).append c45).append (D_bts hs.2.2.1 (by omega))
end Go.Proofs.Ytobgpdmiiipmmaa.Cal
