/- ScaledMoves: the printed law function answers true. -/
import Derived.Test.YtjefmcfkhalagaaValZScaledMoves
import Derived.Test.YtjefmcfkhalagaaTenZScaledMoves
import Derived.Test.YtjefmcfkhalagaaQ0ZScaledMoves
import Derived.Test.YtjefmcfkhalagaaQ1ZScaledMoves
namespace Go.Proofs.Ytjefmcfkhalagaa.Dig
set_option linter.unusedSimpArgs false
open Go.RowKit Go.Proofs.Ytjefmcfkhalagaa.Q Go.Proofs.YtjefmcfkhalagaaW.PrintWords Go.Proofs.YtjefmcfkhalagaaW.PrintLast Go.Proofs.YtjefmcfkhalagaaW.PrintMore
theorem may_yes {n : Nat} (h : n ≤ 18) : scaled_may.f (n : Int) = some true := by
  unfold scaled_may.f
  rw [if_pos (by omega), decide_eq_true (by omega)]
theorem ten_le18 {i : Nat} (h : i ≤ 18) : (1 : Int) ≤ 10 ^ i ∧ (10 : Int) ^ i ≤ 1000000000000000000 := by
  refine ⟨Int.pow_pos (by decide), ?_⟩
  have e : (10 : Int) ^ 18 = 10 ^ i * 10 ^ (18 - i) := by rw [← Int.pow_add]; congr 1; omega
  have e2 : (10 : Int) ^ 18 = 1000000000000000000 := by rfl
  have p : (1 : Int) ≤ 10 ^ (18 - i) := Int.pow_pos (by decide)
  have q : (0 : Int) ≤ 10 ^ i := Int.le_of_lt (Int.pow_pos (by decide))
  have := Int.mul_le_mul_of_nonneg_left p q
  omega
theorem ten_even {d : Nat} (h : 1 ≤ d) : ∃ h : Int, (10 : Int) ^ d = 2 * h ∧ 5 ≤ h := by
  obtain ⟨e, rfl⟩ : ∃ e, d = e + 1 := ⟨d - 1, by omega⟩
  have : (1 : Int) ≤ 10 ^ e := Int.pow_pos (by decide)
  exact ⟨5 * 10 ^ e, by rw [Int.pow_succ]; omega, by omega⟩
theorem ab_range {x : Int} (h : Sz x) : 0 ≤ ab x ∧ ab x ≤ 999999999999999999 := by
  unfold Sz at h; unfold ab; split <;> omega
theorem resc_up {x : Int} (h : Sz x) {s d : Nat} (hd : s + d ≤ 18) :
    Ev (fun k => scaled_Rescale.f k (bt x) (s : Int) ((s + d : Nat) : Int)) (if ab x ≤ 999999999999999999 / 10 ^ d then (bt (x * 10 ^ d), 0) else (0, 123)) := by
  have hx := ab_range h
  unfold scaled_Rescale.f
  simp only [size_of h, Option.bind_some, may_yes (show s ≤ 18 by omega), may_yes hd, if_true, Bool.not_true]
  refine Ev.step (fun k => by simp only [scaled_Rescale.j0]; rfl) ?_
  have em : mx (wrap64 (((s + d : Nat) : Int) - (s : Int))) (wrap64 ((s : Int) - ((s + d : Nat) : Int))) = (d : Int) := by
    rw [wrap64_id (by omega) (by omega), wrap64_id (by omega) (by omega)]; unfold mx; split <;> omega
  simp only [Bool.false_eq_true, if_false, if_true, em]
  refine Ev.bind (ten_ev (m := d) (by omega)) ?_
  have hp := ten_le18 (i := d) (by omega)
  generalize (10 : Int) ^ d = p at *
  have e1 : Int.tdiv (999999999999999999 : Int) p = 999999999999999999 / p := Int.tdiv_eq_ediv_of_nonneg (by omega)
  have b1 : 0 ≤ 999999999999999999 / p := Int.ediv_nonneg (by omega) (by omega)
  have b2 : 999999999999999999 / p ≤ 999999999999999999 := Int.ediv_le_self _ (by omega)
  have e2 : IntKind.u64.wrap (999999999999999999 / p) = 999999999999999999 / p := by rw [w64]; omega
  simp only [if_pos (show ((s + d : Nat) : Int) ≥ (s : Int) by omega), if_neg (show ¬ p = 0 by omega), e1, e2]
  by_cases hc : ab x ≤ 999999999999999999 / p
  · have hm : ab x * p ≤ 999999999999999999 := Int.mul_le_of_le_ediv (by omega) hc
    have hm0 : 0 ≤ ab x * p := Int.mul_nonneg hx.1 (by omega)
    have ew : IntKind.u64.wrap (ab x * p) = ab x * p := by rw [w64]; omega
    simp only [if_neg (show ¬ ab x > 999999999999999999 / p by omega), if_pos hc, ew]
    by_cases hn : x < 0
    · have eab : ab x = -x := by unfold ab; rw [if_pos hn]
      have e3 : IntKind.u64.wrap (-(ab x * p)) = bt (x * p) := by
        rw [w64, eab, Int.neg_mul, Int.neg_neg]; rfl
      simp only [decide_eq_true hn, if_true, e3]; exact Ev.now _
    · have eab : ab x = x := by unfold ab; rw [if_neg hn]
      rw [eab] at hm hm0
      have e3 : ab x * p = bt (x * p) := by
        rw [eab]; unfold bt; omega
      simp only [decide_eq_false hn, Bool.false_eq_true, if_false, e3]; exact Ev.now _
  · simp only [if_pos (show ab x > 999999999999999999 / p by omega), if_neg hc]; exact Ev.now _
/-- The nearest, to the even one. -/
def rnd (a p : Int) : Int := if a % p > p / 2 ∨ (a % p = p / 2 ∧ a / p % 2 = 1) then a / p + 1 else a / p
def sg (x m : Int) : Int := if x < 0 then -m else m
theorem resc_tail {x m : Int} (h : 0 ≤ m ∧ m ≤ 1000000000000000000) (b : Bool) : Ev (fun k => scaled_Rescale.j1 k m (decide (x < 0)) b) (bt (sg x (if b = true then m + 1 else m)), 0) := by
  refine Ev.step (fun k => by simp only [scaled_Rescale.j1]; rfl) ?_
  unfold sg
  have e1 : IntKind.u64.wrap (m + 1) = m + 1 := by rw [w64]; omega
  have e2 : IntKind.u64.wrap (-(m + 1)) = bt (-(m + 1)) := w64 _
  have e3 : IntKind.u64.wrap (-m) = bt (-m) := w64 _
  have e4 : bt (m + 1) = m + 1 := by unfold bt; omega
  have e5 : bt m = m := by unfold bt; omega
  by_cases hn : x < 0
  · cases b
    · simp only [decide_eq_true hn, if_true, Bool.false_eq_true, if_false, if_pos hn, e3]; exact Ev.now _
    · simp only [decide_eq_true hn, if_true, if_pos hn, e1, e2]; exact Ev.now _
  · cases b
    · simp only [decide_eq_false hn, Bool.false_eq_true, if_false, if_neg hn, e5]; exact Ev.now _
    · simp only [decide_eq_false hn, if_true, Bool.false_eq_true, if_false, if_neg hn, e1, e4]; exact Ev.now _
theorem resc_down {x : Int} (h : Sz x) {s d : Nat} (hd : s + d ≤ 18) (h1 : 1 ≤ d) :
    Ev (fun k => scaled_Rescale.f k (bt x) ((s + d : Nat) : Int) (s : Int)) (bt (sg x (rnd (ab x) (10 ^ d))), 0) := by
  have hx := ab_range h
  unfold scaled_Rescale.f
  simp only [size_of h, Option.bind_some, may_yes (show s ≤ 18 by omega), may_yes hd, if_true, Bool.not_true]
  refine Ev.step (fun k => by simp only [scaled_Rescale.j0]; rfl) ?_
  have em : mx (wrap64 ((s : Int) - ((s + d : Nat) : Int))) (wrap64 (((s + d : Nat) : Int) - (s : Int))) = (d : Int) := by
    rw [wrap64_id (by omega) (by omega), wrap64_id (by omega) (by omega)]; unfold mx; split <;> omega
  simp only [Bool.false_eq_true, if_false, if_true, em]
  refine Ev.bind (ten_ev (m := d) (by omega)) ?_
  have hp := ten_le18 (i := d) (by omega)
  obtain ⟨hh, ep, h5⟩ := ten_even h1
  generalize (10 : Int) ^ d = p at *
  have e1 : Int.tdiv p 2 = p / 2 := Int.tdiv_eq_ediv_of_nonneg (by omega)
  have e2 : IntKind.u64.wrap (p / 2) = p / 2 := by rw [w64]; omega
  have e3 : Int.tmod (ab x) p = ab x % p := Int.tmod_eq_emod_of_nonneg hx.1
  have e4 : Int.tdiv (ab x) p = ab x / p := Int.tdiv_eq_ediv_of_nonneg hx.1
  have b1 : 0 ≤ ab x / p := Int.ediv_nonneg hx.1 (by omega)
  have b2 : ab x / p ≤ ab x := Int.ediv_le_self _ hx.1
  have e5 : IntKind.u64.wrap (ab x / p) = ab x / p := by rw [w64]; omega
  have e6 : Int.tmod (ab x / p) 2 = ab x / p % 2 := Int.tmod_eq_emod_of_nonneg b1
  simp only [if_neg (show ¬ (s : Int) ≥ ((s + d : Nat) : Int) by omega), if_neg (show ¬ p = 0 by omega), e1, e2, e3, e4, e5, e6]
  have T := fun b => resc_tail (x := x) (m := ab x / p) ⟨b1, by omega⟩ b
  unfold rnd
  by_cases c1 : ab x % p > p / 2
  · rw [if_pos (Or.inl c1 : ab x % p > p / 2 ∨ (ab x % p = p / 2 ∧ ab x / p % 2 = 1))]
    simp only [if_pos c1]; exact T true
  · by_cases c2 : ab x % p = p / 2
    · simp only [if_neg c1, if_pos (show p > 1 by omega), if_pos c2]
      by_cases c3 : ab x / p % 2 = 1
      · have : (ab x / p % 2 == 1) = true := by simpa using c3
        rw [if_pos (Or.inr ⟨c2, c3⟩ : ab x % p > p / 2 ∨ (ab x % p = p / 2 ∧ ab x / p % 2 = 1))]
        simp only [this]
        exact T true
      · have : (ab x / p % 2 == 1) = false := by simpa using c3
        rw [if_neg (fun h => h.elim c1 (fun h => c3 h.2) : ¬ (ab x % p > p / 2 ∨ (ab x % p = p / 2 ∧ ab x / p % 2 = 1)))]
        simp only [this]
        exact T false
    · rw [if_neg (fun h => h.elim c1 (fun h => c2 h.1) : ¬ (ab x % p > p / 2 ∨ (ab x % p = p / 2 ∧ ab x / p % 2 = 1)))]
      simp only [if_neg c1, if_pos (show p > 1 by omega), if_neg c2]
      exact T false
theorem sg_ab {x : Int} : sg x (ab x) = x := by unfold sg ab; split <;> omega
theorem ab_mul {x p : Int} (hp : 1 ≤ p) : ab (x * p) = ab x * p := by
  unfold ab
  by_cases h : x < 0
  · have : x * p < 0 := Int.mul_neg_of_neg_of_pos h (by omega)
    rw [if_pos h, if_pos this, Int.neg_mul]
  · have : 0 ≤ x * p := Int.mul_nonneg (by omega) (by omega)
    rw [if_neg h, if_neg (by omega)]
theorem sg_mul {x p m : Int} (hp : 1 ≤ p) : sg (x * p) m = sg x m := by
  unfold sg
  by_cases h : x < 0
  · have : x * p < 0 := Int.mul_neg_of_neg_of_pos h (by omega)
    rw [if_pos h, if_pos this]
  · have : 0 ≤ x * p := Int.mul_nonneg (by omega) (by omega)
    rw [if_neg h, if_neg (by omega)]
theorem rnd_exact {a h p : Int} (hp : p = 2 * h) (h5 : 5 ≤ h) : rnd (a * p) p = a := by
  unfold rnd
  rw [Int.mul_emod_left, Int.mul_ediv_cancel a (by omega : p ≠ 0), if_neg (by omega)]
theorem rnd_near {a h p : Int} (ha : 0 ≤ a) (hp : p = 2 * h) (h5 : 5 ≤ h) : 2 * (a - rnd a p * p) ≤ p ∧ -p ≤ 2 * (a - rnd a p * p) ∧ 0 ≤ rnd a p ∧ rnd a p ≤ a + 1 := by
  have e := Int.mul_ediv_add_emod a p
  have b0 := Int.emod_nonneg a (show p ≠ 0 by omega)
  have b1 := Int.emod_lt_of_pos a (show 0 < p by omega)
  have b2 : 0 ≤ a / p := Int.ediv_nonneg ha (by omega)
  have b3 : a / p ≤ a := Int.ediv_le_self _ ha
  unfold rnd
  rw [Int.mul_comm] at e
  split
  · rw [Int.add_mul, Int.one_mul]; generalize a / p * p = z at *; omega
  · generalize a / p * p = z at *; omega
/-- The unit. -/
theorem unit_loop (s d : Nat) (hd : s + d ≤ 18) (x y : Int) (hx : Sz x) (hy : -1000000000000000000 ≤ y ∧ y ≤ 1000000000000000000) (hn : 2 * (x - y * 10 ^ d) ≤ 10 ^ d ∧ -(10 ^ d) ≤ 2 * (x - y * 10 ^ d)) :
    ∀ (e i : Nat), i + e = d → Ev (fun k => mintagelaw12_ScaledMoves.l0 k ((s + d : Nat) : Int) (bt y) (wrap64 (bt x)) (10 ^ i) ((s + i : Nat) : Int)) true := by
  intro e
  have hp := ten_le18 (i := d) (by omega)
  induction e with
  | zero =>
    intro i hi
    obtain rfl : i = d := by omega
    refine Ev.step (fun k => by simp only [mintagelaw12_ScaledMoves.l0]; rfl) ?_
    simp only [if_neg (show ¬ ((s + i : Nat) : Int) < ((s + i : Nat) : Int) by omega)]
    unfold Sz at hx
    rw [bt_wrap (x := x) (by omega), bt_wrap (x := y) (by omega)]
    generalize (10 : Int) ^ i = p at *
    generalize y * p = z at *
    rw [wrap64_id (x := z) (by omega) (by omega), wrap64_id (x := x - z) (by omega) (by omega)]
    rw [wrap64_id (x := -(x - z)) (by omega) (by omega), wrap64_id (x := 2 * -(x - z)) (by omega) (by omega), wrap64_id (x := 2 * (x - z)) (by omega) (by omega)]
    simp only [if_pos (show 2 * -(x - z) ≤ p by omega), if_pos (show 2 * (x - z) ≤ p by omega)]
    split <;> exact Ev.bind wakes_ev12 (Ev.now _)
  | succ e ih =>
    intro i hi
    refine Ev.step (fun k => by simp only [mintagelaw12_ScaledMoves.l0]; rfl) ?_
    simp only [if_pos (show ((s + i : Nat) : Int) < ((s + d : Nat) : Int) by omega)]
    have hq := ten_le18 (i := i + 1) (by omega)
    have e1 : wrap64 (10 * 10 ^ i) = 10 ^ (i + 1) := by
      rw [Int.pow_succ, Int.mul_comm] at hq
      rw [wrap64_id (by omega) (by omega), Int.pow_succ, Int.mul_comm]
    have e2 : wrap64 (((s + i : Nat) : Int) + 1) = ((s + (i + 1) : Nat) : Int) := by
      rw [wrap64_id (by omega) (by omega)]; omega
    rw [e1, e2]
    exact ih (i + 1) (by omega)
theorem moves_tail (s d : Nat) (hd : s + d ≤ 18) {x : Int} (hx : Sz x) : Ev (fun k => mintagelaw12_ScaledMoves.j1 k (s : Int) ((s + d : Nat) : Int) (bt x)) true := by
  refine Ev.step (fun k => by simp only [mintagelaw12_ScaledMoves.j1]; rfl) ?_
  have hab := ab_range hx
  have fin : ∀ y, Ev (fun k => scaled_Rescale.f k (bt x) ((s + d : Nat) : Int) (s : Int)) (bt y, 0) → (-1000000000000000000 ≤ y ∧ y ≤ 1000000000000000000) → (2 * (x - y * 10 ^ d) ≤ 10 ^ d ∧ -(10 ^ d) ≤ 2 * (x - y * 10 ^ d)) →
      Ev (fun k => (scaled_Rescale.f k (bt x) ((s + d : Nat) : Int) (s : Int)).bind fun bt335 => ((mintagelaw12_num.f bt335.2).bind fun t337 => (if t337 = 0 then (mintagelaw12_ScaledMoves.l0 k ((s + d : Nat) : Int) bt335.1 (wrap64 (bt x)) 1 (s : Int)) else (some false)))) true := by
    intro y h1 h2 h3
    refine Ev.bind h1 ?_
    simp only [num12, Option.bind_some, if_true]
    have := unit_loop s d hd x y hx h2 h3 d 0 (by omega)
    simpa using this
  by_cases h0 : d = 0
  · subst h0
    have := resc_up hx (s := s) (d := 0) (by omega)
    have hc : ab x ≤ 999999999999999999 / 10 ^ 0 := by simp; omega
    rw [if_pos hc] at this
    refine fin (x * 10 ^ 0) (by simpa using this) ?_ ?_
    · unfold Sz at hx; simp; omega
    · simp
  · obtain ⟨hh, ep, h5⟩ := ten_even (d := d) (by omega)
    have := resc_down hx (s := s) (d := d) hd (by omega)
    refine fin _ this ?_ ?_
    · have := rnd_near hab.1 ep h5
      unfold sg; split <;> omega
    · have := rnd_near hab.1 ep h5
      generalize (10 : Int) ^ d = p at *
      unfold sg ab at *
      split
      · rename_i hn
        rw [if_pos hn] at this
        rw [Int.neg_mul]; omega
      · rename_i hn
        rw [if_neg hn] at this
        omega
theorem moves_main (s d : Nat) (hd : s + d ≤ 18) {x : Int} (hx : Sz x) : Ev (fun k => mintagelaw12_ScaledMoves.j0 k (s : Int) ((s + d : Nat) : Int) (bt x)) true := by
  refine Ev.step (fun k => by simp only [mintagelaw12_ScaledMoves.j0]; rfl) ?_
  have hab := ab_range hx
  refine Ev.bind (resc_up hx hd) ?_
  have hp := ten_le18 (i := d) (by omega)
  by_cases hc : ab x ≤ 999999999999999999 / 10 ^ d
  · simp only [if_pos hc, num12, Option.bind_some, if_true]
    have hm : ab x * 10 ^ d ≤ 999999999999999999 := Int.mul_le_of_le_ediv (by omega) hc
    have ha : ab (x * 10 ^ d) = ab x * 10 ^ d := ab_mul hp.1
    have hS : Sz (x * 10 ^ d) := by
      have : 0 ≤ ab (x * 10 ^ d) := by rw [ha]; exact Int.mul_nonneg hab.1 (by omega)
      rw [← ha] at hm
      unfold Sz; unfold ab at hm; split at hm <;> omega
    -- back
    have hB : Ev (fun k => scaled_Rescale.f k (bt (x * 10 ^ d)) ((s + d : Nat) : Int) (s : Int)) (bt x, 0) := by
      by_cases h0 : d = 0
      · subst h0
        have := resc_up hS (s := s) (d := 0) (by omega)
        have hc : ab (x * 10 ^ 0) ≤ 999999999999999999 / 10 ^ 0 := by simp; omega
        rw [if_pos hc] at this
        simpa using this
      · obtain ⟨hh, ep, h5⟩ := ten_even (d := d) (by omega)
        have := resc_down hS (s := s) (d := d) hd (by omega)
        rw [ha, rnd_exact ep h5, sg_mul hp.1, sg_ab] at this
        exact this
    refine Ev.bind hB ?_
    -- the middle
    have em : wrap64 (Int.tdiv (wrap64 ((s : Int) + ((s + d : Nat) : Int))) 2) = ((s + d / 2 : Nat) : Int) := by
      rw [wrap64_id (x := (s : Int) + ((s + d : Nat) : Int)) (by omega) (by omega), Int.tdiv_eq_ediv_of_nonneg (by omega), wrap64_id (by omega) (by omega)]; omega
    simp only [em]
    obtain ⟨d2, hd2⟩ : ∃ d2, d / 2 + d2 = d := ⟨d - d / 2, by omega⟩
    have hp1 := ten_le18 (i := d / 2) (by omega)
    have hp2 := ten_le18 (i := d2) (by omega)
    have epw : (10 : Int) ^ d = 10 ^ (d / 2) * 10 ^ d2 := by rw [← Int.pow_add, hd2]
    have hm1 : ab x * 10 ^ (d / 2) ≤ 999999999999999999 := by
      have : 0 ≤ ab x * 10 ^ (d / 2) := Int.mul_nonneg hab.1 (by omega)
      have h2 := Int.mul_le_mul_of_nonneg_left hp2.1 this
      rw [Int.mul_one, Int.mul_assoc, ← epw] at h2
      omega
    have hc1 : ab x ≤ 999999999999999999 / 10 ^ (d / 2) := Int.le_ediv_of_mul_le (by omega) hm1
    have hH := resc_up hx (s := s) (d := d / 2) (by omega)
    rw [if_pos hc1] at hH
    refine Ev.bind hH ?_
    have ha1 : ab (x * 10 ^ (d / 2)) = ab x * 10 ^ (d / 2) := ab_mul hp1.1
    have hS1 : Sz (x * 10 ^ (d / 2)) := by
      have : 0 ≤ ab (x * 10 ^ (d / 2)) := by rw [ha1]; exact Int.mul_nonneg hab.1 (by omega)
      rw [← ha1] at hm1
      unfold Sz; unfold ab at hm1; split at hm1 <;> omega
    have hc2 : ab (x * 10 ^ (d / 2)) ≤ 999999999999999999 / 10 ^ d2 := by
      refine Int.le_ediv_of_mul_le (by omega) ?_
      rw [ha1, Int.mul_assoc, ← epw]; exact hm
    have hT := resc_up hS1 (s := s + d / 2) (d := d2) (by omega)
    rw [if_pos hc2, Int.mul_assoc, ← epw, show s + d / 2 + d2 = s + d by omega] at hT
    refine Ev.bind hT ?_
    simp only [num12, Option.bind_some, if_true]
    exact moves_tail s d hd hx
  · have hne : ¬ d = 0 := by rintro rfl; apply hc; simp; omega
    simp only [if_neg hc, num12, Option.bind_some, if_neg (show ¬ (123 : Int) = 0 by omega), if_true, if_neg (show ¬ (s : Int) = ((s + d : Nat) : Int) by omega)]
    exact moves_tail s d hd hx
theorem PureScaledMoves : mintagelaw12_ScaledMoves.Pure := by
  intro a b c ha hb hc
  obtain ⟨s, hs, hs18⟩ := within_ev a 18 (by omega)
  obtain ⟨r, hr, hr18⟩ := within_ev b 18 (by omega)
  obtain ⟨x, hx, ex⟩ := value_of (wf_u64b hc)
  suffices Ev (fun k => mintagelaw12_ScaledMoves.f k a b c) true from this.rounds
  unfold mintagelaw12_ScaledMoves.f
  rw [show ((18 : Nat) : Int) = 18 from rfl] at hs hr
  rw [hs, hr, ex]
  simp only [Option.bind_some]
  by_cases h : (r : Int) < (s : Int)
  · simp only [if_pos h]
    obtain ⟨d, rfl⟩ : ∃ d, s = r + d := ⟨s - r, by omega⟩
    exact moves_main r d hs18 hx
  · simp only [if_neg h]
    obtain ⟨d, rfl⟩ : ∃ d, r = s + d := ⟨r - s, by omega⟩
    exact moves_main s d hr18 hx
end Go.Proofs.Ytjefmcfkhalagaa.Dig
namespace Go.Proofs.Ytjefmcfkhalagaa.Pure
theorem ScaledMoves : Q.mintagelaw12_ScaledMoves.Pure := Dig.PureScaledMoves
end Go.Proofs.Ytjefmcfkhalagaa.Pure
