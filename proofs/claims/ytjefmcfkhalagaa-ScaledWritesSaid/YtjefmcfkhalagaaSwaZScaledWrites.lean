/- Rescale and Cmp: both sides' answers are the same. -/
import Derived.Test.YtjefmcfkhalagaaValZScaledWrites
import Derived.Test.YtjefmcfkhalagaaTenZScaledWrites
import Derived.Test.YtjefmcfkhalagaaOverZScaledWrites
import Derived.Test.YtjefmcfkhalagaaQ1ZScaledWrites
import Derived.Test.YtjefmcfkhalagaaQ0ZScaledWrites
import Derived.Test.YtjefmcfkhalagaaQ2ZScaledWrites
namespace Go.Proofs.Ytjefmcfkhalagaa.Swx
set_option linter.unusedVariables false
set_option linter.unusedSimpArgs false
open Go.Proofs.YtjefmcfkhalagaaW.PrintWords hiding bt
open Go.RowKit Go.Proofs.Ytjefmcfkhalagaa.Q Go.Proofs.YtjefmcfkhalagaaW.PrintLast Go.Proofs.YtjefmcfkhalagaaW.PrintMore Go.Proofs.Ytjefmcfkhalagaa.Dig Go.Proofs.Ytjefmcfkhalagaa.Big
theorem may_yes {n : Nat} (h : n ≤ 18) : scaled_may.f (n : Int) = some true := by
  unfold scaled_may.f
  rw [if_pos (by omega), decide_eq_true (by omega)]
theorem ten_le18 {i : Nat} (h : i ≤ 18) : (1 : Int) ≤ 10 ^ i ∧ (10 : Int) ^ i ≤ 1000000000000000000 := by
  refine ⟨Int.pow_pos (by decide), ?_⟩
  have e : (10 : Int) ^ 18 = 10 ^ i * 10 ^ (18 - i) := by rw [← Int.pow_add]; congr 1; omega
  have e2 : (10 : Int) ^ 18 = 1000000000000000000 := by rfl
  have p : (1 : Int) ≤ 10 ^ (18 - i) := Int.pow_pos (by decide)
  have q : (0 : Int) ≤ 10 ^ i := Int.le_of_lt (Int.pow_pos (by decide))
  have := Int.mul_le_mul_of_nonneg_left p q
  omega
theorem ten_even {d : Nat} (h : 1 ≤ d) : ∃ h : Int, (10 : Int) ^ d = 2 * h ∧ 5 ≤ h := by
  obtain ⟨e, rfl⟩ : ∃ e, d = e + 1 := ⟨d - 1, by omega⟩
  have : (1 : Int) ≤ 10 ^ e := Int.pow_pos (by decide)
  exact ⟨5 * 10 ^ e, by rw [Int.pow_succ]; omega, by omega⟩
theorem ab_range {x : Int} (h : Sz x) : 0 ≤ ab x ∧ ab x ≤ 999999999999999999 := by
  unfold Sz at h; unfold ab; split <;> omega
theorem resc_up {x : Int} (h : Sz x) {s d : Nat} (hd : s + d ≤ 18) :
    Ev (fun k => scaled_Rescale.f k (bt x) (s : Int) ((s + d : Nat) : Int)) (if ab x ≤ 999999999999999999 / 10 ^ d then (bt (x * 10 ^ d), 0) else (0, 123)) := by
  have hx := ab_range h
  unfold scaled_Rescale.f
  simp only [size_of h, Option.bind_some, may_yes (show s ≤ 18 by omega), may_yes hd, if_true, Bool.not_true]
  refine Ev.step (fun k => by simp only [scaled_Rescale.j0]; rfl) ?_
  have em : mx (wrap64 (((s + d : Nat) : Int) - (s : Int))) (wrap64 ((s : Int) - ((s + d : Nat) : Int))) = (d : Int) := by
    rw [wrap64_id (by omega) (by omega), wrap64_id (by omega) (by omega)]; unfold mx; split <;> omega
  simp only [Bool.false_eq_true, if_false, if_true, em]
  refine Ev.bind (ten_ev (m := d) (by omega)) ?_
  have hp := ten_le18 (i := d) (by omega)
  generalize (10 : Int) ^ d = p at *
  have e1 : Int.tdiv (999999999999999999 : Int) p = 999999999999999999 / p := Int.tdiv_eq_ediv_of_nonneg (by omega)
  have b1 : 0 ≤ 999999999999999999 / p := Int.ediv_nonneg (by omega) (by omega)
  have b2 : 999999999999999999 / p ≤ 999999999999999999 := Int.ediv_le_self _ (by omega)
  have e2 : IntKind.u64.wrap (999999999999999999 / p) = 999999999999999999 / p := by rw [w64]; omega
  simp only [if_pos (show ((s + d : Nat) : Int) ≥ (s : Int) by omega), if_neg (show ¬ p = 0 by omega), e1, e2]
  by_cases hc : ab x ≤ 999999999999999999 / p
  · have hm : ab x * p ≤ 999999999999999999 := Int.mul_le_of_le_ediv (by omega) hc
    have hm0 : 0 ≤ ab x * p := Int.mul_nonneg hx.1 (by omega)
    have ew : IntKind.u64.wrap (ab x * p) = ab x * p := by rw [w64]; omega
    simp only [if_neg (show ¬ ab x > 999999999999999999 / p by omega), if_pos hc, ew]
    by_cases hn : x < 0
    · have eab : ab x = -x := by unfold ab; rw [if_pos hn]
      have e3 : IntKind.u64.wrap (-(ab x * p)) = bt (x * p) := by
        rw [w64, eab, Int.neg_mul, Int.neg_neg]; rfl
      simp only [decide_eq_true hn, if_true, e3]; exact Ev.now _
    · have eab : ab x = x := by unfold ab; rw [if_neg hn]
      rw [eab] at hm hm0
      have e3 : ab x * p = bt (x * p) := by
        rw [eab]; unfold bt; omega
      simp only [decide_eq_false hn, Bool.false_eq_true, if_false, e3]; exact Ev.now _
  · simp only [if_pos (show ab x > 999999999999999999 / p by omega), if_neg hc]; exact Ev.now _
/-- The nearest, to the even one. -/
def rnd (a p : Int) : Int := if a % p > p / 2 ∨ (a % p = p / 2 ∧ a / p % 2 = 1) then a / p + 1 else a / p
def sg (x m : Int) : Int := if x < 0 then -m else m
theorem resc_tail {x m : Int} (h : 0 ≤ m ∧ m ≤ 1000000000000000000) (b : Bool) : Ev (fun k => scaled_Rescale.j1 k m (decide (x < 0)) b) (bt (sg x (if b = true then m + 1 else m)), 0) := by
  refine Ev.step (fun k => by simp only [scaled_Rescale.j1]; rfl) ?_
  unfold sg
  have e1 : IntKind.u64.wrap (m + 1) = m + 1 := by rw [w64]; omega
  have e2 : IntKind.u64.wrap (-(m + 1)) = bt (-(m + 1)) := w64 _
  have e3 : IntKind.u64.wrap (-m) = bt (-m) := w64 _
  have e4 : bt (m + 1) = m + 1 := by unfold bt; omega
  have e5 : bt m = m := by unfold bt; omega
  by_cases hn : x < 0
  · cases b
    · simp only [decide_eq_true hn, if_true, Bool.false_eq_true, if_false, if_pos hn, e3]; exact Ev.now _
    · simp only [decide_eq_true hn, if_true, if_pos hn, e1, e2]; exact Ev.now _
  · cases b
    · simp only [decide_eq_false hn, Bool.false_eq_true, if_false, if_neg hn, e5]; exact Ev.now _
    · simp only [decide_eq_false hn, if_true, Bool.false_eq_true, if_false, if_neg hn, e1, e4]; exact Ev.now _
theorem resc_down {x : Int} (h : Sz x) {s d : Nat} (hd : s + d ≤ 18) (h1 : 1 ≤ d) :
    Ev (fun k => scaled_Rescale.f k (bt x) ((s + d : Nat) : Int) (s : Int)) (bt (sg x (rnd (ab x) (10 ^ d))), 0) := by
  have hx := ab_range h
  unfold scaled_Rescale.f
  simp only [size_of h, Option.bind_some, may_yes (show s ≤ 18 by omega), may_yes hd, if_true, Bool.not_true]
  refine Ev.step (fun k => by simp only [scaled_Rescale.j0]; rfl) ?_
  have em : mx (wrap64 ((s : Int) - ((s + d : Nat) : Int))) (wrap64 (((s + d : Nat) : Int) - (s : Int))) = (d : Int) := by
    rw [wrap64_id (by omega) (by omega), wrap64_id (by omega) (by omega)]; unfold mx; split <;> omega
  simp only [Bool.false_eq_true, if_false, if_true, em]
  refine Ev.bind (ten_ev (m := d) (by omega)) ?_
  have hp := ten_le18 (i := d) (by omega)
  obtain ⟨hh, ep, h5⟩ := ten_even h1
  generalize (10 : Int) ^ d = p at *
  have e1 : Int.tdiv p 2 = p / 2 := Int.tdiv_eq_ediv_of_nonneg (by omega)
  have e2 : IntKind.u64.wrap (p / 2) = p / 2 := by rw [w64]; omega
  have e3 : Int.tmod (ab x) p = ab x % p := Int.tmod_eq_emod_of_nonneg hx.1
  have e4 : Int.tdiv (ab x) p = ab x / p := Int.tdiv_eq_ediv_of_nonneg hx.1
  have b1 : 0 ≤ ab x / p := Int.ediv_nonneg hx.1 (by omega)
  have b2 : ab x / p ≤ ab x := Int.ediv_le_self _ hx.1
  have e5 : IntKind.u64.wrap (ab x / p) = ab x / p := by rw [w64]; omega
  have e6 : Int.tmod (ab x / p) 2 = ab x / p % 2 := Int.tmod_eq_emod_of_nonneg b1
  simp only [if_neg (show ¬ (s : Int) ≥ ((s + d : Nat) : Int) by omega), if_neg (show ¬ p = 0 by omega), e1, e2, e3, e4, e5, e6]
  have T := fun b => resc_tail (x := x) (m := ab x / p) ⟨b1, by omega⟩ b
  unfold rnd
  by_cases c1 : ab x % p > p / 2
  · rw [if_pos (Or.inl c1 : ab x % p > p / 2 ∨ (ab x % p = p / 2 ∧ ab x / p % 2 = 1))]
    simp only [if_pos c1]; exact T true
  · by_cases c2 : ab x % p = p / 2
    · simp only [if_neg c1, if_pos (show p > 1 by omega), if_pos c2]
      by_cases c3 : ab x / p % 2 = 1
      · have : (ab x / p % 2 == 1) = true := by simpa using c3
        rw [if_pos (Or.inr ⟨c2, c3⟩ : ab x % p > p / 2 ∨ (ab x % p = p / 2 ∧ ab x / p % 2 = 1))]
        simp only [this]
        exact T true
      · have : (ab x / p % 2 == 1) = false := by simpa using c3
        rw [if_neg (fun h => h.elim c1 (fun h => c3 h.2) : ¬ (ab x % p > p / 2 ∨ (ab x % p = p / 2 ∧ ab x / p % 2 = 1)))]
        simp only [this]
        exact T false
    · rw [if_neg (fun h => h.elim c1 (fun h => c2 h.1) : ¬ (ab x % p > p / 2 ∨ (ab x % p = p / 2 ∧ ab x / p % 2 = 1)))]
      simp only [if_neg c1, if_pos (show p > 1 by omega), if_neg c2]
      exact T false
/-! ### the document -/
theorem p10_len (i : Nat) : (dig (10 ^ i)).length ≤ i + 1 := dig_len (by
  rw [Nat.pow_succ]
  have h1 : 10 ^ i ≤ 65536 ^ i := Nat.pow_le_pow_left (by decide) i
  have h2 : 0 < 65536 ^ i := Nat.pow_pos (by decide)
  omega)
theorem rten {n : Nat} (hn : n ≤ 100) : Ev (fun k => mintageref02_Ten.f k (n : Int)) (dig (10 ^ n)) := by
  have go : ∀ d i : Nat, i + d = n → Ev (fun k => mintageref02_Ten.l0 k (n : Int) (dig (10 ^ i)) (i : Int)) (dig (10 ^ n)) := by
    intro d
    induction d with
    | zero =>
      intro i hi
      obtain rfl : i = n := by omega
      refine Ev.step (fun k => by simp only [mintageref02_Ten.l0]; rw [if_neg (by omega)]) (Ev.now _)
    | succ d ih =>
      intro i hi
      have hl := p10_len i
      have e10 : ([10] : List Int) = dig 10 := (dig_small (by decide) (by decide)).symm
      have l10 : (dig 10).length ≤ 1 := dig_len (by decide)
      have p := prod_ev (a := 10 ^ i) (b := 10) (by omega) (by omega)
      have hlt : (i : Int) < (n : Int) := by omega
      have hw : wrap64 ((i : Int) + 1) = ((i + 1 : Nat) : Int) := by rw [wrap64_id (by omega) (by omega)]; omega
      refine Ev.step (fun k => by simp only [mintageref02_Ten.l0, if_pos hlt, hw, e10]; rfl) ?_
      refine Ev.bind p ?_
      rw [← Nat.pow_succ]
      exact ih (i + 1) (by omega)
  have := go n 0 (by omega)
  have e1 : dig (10 ^ 0) = [1] := dig_small (by decide) (by decide)
  rw [e1] at this
  unfold mintageref02_Ten.f
  exact this
def bv (neg : Bool) (Q : Nat) : Int := if neg = true then IntKind.u64.wrap (-(Q : Int)) else Q
theorem bits_ok (neg : Bool) (Q : Nat) : mintageref12_bits.f neg (Q : Int) = some (bv neg Q) := by
  unfold mintageref12_bits.f bv; cases neg <;> rfl
def rs (neg : Bool) (Q : Nat) : Int × Int := if Q > 999999999999999999 then (0, 123) else (bv neg Q, 0)
theorem j2_ev (neg : Bool) {Q : Nat} (hQ : (dig Q).length ≤ 1000) : Ev (fun k => mintageref12_Rescale.j2 k neg (dig Q)) (rs neg Q) := by
  have hm : (dig 999999999999999999).length ≤ 4 := dig_len (by decide)
  have n1 := num1_ev (w := 999999999999999999) (by decide) (by decide)
  have c1 := Big.cmp_ev (a := Q) (b := 999999999999999999) (by unfold Sm; omega) (by unfold Sm; omega)
  obtain ⟨cc, hc, hcc⟩ : ∃ cc : Int, Ev (fun k => mintageref01_Cmp.f k (dig Q) (dig 999999999999999999)) cc ∧ (cc > 0 ↔ Q > 999999999999999999) := by
    refine ⟨_, c1, ?_⟩
    by_cases q : Q < 999999999999999999
    · rw [if_pos q]; exact ⟨fun x => absurd x (by decide), fun x => by omega⟩
    · rw [if_neg q]
      by_cases q2 : Q > 999999999999999999
      · rw [if_pos q2]; exact ⟨fun _ => q2, fun _ => by decide⟩
      · rw [if_neg q2]; exact ⟨fun x => absurd x (by decide), fun x => absurd x q2⟩
  refine Ev.step (fun k => by simp only [mintageref12_Rescale.j2]; rfl) ?_
  refine Ev.bind n1 ?_
  rw [show (999999999999999999 : Int).toNat = 999999999999999999 from rfl]
  refine Ev.bind hc ?_
  unfold rs
  by_cases hgt : Q > 999999999999999999
  · simp only [if_pos (hcc.2 hgt), if_pos hgt]
    exact Ev.now _
  · simp only [if_neg (fun q => hgt (hcc.1 q)), if_neg hgt]
    refine Ev.bind (words_ev (a := Q) (by unfold Sm; omega)) ?_
    have hw := wrd_len Q
    have hr := rd_wrd 0 Q 1
    have er : rd (wrd Q ++ [0]) 0 = (Q : Int) := by
      refine hr.trans ?_
      simp only [Nat.pow_zero, Nat.div_one]
      rw [Nat.mod_eq_of_lt (by omega)]
    have hl : (wrd Q ++ ([0] : List Int)).length = (wrd Q).length + 1 := by simp
    simp only [if_pos (show (wrd Q).length < 17592186044416 by omega), Option.bind_some, if_pos (show (0 : Int) < ((wrd Q ++ ([0] : List Int)).length : Int) by omega), er, bits_ok]
    exact Ev.now _
theorem j1_ev (neg up : Bool) {Q : Nat} (hQ : (dig Q).length ≤ 900) : Ev (fun k => mintageref12_Rescale.j1 k neg (dig Q) up) (rs neg (if up = true then Q + 1 else Q)) := by
  refine Ev.step (fun k => by simp only [mintageref12_Rescale.j1]; rfl) ?_
  cases up
  · simp only [Bool.false_eq_true, if_false]
    exact j2_ev neg (by omega)
  · simp only [if_true]
    have e1 : ([1] : List Int) = dig 1 := (dig_small (by decide) (by decide)).symm
    have l1 : (dig 1).length ≤ 1 := dig_len (by decide)
    have s2 := sum_ev (a := Q) (b := 1) (by unfold Sm; omega) (by unfold Sm; omega)
    have l2 := dig_twice (x := Q + 1) (y := Q) (by omega)
    rw [e1]
    refine Ev.bind s2 ?_
    exact j2_ev neg (by omega)
/-- Half up, to the even one. -/
def up (q r d : Nat) : Bool := decide (d < 2 * r ∨ (2 * r = d ∧ q % 2 = 1))
theorem sok {n : Nat} (h : n ≤ 18) : mintageref12_scaleOK.f (n : Int) = some true := by
  unfold mintageref12_scaleOK.f
  rw [if_pos (by omega), decide_eq_true (by omega)]
theorem fits_bt {x : Int} (h : Sz x) : mintageref12_Fits.f (bt x) = some (true, decide (x < 0), ab x) := by
  unfold Sz at h
  unfold mintageref12_Fits.f
  rw [w64]
  unfold ab bt
  by_cases hx : x < 0
  · rw [if_neg (by omega), if_pos hx, decide_eq_true hx]
    have e : -(x % 18446744073709551616) % 18446744073709551616 = -x := by omega
    rw [e, decide_eq_true (by omega)]
  · rw [if_pos (by omega), if_neg hx, decide_eq_false hx]
    have e : x % 18446744073709551616 = x := by omega
    rw [e]
theorem ten18 {n : Nat} (h : n ≤ 18) : 10 ^ n ≤ 1000000000000000000 := by
  have : (10 : Nat) ^ n ≤ 10 ^ 18 := Nat.pow_le_pow_right (by decide) h
  exact this
theorem odd_dig {q : Nat} (h : q ≠ 0) : (Int.tmod (rd (dig q) 0) 2 == 1) = decide (q % 2 = 1) := by
  have e : rd (dig q) 0 = ((q % 65536 : Nat) : Int) := by rw [dig_pos h]; rfl
  rw [e, Int.tmod_eq_emod_of_nonneg (Int.natCast_nonneg _)]
  by_cases q1 : q % 2 = 1
  · rw [decide_eq_true q1, beq_iff_eq]; omega
  · rw [decide_eq_false q1, beq_eq_false_iff_ne]; omega
/-- The document's Rescale, of a number that may be. -/
def rq (X a b : Nat) : Nat := if up (X * 10 ^ b / 10 ^ a) (X * 10 ^ b % 10 ^ a) (10 ^ a) = true then X * 10 ^ b / 10 ^ a + 1 else X * 10 ^ b / 10 ^ a
theorem rresc {x : Int} (hx : Sz x) {a b : Nat} (ha : a ≤ 18) (hb : b ≤ 18) : Ev (fun k => mintageref12_Rescale.f k (bt x) (a : Int) (b : Int)) (rs (decide (x < 0)) (rq (ab x).toNat a b)) := by
  have hr := ab_range hx
  unfold mintageref12_Rescale.f
  simp only [sok ha, sok hb, Option.bind_some, if_true, Bool.not_true]
  refine Ev.step (fun k => by simp only [mintageref12_Rescale.j0]; rfl) ?_
  simp only [Bool.false_eq_true, if_false, fits_bt hx, Option.bind_some, if_true]
  refine Ev.bind (num1_ev hr.1 (by omega)) ?_
  refine Ev.bind (rten (n := b) (by omega)) ?_
  have hX : (ab x).toNat ≤ 1000000000000000000 := by omega
  generalize (ab x).toNat = X at hX ⊢
  have t1 := ten18 ha
  have t2 := ten18 hb
  have hd : 0 < 10 ^ a := Nat.pow_pos (by decide)
  have hN : X * 10 ^ b ≤ 1000000000000000000 * 1000000000000000000 := Nat.mul_le_mul hX t2
  have lx : (dig X).length ≤ 40 := dig_len (Nat.lt_of_le_of_lt hX (by decide))
  have lb : (dig (10 ^ b)).length ≤ 40 := dig_len (Nat.lt_of_le_of_lt t2 (by decide))
  have la : (dig (10 ^ a)).length ≤ 40 := dig_len (Nat.lt_of_le_of_lt t1 (by decide))
  have ln : (dig (X * 10 ^ b)).length ≤ 40 := dig_len (Nat.lt_of_le_of_lt hN (by decide))
  refine Ev.bind (prod_ev (by omega) (by omega)) ?_
  refine Ev.bind (rten (n := a) (by omega)) ?_
  refine Ev.bind (over_ev hd (by omega) (by omega)) ?_
  unfold rq
  have hq : X * 10 ^ b / 10 ^ a ≤ X * 10 ^ b := Nat.div_le_self _ _
  have hrd : X * 10 ^ b % 10 ^ a < 10 ^ a := Nat.mod_lt _ hd
  generalize X * 10 ^ b / 10 ^ a = q at hq ⊢
  generalize X * 10 ^ b % 10 ^ a = r at hrd ⊢
  generalize X * 10 ^ b = N at hN hq
  generalize 10 ^ a = d at hd hrd t1 la ⊢
  clear t2 lb
  have lq : (dig q).length ≤ 40 := dig_len (Nat.lt_of_le_of_lt (Nat.le_trans hq hN) (by decide))
  have lr : (dig r).length ≤ 40 := dig_len (Nat.lt_of_le_of_lt (show r ≤ 1000000000000000000 by omega) (by decide))
  have lr2 : (dig (r + r)).length ≤ 40 := dig_len (Nat.lt_of_le_of_lt (show r + r ≤ 2000000000000000000 by omega) (by decide))
  refine Ev.bind (sum_ev (by unfold Sm; omega) (by unfold Sm; omega)) ?_
  have c1 := Big.cmp_ev (a := r + r) (b := d) (by unfold Sm; omega) (by unfold Sm; omega)
  refine Ev.bind c1 ?_
  have T := fun u => j1_ev (decide (x < 0)) u (Q := q) (by omega)
  unfold up
  by_cases h1 : r + r < d
  · simp only [if_pos h1, if_neg (show ¬ ((-1 : Int) > 0) by decide), if_neg (show ¬ ((-1 : Int) = 0) by decide)]
    rw [decide_eq_false (show ¬ (d < 2 * r ∨ (2 * r = d ∧ q % 2 = 1)) by omega)]
    exact T false
  · by_cases h2 : r + r > d
    · simp only [if_neg h1, if_pos h2, if_pos (show ((1 : Int) > 0) by decide)]
      rw [decide_eq_true (show (d < 2 * r ∨ (2 * r = d ∧ q % 2 = 1)) by omega)]
      exact T true
    · simp only [if_neg h1, if_neg h2, if_neg (show ¬ ((0 : Int) > 0) by decide), if_true]
      by_cases h3 : q = 0
      · have e0 : (dig q).length = 0 := by rw [h3, dig_zero]; rfl
        simp only [if_neg (show ¬ (((dig q).length : Int) > 0) by omega)]
        rw [decide_eq_false (show ¬ (d < 2 * r ∨ (2 * r = d ∧ q % 2 = 1)) by omega)]
        exact T false
      · have e0 : 0 < (dig q).length := List.length_pos_iff.2 (fun e => h3 (dig_eq_nil.1 e))
        simp only [if_pos (show (((dig q).length : Int) > 0) by omega), if_pos (show (0 < ((dig q).length : Int)) by omega), odd_dig h3]
        have e1 : decide (d < 2 * r ∨ (2 * r = d ∧ q % 2 = 1)) = decide (q % 2 = 1) := by congr 1; apply propext; omega
        rw [e1]
        exact T _
theorem bv_bt {x : Int} {Q : Nat} (h : Q ≤ 999999999999999999) : bv (decide (x < 0)) Q = bt (sg x (Q : Int)) := by
  unfold bv sg
  by_cases hx : x < 0
  · rw [decide_eq_true hx, if_pos rfl, if_pos hx, w64]; rfl
  · rw [decide_eq_false hx, if_neg (by decide), if_neg hx]; unfold bt; omega
theorem rq_up {X a d : Nat} : rq X a (a + d) = X * 10 ^ d := by
  have hp : 0 < 10 ^ a := Nat.pow_pos (by decide)
  have e : X * 10 ^ (a + d) = 10 ^ a * (X * 10 ^ d) := by rw [Nat.pow_add, Nat.mul_left_comm]
  unfold rq
  rw [e, Nat.mul_div_cancel_left _ hp, Nat.mul_mod_right]
  have : up (X * 10 ^ d) 0 (10 ^ a) = false := by
    unfold up
    rw [decide_eq_false_iff_not]; omega
  rw [this]; simp
theorem rq_down {X b d : Nat} (h1 : 1 ≤ d) : (rq X (b + d) b : Int) = rnd (X : Int) (10 ^ d) := by
  have hp : 0 < 10 ^ b := Nat.pow_pos (by decide)
  have hpd : 0 < 10 ^ d := Nat.pow_pos (by decide)
  have e1 : X * 10 ^ b / 10 ^ (b + d) = X / 10 ^ d := by rw [Nat.pow_add, Nat.mul_comm (10 ^ b) (10 ^ d), Nat.mul_div_mul_right _ _ hp]
  have e2 : X * 10 ^ b % 10 ^ (b + d) = X % 10 ^ d * 10 ^ b := by rw [Nat.pow_add, Nat.mul_comm (10 ^ b) (10 ^ d), Nat.mul_mod_mul_right]
  obtain ⟨e, rfl⟩ : ∃ e, d = e + 1 := ⟨d - 1, by omega⟩
  have e4 : ((10 : Int) ^ (e + 1)) = ((10 ^ (e + 1) : Nat) : Int) := by simp
  have e5 : up (X / 10 ^ (e + 1)) (X % 10 ^ (e + 1) * 10 ^ b) (10 ^ (b + (e + 1))) = decide (10 ^ (e + 1) < 2 * (X % 10 ^ (e + 1)) ∨ (2 * (X % 10 ^ (e + 1)) = 10 ^ (e + 1) ∧ X / 10 ^ (e + 1) % 2 = 1)) := by
    unfold up
    congr 1
    have e3 : 2 * (X % 10 ^ (e + 1) * 10 ^ b) = 2 * (X % 10 ^ (e + 1)) * 10 ^ b := by rw [Nat.mul_assoc]
    rw [e3, Nat.pow_add, Nat.mul_comm (10 ^ b)]
    apply propext
    constructor
    · rintro (h | ⟨h, h'⟩)
      · exact .inl (Nat.lt_of_mul_lt_mul_right h)
      · exact .inr ⟨Nat.eq_of_mul_eq_mul_right hp h, h'⟩
    · rintro (h | ⟨h, h'⟩)
      · exact .inl (Nat.mul_lt_mul_of_pos_right h hp)
      · exact .inr ⟨by rw [h], h'⟩
  unfold rq
  rw [e1, e2, e5, e4]
  have ev : 10 ^ (e + 1) = 2 * (5 * 10 ^ e) := by rw [Nat.pow_succ]; omega
  have hpe : 0 < 10 ^ e := Nat.pow_pos (by decide)
  generalize 5 * 10 ^ e = h at ev
  rw [ev] at hpd ⊢
  unfold rnd
  have q1 : ((X : Int) % ((2 * h : Nat) : Int)) = ((X % (2 * h) : Nat) : Int) := by simp
  have q2 : ((X : Int) / ((2 * h : Nat) : Int)) = ((X / (2 * h) : Nat) : Int) := by simp
  rw [q1, q2]
  generalize X % (2 * h) = r
  generalize X / (2 * h) = q
  by_cases c : 2 * h < 2 * r ∨ (2 * r = 2 * h ∧ q % 2 = 1)
  · rw [decide_eq_true c, if_pos rfl, if_pos (by omega)]; simp
  · rw [decide_eq_false c, if_neg (by decide), if_neg (by omega)]
theorem szor (b : Int) (h : 0 ≤ b ∧ b < 18446744073709551616) : (∃ x, Sz x ∧ b = bt x) ∨ ((∃ v n, scaled_size.f b = some (v, n, false)) ∧ (∃ v n, mintageref12_Fits.f b = some (false, n, v))) := by
  by_cases h1 : b ≤ 999999999999999999
  · exact .inl ⟨b, by unfold Sz; omega, by unfold bt; omega⟩
  · by_cases h2 : 18446744073709551616 - 999999999999999999 ≤ b
    · exact .inl ⟨b - 18446744073709551616, by unfold Sz; omega, by unfold bt; omega⟩
    · right
      have e1 : IntKind.u64.wrap (-b) = 18446744073709551616 - b := by rw [w64]; omega
      constructor
      · unfold scaled_size.f
        by_cases h3 : wrap64 b < 0
        · refine ⟨IntKind.u64.wrap (-b), decide (wrap64 b < 0), ?_⟩
          rw [if_pos h3, e1, decide_eq_false (show ¬ 18446744073709551616 - b ≤ 999999999999999999 by omega)]
        · refine ⟨b, decide (wrap64 b < 0), ?_⟩
          rw [if_neg h3, decide_eq_false (show ¬ b ≤ 999999999999999999 by omega)]
      · unfold mintageref12_Fits.f
        refine ⟨IntKind.u64.wrap (-b), true, ?_⟩
        rw [if_neg h1, e1, decide_eq_false (show ¬ 18446744073709551616 - b ≤ 999999999999999999 by omega)]
theorem may_is (a : Int) : scaled_may.f a = some (decide (0 ≤ a ∧ a ≤ 18)) ∧ mintageref12_scaleOK.f a = some (decide (0 ≤ a ∧ a ≤ 18)) := by
  unfold scaled_may.f mintageref12_scaleOK.f
  by_cases h : a ≥ 0
  · rw [if_pos h]
    have : decide (a ≤ 18) = decide (0 ≤ a ∧ a ≤ 18) := by congr 1; apply propext; omega
    rw [this]; exact ⟨rfl, rfl⟩
  · rw [if_neg h, decide_eq_false (show ¬ (0 ≤ a ∧ a ≤ 18) by omega)]; exact ⟨rfl, rfl⟩
theorem size_any (b : Int) : ∃ v n o, scaled_size.f b = some (v, n, o) := by
  unfold scaled_size.f
  split <;> exact ⟨_, _, _, rfl⟩
theorem resc_same {b : Int} (h : 0 ≤ b ∧ b < 18446744073709551616) (s r : Int) : ∃ v, Ev (fun k => scaled_Rescale.f k b s r) v ∧ Ev (fun k => mintageref12_Rescale.f k b s r) v := by
  by_cases hs : 0 ≤ s ∧ s ≤ 18
  · by_cases hr : 0 ≤ r ∧ r ≤ 18
    · rcases szor b h with ⟨x, hx, rfl⟩ | ⟨⟨v, n, e1⟩, ⟨v', n', e2⟩⟩
      · obtain ⟨a, rfl⟩ := Int.eq_ofNat_of_zero_le hs.1
        obtain ⟨c, rfl⟩ := Int.eq_ofNat_of_zero_le hr.1
        have hR := rresc hx (a := a) (b := c) (by omega) (by omega)
        have ha := ab_range hx
        have eX : ((ab x).toNat : Int) = ab x := by omega
        by_cases hac : a ≤ c
        · obtain ⟨d, rfl⟩ : ∃ d, c = a + d := ⟨c - a, by omega⟩
          refine ⟨_, resc_up hx (s := a) (d := d) (by omega), ?_⟩
          rw [rq_up] at hR
          have hp := ten_le18 (i := d) (by omega)
          have ep : ((10 ^ d : Nat) : Int) = 10 ^ d := by simp
          have eM : (((ab x).toNat * 10 ^ d : Nat) : Int) = ab x * 10 ^ d := by rw [Int.natCast_mul, eX, ep]
          unfold rs at hR
          by_cases hc : ab x ≤ 999999999999999999 / 10 ^ d
          · have hm : ab x * 10 ^ d ≤ 999999999999999999 := Int.mul_le_of_le_ediv (by omega) hc
            have hle : (ab x).toNat * 10 ^ d ≤ 999999999999999999 := by omega
            rw [if_neg (by omega), bv_bt hle, eM] at hR
            rw [if_pos hc]
            have e3 : sg x (ab x * 10 ^ d) = x * 10 ^ d := by
              unfold sg ab
              by_cases hn : x < 0
              · rw [if_pos hn, if_pos hn, Int.neg_mul, Int.neg_neg]
              · rw [if_neg hn, if_neg hn]
            rw [e3] at hR
            exact hR
          · have hm : ¬ ab x * 10 ^ d ≤ 999999999999999999 := fun q => hc (Int.le_ediv_of_mul_le (by omega) q)
            rw [if_pos (by omega)] at hR
            rw [if_neg hc]
            exact hR
        · obtain ⟨d, rfl⟩ : ∃ d, a = c + d := ⟨a - c, by omega⟩
          refine ⟨_, resc_down hx (s := c) (d := d) (by omega) (by omega), ?_⟩
          have e := rq_down (X := (ab x).toNat) (b := c) (d := d) (by omega)
          rw [eX] at e
          have hp := ten_le18 (i := d) (by omega)
          obtain ⟨hh, ev, h5⟩ := ten_even (d := d) (by omega)
          have hb : rnd (ab x) (10 ^ d) ≤ 999999999999999999 := by
            have b1 : 0 ≤ ab x / 10 ^ d := Int.ediv_nonneg ha.1 (by omega)
            have b2 : ab x / 10 ^ d ≤ ab x / 2 := by
              rw [ev]
              rw [← Int.ediv_ediv_of_nonneg (by omega)]
              exact Int.ediv_le_self _ (by omega)
            unfold rnd
            split <;> omega
          have hle : rq (ab x).toNat (c + d) c ≤ 999999999999999999 := by omega
          unfold rs at hR
          rw [if_neg (by omega), bv_bt hle, e] at hR
          exact hR
      · refine ⟨(0, 123), ?_, ?_⟩
        · unfold scaled_Rescale.f
          simp only [e1, (may_is s).1, (may_is r).1, Option.bind_some, decide_eq_true hs, decide_eq_true hr, if_true, Bool.not_true]
          refine Ev.step (fun k => by simp only [scaled_Rescale.j0]; rfl) ?_
          simp only [Bool.false_eq_true, if_false]
          exact Ev.now _
        · unfold mintageref12_Rescale.f
          simp only [(may_is s).2, (may_is r).2, Option.bind_some, decide_eq_true hs, decide_eq_true hr, if_true, Bool.not_true]
          refine Ev.step (fun k => by simp only [mintageref12_Rescale.j0]; rfl) ?_
          simp only [Bool.false_eq_true, if_false, e2, Option.bind_some]
          exact Ev.now _
    · refine ⟨(0, 120), ?_, ?_⟩
      · obtain ⟨v, n, o, e⟩ := size_any b
        unfold scaled_Rescale.f
        simp only [e, (may_is s).1, (may_is r).1, Option.bind_some, decide_eq_true hs, decide_eq_false hr, if_true, Bool.not_false]
        refine Ev.step (fun k => by simp only [scaled_Rescale.j0]; rfl) ?_
        simp only [if_true]
        exact Ev.now _
      · unfold mintageref12_Rescale.f
        simp only [(may_is s).2, (may_is r).2, Option.bind_some, decide_eq_true hs, decide_eq_false hr, if_true, Bool.not_false]
        refine Ev.step (fun k => by simp only [mintageref12_Rescale.j0]; rfl) ?_
        simp only [if_true]
        exact Ev.now _
  · refine ⟨(0, 120), ?_, ?_⟩
    · obtain ⟨v, n, o, e⟩ := size_any b
      unfold scaled_Rescale.f
      simp only [e, (may_is s).1, Option.bind_some, decide_eq_false hs, Bool.false_eq_true, if_false]
      refine Ev.step (fun k => by simp only [scaled_Rescale.j0]; rfl) ?_
      simp only [if_true]
      exact Ev.now _
    · unfold mintageref12_Rescale.f
      simp only [(may_is s).2, Option.bind_some, decide_eq_false hs, Bool.false_eq_true, if_false]
      refine Ev.step (fun k => by simp only [mintageref12_Rescale.j0]; rfl) ?_
      simp only [if_true]
      exact Ev.now _
end Go.Proofs.Ytjefmcfkhalagaa.Swx
