/- The printed functions of mintageref01 on canonical digits: Small, Right. -/
import Derived.Test.YtfdcanemmaemmaaBigbZWideShifts
import Derived.Test.YtfdcanemmaemmaaQ2ZWideShifts
namespace Go.Proofs.Ytfdcanemmaemmaa.Big
set_option linter.unusedVariables false
open Go.RowKit Go.Proofs.Ytfdcanemmaemmaa.Q Go.Proofs.YtfdcanemmaemmaaW.PrintWords Go.Proofs.YtfdcanemmaemmaaW.PrintLast

theorem rep_set (n : Nat) (q : List Int) (y : Int) : (List.replicate (n + 1) 0 ++ q).set n y = List.replicate n 0 ++ y :: q := by
  rw [List.replicate_succ', List.append_assoc, List.singleton_append]
  simp
theorem small_loop {l : List Int} (hd : Dg l) (hs : Sm l) {d : Int} (h1 : 1 ≤ d) (h2 : d ≤ 65535) : ∀ (n : Nat) (q : List Int) (r : Int), n + q.length = l.length → Dg q → val q = val (l.drop n) / d → r = val (l.drop n) % d →
    Ev (fun k => mintageref01_Small.l0 k l d (List.replicate n 0 ++ q) r ((n : Int) - 1)) (dig (val l / d).toNat, val l % d)
  | 0, q, r, hl, hq, hv, hr => by
    refine Ev.step (fun k => by simp only [mintageref01_Small.l0]; rw [if_neg (by omega)]) ?_
    simp only [List.drop_zero] at hv hr
    simp only [List.replicate_zero, List.nil_append]
    refine Ev.bind (trim_ev hq (by unfold Sm at *; omega)) ?_
    rw [hv, hr]; exact Ev.now _
  | n + 1, q, r, hl, hq, hv, hr => by
    have hn : n < l.length := by omega
    have hx := hd.rd (n : Int)
    have hV := val_nonneg (hd.drop (n + 1))
    have hr0 : 0 ≤ r ∧ r < d := by rw [hr]; exact ⟨Int.emod_nonneg _ (by omega), Int.emod_lt_of_pos _ (by omega)⟩
    have ed := val_drop1 n hd
    have e0 : ((n + 1 : Nat) : Int) - 1 = (n : Int) := by omega
    have hb : 0 ≤ r * 65536 + rd l (n : Int) ∧ r * 65536 + rd l (n : Int) < 65536 * d := by
      constructor
      · have := hr0.1; omega
      · have := hr0.2; omega
    have hb2 : r * 65536 + rd l (n : Int) < 65536 * 65536 := by omega
    have w1 := wid (x := r * 65536) (by omega) (by omega)
    have w2 := wid (x := r * 65536 + rd l (n : Int)) (by omega) (by omega)
    have q0 : 0 ≤ (r * 65536 + rd l (n : Int)) / d := Int.ediv_nonneg hb.1 (by omega)
    have q1 : (r * 65536 + rd l (n : Int)) / d < 65536 := Int.ediv_lt_of_lt_mul (by omega) hb.2
    have w3 := wid (x := (r * 65536 + rd l (n : Int)) / d) (by omega) (by omega)
    have w4 := wid (x := (n : Int) - 1) (by omega) (by omega)
    have c1 : (n : Int) ≥ 0 := by omega
    have c2 : (n : Int) < (l.length : Int) := by omega
    have c3 : ¬ d = 0 := by omega
    have c4 : (n : Int) < ((List.replicate (n + 1) 0 ++ q).length : Int) := by simp; omega
    have t1 := td (x := r * 65536 + rd l (n : Int)) (y := d) hb.1
    have t2 := tm (x := r * 65536 + rd l (n : Int)) (y := d) hb.1
    rw [e0]
    refine Ev.step (fun k => by simp only [mintageref01_Small.l0]; rw [if_pos c1, if_pos c1, if_pos c2, if_neg c3, if_pos c4, w1, w2, t1, t2, w3, w4, Int.toNat_natCast, rep_set]) ?_
    have hV' : val (l.drop n) = r * 65536 + rd l (n : Int) + d * (65536 * (val (l.drop (n + 1)) / d)) := by
      have := Int.emod_add_mul_ediv (val (l.drop (n + 1))) d
      rw [← hr] at this
      rw [ed]; grind
    refine small_loop hd hs h1 h2 n ((r * 65536 + rd l (n : Int)) / d :: q) _ (by simp only [List.length_cons]; omega) (Dg.cons q0 q1 hq) ?_ ?_
    · rw [hV', Int.add_mul_ediv_left _ _ (by omega)]
      simp only [val]; rw [hv]
    · rw [hV', Int.add_mul_emod_self_left]
theorem small_ev {l : List Int} (hd : Dg l) (hs : Sm l) {d : Int} (h1 : 1 ≤ d) (h2 : d ≤ 65535) : Ev (fun k => mintageref01_Small.f k l d) (dig (val l / d).toNat, val l % d) := by
  have h := small_loop hd hs h1 h2 l.length [] 0 (by simp) Dg.nil (by rw [List.drop_length]; simp [val]) (by rw [List.drop_length]; simp [val])
  rw [List.append_nil] at h
  unfold Sm at hs
  refine Ev.congr (fun k => by unfold mintageref01_Small.f; rw [if_pos (by omega), Int.toNat_natCast, if_pos (by omega), wid (by omega) (by omega)]) h

theorem val_take_succ {l : List Int} {i : Nat} (h : i < l.length) : val (l.take (i + 1)) = val (l.take i) + 65536 ^ i * rd l (i : Int) := by
  rw [take_at h, val_append]
  simp only [val, List.length_take]
  rw [Nat.min_eq_left (by omega)]
  simp
theorem pow16 (q : Nat) : (65536 : Int) ^ q = 2 ^ (16 * q) := by rw [Int.pow_mul]; rfl
theorem val_split (l : List Int) (q : Nat) (h : q ≤ l.length) : val l = val (l.take q) + 65536 ^ q * val (l.drop q) := by
  have := val_append (l.take q) (l.drop q)
  rw [List.take_append_drop, List.length_take, Nat.min_eq_left h] at this
  exact this
theorem right_loop {l : List Int} (hd : Dg l) (hs : Sm l) {n : Nat} (hn : n / 16 ≤ l.length) : ∀ (j i : Nat), i + j = n / 16 →
    Ev (fun k => mintageref01_Right.l0 k l (n : Int) (decide (val (l.take i) ≠ 0)) (i : Int)) (dig (val l / 2 ^ n).toNat, decide (val l % 2 ^ n ≠ 0))
  | 0, i, hi => by
    have hi' : i = n / 16 := by omega
    have hs' : l.length ≤ 10000000 := hs
    have e1 : wrap64 (Int.tdiv (n : Int) 16) = ((n / 16 : Nat) : Int) := by rw [td (by omega), wid (by omega) (by omega)]; omega
    have e2 : Int.tmod (n : Int) 16 = ((n % 16 : Nat) : Int) := by rw [tm (by omega)]; omega
    refine Ev.step (fun k => by simp only [mintageref01_Right.l0]; rw [e1, e2, if_neg (by omega), if_pos (by omega), if_pos (by omega), Int.toNat_natCast]) ?_
    refine Ev.bind (two_ev (n := n % 16) (by omega)) ?_
    have hp : 2 ^ (n % 16) ≤ 2 ^ 15 := Nat.pow_le_pow_right (by decide) (by omega)
    have hp' : (2 : Nat) ^ 15 = 32768 := rfl
    have hp0 : 0 < 2 ^ (n % 16) := Nat.pow_pos (by decide)
    have hs2 : Sm (l.drop (n / 16)) := by unfold Sm; simp; omega
    have hcast : ((2 ^ (n % 16) : Nat) : Int) = 2 ^ (n % 16) := by simp
    refine Ev.bind (small_ev (hd.drop _) hs2 (d := ((2 ^ (n % 16) : Nat) : Int)) (by omega) (by omega)) ?_
    rw [hcast]
    have hsp := val_split l (n / 16) hn
    have hlow0 := val_nonneg (hd.take (n / 16))
    have hlow1 := val_lt (hd.take (n / 16))
    rw [List.length_take, Nat.min_eq_left hn] at hlow1
    have hB := val_nonneg (hd.drop (n / 16))
    have hP : (0 : Int) < 65536 ^ (n / 16) := Int.pow_pos (by decide)
    have hD : (0 : Int) < 2 ^ (n % 16) := Int.pow_pos (by decide)
    have epow : (2 : Int) ^ n = 65536 ^ (n / 16) * 2 ^ (n % 16) := by
      rw [pow16, ← Int.pow_add]; congr 1; omega
    subst hi'
    generalize val (l.take (n / 16)) = low at *
    generalize val (l.drop (n / 16)) = B at *
    generalize (65536 : Int) ^ (n / 16) = P at *
    generalize (2 : Int) ^ (n % 16) = D at *
    have ediv : val l / 2 ^ n = B / D := by
      rw [epow, hsp, ← Int.ediv_ediv_of_nonneg (Int.le_of_lt hP), Int.add_mul_ediv_left _ _ (by omega), Int.ediv_eq_zero_of_lt hlow0 hlow1, Int.zero_add]
    have emod : val l % 2 ^ n = low + P * (B % D) := by
      have h1 := Int.emod_add_mul_ediv (val l) (2 ^ n)
      rw [ediv, epow] at h1
      have h2 := Int.emod_add_mul_ediv B D
      rw [epow]
      have : P * D * (B / D) = P * (D * (B / D)) := by grind
      rw [this, show D * (B / D) = B - B % D from by omega] at h1
      rw [Int.mul_sub] at h1
      omega
    have hm0 : 0 ≤ B % D := Int.emod_nonneg _ (by omega)
    have hm1 : 0 ≤ P * (B % D) := Int.mul_nonneg (Int.le_of_lt hP) hm0
    by_cases hl : low = 0
    · have d0 : decide (low ≠ 0) = false := decide_eq_false (by simpa using hl)
      simp only [d0, Bool.false_eq_true, if_false]
      rw [ediv, emod, hl, Int.zero_add]
      have : (B % D != 0) = decide (P * (B % D) ≠ 0) := by
        by_cases hz : B % D = 0
        · simp [hz]
        · rw [decide_eq_true (Int.mul_ne_zero (by omega) hz)]; simpa using hz
      rw [this]; exact Ev.now _
    · have d1 : decide (low ≠ 0) = true := decide_eq_true hl
      simp only [d1, if_true]
      rw [ediv, emod, decide_eq_true (show low + P * (B % D) ≠ 0 by omega)]
      exact Ev.now _
  | j + 1, i, hi => by
    have hs' : l.length ≤ 10000000 := hs
    have e1 : wrap64 (Int.tdiv (n : Int) 16) = ((n / 16 : Nat) : Int) := by rw [td (by omega), wid (by omega) (by omega)]; omega
    have hil : i < l.length := by omega
    have w1 : wrap64 ((i : Int) + 1) = ((i + 1 : Nat) : Int) := by rw [wid (by omega) (by omega)]; omega
    have ih := right_loop hd hs hn j (i + 1) (by omega)
    have hx := hd.rd (i : Int)
    have hlow := val_nonneg (hd.take i)
    have hP : (0 : Int) < 65536 ^ i := Int.pow_pos (by decide)
    have hm : 0 ≤ (65536 : Int) ^ i * rd l (i : Int) := Int.mul_nonneg (Int.le_of_lt hP) hx.1
    rw [val_take_succ hil] at ih
    by_cases hl : val (l.take i) = 0
    · have d0 : decide (val (l.take i) ≠ 0) = false := decide_eq_false (by simpa using hl)
      rw [d0]
      refine Ev.step (fun k => by simp only [mintageref01_Right.l0]; rw [e1, if_pos (by omega), if_neg (by decide), if_pos (by omega), if_pos (by omega), w1]) ?_
      have : (rd l (i : Int) != 0) = decide (val (l.take i) + 65536 ^ i * rd l (i : Int) ≠ 0) := by
        rw [hl, Int.zero_add]
        by_cases hz : rd l (i : Int) = 0
        · simp [hz]
        · rw [decide_eq_true (Int.mul_ne_zero (by omega) hz)]; simpa using hz
      rw [this]; exact ih
    · have d1 : decide (val (l.take i) ≠ 0) = true := decide_eq_true hl
      rw [d1]
      refine Ev.step (fun k => by simp only [mintageref01_Right.l0]; rw [e1, if_pos (by omega), if_pos trivial, w1]) ?_
      rw [decide_eq_true (show val (l.take i) + 65536 ^ i * rd l (i : Int) ≠ 0 by omega)] at ih
      exact ih
theorem right_ev {a : Nat} (sa : (dig a).length ≤ 1000000) (n : Nat) : Ev (fun k => mintageref01_Right.f k (dig a) (n : Int)) (dig (a / 2 ^ n), decide (a % 2 ^ n ≠ 0)) := by
  have hs : Sm (dig a) := by unfold Sm; omega
  unfold mintageref01_Right.f
  refine Ev.bind (bits_ev hs) ?_
  by_cases h : bl a ≤ n
  · have hlt := (bl_le_iff a n).1 h
    have c : (n : Int) ≥ (bl a : Int) := by omega
    simp only [if_pos c]
    rw [Nat.div_eq_of_lt hlt, Nat.mod_eq_of_lt hlt, dig_zero]
    have : decide (((dig a).length : Int) > 0) = decide (a ≠ 0) := by
      by_cases h0 : a = 0
      · subst h0; rw [dig_zero]; simp
      · have : dig a ≠ [] := fun he => h0 (dig_eq_nil.1 he)
        have := List.length_pos_iff.2 this
        rw [decide_eq_true (by omega), decide_eq_true h0]
    rw [this]; exact Ev.now _
  · have c : ¬ (n : Int) ≥ (bl a : Int) := by omega
    simp only [if_neg c]
    have hlen : n / 16 ≤ (dig a).length := by
      have h1 := val_lt (dig_dg a)
      rw [val_dig, pow16] at h1
      have h2 : a < 2 ^ (16 * (dig a).length) := by
        have : ((2 ^ (16 * (dig a).length) : Nat) : Int) = 2 ^ (16 * (dig a).length) := by simp
        omega
      have := (bl_le_iff a _).2 h2
      omega
    have hr := right_loop (dig_dg a) hs hlen (n / 16) 0 (by omega)
    simp only [List.take_zero, val] at hr
    have d0 : decide ((0 : Int) ≠ 0) = false := by decide
    rw [d0] at hr
    have e : ∀ x : Nat, val (dig x) = x := val_dig
    rw [e] at hr
    have e1 : ((a : Int) / 2 ^ n).toNat = a / 2 ^ n := by
      have : ((a / 2 ^ n : Nat) : Int) = (a : Int) / 2 ^ n := by simp
      rw [← this, Int.toNat_natCast]
    have e2 : decide ((a : Int) % 2 ^ n ≠ 0) = decide (a % 2 ^ n ≠ 0) := by
      have : ((a % 2 ^ n : Nat) : Int) = (a : Int) % 2 ^ n := by simp
      rw [← this]
      by_cases hz : a % 2 ^ n = 0
      · rw [hz]; rfl
      · rw [decide_eq_true hz, decide_eq_true (by omega)]
    rw [e1, e2] at hr
    exact hr
end Go.Proofs.Ytfdcanemmaemmaa.Big
