/- What DigitReads asks: digit's Run, Eight, Value and the document's are the same. -/
import Derived.Test.YtonlkffjpofpoaaQ0ZDigitReads
import Derived.Test.YtonlkffjpofpoaaQ1ZDigitReads
import Derived.Test.YtonlkffjpofpoaaDigbZDigitReads
import Derived.Test.YtonlkffjpofpoaaRunZDigitReads
import Derived.Test.YtonlkffjpofpoaaBigbZDigitReads
namespace Go.Proofs.Ytonlkffjpofpoaa.Dig
set_option linter.unusedVariables false
set_option linter.unusedSimpArgs false
open Go.RowKit Go.Proofs.Ytonlkffjpofpoaa.Q Go.Proofs.YtonlkffjpofpoaaW.PrintWords Go.Proofs.YtonlkffjpofpoaaW.PrintLast Go.Proofs.Ytonlkffjpofpoaa.Big

theorem is_same (c : Int) : mintageref04_Is.f c = digit_Is.f c := rfl
theorem refrun_loop {l : List Int} (hl : l.length < 9223372036854775807) : ∀ (d i j : Nat), i + d = l.length → j ≤ i → Ev (fun k => mintageref04_Run.l0 k l j i) ((j + lead (l.drop i) : Nat) : Int) := by
  intro d
  induction d with
  | zero =>
    intro i j hi hj
    refine Ev.step (fun k => by simp only [mintageref04_Run.l0]; rfl) ?_
    simp only [if_neg (show ¬ (i : Int) < l.length by omega)]
    rw [List.drop_of_length_le (by omega), lead_nil]
    exact Ev.now _
  | succ d ih =>
    intro i j hi hj
    refine Ev.step (fun k => by simp only [mintageref04_Run.l0]; rfl) ?_
    simp only [if_pos (show (i : Int) < l.length by omega), if_pos (show (0 : Int) ≤ i by omega), is_same, isd_ev, Option.bind_some]
    rw [drop_cons (show i < l.length by omega)]
    by_cases h : IsD (rd l i)
    · simp only [decide_eq_true h, if_true]
      rw [lead_yes h, wrap64_id (by omega) (by omega), wrap64_id (by omega) (by omega)]
      have := ih (i + 1) (j + 1) (by omega) (by omega)
      rw [show j + (lead (l.drop (i + 1)) + 1) = j + 1 + lead (l.drop (i + 1)) by omega]
      exact_mod_cast this
    · simp only [decide_eq_false h, Bool.false_eq_true, if_false]
      rw [lead_no h]; exact Ev.now _
theorem refrun_ev {l : List Int} (hl : l.length < 9223372036854775807) (at_ : Nat) : Ev (fun k => mintageref04_Run.f k l (at_ : Int)) (lead (l.drop at_) : Int) := by
  unfold mintageref04_Run.f
  simp only [if_neg (show ¬ (at_ : Int) < 0 by omega)]
  by_cases h : at_ ≤ l.length
  · have := refrun_loop hl (l.length - at_) at_ 0 (by omega) (by omega)
    simpa using this
  · refine Ev.step (fun k => by simp only [mintageref04_Run.l0]; rfl) ?_
    simp only [if_neg (show ¬ (at_ : Int) < l.length by omega)]
    rw [List.drop_of_length_le (by omega)]
    exact Ev.now _
theorem run_both {l : List Int} (hl : l.length < 9223372036854775807) (at_ : Int) : ∃ r, Ev (fun k => digit_Run.f k l at_) r ∧ Ev (fun k => mintageref04_Run.f k l at_) r := by
  by_cases h : at_ < 0
  · refine ⟨0, ?_, ?_⟩
    · unfold digit_Run.f; simp only [if_pos h]
      refine Ev.step (fun k => by simp only [digit_Run.j0]; rfl) ?_
      simp only [if_true]; exact Ev.now _
    · unfold mintageref04_Run.f; simp only [if_pos h]; exact Ev.now _
  · obtain ⟨m, rfl⟩ : ∃ m : Nat, at_ = (m : Int) := ⟨at_.toNat, by omega⟩
    exact ⟨_, runs_ev hl m, refrun_ev hl m⟩
/-! ### the number of some digits -/
theorem number_loop {l : List Int} (h : AllD l) (hl : l.length ≤ 20) : ∀ (d i a : Nat), i + d = l.length → a < 10 ^ i → Ev (fun k => mintageref04_Number.l0 k l (dig a) (i : Int)) (dig (dv a (l.drop i)).toNat) := by
  intro d
  induction d with
  | zero =>
    intro i a hi ha
    refine Ev.step (fun k => by simp only [mintageref04_Number.l0]; rfl) ?_
    simp only [if_neg (show ¬ (i : Int) < l.length by omega)]
    rw [List.drop_of_length_le (by omega)]
    simp only [dv, Int.toNat_natCast]
    exact Ev.now _
  | succ d ih =>
    intro i a hi ha
    have hp : a < 10 ^ 20 := Nat.lt_of_lt_of_le ha (Nat.pow_le_pow_right (by decide) (by omega))
    have e20 : (10 : Nat) ^ 20 = 100000000000000000000 := by rfl
    have hc := h (rd l i) (rd_mem (by omega))
    unfold IsD at hc
    obtain ⟨c, hcn⟩ : ∃ c : Nat, rd l i - 48 = (c : Int) := ⟨(rd l i - 48).toNat, by omega⟩
    have hc9 : c ≤ 9 := by omega
    have s5 : ∀ n : Nat, n < 10 ^ 20 * 100 → (dig n).length ≤ 5 := fun n hn => dig_len (by have : (65536 : Nat) ^ 5 = 1208925819614629174706176 := by rfl
                                                                                           omega)
    have e10 : ([10] : List Int) = dig 10 := (dig_small (by decide) (by decide)).symm
    have p1 := prod_ev (a := a) (b := 10) (by have := s5 a (by omega); omega) (by have := s5 10 (by omega); omega)
    have p2 := num1_ev (w := (c : Int)) (by omega) (by omega)
    have p3 := sum_ev (a := a * 10) (b := c) (by have := s5 (a * 10) (by omega); unfold Sm; omega) (by have := s5 c (by omega); unfold Sm; omega)
    refine Ev.step (fun k => by simp only [mintageref04_Number.l0]; rfl) ?_
    simp only [if_pos (show (i : Int) < l.length by omega), if_pos (show (0 : Int) ≤ i by omega), hcn, show ((c : Int)) % 256 = (c : Int) from by omega]
    rw [e10]
    refine Ev.bind p1 ?_
    refine Ev.bind p2 ?_
    simp only [Int.toNat_natCast]
    refine Ev.bind p3 ?_
    rw [wrap64_id (by omega) (by omega), drop_cons (show i < l.length by omega)]
    simp only [dv, hcn]
    have := ih (i + 1) (a * 10 + c) (by omega) (by rw [Nat.pow_succ]; omega)
    rw [show (10 * (a : Int) + (c : Int)) = ((a * 10 + c : Nat) : Int) by omega]
    exact_mod_cast this
theorem number_ev {l : List Int} (h : AllD l) (hl : l.length ≤ 20) : Ev (fun k => mintageref04_Number.f k l) (dig (dval l).toNat) := by
  have := number_loop h hl l.length 0 0 (by omega) (by decide)
  rw [dig_zero] at this
  unfold mintageref04_Number.f
  simpa [dval] using this
theorem refj2 {l : List Int} (h : AllD l) (h0 : l ≠ []) (hl : l.length ≤ 20) : Ev (fun k => mintageref04_Value.j2 k l) (if dval l < 18446744073709551616 then (dval l, 0) else (0, 40)) := by
  have hb := dval_bounds h
  obtain ⟨n, hn⟩ : ∃ n : Nat, dval l = (n : Int) := ⟨(dval l).toNat, by omega⟩
  have hn20 : n < 10 ^ 20 := by
    have h1 := hb.2
    rw [hn] at h1
    have h2 : n < 10 ^ l.length := by exact_mod_cast h1
    exact Nat.lt_of_lt_of_le h2 (Nat.pow_le_pow_right (by decide) hl)
  have hd : (dig n).length ≤ 5 := dig_len (by have : (65536 : Nat) ^ 5 = 1208925819614629174706176 := by rfl
                                              have e20 : (10 : Nat) ^ 20 = 100000000000000000000 := by rfl
                                              omega)
  have hnum := number_ev h hl
  rw [hn] at hnum
  simp only [Int.toNat_natCast] at hnum
  rw [hn]
  refine Ev.step (fun k => by simp only [mintageref04_Value.j2]; rfl) ?_
  simp only [if_neg (show ¬ (l.length : Int) > 20 by omega)]
  refine Ev.bind hnum ?_
  refine Ev.bind (bits_ev (by unfold Sm; omega)) ?_
  have hbl := bl_le_iff n 64
  have e64 : (2 : Nat) ^ 64 = 18446744073709551616 := by rfl
  by_cases hs : n < 18446744073709551616
  · have : bl n ≤ 64 := hbl.2 (by omega)
    simp only [if_neg (show ¬ (bl n : Int) > 64 by omega), if_pos (show (n : Int) < 18446744073709551616 by omega)]
    refine Ev.bind (words_ev (by unfold Sm; omega)) ?_
    have hw := wrd_len n
    have hr := rd_wrd 0 n 1
    simp only [Nat.pow_zero, Nat.div_one, Nat.mod_eq_of_lt hs, List.replicate_one] at hr
    simp only [if_pos (show (wrd n).length < 17592186044416 by omega), Option.bind_some, if_pos (show (0 : Int) < ((wrd n ++ [0]).length : Int) by first | (simp; done) | (simp; omega))]
    rw [show rd (wrd n ++ [0]) 0 = (n : Int) from hr]
    exact Ev.now _
  · have : ¬ bl n ≤ 64 := fun q => hs (by have := hbl.1 q; omega)
    simp only [if_pos (show (bl n : Int) > 64 by omega), if_neg (show ¬ (n : Int) < 18446744073709551616 by omega)]
    exact Ev.now _
/-! ### digit's own -/
theorem val_over : ∀ (n : Nat) (l : List Int), l.length ≤ n → AllD l → ∀ x : Int, 0 ≤ x → x < 18446744073709551616 → ¬ dv x l < 18446744073709551616 → Ev (fun k => digit_Value.l1 k l x) (0, 40) := by
  intro n
  induction n with
  | zero =>
    intro l hl h x hx hx' hv
    have : l = [] := List.length_eq_zero_iff.1 (by omega)
    subst this
    exact absurd hx' hv
  | succ n ih =>
    intro l hl h x hx hx' hv
    match l, hl, h, hv with
    | [], hl, h, hv => exact absurd hx' hv
    | c :: m, hl, h, hv =>
    have hc : IsD c := h c List.mem_cons_self
    have one : ∀ y, Ev (fun k => digit_Value.j4 k (c :: m) x y false) (0, 40) := by
      intro y
      refine Ev.step (fun k => by simp only [digit_Value.j4]; rfl) ?_
      have r0 : rd (c :: m) 0 = c := rfl
      have e : dv x (c :: m) = dv (10 * x + (c - 48)) m := rfl
      unfold IsD at hc
      have m1 : (c - 48) % 256 = c - 48 := by omega
      simp only [Bool.false_eq_true, if_false, r0, m1, List.length_cons]
      simp only [if_pos (show (0 : Int) < ((m.length + 1 : Nat) : Int) by omega)]
      by_cases hbig : x > (18446744073709551615 - (c - 48)) / 10
      · simp only [if_pos hbig]; exact Ev.now _
      · simp only [if_neg hbig, if_pos (show (1 : Int) ≤ ((m.length + 1 : Nat) : Int) by omega), List.drop_one, List.tail_cons]
        rw [w64, w64, show (10 * x % 18446744073709551616 + (c - 48)) % 18446744073709551616 = 10 * x + (c - 48) by omega]
        exact ih m (by have := hl; simp only [List.length_cons] at this; omega) (fun d hd => h d (List.mem_cons_of_mem _ hd)) _ (by omega) (by omega) hv
    refine Ev.step (fun k => by simp only [digit_Value.l1]; rfl) ?_
    simp only [if_pos (show ((c :: m).length : Int) > 0 by simp)]
    by_cases h8 : (c :: m).length < 8
    · simp only [eight_short h8, Option.bind_some, Bool.false_eq_true, if_false]
      exact one _
    · have h8 : 8 ≤ (c :: m).length := by omega
      simp only [eight_all h8 (allD_take h 8), Option.bind_some, if_true]
      by_cases hx10 : x < 10000000000
      · simp only [decide_eq_true hx10]
        refine Ev.step (fun k => by simp only [digit_Value.j4]; rfl) ?_
        simp only [if_true, if_pos (show 8 ≤ ((c :: m).length : Int) by omega)]
        have b := dval_bounds (allD_take h 8)
        rw [List.length_take, Nat.min_eq_left h8] at b
        have e : dv x (c :: m) = dv (x * 100000000 + dval ((c :: m).take 8)) ((c :: m).drop 8) := by
          conv => lhs; rw [← List.take_append_drop 8 (c :: m), dv_append, dv_pow x ((c :: m).take 8)]
          rw [List.length_take, Nat.min_eq_left h8]; rfl
        rw [w64, w64, show (x * 100000000 % 18446744073709551616 + dval ((c :: m).take 8)) % 18446744073709551616 = x * 100000000 + dval ((c :: m).take 8) by omega]
        exact ih _ (by simp only [List.length_drop, List.length_cons] at hl ⊢; omega) (allD_drop h 8) _ (by omega) (by omega) (by rw [← e]; exact hv)
      · simp only [decide_eq_false hx10]
        exact one _
theorem digj2 {l : List Int} (h : AllD l) (hl : l.length ≤ 20) : Ev (fun k => digit_Value.j2 k l) (if dval l < 18446744073709551616 then (dval l, 0) else (0, 40)) := by
  refine Ev.step (fun k => by simp only [digit_Value.j2]; rfl) ?_
  simp only [if_neg (show ¬ (l.length : Int) > 20 by omega)]
  by_cases hv : dval l < 18446744073709551616
  · simp only [if_pos hv]; exact val_loop _ l (Nat.le_refl _) h 0 (by omega) hv
  · simp only [if_neg hv]; exact val_over _ l (Nat.le_refl _) h 0 (by omega) (by omega) hv
theorem strip_both : ∀ l : List Int, AllD l → l ≠ [] → ∃ r, Ev (fun k => digit_Value.l0 k l) r ∧ Ev (fun k => mintageref04_Value.l0 k l) r := by
  have both : ∀ l : List Int, AllD l → l ≠ [] → ∃ r, Ev (fun k => digit_Value.j2 k l) r ∧ Ev (fun k => mintageref04_Value.j2 k l) r := by
    intro l h h0
    by_cases hl : l.length ≤ 20
    · exact ⟨_, digj2 h hl, refj2 h h0 hl⟩
    · refine ⟨(0, 40), ?_, ?_⟩
      · refine Ev.step (fun k => by simp only [digit_Value.j2]; rfl) ?_
        simp only [if_pos (show (l.length : Int) > 20 by omega)]; exact Ev.now _
      · refine Ev.step (fun k => by simp only [mintageref04_Value.j2]; rfl) ?_
        simp only [if_pos (show (l.length : Int) > 20 by omega)]; exact Ev.now _
  intro l
  induction l with
  | nil => intro _ h0; exact absurd rfl h0
  | cons c m ih =>
    intro h _
    have hm : AllD m := fun d hd => h d (List.mem_cons_of_mem _ hd)
    by_cases h48 : c = 48
    · subst h48
      cases m with
      | nil =>
        have r := refj2 h (by simp) (by simp)
        have e : dval [48] = 0 := by rfl
        rw [e] at r
        simp only [if_pos (show (0 : Int) < 18446744073709551616 by decide)] at r
        refine ⟨(0, 0), ?_, ?_⟩
        · refine Ev.step (fun k => by simp only [digit_Value.l0]; rfl) ?_
          simp only [List.length_cons, List.length_nil, show rd ([48] : List Int) 0 = 48 from rfl, if_pos (show ((0 + 1 : Nat) : Int) > 0 by decide), if_true, if_pos (show (1 : Int) ≤ ((0 + 1 : Nat) : Int) by decide), List.drop_one, List.tail_cons]
          refine Ev.step (fun k => by simp only [digit_Value.l0]; rfl) ?_
          simp only [List.length_nil, if_neg (show ¬ ((0 : Nat) : Int) > 0 by decide)]
          have := digj2 (l := []) (fun c hc => by cases hc) (by simp)
          simpa [dval, dv] using this
        · refine Ev.step (fun k => by simp only [mintageref04_Value.l0]; rfl) ?_
          simp only [List.length_cons, List.length_nil, if_neg (show ¬ ((0 + 1 : Nat) : Int) > 1 by decide)]
          exact r
      | cons c' m' =>
        obtain ⟨r, r1, r2⟩ := ih hm (by simp)
        refine ⟨r, ?_, ?_⟩
        · refine Ev.step (fun k => by simp only [digit_Value.l0]; rfl) ?_
          simp only [show rd (48 :: c' :: m') 0 = 48 from rfl, if_true, if_pos (show ((48 :: c' :: m').length : Int) > 0 by first | (simp; done) | (simp; omega)), if_pos (show (0 : Int) < ((48 :: c' :: m').length : Int) by first | (simp; done) | (simp; omega)), if_pos (show (1 : Int) ≤ ((48 :: c' :: m').length : Int) by first | (simp; done) | (simp; omega)), List.drop_one, List.tail_cons]
          exact r1
        · refine Ev.step (fun k => by simp only [mintageref04_Value.l0]; rfl) ?_
          simp only [show rd (48 :: c' :: m') 0 = 48 from rfl, if_true, if_pos (show ((48 :: c' :: m').length : Int) > 1 by first | (simp; done) | (simp; omega)), if_pos (show (0 : Int) < ((48 :: c' :: m').length : Int) by first | (simp; done) | (simp; omega)), if_pos (show (1 : Int) ≤ ((48 :: c' :: m').length : Int) by first | (simp; done) | (simp; omega)), List.drop_one, List.tail_cons]
          exact r2
    · obtain ⟨r, r1, r2⟩ := both (c :: m) h (by simp)
      refine ⟨r, ?_, ?_⟩
      · refine Ev.step (fun k => by simp only [digit_Value.l0]; rfl) ?_
        simp only [show rd (c :: m) 0 = c from rfl, if_neg h48, if_pos (show ((c :: m).length : Int) > 0 by first | (simp; done) | (simp; omega)), if_pos (show (0 : Int) < ((c :: m).length : Int) by first | (simp; done) | (simp; omega))]
        exact r1
      · refine Ev.step (fun k => by simp only [mintageref04_Value.l0]; rfl) ?_
        by_cases h1 : ((c :: m).length : Int) > 1
        · simp only [show rd (c :: m) 0 = c from rfl, if_neg h48, if_pos h1, if_pos (show (0 : Int) < ((c :: m).length : Int) by first | (simp; done) | (simp; omega))]
          exact r2
        · simp only [if_neg h1]; exact r2
theorem value_both {l : List Int} (hl : l.length < 9223372036854775807) : ∃ r, Ev (fun k => digit_Value.f k l) r ∧ Ev (fun k => mintageref04_Value.f k l) r := by
  by_cases h0 : l = []
  · subst h0
    refine ⟨(0, 41), ?_, ?_⟩
    · unfold digit_Value.f; simp only [List.length_nil, if_pos (show ((0 : Nat) : Int) = 0 by decide)]
      refine Ev.step (fun k => by simp only [digit_Value.j0]; rfl) ?_
      simp only [if_true]; exact Ev.now _
    · unfold mintageref04_Value.f; simp only [List.length_nil, if_pos (show ((0 : Nat) : Int) = 0 by decide)]
      refine Ev.step (fun k => by simp only [mintageref04_Value.j0]; rfl) ?_
      simp only [if_true]; exact Ev.now _
  have hp : 0 < l.length := List.length_pos_iff.2 h0
  have u1 := runs_ev hl 0
  have u2 := refrun_ev hl 0
  rw [List.drop_zero] at u1 u2
  by_cases ha : (lead l : Int) < l.length
  · refine ⟨(0, 41), ?_, ?_⟩
    · unfold digit_Value.f; simp only [if_neg (show ¬ (l.length : Int) = 0 by omega)]
      refine Ev.bind u1 ?_
      simp only [decide_eq_true ha]
      refine Ev.step (fun k => by simp only [digit_Value.j0]; rfl) ?_
      simp only [if_true]; exact Ev.now _
    · unfold mintageref04_Value.f; simp only [if_neg (show ¬ (l.length : Int) = 0 by omega)]
      refine Ev.bind u2 ?_
      simp only [decide_eq_true ha]
      refine Ev.step (fun k => by simp only [mintageref04_Value.j0]; rfl) ?_
      simp only [if_true]; exact Ev.now _
  · have hall : AllD l := all_of_lead (by have := lead_le l; omega)
    obtain ⟨r, r1, r2⟩ := strip_both l hall h0
    refine ⟨r, ?_, ?_⟩
    · unfold digit_Value.f; simp only [if_neg (show ¬ (l.length : Int) = 0 by omega)]
      refine Ev.bind u1 ?_
      simp only [decide_eq_false ha]
      refine Ev.step (fun k => by simp only [digit_Value.j0]; rfl) ?_
      simp only [Bool.false_eq_true, if_false]; exact r1
    · unfold mintageref04_Value.f; simp only [if_neg (show ¬ (l.length : Int) = 0 by omega)]
      refine Ev.bind u2 ?_
      simp only [decide_eq_false ha]
      refine Ev.step (fun k => by simp only [mintageref04_Value.j0]; rfl) ?_
      simp only [Bool.false_eq_true, if_false]; exact r2
theorem lead_take : ∀ (n : Nat) (l : List Int), n ≤ lead l → AllD (l.take n)
  | 0, l, _ => fun c hc => by simp at hc
  | n + 1, [], h => by simp [lead] at h
  | n + 1, c :: l, h => by
    by_cases hc : IsD c
    · rw [lead_yes hc] at h
      intro z hz
      rw [List.take_succ_cons] at hz
      rcases List.mem_cons.1 hz with rfl | hz
      · exact hc
      · exact lead_take n l (by omega) z hz
    · rw [lead_no hc] at h; omega
theorem eight_both {l : List Int} (hl : l.length < 9223372036854775807) : ∃ r, digit_Eight.f l = some r ∧ Ev (fun k => mintageref04_Eight.f k l) r := by
  have u2 := refrun_ev hl 0
  rw [List.drop_zero] at u2
  by_cases h8 : 8 ≤ lead l
  · have hlen : 8 ≤ l.length := Nat.le_trans h8 (lead_le l)
    have ha := lead_take 8 l h8
    have hl8 : (l.take 8).length = 8 := by rw [List.length_take]; omega
    have hb := dval_bounds ha
    rw [hl8] at hb
    have hv : dval (l.take 8) < 18446744073709551616 := by omega
    have v1 := val_ev ha (by intro h; rw [h] at hl8; simp at hl8) (by omega) hv
    obtain ⟨r, r1, r2⟩ := value_both (l := l.take 8) (by omega)
    obtain ⟨K1, hK1⟩ := v1
    obtain ⟨K2, hK2⟩ := r1
    have : r = (dval (l.take 8), 0) := by
      have a := hK1 (K1 + K2) (by omega)
      have b := hK2 (K1 + K2) (by omega)
      rw [a] at b; injection b with b; exact b.symm
    subst this
    refine ⟨_, eight_all hlen ha, ?_⟩
    unfold mintageref04_Eight.f
    refine Ev.bind u2 ?_
    simp only [if_neg (show ¬ (lead l : Int) < 8 by omega), if_pos (show (8 : Int) ≤ l.length by omega)]
    refine Ev.bind r2 ?_
    exact Ev.now _
  · refine ⟨(0, false), ?_, ?_⟩
    · by_cases hlen : l.length < 8
      · exact eight_short hlen
      · refine eight_not fun ha => h8 ?_
        have := lead_append (l := l.take 8) (m := l.drop 8) ha
        rw [List.take_append_drop, List.length_take] at this
        omega
    · unfold mintageref04_Eight.f
      refine Ev.bind u2 ?_
      simp only [if_pos (show (lead l : Int) < 8 by omega)]
      exact Ev.now _
/-- All that DigitReads needs, at one number of rounds. -/
theorem reads {l : List Int} (hl : l.length < 9223372036854775807) (a b : Int) :
    ∃ (k : Nat) (x : Int) (o : Bool) (v e r s : Int), digit_Eight.f l = some (x, o) ∧ mintageref04_Eight.f k l = some (x, o) ∧ digit_Value.f k l = some (v, e) ∧ mintageref04_Value.f k l = some (v, e) ∧
      digit_Run.f k l a = some r ∧ mintageref04_Run.f k l a = some r ∧ digit_Run.f k l b = some s ∧ mintageref04_Run.f k l b = some s := by
  obtain ⟨⟨x, o⟩, e1, K1, h1⟩ := eight_both hl
  obtain ⟨⟨v, e⟩, ⟨K2, h2⟩, K3, h3⟩ := value_both hl
  obtain ⟨r, ⟨K4, h4⟩, K5, h5⟩ := run_both hl a
  obtain ⟨s, ⟨K6, h6⟩, K7, h7⟩ := run_both hl b
  exact ⟨K1 + K2 + K3 + K4 + K5 + K6 + K7, x, o, v, e, r, s, e1, h1 _ (by omega), h2 _ (by omega), h3 _ (by omega), h4 _ (by omega), h5 _ (by omega), h6 _ (by omega), h7 _ (by omega)⟩
end Go.Proofs.Ytonlkffjpofpoaa.Dig
