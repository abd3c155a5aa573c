/- Plain facts of ScaledReads: what both readers answer. -/
import Derived.Test.YtjefmcfkhalagaaSraZScaledReads
import Derived.Test.YtjefmcfkhalagaaBigbZScaledReads
import Derived.Test.YtjefmcfkhalagaaQ0ZScaledReads
import Derived.Test.YtjefmcfkhalagaaQ1ZScaledReads
namespace Go.Proofs.Ytjefmcfkhalagaa.Scr
set_option linter.unusedVariables false
set_option linter.unusedSimpArgs false
open Go.RowKit Go.Proofs.Ytjefmcfkhalagaa.Q Go.Proofs.YtjefmcfkhalagaaW.PrintWords Go.Proofs.YtjefmcfkhalagaaW.PrintLast Go.Proofs.YtjefmcfkhalagaaW.PrintMore Go.Proofs.Ytjefmcfkhalagaa.Dig Go.Proofs.Ytjefmcfkhalagaa.Keep Go.Proofs.Ytjefmcfkhalagaa.Big
theorem ten_pow_pos (n : Nat) : (1 : Int) ≤ 10 ^ n := Int.pow_pos (by decide)
theorem ten_pow_mono {a b : Nat} (h : a ≤ b) : (10 : Int) ^ a ≤ 10 ^ b := by
  obtain ⟨c, rfl⟩ : ∃ c, b = a + c := ⟨b - a, by omega⟩
  rw [Int.pow_add]
  have h1 := ten_pow_pos c
  have h0 := ten_pow_pos a
  have := Int.mul_le_mul_of_nonneg_left h1 (show (0 : Int) ≤ 10 ^ a by omega)
  omega
/-- Value of digits: the number, or it is too great for 64 bits. -/
theorem strip_exact : ∀ l : List Int, AllD l → ∃ v e, Ev (fun k => digit_Value.l0 k l) (v, e) ∧ ((e = 0 ∧ v = dval l) ∨ (e ≠ 0 ∧ 18446744073709551616 ≤ dval l)) := by
  have two : ∀ l : List Int, AllD l → l.length ≤ 20 → ∃ v e, Ev (fun k => digit_Value.j2 k l) (v, e) ∧ ((e = 0 ∧ v = dval l) ∨ (e ≠ 0 ∧ 18446744073709551616 ≤ dval l)) := by
    intro l h hl
    have := digj2 h hl
    by_cases hv : dval l < 18446744073709551616
    · rw [if_pos hv] at this; exact ⟨_, _, this, .inl ⟨rfl, rfl⟩⟩
    · rw [if_neg hv] at this; exact ⟨_, _, this, .inr ⟨by decide, by omega⟩⟩
  intro l
  induction l with
  | nil =>
    intro h
    obtain ⟨v, e, hv, hr⟩ := two [] h (by simp)
    refine ⟨v, e, ?_, hr⟩
    refine Ev.step (fun k => by simp only [digit_Value.l0]; rfl) ?_
    simp only [List.length_nil, if_neg (show ¬ ((0 : Nat) : Int) > 0 by decide)]
    exact hv
  | cons c m ih =>
    intro h
    have hm : AllD m := fun d hd => h d (List.mem_cons_of_mem _ hd)
    by_cases h48 : c = 48
    · subst h48
      obtain ⟨v, e, hv, hr⟩ := ih hm
      have ed : dval (48 :: m) = dval m := by rw [dval_cons]; omega
      rw [ed]
      refine ⟨v, e, ?_, hr⟩
      refine Ev.step (fun k => by simp only [digit_Value.l0]; rfl) ?_
      simp only [show rd (48 :: m) 0 = 48 from rfl, if_true, if_pos (show ((48 :: m).length : Int) > 0 by first | (simp; done) | (simp; omega)), if_pos (show (0 : Int) < ((48 :: m).length : Int) by first | (simp; done) | (simp; omega)), if_pos (show (1 : Int) ≤ ((48 :: m).length : Int) by first | (simp; done) | (simp; omega)), List.drop_one, List.tail_cons]
      exact hv
    · have fin : ∀ v e, Ev (fun k => digit_Value.j2 k (c :: m)) (v, e) → Ev (fun k => digit_Value.l0 k (c :: m)) (v, e) := by
        intro v e hv
        refine Ev.step (fun k => by simp only [digit_Value.l0]; rfl) ?_
        simp only [show rd (c :: m) 0 = c from rfl, if_neg h48, if_pos (show ((c :: m).length : Int) > 0 by first | (simp; done) | (simp; omega)), if_pos (show (0 : Int) < ((c :: m).length : Int) by first | (simp; done) | (simp; omega))]
        exact hv
      by_cases hl : (c :: m).length ≤ 20
      · obtain ⟨v, e, hv, hr⟩ := two _ h hl
        exact ⟨v, e, fin v e hv, hr⟩
      · refine ⟨0, 40, fin 0 40 ?_, .inr ⟨by decide, ?_⟩⟩
        · refine Ev.step (fun k => by simp only [digit_Value.j2]; rfl) ?_
          simp only [if_pos (show ((c :: m).length : Int) > 20 by omega)]; exact Ev.now _
        · have hc := h c List.mem_cons_self
          unfold IsD at hc
          have hb := (dval_bounds hm).1
          rw [dval_cons]
          have h20 : (10 : Int) ^ 20 ≤ 10 ^ m.length := ten_pow_mono (by simp only [List.length_cons] at hl; omega)
          have e20 : (10 : Int) ^ 20 = 100000000000000000000 := by rfl
          have h1 : (1 : Int) ≤ c - 48 := by omega
          have := Int.mul_le_mul_of_nonneg_right h1 (show (0 : Int) ≤ 10 ^ m.length by omega)
          omega
theorem val_exact {l : List Int} (h : AllD l) (h0 : l ≠ []) (hl : l.length < 9223372036854775807) : ∃ v e, Ev (fun k => digit_Value.f k l) (v, e) ∧ ((e = 0 ∧ v = dval l) ∨ (e ≠ 0 ∧ 18446744073709551616 ≤ dval l)) := by
  have hp : 0 < l.length := List.length_pos_iff.2 h0
  obtain ⟨v, e, hv, hr⟩ := strip_exact l h
  refine ⟨v, e, ?_, hr⟩
  unfold digit_Value.f
  simp only [if_neg (show ¬ (l.length : Int) = 0 by omega)]
  refine Ev.bind (run_ev h h0 hl) ?_
  simp only [decide_eq_false (show ¬ (l.length : Int) < l.length by omega)]
  refine Ev.step (fun k => by simp only [digit_Value.j0]; rfl) ?_
  simp only [Bool.false_eq_true, if_false]
  exact hv
/-- What a reader answers: bits, place, error. -/
def resF (l : List Int) (sc : Nat) : Int × Int × Int :=
  if NoForm l then (0, (endAt l : Int), 121) else
    match badAt (frac l) sc with
    | some i => (0, ((pt l + 1 + i : Nat) : Int), 122)
    | none => if dval (all l sc) > 999999999999999999 then (0, 0, 123) else ((if isb l 0 45 45 = true then IntKind.u64.wrap (-dval (all l sc)) else dval (all l sc)), 0, 0)
theorem parse_exact (l : List Int) (sc : Nat) (hs : sc ≤ 18) (hl : l.length ≤ 1024) : ∃ K, parseF K l (sc : Int) = some (resF l sc) := by
  unfold resF
  by_cases hf : NoForm l
  · refine ⟨0, ?_⟩
    unfold parseF readF
    rw [if_neg (by omega), if_neg (by omega), Int.toNat_natCast, if_pos (show m1 l + m2 l = 0 ∨ endAt l < l.length from hf), if_pos hf]; rfl
  · rw [if_neg hf]
    cases hb : badAt (frac l) sc with
    | some i =>
      refine ⟨0, ?_⟩
      unfold parseF readF
      rw [if_neg (by omega), if_neg (by omega), Int.toNat_natCast, if_neg (show ¬ (m1 l + m2 l = 0 ∨ endAt l < l.length) from hf), hb]; rfl
    | none =>
      obtain ⟨v, e, ⟨K, hK⟩, hr⟩ := val_exact (allD_all l sc) (by unfold all; simp) (all_len l sc hl hs)
      have hK := hK K (Nat.le_refl _)
      dsimp only at hK
      refine ⟨K, ?_⟩
      unfold parseF readF
      rw [if_neg (by omega), if_neg (by omega), Int.toNat_natCast, if_neg (show ¬ (m1 l + m2 l = 0 ∨ endAt l < l.length) from hf), hb]
      simp only [hK, Option.bind_some]
      rcases hr with ⟨rfl, rfl⟩ | ⟨h1, h2⟩
      · by_cases hc : dval (all l sc) > 999999999999999999
        · rw [if_pos (.inr hc), if_pos hc]; rfl
        · rw [if_neg (by rintro (q | q); exact q rfl; exact hc q), if_neg hc]; rfl
      · rw [if_pos (.inl h1), if_pos (by omega)]; rfl
/-! ### the document's loop -/
abbrev Sp := Bool × List Int × Int
def stp (sc : Int) (st : Sp) (c : Int) : Option Sp :=
  if c = 45 then some (true, st.2.1, st.2.2) else if c = 46 then some (st.1, st.2.1, 0) else if c = 43 then some st else
    if (if st.2.2 ≥ 0 then st.2.2 + 1 else st.2.2) ≤ sc then some (st.1, st.2.1 ++ [c], if st.2.2 ≥ 0 then st.2.2 + 1 else st.2.2)
    else if c = 48 then some (st.1, st.2.1, if st.2.2 ≥ 0 then st.2.2 + 1 else st.2.2) else none
def lp (sc : Int) : List Int → Nat → Sp → Nat ⊕ Sp
  | [], _, st => .inr st
  | c :: m, i, st => match stp sc st c with
    | none => .inl i
    | some st' => lp sc m (i + 1) st'
theorem lp_digits (sc : Nat) (n : Bool) (r : List Int) : ∀ (W ds : List Int) (i : Nat), AllD W → lp (sc : Int) (W ++ r) i (n, ds, -1) = lp (sc : Int) r (i + W.length) (n, ds ++ W, -1) := by
  intro W
  induction W with
  | nil => intro ds i _; simp
  | cons c m ih =>
    intro ds i h
    have hc := h c List.mem_cons_self
    unfold IsD at hc
    have e : stp (sc : Int) (n, ds, -1) c = some (n, ds ++ [c], -1) := by
      unfold stp
      rw [if_neg (by omega), if_neg (by omega), if_neg (by omega)]
      dsimp only
      have e : (if (-1 : Int) ≥ 0 then (-1 : Int) + 1 else -1) = -1 := by decide
      rw [e, if_pos (by omega)]
    rw [List.cons_append, lp, e]
    dsimp only
    rw [ih _ _ (fun d hd => h d (List.mem_cons_of_mem _ hd)), List.append_assoc]
    simp only [List.singleton_append, List.length_cons]
    congr 1; omega
theorem lp_frac (sc : Nat) (n : Bool) {F : List Int} (h : AllD F) (i0 : Nat) : ∀ (d j : Nat) (ds : List Int), j + d = F.length →
    ((∀ q, j ≤ q → q < F.length → sc ≤ q → rd F (q : Int) = 48) → lp (sc : Int) (F.drop j) (i0 + j) (n, ds, (j : Int)) = .inr (n, ds ++ (F.take sc).drop j, (F.length : Int))) ∧
    (∀ q, j ≤ q → q < F.length → sc ≤ q → rd F (q : Int) ≠ 48 → (∀ p, j ≤ p → p < q → sc ≤ p → rd F (p : Int) = 48) → lp (sc : Int) (F.drop j) (i0 + j) (n, ds, (j : Int)) = .inl (i0 + q)) := by
  intro d
  induction d with
  | zero =>
    intro j ds hj
    rw [List.drop_of_length_le (show F.length ≤ j by omega), List.drop_of_length_le (show (F.take sc).length ≤ j by rw [List.length_take]; omega)]
    refine ⟨fun _ => ?_, fun q h1 h2 => by omega⟩
    rw [List.append_nil, show j = F.length by omega]; rfl
  | succ d ih =>
    intro j ds hj
    have hc : IsD (rd F (j : Int)) := h _ (rd_mem (by omega))
    unfold IsD at hc
    rw [Dig.drop_cons (show j < F.length by omega), lp]
    have e0 : stp (sc : Int) (n, ds, (j : Int)) (rd F (j : Int)) = if ((j + 1 : Nat) : Int) ≤ sc then some (n, ds ++ [rd F (j : Int)], ((j + 1 : Nat) : Int)) else if rd F (j : Int) = 48 then some (n, ds, ((j + 1 : Nat) : Int)) else none := by
      unfold stp
      rw [if_neg (by omega), if_neg (by omega), if_neg (by omega)]
      dsimp only
      rw [if_pos (show (j : Int) ≥ 0 by omega)]
      rfl
    rw [e0]
    by_cases hs : j < sc
    · rw [if_pos (by omega)]
      dsimp only
      obtain ⟨i1, i2⟩ := ih (j + 1) (ds ++ [rd F (j : Int)]) (by omega)
      have et : (F.take sc).drop j = rd F (j : Int) :: (F.take sc).drop (j + 1) := by
        have := Dig.drop_cons (l := F.take sc) (i := j) (by rw [List.length_take]; omega)
        rw [this]
        congr 1
        unfold rd
        rw [Int.toNat_natCast, List.getD_eq_getElem?_getD, List.getD_eq_getElem?_getD, List.getElem?_take, if_pos hs]
      refine ⟨fun hq => ?_, fun q h1 h2 h3 h4 h5 => ?_⟩
      · have := i1 (fun q a b c => hq q (by omega) b c)
        rw [show i0 + j + 1 = i0 + (j + 1) by omega, this, et, List.append_assoc]; rfl
      · have := i2 q (by omega) h2 h3 h4 (fun p a b c => h5 p (by omega) b c)
        rw [show i0 + j + 1 = i0 + (j + 1) by omega]; exact this
    · rw [if_neg (by omega)]
      by_cases h48 : rd F (j : Int) = 48
      · rw [if_pos h48]
        dsimp only
        obtain ⟨i1, i2⟩ := ih (j + 1) ds (by omega)
        have et : (F.take sc).drop j = (F.take sc).drop (j + 1) := by
          rw [List.drop_of_length_le (by rw [List.length_take]; omega), List.drop_of_length_le (by rw [List.length_take]; omega)]
        refine ⟨fun hq => ?_, fun q h1 h2 h3 h4 h5 => ?_⟩
        · have := i1 (fun q a b c => hq q (by omega) b c)
          rw [show i0 + j + 1 = i0 + (j + 1) by omega, this, et]
        · have hne : q ≠ j := fun e => h4 (e ▸ h48)
          have := i2 q (by omega) h2 h3 h4 (fun p a b c => h5 p (by omega) b c)
          rw [show i0 + j + 1 = i0 + (j + 1) by omega]; exact this
      · rw [if_neg h48]
        dsimp only
        refine ⟨fun hq => absurd (hq j (Nat.le_refl _) (by omega) (by omega)) h48, fun q h1 h2 h3 h4 h5 => ?_⟩
        by_cases e : q = j
        · rw [e]
        · exact absurd (h5 j (Nat.le_refl _) (by omega) (by omega)) h48
theorem lp_sign {l : List Int} (sc : Nat) (hp : 0 < l.length) : lp (sc : Int) l 0 (false, [], -1) = lp (sc : Int) (bd l) (a1 l) (isb l 0 45 45, [], -1) := by
  have e1 : isb l 0 43 45 = if rd l 0 = 43 then true else rd l 0 == 45 := by
    show (if 0 < l.length then (if rd l 0 = 43 then true else rd l 0 == 45) else false) = _
    rw [if_pos hp]
  have e2 : isb l 0 45 45 = if rd l 0 = 45 then true else rd l 0 == 45 := by
    show (if 0 < l.length then (if rd l 0 = 45 then true else rd l 0 == 45) else false) = _
    rw [if_pos hp]
  have hd : l = rd l 0 :: l.drop 1 := by
    have := Dig.drop_cons (l := l) (i := 0) hp
    rw [List.drop_zero] at this
    exact this
  have eb : bd l = l.drop (a1 l) := rfl
  by_cases h43 : rd l 0 = 43
  · have ea : a1 l = 1 := by unfold a1; rw [e1, if_pos h43]; rfl
    have es : isb l 0 45 45 = false := by rw [e2, if_neg (by omega)]; rw [beq_eq_false_iff_ne]; omega
    rw [eb, ea, es]
    conv => lhs; rw [hd, lp]
    have : stp (sc : Int) (false, [], -1) (rd l 0) = some (false, [], -1) := by
      unfold stp; rw [if_neg (by omega), if_neg (by omega), if_pos h43]
    rw [this]
  · by_cases h45 : rd l 0 = 45
    · have ea : a1 l = 1 := by unfold a1; rw [e1, if_neg h43, h45]; rfl
      have es : isb l 0 45 45 = true := by rw [e2, if_pos h45]
      rw [eb, ea, es]
      conv => lhs; rw [hd, lp]
      have : stp (sc : Int) (false, [], -1) (rd l 0) = some (true, [], -1) := by
        unfold stp; rw [if_pos h45]
      rw [this]
    · have ea : a1 l = 0 := by
        unfold a1; rw [e1, if_neg h43, if_neg]
        rw [beq_iff_eq]; exact h45
      have es : isb l 0 45 45 = false := by rw [e2, if_neg h45]; rw [beq_eq_false_iff_ne]; exact h45
      rw [eb, ea, es, List.drop_zero]
theorem lp_eq {l : List Int} (sc : Nat) (h : ¬ NoForm l) : lp (sc : Int) l 0 (false, [], -1) =
    match badAt (frac l) sc with
    | some i => .inl (pt l + 1 + i)
    | none => .inr (isb l 0 45 45, whole l ++ (frac l).take sc, if dot l = true then ((frac l).length : Int) else -1) := by
  have hle := end_le l
  have he : endAt l = l.length := by unfold NoForm at h; omega
  have hm : m1 l + m2 l ≠ 0 := fun q => h (.inl q)
  have hp : 0 < l.length := by
    have h1 := m1_le l
    have h2 := m2_le l
    omega
  have hpa : pt l = a1 l + m1 l := rfl
  have hsp : bd l = whole l ++ l.drop (pt l) := by
    unfold whole
    have : l.drop (pt l) = (bd l).drop (m1 l) := by unfold bd; rw [List.drop_drop]; congr 1
    rw [this]
    exact (List.take_append_drop _ _).symm
  have hwl : (whole l).length = m1 l := by
    unfold whole
    have := lead_le (l.drop (a1 l))
    rw [List.length_take]
    have e : m1 l = lead (l.drop (a1 l)) := rfl
    omega
  rw [lp_sign sc hp, hsp, lp_digits sc _ _ _ _ _ (allD_whole l), hwl, List.nil_append, ← hpa]
  cases hd : dot l with
  | true =>
    have hpl := isb_lt hd
    have e1 : endAt l = pt l + 1 + m2 l := by unfold endAt; rw [if_pos hd]
    have e2 : frac l = l.drop (pt l + 1) := by
      unfold frac; rw [if_pos hd, List.take_of_length_le (by rw [List.length_drop]; omega)]
    have h46 : rd l (pt l : Int) = 46 := by
      rw [dot_iff hpl] at hd; exact of_decide_eq_true hd
    rw [Dig.drop_cons hpl, lp, h46, ← e2]
    have : stp (sc : Int) (isb l 0 45 45, whole l, -1) 46 = some (isb l 0 45 45, whole l, 0) := by
      unfold stp; rw [if_neg (by decide), if_pos rfl]
    rw [this]
    dsimp only
    obtain ⟨f1, f2⟩ := lp_frac sc (isb l 0 45 45) (allD_frac l) (pt l + 1) (frac l).length 0 (whole l) (by omega)
    rw [List.drop_zero] at f1 f2
    cases hb : badAt (frac l) sc with
    | some q =>
      obtain ⟨b1, b2, b3, b4⟩ := badAt_some hb
      exact f2 q (Nat.zero_le _) b1 b2 b3 (fun p _ x y => b4 p x y)
    | none =>
      have := f1 (fun q _ x y => badAt_none hb q x y)
      rw [List.drop_zero] at this
      rw [if_pos rfl]
      exact this
  | false =>
    have e1 : endAt l = pt l := by unfold endAt; rw [hd]; rfl
    have e2 : frac l = [] := by unfold frac; rw [hd]; rfl
    rw [List.drop_of_length_le (by omega), e2]
    have hb : badAt [] sc = none := by unfold badAt; rfl
    rw [hb]
    simp [lp]
/-- The document's digits, noughts behind them, are those that package scaled reads. -/
theorem digits_eq (l : List Int) (sc : Nat) (h : badAt (frac l) sc = none) : dval (whole l ++ (frac l).take sc ++ List.replicate (sc - (if dot l = true then ((frac l).length : Int) else -1).toNat) 48) = dval (all l sc) := by
  have e : (if dot l = true then ((frac l).length : Int) else -1).toNat = (frac l).length := by
    cases hd : dot l with
    | true => rw [if_pos rfl]; exact Int.toNat_natCast _
    | false =>
      have e2 : frac l = [] := by unfold frac; rw [hd]; rfl
      rw [e2]; rfl
  rw [e]
  unfold all
  rw [dval_cons, ← List.append_assoc]
  omega
theorem digits_all (l : List Int) (sc n : Nat) : AllD (whole l ++ (frac l).take sc ++ List.replicate n 48) := by
  intro c hc
  rcases List.mem_append.1 hc with hc | hc
  · rcases List.mem_append.1 hc with hc | hc
    · exact allD_whole l c hc
    · exact allD_frac l c (List.mem_of_mem_take hc)
  · rw [List.eq_of_mem_replicate hc]; unfold IsD; omega
/-! ### the number of the digits -/
theorem p10_le (i : Nat) : 10 ^ i ≤ 65536 ^ i := Nat.pow_le_pow_left (by decide) i
theorem number_loop {l : List Int} (h : AllD l) (hl : l.length ≤ 2000) : ∀ (d i a : Nat), i + d = l.length → a < 10 ^ i → Ev (fun k => mintageref04_Number.l0 k l (dig a) (i : Int)) (dig (dv a (l.drop i)).toNat) := by
  intro d
  induction d with
  | zero =>
    intro i a hi ha
    refine Ev.step (fun k => by simp only [mintageref04_Number.l0]; rfl) ?_
    simp only [if_neg (show ¬ (i : Int) < l.length by omega)]
    rw [List.drop_of_length_le (by omega)]
    simp only [dv, Int.toNat_natCast]
    exact Ev.now _
  | succ d ih =>
    intro i a hi ha
    have hc := h (rd l i) (rd_mem (by omega))
    unfold IsD at hc
    obtain ⟨c, hcn⟩ : ∃ c : Nat, rd l i - 48 = (c : Int) := ⟨(rd l i - 48).toNat, by omega⟩
    have hc9 : c ≤ 9 := by omega
    have s5 : ∀ n : Nat, n < 10 ^ (i + 1) → (dig n).length ≤ 2001 := fun n hn => by
      have := dig_len (n := n) (k := i + 1) (Nat.lt_of_lt_of_le hn (p10_le _))
      omega
    have e1 : (10 : Nat) ^ (i + 1) = 10 ^ i * 10 := Nat.pow_succ ..
    have hp : 1 ≤ 10 ^ i := Nat.one_le_pow _ _ (by decide)
    have e10 : ([10] : List Int) = dig 10 := (dig_small (by decide) (by decide)).symm
    have l10 : (dig 10).length = 1 := by rw [← e10]; rfl
    have p1 := prod_ev (a := a) (b := 10) (by have := s5 a (by omega); omega) (by omega)
    have p2 := num1_ev (w := (c : Int)) (by omega) (by omega)
    have lc : (dig c).length ≤ 1 := dig_len (by omega)
    have p3 := sum_ev (a := a * 10) (b := c) (by have := s5 (a * 10) (by omega); unfold Sm; omega) (by unfold Sm; omega)
    refine Ev.step (fun k => by simp only [mintageref04_Number.l0]; rfl) ?_
    simp only [if_pos (show (i : Int) < l.length by omega), if_pos (show (0 : Int) ≤ i by omega), hcn, show ((c : Int)) % 256 = (c : Int) from by omega]
    rw [e10]
    refine Ev.bind p1 ?_
    refine Ev.bind p2 ?_
    simp only [Int.toNat_natCast]
    refine Ev.bind p3 ?_
    rw [wrap64_id (by omega) (by omega), Dig.drop_cons (show i < l.length by omega)]
    simp only [dv, hcn]
    have := ih (i + 1) (a * 10 + c) (by omega) (by omega)
    rw [show (10 * (a : Int) + (c : Int)) = ((a * 10 + c : Nat) : Int) by omega]
    exact_mod_cast this
theorem number_ev {l : List Int} (h : AllD l) (hl : l.length ≤ 2000) : Ev (fun k => mintageref04_Number.f k l) (dig (dval l).toNat) := by
  have := number_loop h hl l.length 0 0 (by omega) (by decide)
  rw [dig_zero] at this
  unfold mintageref04_Number.f
  simpa [dval] using this
structure Nm (K : Nat) (ds : List Int) (N : Nat) (c : Int) : Prop where
  num : mintageref04_Number.f K ds = some (dig N)
  trim : mintageref01_Trim.f K (dig N) = some (dig N)
  most : mintageref01_Num.f K [999999999999999999] = some (dig 999999999999999999)
  cmp : mintageref01_Cmp.f K (dig N) (dig 999999999999999999) = some c
  gt : c > 0 ↔ N > 999999999999999999
  words : mintageref01_Words.f K (dig N) = some (wrd N)
  len : (wrd N).length ≤ 2000
theorem number_all {ds : List Int} (h : AllD ds) (hl : ds.length ≤ 2000) : ∃ K c, Nm K ds (dval ds).toNat c := by
  obtain ⟨N, hN⟩ : ∃ N, N = (dval ds).toNat := ⟨_, rfl⟩
  have hb := dval_bounds h
  have hlen : (dig N).length ≤ 2000 := by
    refine Nat.le_trans (dig_len (n := N) (k := ds.length) ?_) hl
    have h2 := p10_le ds.length
    have h3 : ((10 : Int) ^ ds.length) = ((10 ^ ds.length : Nat) : Int) := by simp
    rw [h3] at hb
    omega
  have hm : (dig 999999999999999999).length ≤ 4 := dig_len (by decide)
  obtain ⟨K1, h1⟩ := number_ev h hl
  have ht := trim_ev (l := dig N) (dig_dg N) (by unfold Sm; omega)
  rw [val_dig, Int.toNat_natCast] at ht
  obtain ⟨K2, h2⟩ := ht
  obtain ⟨K3, h3⟩ := num1_ev (w := 999999999999999999) (by decide) (by decide)
  obtain ⟨K4, h4⟩ := Big.cmp_ev (a := N) (b := 999999999999999999) (by unfold Sm; omega) (by unfold Sm; omega)
  obtain ⟨K5, h5⟩ := words_ev (a := N) (by unfold Sm; omega)
  rw [← hN] at h1 ⊢
  refine ⟨K1 + K2 + K3 + K4 + K5, _, ⟨h1 _ (by omega), h2 _ (by omega), h3 _ (by omega), h4 _ (by omega), ?_, h5 _ (by omega), Nat.le_trans (wrd_len N) hlen⟩⟩
  by_cases q : N < 999999999999999999
  · rw [if_pos q]; constructor
    · intro x; exact absurd x (by decide)
    · intro x; omega
  · rw [if_neg q]
    by_cases q2 : N > 999999999999999999
    · rw [if_pos q2]; exact ⟨fun _ => q2, fun _ => by decide⟩
    · rw [if_neg q2]; constructor
      · intro x; exact absurd x (by decide)
      · intro x; omega
end Go.Proofs.Ytjefmcfkhalagaa.Scr
