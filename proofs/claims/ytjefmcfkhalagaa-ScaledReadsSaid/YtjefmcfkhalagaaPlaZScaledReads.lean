/- Plain facts of ScaledPlaces: where a text that is no number ends, and where a digit is lost. -/
import Derived.Test.YtjefmcfkhalagaaTxaZScaledReads
import Derived.Test.YtjefmcfkhalagaaQ0ZScaledReads
import Derived.Test.YtjefmcfkhalagaaQ2ZScaledReads
namespace Go.Proofs.Ytjefmcfkhalagaa.Scr
set_option linter.unusedVariables false
set_option linter.unusedSimpArgs false
open Go.RowKit Go.Proofs.Ytjefmcfkhalagaa.Q Go.Proofs.YtjefmcfkhalagaaW.PrintWords Go.Proofs.YtjefmcfkhalagaaW.PrintLast Go.Proofs.YtjefmcfkhalagaaW.PrintMore Go.Proofs.Ytjefmcfkhalagaa.Dig
theorem val_over : ∀ (n : Nat) (l : List Int), l.length ≤ n → AllD l → ∀ x : Int, 0 ≤ x → x < 18446744073709551616 → ¬ dv x l < 18446744073709551616 → Ev (fun k => digit_Value.l1 k l x) (0, 40) := by
  intro n
  induction n with
  | zero =>
    intro l hl h x hx hx' hv
    have : l = [] := List.length_eq_zero_iff.1 (by omega)
    subst this
    exact absurd hx' hv
  | succ n ih =>
    intro l hl h x hx hx' hv
    match l, hl, h, hv with
    | [], hl, h, hv => exact absurd hx' hv
    | c :: m, hl, h, hv =>
    have hc : IsD c := h c List.mem_cons_self
    have one : ∀ y, Ev (fun k => digit_Value.j4 k (c :: m) x y false) (0, 40) := by
      intro y
      refine Ev.step (fun k => by simp only [digit_Value.j4]; rfl) ?_
      have r0 : rd (c :: m) 0 = c := rfl
      have e : dv x (c :: m) = dv (10 * x + (c - 48)) m := rfl
      unfold IsD at hc
      have m1 : (c - 48) % 256 = c - 48 := by omega
      simp only [Bool.false_eq_true, if_false, r0, m1, List.length_cons]
      simp only [if_pos (show (0 : Int) < ((m.length + 1 : Nat) : Int) by omega)]
      by_cases hbig : x > (18446744073709551615 - (c - 48)) / 10
      · simp only [if_pos hbig]; exact Ev.now _
      · simp only [if_neg hbig, if_pos (show (1 : Int) ≤ ((m.length + 1 : Nat) : Int) by omega), List.drop_one, List.tail_cons]
        rw [w64, w64, show (10 * x % 18446744073709551616 + (c - 48)) % 18446744073709551616 = 10 * x + (c - 48) by omega]
        exact ih m (by have := hl; simp only [List.length_cons] at this; omega) (fun d hd => h d (List.mem_cons_of_mem _ hd)) _ (by omega) (by omega) hv
    refine Ev.step (fun k => by simp only [digit_Value.l1]; rfl) ?_
    simp only [if_pos (show ((c :: m).length : Int) > 0 by simp)]
    by_cases h8 : (c :: m).length < 8
    · simp only [eight_short h8, Option.bind_some, Bool.false_eq_true, if_false]
      exact one _
    · have h8 : 8 ≤ (c :: m).length := by omega
      simp only [eight_all h8 (allD_take h 8), Option.bind_some, if_true]
      by_cases hx10 : x < 10000000000
      · simp only [decide_eq_true hx10]
        refine Ev.step (fun k => by simp only [digit_Value.j4]; rfl) ?_
        simp only [if_true, if_pos (show 8 ≤ ((c :: m).length : Int) by omega)]
        have b := dval_bounds (allD_take h 8)
        rw [List.length_take, Nat.min_eq_left h8] at b
        have e : dv x (c :: m) = dv (x * 100000000 + dval ((c :: m).take 8)) ((c :: m).drop 8) := by
          conv => lhs; rw [← List.take_append_drop 8 (c :: m), dv_append, dv_pow x ((c :: m).take 8)]
          rw [List.length_take, Nat.min_eq_left h8]; rfl
        rw [w64, w64, show (x * 100000000 % 18446744073709551616 + dval ((c :: m).take 8)) % 18446744073709551616 = x * 100000000 + dval ((c :: m).take 8) by omega]
        exact ih _ (by simp only [List.length_drop, List.length_cons] at hl ⊢; omega) (allD_drop h 8) _ (by omega) (by omega) (by rw [← e]; exact hv)
      · simp only [decide_eq_false hx10]
        exact one _
theorem digj2 {l : List Int} (h : AllD l) (hl : l.length ≤ 20) : Ev (fun k => digit_Value.j2 k l) (if dval l < 18446744073709551616 then (dval l, 0) else (0, 40)) := by
  refine Ev.step (fun k => by simp only [digit_Value.j2]; rfl) ?_
  simp only [if_neg (show ¬ (l.length : Int) > 20 by omega)]
  by_cases hv : dval l < 18446744073709551616
  · simp only [if_pos hv]; exact val_loop _ l (Nat.le_refl _) h 0 (by omega) hv
  · simp only [if_neg hv]; exact val_over _ l (Nat.le_refl _) h 0 (by omega) (by omega) hv
theorem strip_one : ∀ l : List Int, AllD l → ∃ v e, Ev (fun k => digit_Value.l0 k l) (v, e) := by
  have two : ∀ l : List Int, AllD l → ∃ v e, Ev (fun k => digit_Value.j2 k l) (v, e) := by
    intro l h
    by_cases hl : l.length ≤ 20
    · have := digj2 h hl
      by_cases hv : dval l < 18446744073709551616
      · rw [if_pos hv] at this; exact ⟨_, _, this⟩
      · rw [if_neg hv] at this; exact ⟨_, _, this⟩
    · refine ⟨0, 40, ?_⟩
      refine Ev.step (fun k => by simp only [digit_Value.j2]; rfl) ?_
      simp only [if_pos (show (l.length : Int) > 20 by omega)]; exact Ev.now _
  intro l
  induction l with
  | nil =>
    intro h
    obtain ⟨v, e, hv⟩ := two [] h
    refine ⟨v, e, ?_⟩
    refine Ev.step (fun k => by simp only [digit_Value.l0]; rfl) ?_
    simp only [List.length_nil, if_neg (show ¬ ((0 : Nat) : Int) > 0 by decide)]
    exact hv
  | cons c m ih =>
    intro h
    have hm : AllD m := fun d hd => h d (List.mem_cons_of_mem _ hd)
    by_cases h48 : c = 48
    · subst h48
      obtain ⟨v, e, hv⟩ := ih hm
      refine ⟨v, e, ?_⟩
      refine Ev.step (fun k => by simp only [digit_Value.l0]; rfl) ?_
      simp only [show rd (48 :: m) 0 = 48 from rfl, if_true, if_pos (show ((48 :: m).length : Int) > 0 by first | (simp; done) | (simp; omega)), if_pos (show (0 : Int) < ((48 :: m).length : Int) by first | (simp; done) | (simp; omega)), if_pos (show (1 : Int) ≤ ((48 :: m).length : Int) by first | (simp; done) | (simp; omega)), List.drop_one, List.tail_cons]
      exact hv
    · obtain ⟨v, e, hv⟩ := two (c :: m) h
      refine ⟨v, e, ?_⟩
      refine Ev.step (fun k => by simp only [digit_Value.l0]; rfl) ?_
      simp only [show rd (c :: m) 0 = c from rfl, if_neg h48, if_pos (show ((c :: m).length : Int) > 0 by first | (simp; done) | (simp; omega)), if_pos (show (0 : Int) < ((c :: m).length : Int) by first | (simp; done) | (simp; omega))]
      exact hv
/-- Value of digits answers. -/
theorem val_total {l : List Int} (h : AllD l) (h0 : l ≠ []) (hl : l.length < 9223372036854775807) : ∃ v e, Ev (fun k => digit_Value.f k l) (v, e) := by
  have hp : 0 < l.length := List.length_pos_iff.2 h0
  obtain ⟨v, e, hv⟩ := strip_one l h
  refine ⟨v, e, ?_⟩
  unfold digit_Value.f
  simp only [if_neg (show ¬ (l.length : Int) = 0 by omega)]
  refine Ev.bind (run_ev h h0 hl) ?_
  simp only [decide_eq_false (show ¬ (l.length : Int) < l.length by omega)]
  refine Ev.step (fun k => by simp only [digit_Value.j0]; rfl) ?_
  simp only [Bool.false_eq_true, if_false]
  exact hv
theorem allD_lead : ∀ (l : List Int), AllD (l.take (lead l)) := by
  intro l
  induction l with
  | nil => intro c hc; simp at hc
  | cons c m ih =>
    by_cases h : IsD c
    · rw [lead_yes h, List.take_succ_cons]
      intro d hd
      rcases List.mem_cons.1 hd with rfl | hd
      · exact h
      · exact ih d hd
    · rw [lead_no h]; intro d hd; simp at hd
theorem allD_whole (l : List Int) : AllD (whole l) := allD_lead _
theorem allD_frac (l : List Int) : AllD (frac l) := by
  unfold frac m2
  split
  · exact allD_lead _
  · intro c hc; simp at hc
theorem frac_len (l : List Int) : (frac l).length = m2 l := by
  unfold frac m2
  split
  · rw [List.length_take]; exact Nat.min_eq_left (lead_le _)
  · rfl
theorem allD_all (l : List Int) (sc : Nat) : AllD (all l sc) := by
  intro c hc
  unfold all at hc
  rcases List.mem_cons.1 hc with rfl | hc
  · unfold IsD; omega
  rcases List.mem_append.1 hc with hc | hc
  · exact allD_whole l c hc
  rcases List.mem_append.1 hc with hc | hc
  · exact allD_frac l c (List.mem_of_mem_take hc)
  · rw [(List.mem_replicate.1 hc).2]; unfold IsD; omega
theorem all_len (l : List Int) (sc : Nat) (hl : l.length ≤ 1024) (hs : sc ≤ 18) : (all l sc).length < 9223372036854775807 := by
  have h1 := m1_le l
  unfold all whole
  simp only [List.length_cons, List.length_append, List.length_take, List.length_replicate, List.length_drop]
  omega
/-- No number's form. -/
def NoForm (l : List Int) : Prop := m1 l + m2 l = 0 ∨ endAt l < l.length
/-- What Parse answers: bits, place, error. -/
inductive PC (l : List Int) (sc : Nat) : Int → Int → Int → Prop
  | form (h : NoForm l) : PC l sc 0 (endAt l : Int) 121
  | lost (i : Nat) (h : ¬ NoForm l) (hb : badAt (frac l) sc = some i) : PC l sc 0 ((pt l + 1 + i : Nat) : Int) 122
  | numb (b er : Int) (h : ¬ NoForm l) (he : er = 0 ∨ er = 123) : PC l sc b 0 er
theorem parse_cases (l : List Int) (sc : Nat) (hs : sc ≤ 18) (hl : l.length ≤ 1024) : ∃ K b p er, parseF K l (sc : Int) = some (b, p, er) ∧ PC l sc b p er := by
  by_cases hf : NoForm l
  · refine ⟨0, 0, (endAt l : Int), 121, ?_, .form hf⟩
    unfold parseF readF
    rw [if_neg (by omega), if_neg (by omega), Int.toNat_natCast, if_pos (show m1 l + m2 l = 0 ∨ endAt l < l.length from hf)]; rfl
  · cases hb : badAt (frac l) sc with
    | some i =>
      refine ⟨0, 0, ((pt l + 1 + i : Nat) : Int), 122, ?_, .lost i hf hb⟩
      unfold parseF readF
      rw [if_neg (by omega), if_neg (by omega), Int.toNat_natCast, if_neg (show ¬ (m1 l + m2 l = 0 ∨ endAt l < l.length) from hf), hb]; rfl
    | none =>
      obtain ⟨v, e, K, hK⟩ := val_total (allD_all l sc) (by unfold all; simp) (all_len l sc hl hs)
      have hK := hK K (Nat.le_refl _)
      dsimp only at hK
      by_cases hc : e ≠ 0 ∨ v > 999999999999999999
      · refine ⟨K, 0, 0, 123, ?_, .numb 0 123 hf (.inr rfl)⟩
        unfold parseF readF
        rw [if_neg (by omega), if_neg (by omega), Int.toNat_natCast, if_neg (show ¬ (m1 l + m2 l = 0 ∨ endAt l < l.length) from hf), hb]
        simp only [hK, Option.bind_some, if_pos hc, Option.map_some]
      · refine ⟨K, _, 0, 0, ?_, .numb (if isb l 0 45 45 = true then IntKind.u64.wrap (-v) else v) 0 hf (.inl rfl)⟩
        unfold parseF readF
        rw [if_neg (by omega), if_neg (by omega), Int.toNat_natCast, if_neg (show ¬ (m1 l + m2 l = 0 ∨ endAt l < l.length) from hf), hb]
        simp only [hK, Option.bind_some, if_neg hc, Option.map_some]
/-! ### texts that begin alike -/
theorem lead_agree : ∀ (n : Nat) (l l' : List Int), l.take n = l'.take n → lead l < n → lead l' = lead l := by
  intro n
  induction n with
  | zero => intro l l' _ h; omega
  | succ n ih =>
    intro l l' h hl
    match l, l' with
    | [], [] => rfl
    | [], c' :: m' => simp at h
    | c :: m, [] => simp at h
    | c :: m, c' :: m' =>
      rw [List.take_succ_cons, List.take_succ_cons] at h
      injection h with h1 h2
      subst h1
      by_cases hc : IsD c
      · rw [lead_yes hc] at hl
        rw [lead_yes hc, lead_yes hc, ih m m' h2 (by omega)]
      · rw [lead_no hc, lead_no hc]
theorem drop_agree {n : Nat} {l l' : List Int} (h : l.take n = l'.take n) (a : Nat) : (l.drop a).take (n - a) = (l'.drop a).take (n - a) := by
  rw [← List.drop_take, ← List.drop_take, h]
theorem isb_agree {n : Nat} {l l' : List Int} (h : l.take n = l'.take n) {p : Nat} (hp : p < n) (a b : Int) : isb l' p a b = isb l p a b := by
  have e : l[p]? = l'[p]? := by
    have := congrArg (fun z => z[p]?) h
    simpa [List.getElem?_take, hp] using this
  have hr : rd l (p : Int) = rd l' (p : Int) := by
    unfold rd; rw [Int.toNat_natCast, List.getD_eq_getElem?_getD, List.getD_eq_getElem?_getD, e]
  have hl : (p < l.length) ↔ (p < l'.length) := by
    constructor
    · intro h1
      by_cases q : p < l'.length
      · exact q
      · rw [List.getElem?_eq_getElem h1, List.getElem?_eq_none (by omega)] at e; cases e
    · intro h1
      by_cases q : p < l.length
      · exact q
      · rw [List.getElem?_eq_getElem h1, List.getElem?_eq_none (by omega)] at e; cases e
  unfold isb
  rw [hr]
  by_cases hq : p < l.length
  · rw [if_pos hq, if_pos (hl.1 hq)]
  · rw [if_neg hq, if_neg (fun q => hq (hl.2 q))]
theorem pt_agree {n : Nat} {l l' : List Int} (h : l.take n = l'.take n) (hp : pt l < n) : a1 l' = a1 l ∧ m1 l' = m1 l ∧ pt l' = pt l ∧ dot l' = dot l := by
  have ha : a1 l' = a1 l := by unfold a1; rw [isb_agree h (by omega)]
  have hm : m1 l' = m1 l := by
    unfold m1
    rw [ha]
    refine lead_agree (n - a1 l) _ _ (drop_agree h _) ?_
    unfold pt m1 at hp
    omega
  have hpt : pt l' = pt l := by unfold pt; rw [ha, hm]
  refine ⟨ha, hm, hpt, ?_⟩
  unfold dot
  rw [hpt, isb_agree h hp]
theorem pt_end (l : List Int) : pt l ≤ endAt l := by unfold endAt; split <;> omega
theorem end_agree {n : Nat} {l l' : List Int} (h : l.take n = l'.take n) (he : endAt l < n) : endAt l' = endAt l := by
  have hp := pt_end l
  obtain ⟨-, -, h3, h4⟩ := pt_agree h (by omega)
  unfold endAt at he ⊢
  rw [h4, h3]
  by_cases hd : dot l = true
  · rw [if_pos hd] at he
    rw [if_pos hd, if_pos hd]
    have : m2 l' = m2 l := by
      unfold m2 at he ⊢
      rw [if_pos hd] at he
      rw [h4, if_pos hd, if_pos hd, h3]
      exact lead_agree (n - (pt l + 1)) _ _ (drop_agree h _) (by omega)
    rw [this]
  · rw [if_neg hd, if_neg hd]
/-- Behind the place anything may stand. -/
theorem form_stays {l more : List Int} (h : endAt l < l.length) : NoForm (l.take (endAt l + 1) ++ more) ∧ endAt (l.take (endAt l + 1) ++ more) = endAt l := by
  have e : l.take (endAt l + 1) = (l.take (endAt l + 1) ++ more).take (endAt l + 1) := by
    rw [List.take_left' (by rw [List.length_take]; omega)]
  have := end_agree e (Nat.lt_succ_self _)
  refine ⟨.inr ?_, this⟩
  rw [this, List.length_append, List.length_take]; omega
/-- A digit that is lost stands in the text; with a nought in its place the next one is told, if any. -/
theorem lost_stays {l : List Int} {sc i : Nat} (h : ¬ NoForm l) (hb : badAt (frac l) sc = some i) :
    pt l + 1 + i < l.length ∧ rd l ((pt l + 1 + i : Nat) : Int) ≠ 48 ∧ ¬ NoForm (l.set (pt l + 1 + i) 48) ∧ pt (l.set (pt l + 1 + i) 48) = pt l ∧
      ∀ i', badAt (frac (l.set (pt l + 1 + i) 48)) sc = some i' → i < i' := by
  obtain ⟨b1, b2, b3, b4⟩ := badAt_some hb
  have hd : dot l = true := by
    cases hq : dot l
    · rw [frac, hq] at b1; simp at b1
    · rfl
  have hn : ¬ (m1 l + m2 l = 0) ∧ ¬ endAt l < l.length := ⟨fun q => h (.inl q), fun q => h (.inr q)⟩
  obtain ⟨d, hdd⟩ : ∃ d, d = l.drop (pt l + 1) := ⟨_, rfl⟩
  have e1 : endAt l = pt l + 1 + m2 l := by unfold endAt; rw [if_pos hd]
  have e2 : m2 l = lead d := by unfold m2; rw [if_pos hd, hdd]
  have hdl : d.length = l.length - (pt l + 1) := by rw [hdd, List.length_drop]
  have hle := lead_le d
  have e3 : lead d = d.length := by omega
  have hA := all_of_lead e3
  have ef : frac l = d := by unfold frac; rw [if_pos hd, ← hdd, e2, e3, List.take_length]
  rw [ef] at b1 b3 b4
  have hlt : pt l + 1 + i < l.length := by omega
  have hrd : ∀ j : Nat, rd d (j : Int) = rd l ((pt l + 1 + j : Nat) : Int) := by
    intro j
    unfold rd
    rw [Int.toNat_natCast, Int.toNat_natCast, List.getD_eq_getElem?_getD, List.getD_eq_getElem?_getD, hdd, List.getElem?_drop]
  obtain ⟨l', hl'⟩ : ∃ l', l' = l.set (pt l + 1 + i) 48 := ⟨_, rfl⟩
  rw [← hl']
  have et : l.take (pt l + 1) = l'.take (pt l + 1) := by
    rw [hl', List.take_set_of_le (by omega)]
  obtain ⟨-, h2, h3, h4⟩ := pt_agree et (by omega)
  have ed : l'.drop (pt l + 1) = d.set i 48 := by
    rw [hl', hdd, List.drop_set, if_neg (by omega)]
    congr 1; omega
  have hA' : AllD (d.set i 48) := by
    intro c hc
    rcases List.mem_or_eq_of_mem_set hc with hc | rfl
    · exact hA c hc
    · unfold IsD; omega
  have em : m2 l' = d.length := by
    unfold m2; rw [h4, if_pos hd, h3, ed, lead_all hA', List.length_set]
  have ef' : frac l' = d.set i 48 := by
    unfold frac; rw [h4, if_pos hd, h3, ed, em, List.take_of_length_le (by rw [List.length_set]; omega)]
  have hlen : l'.length = l.length := by rw [hl', List.length_set]
  refine ⟨hlt, by rw [← hrd]; exact b3, ?_, h3, ?_⟩
  · rintro (q | q)
    · omega
    · unfold endAt at q
      rw [h4, if_pos hd, h3, em, hlen] at q
      omega
  · intro i' hb'
    rw [ef'] at hb'
    obtain ⟨c1, c2, c3, -⟩ := badAt_some hb'
    rcases Nat.lt_trichotomy i i' with q | q | q
    · exact q
    · subst q
      refine absurd ?_ c3
      unfold rd
      rw [Int.toNat_natCast, List.getD_eq_getElem?_getD, List.getElem?_set_self (by omega)]; rfl
    · refine absurd ?_ c3
      have := b4 i' q c2
      unfold rd at this ⊢
      rw [Int.toNat_natCast] at this ⊢
      rw [List.getD_eq_getElem?_getD] at this ⊢
      rw [List.getElem?_set_ne (by omega)]; exact this
/-- A text without a digit that is looked at to its end. -/
theorem bare {l : List Int} (hm : m1 l + m2 l = 0) (he : ¬ endAt l < l.length) : l = [] ∨ l = [43] ∨ l = [45] ∨ l = [46] ∨ l = [43, 46] ∨ l = [45, 46] := by
  have e1 : m1 l = 0 := by omega
  have e2 : m2 l = 0 := by omega
  have ep : pt l = a1 l := by unfold pt; omega
  have ed : dot l = isb l (a1 l) 46 46 := by unfold dot; rw [ep]
  unfold endAt at he
  rw [ed, ep, e2] at he
  clear hm e1 e2 ep ed
  match l with
  | [] => exact .inl rfl
  | [a] =>
    unfold a1 at he
    by_cases h1 : a = 43
    · subst h1; exact .inr (.inl rfl)
    by_cases h2 : a = 45
    · subst h2; exact .inr (.inr (.inl rfl))
    have : isb [a] 0 43 45 = false := by simp [isb, rd, h1, h2]
    rw [this] at he
    by_cases h3 : a = 46
    · subst h3; exact .inr (.inr (.inr (.inl rfl)))
    have : isb [a] 0 46 46 = false := by simp [isb, rd, h3]
    simp [this] at he
  | [a, b] =>
    unfold a1 at he
    have h12 : a = 43 ∨ a = 45 := by
      by_cases h1 : a = 43
      · exact .inl h1
      by_cases h2 : a = 45
      · exact .inr h2
      have : isb [a, b] 0 43 45 = false := by simp [isb, rd, h1, h2]
      rw [this] at he
      exfalso
      simp only [Bool.false_eq_true, if_false, List.length_cons, List.length_nil] at he
      split at he <;> omega
    have : isb [a, b] 0 43 45 = true := by rcases h12 with rfl | rfl <;> simp [isb, rd]
    rw [this, if_pos rfl] at he
    by_cases h3 : b = 46
    · subst h3
      rcases h12 with rfl | rfl
      · exact .inr (.inr (.inr (.inr (.inl rfl))))
      · exact .inr (.inr (.inr (.inr (.inr rfl))))
    have : isb [a, b] 1 46 46 = false := by simp [isb, rd, h3]
    simp [this] at he
  | a :: b :: c :: m =>
    exfalso
    have h1 : a1 (a :: b :: c :: m) ≤ 1 := by unfold a1; split <;> omega
    simp only [List.length_cons] at he
    split at he <;> omega
theorem bare_seven {l : List Int} (hm : m1 l + m2 l = 0) (he : ¬ endAt l < l.length) :
    ¬ NoForm (l ++ [55]) ∧ ∀ i, i < (frac (l ++ [55])).length → pt (l ++ [55]) + 1 + i ≤ l.length := by
  rcases bare hm he with rfl | rfl | rfl | rfl | rfl | rfl
  all_goals
    refine ⟨by unfold NoForm; decide, ?_⟩
    intro i hi
    revert hi
    first
    | (rw [show (frac _).length = 0 by decide]; intro hi; omega)
    | (rw [show (frac _).length = 1 by decide]; intro hi; obtain rfl : i = 0 := by omega
       decide)
end Go.Proofs.Ytjefmcfkhalagaa.Scr
