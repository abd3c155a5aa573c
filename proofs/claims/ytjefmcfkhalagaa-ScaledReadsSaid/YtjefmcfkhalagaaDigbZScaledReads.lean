/- Plain facts: Run and Value of digits. -/
import Derived.Test.YtjefmcfkhalagaaDigeZScaledReads
import Derived.Test.YtjefmcfkhalagaaQ0ZScaledReads
namespace Go.Proofs.Ytjefmcfkhalagaa.Dig
open Go.RowKit Go.Proofs.Ytjefmcfkhalagaa.Q Go.Proofs.YtjefmcfkhalagaaW.PrintWords Go.Proofs.YtjefmcfkhalagaaW.PrintLast

theorem isd_true {c : Int} (h : IsD c) : digit_Is.f c = some true := by
  unfold IsD at h; unfold digit_Is.f; rw [if_pos (by omega), decide_eq_true h.2]
theorem isd_eq (c : Int) : digit_Is.f c = some (decide (IsD c)) := by
  unfold IsD digit_Is.f
  by_cases h : c ≥ 48
  · rw [if_pos h]; simp [show (48 : Int) ≤ c from h]
  · rw [if_neg h]; simp [show ¬ (48 : Int) ≤ c from h]
theorem rd_mem {l : List Int} {i : Nat} (h : i < l.length) : rd l (i : Int) ∈ l := by
  have : rd l (i : Int) = l[i] := by simp [rd, h]
  rw [this]; exact List.getElem_mem h
theorem run_loop {l : List Int} (h : AllD l) (hl : l.length < 9223372036854775807) : ∀ (d i : Nat), i + d = l.length → Ev (fun k => digit_Run.l0 k i l l.length i) (l.length : Int) := by
  intro d
  induction d with
  | zero =>
    intro i hi
    refine Ev.step (fun k => by simp only [digit_Run.l0]; rfl) ?_
    simp only [if_neg (show ¬ (i : Int) < l.length by omega)]
    have : i = l.length := by omega
    rw [this]; exact Ev.now _
  | succ d ih =>
    intro i hi
    refine Ev.step (fun k => by simp only [digit_Run.l0]; rfl) ?_
    simp only [if_pos (show (i : Int) < l.length by omega), if_pos (show (0 : Int) ≤ i by omega), isd_true (h _ (rd_mem (show i < l.length by omega))), Option.bind_some, if_true]
    rw [wrap64_id (by omega) (by omega)]
    exact_mod_cast ih (i + 1) (by omega)
theorem run_ev {l : List Int} (h : AllD l) (h0 : l ≠ []) (hl : l.length < 9223372036854775807) : Ev (fun k => digit_Run.f k l 0) (l.length : Int) := by
  have hp : 0 < l.length := List.length_pos_iff.2 h0
  unfold digit_Run.f
  simp only [if_neg (show ¬ (0 : Int) < 0 by omega), decide_eq_false (show ¬ (0 : Int) ≥ l.length by omega)]
  refine Ev.step (fun k => by simp only [digit_Run.j0]; rfl) ?_
  simp only [Bool.false_eq_true, if_false, if_pos (show (0 : Int) ≤ 0 by omega), if_pos (show (0 : Int) ≤ l.length by omega), Int.toNat_zero, List.drop_zero]
  exact run_loop h hl l.length 0 (by omega)

theorem word_F (l : List Int) : ∀ n, digit_Eight.word l n = digit_Eight.wordF (fun j => l.getD j 0) n
  | 0 => rfl
  | n + 1 => by simp only [digit_Eight.word, digit_Eight.wordF, word_F l n]
theorem take8 {l : List Int} (h : 8 ≤ l.length) : l.take 8 = [l.getD 0 0, l.getD 1 0, l.getD 2 0, l.getD 3 0, l.getD 4 0, l.getD 5 0, l.getD 6 0, l.getD 7 0] := by
  match l, h with
  | a :: b :: c :: d :: e :: f :: g :: i :: r, _ => rfl
theorem eight_all {l : List Int} (hl : 8 ≤ l.length) (h : AllD (l.take 8)) : digit_Eight.f l = some (dval (l.take 8), true) := by
  unfold digit_Eight.f
  have ha : digit_Eight.allD l = true := by
    unfold digit_Eight.allD
    rw [List.all_eq_true]
    intro c hc
    have := h c hc
    unfold IsD at this
    simp [digit_Eight.dig, this]
  rw [if_neg (by omega), if_pos ha, word_F, joined_eq, ← take8 hl]
  intro j hj
  apply h
  rw [take8 hl]
  match j, hj with
  | 0, _ => simp
  | 1, _ => simp
  | 2, _ => simp
  | 3, _ => simp
  | 4, _ => simp
  | 5, _ => simp
  | 6, _ => simp
  | 7, _ => simp
theorem eight_not {l : List Int} (h : ¬ AllD (l.take 8)) : digit_Eight.f l = some (0, false) := by
  unfold digit_Eight.f
  by_cases hl : (l.length : Int) < 8
  · rw [if_pos hl]
  · rw [if_neg hl]
    have ha : ¬ digit_Eight.allD l = true := by
      intro hx; apply h
      unfold digit_Eight.allD at hx
      rw [List.all_eq_true] at hx
      intro c hc
      have := hx c hc
      simpa [digit_Eight.dig, IsD] using this
    rw [if_neg ha]
theorem eight_short {l : List Int} (h : l.length < 8) : digit_Eight.f l = some (0, false) := by
  unfold digit_Eight.f; rw [if_pos (by omega)]
theorem dv_ge {a : Int} (ha : 0 ≤ a) {l : List Int} (h : AllD l) : a ≤ dv a l := by
  rw [dv_pow]
  have := (dval_bounds h).1
  have p : (1 : Int) ≤ 10 ^ l.length := Int.pow_pos (by decide)
  have := Int.mul_le_mul_of_nonneg_left p ha
  omega
theorem allD_drop {l : List Int} (h : AllD l) (n : Nat) : AllD (l.drop n) := fun c hc => h c (List.mem_of_mem_drop hc)
theorem allD_take {l : List Int} (h : AllD l) (n : Nat) : AllD (l.take n) := fun c hc => h c (List.mem_of_mem_take hc)
theorem val_loop : ∀ (n : Nat) (l : List Int), l.length ≤ n → AllD l → ∀ x : Int, 0 ≤ x → dv x l < 18446744073709551616 → Ev (fun k => digit_Value.l1 k l x) (dv x l, 0) := by
  intro n
  induction n with
  | zero =>
    intro l hl h x hx hv
    have : l = [] := List.length_eq_zero_iff.1 (by omega)
    subst this
    refine Ev.step (fun k => by simp only [digit_Value.l1]; rfl) ?_
    simp only [List.length_nil]
    exact Ev.now _
  | succ n ih =>
    intro l hl h x hx hv
    match l, hl, h, hv with
    | [], hl, h, hv =>
      refine Ev.step (fun k => by simp only [digit_Value.l1]; rfl) ?_
      simp only [List.length_nil]
      exact Ev.now _
    | c :: m, hl, h, hv =>
    have hc : IsD c := h c List.mem_cons_self
    have one : ∀ y, Ev (fun k => digit_Value.j4 k (c :: m) x y false) (dv x (c :: m), 0) := by
      intro y
      refine Ev.step (fun k => by simp only [digit_Value.j4]; rfl) ?_
      have r0 : rd (c :: m) 0 = c := rfl
      have g := dv_ge (a := 10 * x + (c - 48)) (l := m) (by unfold IsD at hc; omega) (fun d hd => h d (List.mem_cons_of_mem _ hd))
      have e : dv x (c :: m) = dv (10 * x + (c - 48)) m := rfl
      unfold IsD at hc
      have m1 : (c - 48) % 256 = c - 48 := by omega
      simp only [Bool.false_eq_true, if_false, r0, m1, List.length_cons]
      simp only [if_pos (show (0 : Int) < ((m.length + 1 : Nat) : Int) by omega), if_neg (show ¬ x > (18446744073709551615 - (c - 48)) / 10 by omega), if_pos (show (1 : Int) ≤ ((m.length + 1 : Nat) : Int) by omega), List.drop_one, List.tail_cons]
      rw [w64, w64, show (10 * x % 18446744073709551616 + (c - 48)) % 18446744073709551616 = 10 * x + (c - 48) by omega]
      exact ih m (by have := hl; simp only [List.length_cons] at this; omega) (fun d hd => h d (List.mem_cons_of_mem _ hd)) _ (by omega) hv
    refine Ev.step (fun k => by simp only [digit_Value.l1]; rfl) ?_
    simp only [if_pos (show ((c :: m).length : Int) > 0 by simp)]
    by_cases h8 : (c :: m).length < 8
    · simp only [eight_short h8, Option.bind_some, Bool.false_eq_true, if_false]
      exact one _
    · have h8 : 8 ≤ (c :: m).length := by omega
      simp only [eight_all h8 (allD_take h 8), Option.bind_some, if_true]
      by_cases hx10 : x < 10000000000
      · simp only [decide_eq_true hx10]
        refine Ev.step (fun k => by simp only [digit_Value.j4]; rfl) ?_
        simp only [if_true, if_pos (show 8 ≤ ((c :: m).length : Int) by omega)]
        have b := dval_bounds (allD_take h 8)
        rw [List.length_take, Nat.min_eq_left h8] at b
        have e : dv x (c :: m) = dv (x * 100000000 + dval ((c :: m).take 8)) ((c :: m).drop 8) := by
          conv => lhs; rw [← List.take_append_drop 8 (c :: m), dv_append, dv_pow x ((c :: m).take 8)]
          rw [List.length_take, Nat.min_eq_left h8]; rfl
        rw [w64, w64, show (x * 100000000 % 18446744073709551616 + dval ((c :: m).take 8)) % 18446744073709551616 = x * 100000000 + dval ((c :: m).take 8) by omega, e]
        exact ih _ (by simp only [List.length_drop, List.length_cons] at hl ⊢; omega) (allD_drop h 8) _ (by omega) (by rw [← e]; exact hv)
      · simp only [decide_eq_false hx10]
        exact one _
theorem val_strip : ∀ (l : List Int), AllD l → dval l < 18446744073709551616 → Ev (fun k => digit_Value.l0 k l) (dval l, 0) := by
  have go : ∀ l : List Int, AllD l → dval l < 18446744073709551616 → (l.length : Int) ≤ 20 → Ev (fun k => digit_Value.j2 k l) (dval l, 0) := by
    intro l h hv hl
    refine Ev.step (fun k => by simp only [digit_Value.j2]; rfl) ?_
    simp only [if_neg (show ¬ (l.length : Int) > 20 by omega)]
    exact val_loop _ l (Nat.le_refl _) h 0 (by omega) hv
  intro l
  induction l with
  | nil =>
    intro h hv
    refine Ev.step (fun k => by simp only [digit_Value.l0]; rfl) ?_
    simp only [List.length_nil]
    exact go [] h hv (by simp)
  | cons c m ih =>
    intro h hv
    have hc : IsD c := h c List.mem_cons_self
    have hm : AllD m := fun d hd => h d (List.mem_cons_of_mem _ hd)
    refine Ev.step (fun k => by simp only [digit_Value.l0]; rfl) ?_
    simp only [List.length_cons, if_pos (show ((m.length + 1 : Nat) : Int) > 0 by omega), show rd (c :: m) 0 = c from rfl]
    by_cases h48 : c = 48
    · subst h48
      have e : dval (48 :: m) = dval m := by rw [dval_cons]; omega
      simp only [if_true, if_pos (show (1 : Int) ≤ ((m.length + 1 : Nat) : Int) by omega), List.drop_one, List.tail_cons]
      rw [e] at hv ⊢
      exact ih hm hv
    · simp only [if_neg h48]
      refine go _ h hv ?_
      have b := dval_bounds hm
      rw [dval_cons] at hv
      unfold IsD at hc
      have m1 : 1 * 10 ^ m.length ≤ (c - 48) * 10 ^ m.length := Int.mul_le_mul_of_nonneg_right (by omega) (Int.le_of_lt (Int.pow_pos (by decide)))
      have : m.length < 20 := by
        apply pow10_lt (x := 18446744073709551616) (by omega)
        have : (10 : Int) ^ 20 = 100000000000000000000 := by rfl
        omega
      simp only [List.length_cons]; omega
theorem val_ev {l : List Int} (h : AllD l) (h0 : l ≠ []) (hl : l.length < 9223372036854775807) (hv : dval l < 18446744073709551616) : Ev (fun k => digit_Value.f k l) (dval l, 0) := by
  have hp : 0 < l.length := List.length_pos_iff.2 h0
  unfold digit_Value.f
  simp only [if_neg (show ¬ (l.length : Int) = 0 by omega)]
  refine Ev.bind (run_ev h h0 hl) ?_
  simp only [decide_eq_false (show ¬ (l.length : Int) < l.length by omega)]
  refine Ev.step (fun k => by simp only [digit_Value.j0]; rfl) ?_
  simp only [Bool.false_eq_true, if_false]
  exact val_strip l h hv
end Go.Proofs.Ytjefmcfkhalagaa.Dig
