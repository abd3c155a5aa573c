/- Histories whose calls do not overlap (plain). -/
import Derived.Test.YtbjoinocajobhaaWiZAuditTakes
import Derived.Test.YtbjoinocajobhaaQ0ZAuditTakes
namespace Go.Proofs.Ytbjoinocajobhaa.Ju
set_option linter.unusedVariables false
set_option linter.unusedSimpArgs false
open Go.RowKit Go.Proofs.Ytbjoinocajobhaa.Q Go.Proofs.YtbjoinocajobhaaW.PrintWords Go.Proofs.YtbjoinocajobhaaW.PrintLast Go.Proofs.YtbjoinocajobhaaW.PrintMore
structure Serial (l : List S32) : Prop where
  len : l.length ≤ 14
  kind : ∀ i, i < l.length → 1 ≤ (sp l i).f0 ∧ (sp l i).f0 ≤ 4
  frm : ∀ i, i < l.length → 0 ≤ (sp l i).f1 ∧ (sp l i).f1 ≤ (sp l i).f2
  seq : ∀ i j, i < j → j < l.length → (sp l i).f2 < (sp l j).f1
theorem Serial.ended {l : List S32} (h : Serial l) {i : Nat} (hi : i < l.length) : Ju.ended (sp l i) = true := by
  have := h.frm i hi
  unfold Ju.ended
  rw [bne_iff_ne]; omega
theorem low_bit (i k : Nat) : (2 ^ i - 1).testBit k = decide (k < i) := Nat.testBit_two_pow_sub_one i k
theorem low_succ (i : Nat) : (2 ^ i - 1) ||| 2 ^ i = 2 ^ (i + 1) - 1 := by
  apply Nat.eq_of_testBit_eq
  intro k
  rw [testBit_set, low_bit, low_bit]
  by_cases h1 : k < i
  · rw [decide_eq_true h1, decide_eq_true (show k < i + 1 by omega)]; rfl
  · by_cases h2 : i = k
    · rw [decide_eq_true h2, decide_eq_true (show k < i + 1 by omega), Bool.or_true]
    · rw [decide_eq_false h1, decide_eq_false h2, decide_eq_false (show ¬ k < i + 1 by omega)]; rfl
def irange (i : Nat) : Nat → List Int
  | 0 => []
  | d + 1 => (i : Int) :: irange (i + 1) d
theorem branch_bit {l : List S32} {m i : Nat} {q : Qs} (h : m.testBit i = true) : branch l m q i = none := by
  apply branch_may
  unfold may; rw [h]; simp
theorem Serial.may {l : List S32} (h : Serial l) {i : Nat} (hi : i < l.length) : Ju.may l (2 ^ i - 1) i = true := by
  rw [may_end (fun k hk => ?_), low_bit, decide_eq_false (Nat.lt_irrefl i)]; · rfl
  rw [low_bit]
  by_cases hki : k < i
  · rw [decide_eq_true hki]; rfl
  · rw [decide_eq_false hki]
    have h1 := h.frm k hk
    have h2 := h.frm i hi
    have hle : ¬ (sp l k).f2 < (sp l i).f1 := by
      by_cases e : k = i
      · subst e; omega
      · have := h.seq i k (by omega) hk; omega
    unfold ahead
    rw [decide_eq_false hle]; simp
theorem Serial.later {l : List S32} (h : Serial l) {i j : Nat} (hij : i < j) (hj : j < l.length) (q : Qs) : branch l (2 ^ i - 1) q j = none := by
  apply branch_may
  apply may_false (j := i) (by omega)
  rw [low_bit, decide_eq_false (Nat.lt_irrefl i)]
  unfold ahead
  rw [h.ended (by omega), decide_eq_true (h.seq i j hij hj)]; rfl
theorem Serial.C {l : List S32} (h : Serial l) : ∀ (d i : Nat) (q : Qs), i + d = l.length → Ju.C l (2 ^ i - 1) q = if plainF l d i q = true then some (irange i d) else none := by
  intro d
  induction d with
  | zero =>
    intro i q hi
    have ho : over l (2 ^ i - 1) = true := over_true fun k hk => by
      rw [low_bit, decide_eq_true (show k < i by omega)]; simp
    rw [C_over q ho]; rfl
  | succ d ih =>
    intro i q hi
    have hil : i < l.length := by omega
    have ho : ¬ over l (2 ^ i - 1) = true := by
      rw [over_false hil (by rw [h.ended hil, low_bit, decide_eq_false (Nat.lt_irrefl i)]; rfl)]; simp
    have he : ∀ j, j < i → branch l (2 ^ i - 1) q j = none := fun j hj => branch_bit (by rw [low_bit, decide_eq_true hj])
    have hpl : plainF l (d + 1) i q = if goodP (sp l i) q = true then plainF l d (i + 1) (callQ q (sp l i).f0).2.2.1 else false := rfl
    have hgo := good_or (sp l i) q
    obtain ⟨⟨code, num, q', okk⟩, hcq⟩ : ∃ r, callQ q (sp l i).f0 = r := ⟨_, rfl⟩
    rw [hcq] at hgo hpl
    dsimp only at hgo hpl
    rw [hpl]
    by_cases hg : goodP (sp l i) q = true
    · rw [if_pos hg]
      have hg2 := hgo.1 hg
      have hb : branch l (2 ^ i - 1) q i = (Ju.C l ((2 ^ i - 1) ||| 2 ^ i) q').map fun r => (i : Int) :: r := by
        have hbad : bad okk (sp l i) code num = false := by
          unfold bad
          rw [hg2.1, hg2.2.1, hg2.2.2]; simp
        exact branch_good (h.may hil) hcq hbad
      rw [low_succ, ih (i + 1) q' (by omega)] at hb
      by_cases hp : plainF l d (i + 1) q' = true
      · rw [if_pos hp] at hb ⊢
        exact C_some ho hil he hb
      · rw [if_neg hp] at hb ⊢
        refine C_none ho fun j hj => ?_
        by_cases h1 : j < i
        · exact he j h1
        · by_cases h2 : j = i
          · subst h2; exact hb
          · exact h.later (by omega) hj q
    · rw [if_neg hg, if_neg (by simp)]
      refine C_none ho fun j hj => ?_
      by_cases h1 : j < i
      · exact he j h1
      · by_cases h2 : j = i
        · subst h2
          have hbad : bad okk (sp l j) code num = true := by
            cases hb : bad okk (sp l j) code num
            · exfalso
              apply hg
              apply hgo.2
              unfold bad at hb
              rw [h.ended hj] at hb
              simp at hb
              exact ⟨hb.1, hb.2.1, hb.2.2⟩
            · rfl
          exact branch_bad (h.may hj) hcq hbad
        · exact h.later (by omega) hj q
theorem serial_judge {l : List S32} (h : Serial l) : judgeF l = if plainB l = true then (irange 0 l.length, true, 0) else ([], false, 0) := by
  have hb : l.any badSpan = false := any_false fun j hj => by
    have h1 := h.kind j hj
    have h2 := h.frm j hj
    unfold badSpan kindB
    rw [decide_eq_true h1, decide_eq_false (show ¬ (sp l j).f1 < 0 by omega), decide_eq_false (show ¬ (sp l j).f2 < (sp l j).f1 by omega)]; rfl
  have hc := h.C l.length 0 q0 (by omega)
  have e0 : (2 : Nat) ^ 0 - 1 = 0 := rfl
  rw [e0] at hc
  unfold judgeF
  rw [if_neg (by have := h.len; omega), if_neg (by rw [hb]; simp), hc]
  have hq : plainF l l.length 0 q0 = plainB l := rfl
  rw [hq]
  by_cases hp : plainB l = true
  · rw [if_pos hp, if_pos hp]
  · rw [if_neg hp, if_neg hp]
theorem within14 (a : Int) : ∃ t, mintagekeep_Within.f a 1 4 = some t ∧ 1 ≤ t ∧ t ≤ 4 := by
  unfold mintagekeep_Within.f
  have e1 : wrap64 (wrap64 ((4 : Int) - 1) + 1) = 4 := by unfold wrap64; omega
  rw [e1, if_neg (by omega)]
  have b1 := Int.tmod_lt_of_pos a (show (0 : Int) < 4 by omega)
  have b2 := Int.lt_tmod_of_pos a (show (0 : Int) < 4 by omega)
  by_cases h : Int.tmod a 4 < 0
  · rw [if_pos h]; refine ⟨_, rfl, ?_⟩; unfold wrap64; omega
  · rw [if_neg h]; refine ⟨_, rfl, ?_⟩; unfold wrap64; omega
theorem within19 (a : Int) : ∃ t, mintagekeep_Within.f a 1 9 = some t ∧ 1 ≤ t ∧ t ≤ 9 := by
  unfold mintagekeep_Within.f
  have e1 : wrap64 (wrap64 ((9 : Int) - 1) + 1) = 9 := by unfold wrap64; omega
  rw [e1, if_neg (by omega)]
  have b1 := Int.tmod_lt_of_pos a (show (0 : Int) < 9 by omega)
  have b2 := Int.lt_tmod_of_pos a (show (0 : Int) < 9 by omega)
  by_cases h : Int.tmod a 9 < 0
  · rw [if_pos h]; refine ⟨_, rfl, ?_⟩; unfold wrap64; omega
  · rw [if_neg h]; refine ⟨_, rfl, ?_⟩; unfold wrap64; omega
/-- The rows that the law builds. -/
structure Bld (ss : List S32) (at_ : Int) : Prop where
  each : ∀ i, i < ss.length → (1 ≤ (sp ss i).f0 ∧ (sp ss i).f0 ≤ 4) ∧ 0 ≤ (sp ss i).f1 ∧ (sp ss i).f1 ≤ (sp ss i).f2 ∧ (sp ss i).f2 ≤ at_
  seq : ∀ i j, i < j → j < ss.length → (sp ss i).f2 < (sp ss j).f1
  lo : 0 ≤ at_
  hi : at_ ≤ 18 * (ss.length : Int)
theorem sp_left {ss : List S32} {x : S32} {i : Nat} (h : i < ss.length) : sp (ss ++ [x]) i = sp ss i := by
  unfold sp rd_T32
  rw [Int.toNat_natCast, List.getD_eq_getElem?_getD, List.getD_eq_getElem?_getD, List.getElem?_append_left h]
theorem sp_right {ss : List S32} {x : S32} : sp (ss ++ [x]) ss.length = x := by
  unfold sp rd_T32
  rw [Int.toNat_natCast, List.getD_eq_getElem?_getD, List.getElem?_append_right (Nat.le_refl _)]; simp
theorem Bld.more {ss : List S32} {at_ gap k : Int} (h : Bld ss at_) (hk : 1 ≤ k ∧ k ≤ 4) (hg : 1 ≤ gap ∧ gap ≤ 9) (c n : Int) : Bld (ss ++ [⟨k, at_ + gap, at_ + gap + gap - 1, c, n⟩]) (at_ + gap + gap - 1) := by
  have hl : (ss ++ [(⟨k, at_ + gap, at_ + gap + gap - 1, c, n⟩ : S32)]).length = ss.length + 1 := by simp
  have h0 := h.lo
  refine ⟨fun i hi => ?_, fun i j hij hj => ?_, by omega, by rw [hl]; have := h.hi; omega⟩
  · rw [hl] at hi
    by_cases e : i = ss.length
    · subst e; rw [sp_right]; dsimp only; omega
    · rw [sp_left (by omega)]; have := h.each i (by omega); omega
  · rw [hl] at hj
    by_cases e : j = ss.length
    · subst e
      rw [sp_right, sp_left (by omega)]
      have := h.each i (by omega); dsimp only; omega
    · rw [sp_left (by omega), sp_left (by omega)]
      exact h.seq i j hij (by omega)
theorem Bld.serial {ss : List S32} {at_ : Int} (h : Bld ss at_) (hl : ss.length ≤ 14) : Serial ss :=
  ⟨hl, fun i hi => (h.each i hi).1, fun i hi => ⟨(h.each i hi).2.1, (h.each i hi).2.2.1⟩, h.seq⟩
theorem irange_len : ∀ (d i : Nat), (irange i d).length = d
  | 0, _ => rfl
  | d + 1, i => by simp [irange, irange_len d]
theorem irange_snoc : ∀ (d i : Nat), irange i (d + 1) = irange i d ++ [((i + d : Nat) : Int)]
  | 0, i => by simp [irange]
  | d + 1, i => by
    have := irange_snoc d (i + 1)
    show (i : Int) :: irange (i + 1) (d + 1) = (i : Int) :: irange (i + 1) d ++ [((i + (d + 1) : Nat) : Int)]
    rw [this, show i + 1 + d = i + (d + 1) by omega]; rfl
end Go.Proofs.Ytbjoinocajobhaa.Ju
