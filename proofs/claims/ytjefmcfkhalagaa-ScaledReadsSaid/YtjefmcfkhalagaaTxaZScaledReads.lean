/- Plain facts: what read answers of a text that is written down. -/
import Derived.Test.YtjefmcfkhalagaaValZScaledReads
import Derived.Test.YtjefmcfkhalagaaRunZScaledReads
import Derived.Test.YtjefmcfkhalagaaDigeZScaledReads
import Derived.Test.YtjefmcfkhalagaaDigbZScaledReads
import Derived.Test.YtjefmcfkhalagaaSciZScaledReads
import Derived.Test.YtjefmcfkhalagaaQ2ZScaledReads
namespace Go.Proofs.Ytjefmcfkhalagaa.Scr
set_option linter.unusedVariables false
set_option linter.unusedSimpArgs false
open Go.RowKit Go.Proofs.Ytjefmcfkhalagaa.Q Go.Proofs.YtjefmcfkhalagaaW.PrintWords Go.Proofs.YtjefmcfkhalagaaW.PrintLast Go.Proofs.YtjefmcfkhalagaaW.PrintMore Go.Proofs.Ytjefmcfkhalagaa.Dig
/-- A sign, digits, and what is behind them. -/
def sgl (b : Bool) : List Int := if b = true then [45] else []
def Tail (tail fs : List Int) : Prop := (tail = [] ∧ fs = []) ∨ tail = 46 :: fs
structure Tx (b : Bool) (u tail fs : List Int) : Prop where
  hu : AllD u
  h0 : u ≠ []
  hf : AllD fs
  ht : Tail tail fs
theorem Tx.rd0 {b : Bool} {u tail fs : List Int} (h : Tx b u tail fs) : isb (sgl b ++ u ++ tail) 0 45 45 = b ∧ a1 (sgl b ++ u ++ tail) = (sgl b).length := by
  obtain ⟨hu, h0, hf, ht⟩ := h
  match u, h0 with
  | d :: t, _ =>
    have hd := hu d List.mem_cons_self
    unfold IsD at hd
    cases b
    · have e1 : isb (sgl false ++ d :: t ++ tail) 0 45 45 = false := by
        simp [isb, sgl, rd]; omega
      have e2 : isb (sgl false ++ d :: t ++ tail) 0 43 45 = false := by
        simp [isb, sgl, rd]; omega
      refine ⟨e1, ?_⟩
      unfold a1; rw [e2]; rfl
    · have e1 : isb (sgl true ++ d :: t ++ tail) 0 45 45 = true := by
        simp [isb, sgl, rd]
      have e2 : isb (sgl true ++ d :: t ++ tail) 0 43 45 = true := by
        simp [isb, sgl, rd]
      refine ⟨e1, ?_⟩
      unfold a1; rw [e2]; rfl
theorem lead_tail {tail fs : List Int} (h : Tail tail fs) : lead tail = 0 := by
  rcases h with ⟨rfl, _⟩ | rfl
  · rfl
  · exact lead_no (by unfold IsD; omega) _
theorem Tx.m1 {b : Bool} {u tail fs : List Int} (h : Tx b u tail fs) : m1 (sgl b ++ u ++ tail) = u.length ∧ pt (sgl b ++ u ++ tail) = (sgl b).length + u.length ∧ whole (sgl b ++ u ++ tail) = u := by
  have e := h.rd0.2
  have e1 : (sgl b ++ u ++ tail).drop (sgl b).length = u ++ tail := by rw [List.append_assoc, List.drop_left]
  have e2 : Scr.m1 (sgl b ++ u ++ tail) = u.length := by
    unfold Scr.m1; rw [e, e1, lead_append h.hu, lead_tail h.ht]; rfl
  refine ⟨e2, by unfold pt; rw [e, e2], ?_⟩
  unfold whole; rw [e, e1, e2, List.take_left]
theorem Tx.dot {b : Bool} {u tail fs : List Int} (h : Tx b u tail fs) : (tail = [] ∧ fs = [] ∧ Scr.dot (sgl b ++ u ++ tail) = false) ∨ (tail = 46 :: fs ∧ Scr.dot (sgl b ++ u ++ tail) = true) := by
  have e := h.m1.2.1
  rcases h.ht with ⟨rfl, rfl⟩ | rfl
  · refine .inl ⟨rfl, rfl, ?_⟩
    unfold Scr.dot isb; rw [e, if_neg (by simp)]
  · refine .inr ⟨rfl, ?_⟩
    unfold Scr.dot isb
    rw [e, if_pos (by simp)]
    have : rd (sgl b ++ u ++ 46 :: fs) (((sgl b).length + u.length : Nat) : Int) = 46 := by
      unfold rd
      rw [Int.toNat_natCast, List.getD_eq_getElem?_getD, List.getElem?_append_right (by simp)]
      simp
    rw [this]; rfl
theorem Tx.fr {b : Bool} {u tail fs : List Int} (h : Tx b u tail fs) : frac (sgl b ++ u ++ tail) = fs ∧ m2 (sgl b ++ u ++ tail) = fs.length ∧ endAt (sgl b ++ u ++ tail) = (sgl b ++ u ++ tail).length := by
  have e := h.m1.2.1
  rcases h.dot with ⟨rfl, rfl, hd⟩ | ⟨rfl, hd⟩
  · refine ⟨by unfold frac; rw [hd]; rfl, by unfold m2; rw [hd]; rfl, ?_⟩
    unfold endAt; rw [hd, e]; simp
  · have e1 : (sgl b ++ u ++ 46 :: fs).drop ((sgl b).length + u.length + 1) = fs := by
      have : sgl b ++ u ++ 46 :: fs = (sgl b ++ u ++ [46]) ++ fs := by simp
      rw [this, show (sgl b).length + u.length + 1 = (sgl b ++ u ++ [46]).length by simp; omega, List.drop_left]
    have e2 : m2 (sgl b ++ u ++ 46 :: fs) = fs.length := by
      unfold m2; rw [hd, if_pos rfl, e, e1, lead_all h.hf]
    refine ⟨by unfold frac; rw [hd, if_pos rfl, e, e1, e2, List.take_length], e2, ?_⟩
    unfold endAt; rw [hd, if_pos rfl, e, e2]; simp; omega
theorem badAt_ok {fs : List Int} {s : Nat} (h : ∀ i, i < fs.length → s ≤ i → rd fs (i : Int) = 48) : badAt fs s = none := by
  unfold badAt
  rw [List.find?_range_eq_none]
  intro i hi
  simp only [Bool.not_eq_true', decide_eq_false_iff_not, not_and, Classical.not_not]
  exact fun hs => h i hi hs
theorem Tx.read {b : Bool} {u tail fs : List Int} (h : Tx b u tail fs) {s : Nat} (hs : s ≤ fs.length) (hz : ∀ i, i < fs.length → s ≤ i → rd fs (i : Int) = 48) (hl : u.length + fs.length < 100000) (hv : dval (u ++ fs.take s) ≤ 999999999999999999) :
    Ev (fun k => readF k (sgl b ++ u ++ tail) s) (.inl (if b = true then IntKind.u64.wrap (-dval (u ++ fs.take s)) else dval (u ++ fs.take s))) := by
  have q1 := h.m1
  have q2 := h.fr
  unfold readF
  have hu : 0 < u.length := List.length_pos_iff.2 h.h0
  rw [q2.1]
  simp only [q1.1, q2.2.1, q2.2.2, if_neg (show ¬ (u.length + fs.length = 0 ∨ (sgl b ++ u ++ tail).length < (sgl b ++ u ++ tail).length) by omega), badAt_ok hz, h.rd0.1]
  have ea : Scr.all (sgl b ++ u ++ tail) s = 48 :: (u ++ fs.take s) := by
    unfold Scr.all; rw [q1.2.2, q2.1, show s - fs.length = 0 by omega]; simp
  rw [ea]
  have hA : AllD (48 :: (u ++ fs.take s)) := by
    intro c hc
    rcases List.mem_cons.1 hc with rfl | hc
    · unfold IsD; omega
    · rcases List.mem_append.1 hc with hc | hc
      · exact h.hu c hc
      · exact h.hf c (List.mem_of_mem_take hc)
  have hval : dval (48 :: (u ++ fs.take s)) = dval (u ++ fs.take s) := by rw [dval_cons]; omega
  have hb := dval_bounds (l := u ++ fs.take s) (fun c hc => hA c (List.mem_cons_of_mem _ hc))
  refine Ev.bind (val_ev hA (by simp) (by simp; omega) (by rw [hval]; omega)) ?_
  rw [hval]
  simp only [if_neg (show ¬ ((0 : Int) ≠ 0 ∨ dval (u ++ fs.take s) > 999999999999999999) by omega)]
  exact Ev.now _
theorem Tx.parse {b : Bool} {u tail fs : List Int} (h : Tx b u tail fs) {s : Nat} (hs18 : s ≤ 18) (hs : s ≤ fs.length) (hz : ∀ i, i < fs.length → s ≤ i → rd fs (i : Int) = 48) (hl : (sgl b ++ u ++ tail).length ≤ 1024) (hv : dval (u ++ fs.take s) ≤ 999999999999999999) :
    Ev (fun k => scaled_Parse.f k (s : Int) (sgl b ++ u ++ tail)) ((if b = true then IntKind.u64.wrap (-dval (u ++ fs.take s)) else dval (u ++ fs.take s)), 0, 0) := by
  have hlen : u.length + fs.length < 100000 := by
    have := h.ht
    simp only [List.length_append] at hl
    rcases this with ⟨_, rfl⟩ | rfl
    · simp; omega
    · simp at hl; omega
  obtain ⟨K, hK⟩ := h.read hs hz hlen hv
  refine ⟨K, fun k hk => ?_⟩
  show parseF k (sgl b ++ u ++ tail) (s : Int) = _
  unfold parseF
  rw [if_neg (by omega), if_neg (by omega), Int.toNat_natCast]
  have := hK k hk
  dsimp only at this
  rw [this]; rfl
end Go.Proofs.Ytjefmcfkhalagaa.Scr
