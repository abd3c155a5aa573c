/- ScaledBack: the printed law function answers true. -/
import Derived.Test.YtjefmcfkhalagaaTxaZScaledBack
import Derived.Test.YtjefmcfkhalagaaTenZScaledBack
import Derived.Test.YtjefmcfkhalagaaQ0ZScaledBack
import Derived.Test.YtjefmcfkhalagaaQ1ZScaledBack
namespace Go.Proofs.Ytjefmcfkhalagaa.Scr
set_option linter.unusedVariables false
set_option linter.unusedSimpArgs false
open Go.RowKit Go.Proofs.Ytjefmcfkhalagaa.Q Go.Proofs.YtjefmcfkhalagaaW.PrintWords Go.Proofs.YtjefmcfkhalagaaW.PrintLast Go.Proofs.YtjefmcfkhalagaaW.PrintMore Go.Proofs.Ytjefmcfkhalagaa.Dig
theorem may_yes {n : Nat} (h : n ≤ 18) : scaled_may.f (n : Int) = some true := by
  unfold scaled_may.f
  rw [if_pos (by omega), decide_eq_true (by omega)]
theorem D_lenb : ∀ (n : Nat) (x : Int), (digit_Pad.D n x).length = n
  | 0, _ => rfl
  | n + 1, x => by simp [digit_Pad.D, D_lenb n]
theorem ab_range {x : Int} (h : Sz x) : 0 ≤ ab x ∧ ab x ≤ 999999999999999999 := by
  unfold Sz at h; unfold ab; split <;> omega
theorem print_ev {x : Int} (hx : Sz x) {s : Nat} (hs : s ≤ 18) : ∃ u fs tail, Tx (decide (x < 0)) u tail fs ∧ Ev (fun k => scaled_Print.f k (s : Int) (bt x)) (sgl (decide (x < 0)) ++ u ++ tail, 0) ∧ fs.length = s ∧ dval (u ++ fs) = ab x ∧ (s = 0 → tail = []) ∧ (0 < s → tail = 46 :: fs) ∧ u.length ≤ 20 := by
  have hab := ab_range hx
  obtain ⟨c, hc, h19, hlt, hge⟩ := count_ev (x := ab x) hab.1 (by omega)
  have hc18 : c ≤ 18 := by
    rcases hge with h | h
    · omega
    · have h1 : (10 : Int) ^ c < 10 ^ 18 := by
        have : (10 : Int) ^ 18 = 1000000000000000000 := by rfl
        omega
      have := pow10_lt (Int.le_refl _) h1
      omega
  obtain ⟨wd, hwd, w1, w2, w3⟩ : ∃ wd : Nat, mx ((c : Int) + 1) (wrap64 ((s : Int) + 1)) = (wd : Int) ∧ c + 1 ≤ wd ∧ s + 1 ≤ wd ∧ wd ≤ 20 := by
    rw [wrap64_id (by omega) (by omega)]
    unfold mx
    split
    · exact ⟨s + 1, by omega, by omega, by omega, by omega⟩
    · exact ⟨c + 1, by omega, by omega, by omega, by omega⟩
  have hp := pad_ev hc (wd := wd) (by omega) w3 w1
  have dA := D_all wd hab.1 (show ab x < 18446744073709551616 by omega)
  have dV := D_val wd hab.1 (show ab x < 18446744073709551616 by omega)
  have dL := D_lenb wd (ab x)
  have hmod : ab x % 10 ^ wd = ab x := by
    apply Int.emod_eq_of_lt hab.1
    have h1 : (10 : Int) ^ (c + 1) ≤ 10 ^ wd := by
      obtain ⟨j, rfl⟩ : ∃ j, wd = c + 1 + j := ⟨wd - (c + 1), by omega⟩
      rw [Int.pow_add _ (c + 1)]
      have p : (0 : Int) < 10 ^ (c + 1) := Int.pow_pos (by decide)
      have q : (1 : Int) ≤ 10 ^ j := Int.pow_pos (by decide)
      have := Int.mul_le_mul_of_nonneg_left q (show (0 : Int) ≤ 10 ^ (c + 1) by omega)
      omega
    omega
  rw [hmod] at dV
  generalize digit_Pad.D wd (ab x) = ds at *
  refine ⟨ds.take (wd - s), ds.drop (wd - s), if s = 0 then [] else 46 :: ds.drop (wd - s), ?_, ?_, by simp; omega, by rw [List.take_append_drop]; exact dV, fun h => by rw [if_pos h], fun h => by rw [if_neg (by omega)], by simp; omega⟩
  · refine ⟨fun c hc => dA c (List.mem_of_mem_take hc), by rw [← List.length_pos_iff]; simp; omega, fun c hc => dA c (List.mem_of_mem_drop hc), ?_⟩
    by_cases h : s = 0
    · rw [if_pos h]; exact .inl ⟨rfl, by rw [List.drop_of_length_le (by omega)]⟩
    · rw [if_neg h]; exact .inr rfl
  · unfold scaled_Print.f
    simp only [size_of hx, Option.bind_some, may_yes hs, if_true]
    refine Ev.bind hc ?_
    rw [hwd]
    refine Ev.bind hp ?_
    have e1 : wrap64 ((ds.length : Int) - (s : Int)) = ((wd - s : Nat) : Int) := by rw [wrap64_id (by omega) (by omega)]; omega
    simp only [e1, if_pos (show (0 : Int) ≤ ((wd - s : Nat) : Int) by omega), if_pos (show ((wd - s : Nat) : Int) ≤ (ds.length : Int) by omega), Int.toNat_natCast, List.nil_append, List.length_nil, if_pos (show 0 < 140737488355328 by omega)]
    have l1 : (ds.take (wd - s)).length = wd - s := by simp; omega
    have l2 : (ds.drop (wd - s)).length = s := by simp; omega
    by_cases hn : x < 0
    · simp only [decide_eq_true hn, if_true, List.length_singleton, l1, if_pos (show 1 + (wd - s) < 140737488355328 by omega), List.length_append, l2]
      by_cases h0 : s = 0
      · simp only [if_pos h0, if_neg (show ¬ (s : Int) > 0 by omega), sgl, if_true, List.append_nil]; exact Ev.now _
      · simp only [if_neg h0, if_pos (show (s : Int) > 0 by omega), if_pos (show 1 + (wd - s) < 140737488355328 by omega), if_pos (show 1 + (wd - s) + 1 + s < 140737488355328 by omega), sgl, if_true]
        rw [show ([45] ++ List.take (wd - s) ds ++ [46] ++ List.drop (wd - s) ds : List Int) = [45] ++ List.take (wd - s) ds ++ 46 :: List.drop (wd - s) ds by simp]
        exact Ev.now _
    · simp only [decide_eq_false hn, Bool.false_eq_true, if_false, List.length_nil, l1, Nat.zero_add, if_pos (show (wd - s) < 140737488355328 by omega), List.length_append, l2, List.length_singleton]
      by_cases h0 : s = 0
      · simp only [if_pos h0, if_neg (show ¬ (s : Int) > 0 by omega), sgl, Bool.false_eq_true, if_false, List.append_nil, List.nil_append]; exact Ev.now _
      · simp only [if_neg h0, if_pos (show (s : Int) > 0 by omega), if_pos (show (wd - s) < 140737488355328 by omega), if_pos (show (wd - s) + 1 + s < 140737488355328 by omega), sgl, Bool.false_eq_true, if_false, List.nil_append]
        rw [show (List.take (wd - s) ds ++ [46] ++ List.drop (wd - s) ds : List Int) = List.take (wd - s) ds ++ 46 :: List.drop (wd - s) ds by simp]
        exact Ev.now _
theorem sign_val {x : Int} (hx : Sz x) : (if decide (x < 0) = true then IntKind.u64.wrap (-ab x) else ab x) = bt x := by
  unfold ab
  by_cases h : x < 0
  · rw [decide_eq_true h, if_pos rfl, if_pos h, w64]; unfold Dig.bt; congr 1; omega
  · rw [decide_eq_false h, if_neg (by simp), if_neg h]; unfold Sz at hx; unfold Dig.bt; omega
theorem back_tail {x : Int} (hx : Sz x) {s : Nat} (hs : s ≤ 18) {u fs tail : List Int} (h : Tx (decide (x < 0)) u tail fs) (hf : s ≤ fs.length) (hz : ∀ i, i < fs.length → s ≤ i → rd fs (i : Int) = 48) (hl : (sgl (decide (x < 0)) ++ u ++ tail).length ≤ 1024) (hv : dval (u ++ fs.take s) = ab x) :
    Ev (fun k => (scaled_Parse.f k (s : Int) (sgl (decide (x < 0)) ++ u ++ tail)).bind fun bt288 => ((mintagelaw12_num.f bt288.2.2).bind fun t291 => (if t291 = 0 then (if bt288.1 = bt x then ((mintagelaw12_wakes.f).bind fun t292 => (some t292)) else (some false)) else (some false)))) true := by
  have hab := ab_range hx
  refine Ev.bind (h.parse hs hf hz hl (by rw [hv]; omega)) ?_
  rw [hv, sign_val hx]
  simp only [num12, Option.bind_some, if_true]
  exact Ev.bind wakes_ev12 (Ev.now _)
theorem rep_rd {n : Nat} {fs : List Int} {s i : Nat} (hs : fs.length = s) (hi : i < (fs ++ List.replicate n 48).length) (h : s ≤ i) : rd (fs ++ List.replicate n 48) (i : Int) = 48 := by
  unfold rd
  rw [Int.toNat_natCast, List.getD_eq_getElem?_getD, List.getElem?_append_right (by omega), List.getElem?_replicate, if_pos (by simp at hi; omega)]; rfl
theorem back_loop {x : Int} (hx : Sz x) {s : Nat} (hs : s ≤ 18) {u fs : List Int} (hu : AllD u) (h0 : u ≠ []) (hfs : AllD fs) (hf : fs.length = s) (hul : u.length ≤ 20) (hv : dval (u ++ fs) = ab x) (m : Int) :
    ∀ (e i : Nat), i + e = 100 → Ev (fun k => mintagelaw12_ScaledBack.l0 k m (s : Int) (bt x) (sgl (decide (x < 0)) ++ u ++ 46 :: (fs ++ List.replicate i 48)) (i : Int)) true := by
  have hsg : (sgl (decide (x < 0))).length ≤ 1 := by unfold sgl; split <;> simp
  have tail_ : ∀ i, i ≤ 100 → Ev (fun k => (scaled_Parse.f k (s : Int) (sgl (decide (x < 0)) ++ u ++ 46 :: (fs ++ List.replicate i 48))).bind fun bt288 => ((mintagelaw12_num.f bt288.2.2).bind fun t291 => (if t291 = 0 then (if bt288.1 = bt x then ((mintagelaw12_wakes.f).bind fun t292 => (some t292)) else (some false)) else (some false)))) true := by
    intro i hi
    refine back_tail hx hs (fs := fs ++ List.replicate i 48) ⟨hu, h0, ?_, .inr rfl⟩ (by simp; omega) (fun j hj hsj => rep_rd hf hj hsj) (by simp; omega) ?_
    · intro c hc
      rcases List.mem_append.1 hc with hc | hc
      · exact hfs c hc
      · rw [List.eq_of_mem_replicate hc]; unfold IsD; omega
    · rw [← hf, List.take_left]; exact hv
  intro e
  induction e with
  | zero =>
    intro i hi
    refine Ev.step (fun k => by simp only [mintagelaw12_ScaledBack.l0]; rfl) ?_
    by_cases hn : (i : Int) < m
    · simp only [if_pos hn, if_neg (show ¬ (i : Int) < 100 by omega)]; exact tail_ i (by omega)
    · simp only [if_neg hn]; exact tail_ i (by omega)
  | succ e ih =>
    intro i hi
    refine Ev.step (fun k => by simp only [mintagelaw12_ScaledBack.l0]; rfl) ?_
    by_cases hn : (i : Int) < m
    · simp only [if_pos hn, if_pos (show (i : Int) < 100 by omega), if_pos (show (sgl (decide (x < 0)) ++ u ++ 46 :: (fs ++ List.replicate i 48)).length < 140737488355328 by simp; omega)]
      rw [wrap64_id (by omega) (by omega)]
      rw [show sgl (decide (x < 0)) ++ u ++ 46 :: (fs ++ List.replicate i 48) ++ [48] = sgl (decide (x < 0)) ++ u ++ 46 :: (fs ++ List.replicate (i + 1) 48) by rw [List.replicate_succ']; simp]
      exact_mod_cast ih (i + 1) (by omega)
    · simp only [if_neg hn]; exact tail_ i (by omega)
theorem PureScaledBack : mintagelaw12_ScaledBack.Pure := by
  intro a b m ha hb hm
  obtain ⟨s, hs, hs18⟩ := within_ev a 18 (by omega)
  obtain ⟨x, hx, ex⟩ := value_of (wf_u64b hb)
  obtain ⟨u, fs, tail, hT, hP, hfl, hv, ht0, ht1, hul⟩ := print_ev hx hs18
  suffices Ev (fun k => mintagelaw12_ScaledBack.f k a b m) true from this.rounds
  unfold mintagelaw12_ScaledBack.f
  rw [show ((18 : Nat) : Int) = 18 from rfl] at hs
  rw [hs, ex]
  simp only [Option.bind_some]
  refine Ev.bind hP ?_
  have hab := ab_range hx
  have hsg : (sgl (decide (x < 0))).length ≤ 1 := by unfold sgl; split <;> simp
  have htl : tail.length ≤ 19 := by
    rcases hT.ht with ⟨rfl, _⟩ | rfl
    · simp
    · simp; omega
  have hlen : (sgl (decide (x < 0)) ++ u ++ tail).length ≤ 40 := by simp only [List.length_append]; omega
  have hzz : ∀ i, i < fs.length → s ≤ i → rd fs (i : Int) = 48 := fun i h1 h2 => by omega
  have htake : fs.take s = fs := List.take_of_length_le (by omega)
  refine Ev.bind (hT.parse hs18 (by omega) hzz (by omega) (by rw [htake, hv]; omega)) ?_
  rw [htake, hv, sign_val hx]
  simp only [num12, Option.bind_some, if_true, show ((0 : Int) != 0) = false from rfl]
  refine Ev.step (fun k => by simp only [mintagelaw12_ScaledBack.j0]; rfl) ?_
  simp only [Bool.false_eq_true, if_false, Option.bind_some, List.length_nil, List.nil_append, Nat.zero_add, if_pos (show (sgl (decide (x < 0)) ++ u ++ tail).length < 140737488355328 by omega)]
  by_cases h0 : s = 0
  · simp only [if_pos (show (s : Int) = 0 by omega)]
    refine Ev.step (fun k => by simp only [mintagelaw12_ScaledBack.j1]; rfl) ?_
    have hf0 : fs = [] := List.eq_nil_of_length_eq_zero (by omega)
    rw [ht0 h0, List.append_nil]
    subst hf0
    have := back_loop hx hs18 hT.hu hT.h0 (fs := []) (fun c hc => by cases hc) (by simp; omega) hul hv m 100 0 rfl
    simpa using this
  · simp only [if_neg (show ¬ (s : Int) = 0 by omega)]
    refine Ev.step (fun k => by simp only [mintagelaw12_ScaledBack.j1]; rfl) ?_
    rw [ht1 (by omega)]
    have := back_loop hx hs18 hT.hu hT.h0 hT.hf hfl hul hv m 100 0 rfl
    simpa using this
end Go.Proofs.Ytjefmcfkhalagaa.Scr
namespace Go.Proofs.Ytjefmcfkhalagaa.Pure
theorem ScaledBack : Q.mintagelaw12_ScaledBack.Pure := Scr.PureScaledBack
end Go.Proofs.Ytjefmcfkhalagaa.Pure
