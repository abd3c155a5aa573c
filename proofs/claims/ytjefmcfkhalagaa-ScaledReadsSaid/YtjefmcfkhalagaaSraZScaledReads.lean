/- Plain facts of ScaledReads: what begins answers of a text and of what it begins with. -/
import Derived.Test.YtjefmcfkhalagaaPlaZScaledReads
import Derived.Test.YtjefmcfkhalagaaConvZScaledReads
import Derived.Lib.SlBytesRow
import Derived.Test.YtjefmcfkhalagaaQ0ZScaledReads
namespace Go.Proofs.Ytjefmcfkhalagaa.Scr
set_option linter.unusedVariables false
set_option linter.unusedSimpArgs false
open Go.RowKit Go.Proofs.Ytjefmcfkhalagaa.Q Go.Proofs.YtjefmcfkhalagaaW.PrintWords Go.Proofs.YtjefmcfkhalagaaW.PrintLast Go.Proofs.YtjefmcfkhalagaaW.PrintMore Go.Proofs.Ytjefmcfkhalagaa.Dig Go.Proofs.Ytjefmcfkhalagaa.Keep
theorem bt_str {l : List Int} (h : Bts l) {i : Nat} (hi : i < l.length) : Go.Proofs.YtjefmcfkhalagaaW.PrintWords.bt (strOfNums l) (i : Int) = rd l (i : Int) := by
  have hb := h _ (List.getElem_mem hi)
  rw [← rd_bytesOf]
  unfold bytesOf rd
  rw [Int.toNat_natCast, strOfNums_data, List.getD_eq_getElem?_getD, List.getD_eq_getElem?_getD, List.getElem?_map, List.getElem?_map, List.getElem?_eq_getElem hi]
  simp only [Option.map_some, Option.getD_some]
  rw [UInt8.toNat_ofNat_of_lt' (by show l[i].toNat < 256; omega)]
  omega
theorem str_extract (l : List Int) (a b : Nat) : (strOfNums l).extract a b = strOfNums ((l.take b).drop a) := by
  apply ByteArray.ext
  apply Array.ext'
  show ((strOfNums l).extract a b).data.toList = (strOfNums ((l.take b).drop a)).data.toList
  rw [Go.Lib.extract_data, strOfNums_data, strOfNums_data]
  rw [List.map_drop, List.map_take]
  rw [List.drop_take]
theorem str_nil {l : List Int} : (strOfNums l).toList = ([] : List UInt8) ↔ l = [] := by
  rw [Go.Lib.strOfNums_toList]
  unfold Go.Lib.bytesOf
  simp
def cp (l : List Int) : Nat := l.countP fun c => decide (c = 46)
def cd (l : List Int) : Nat := l.countP fun c => decide (IsD c)
theorem cp_cons (c : Int) (l : List Int) : cp (c :: l) = cp l + if c = 46 then 1 else 0 := by unfold cp; rw [List.countP_cons]; simp
theorem cd_cons (c : Int) (l : List Int) : cd (c :: l) = cd l + if IsD c then 1 else 0 := by unfold cd; rw [List.countP_cons]; simp
theorem cpd_le (l : List Int) : cp l + cd l ≤ l.length := by
  induction l with
  | nil => exact Nat.le_refl _
  | cons c m ih =>
    rw [cp_cons, cd_cons, List.length_cons]
    by_cases h : c = 46
    · rw [if_pos h, if_neg (by unfold IsD; omega)]; omega
    · rw [if_neg h]; split <;> omega
def ansB (P D n : Nat) : Bool × Bool := (decide (P ≤ 1 ∧ P + D = n), decide (P ≤ 1 ∧ P + D = n ∧ 0 < D))
theorem ris12 (c : Int) : mintageref04_Is.f c = some (decide (IsD c)) := isd_ev c
theorem bg_loop {m : List Int} (hB : Bts m) (hl : m.length ≤ 2000) : ∀ (d i p q : Nat), i + d = m.length → p ≤ i → q ≤ i →
    Ev (fun k => mintageref12_begins.l0 k (strOfNums m) (p : Int) (q : Int) (i : Int)) (ansB (p + cp (m.drop i)) (q + cd (m.drop i)) m.length) := by
  intro d
  induction d with
  | zero =>
    intro i p q hi hp hq
    refine Ev.step (fun k => by simp only [mintageref12_begins.l0]; rfl) ?_
    rw [strOfNums_size]
    simp only [if_neg (show ¬ (i : Int) < m.length by omega)]
    rw [List.drop_of_length_le (by omega)]
    have e : wrap64 ((p : Int) + q) = ((p + q : Nat) : Int) := by rw [wrap64_id (by omega) (by omega)]; omega
    rw [e]
    unfold ansB
    simp only [cp, cd, List.countP_nil, Nat.add_zero]
    by_cases h1 : p ≤ 1
    · simp only [if_pos (show (p : Int) ≤ 1 by omega)]
      by_cases h2 : p + q = m.length
      · simp only [if_pos (show ((p + q : Nat) : Int) = m.length by omega), h2, h1, true_and, decide_true, beq_self_eq_true]
        have : decide ((q : Int) > 0) = decide (0 < q) := by congr 1; apply propext; omega
        rw [this]; exact Ev.now _
      · have hb : (((p + q : Nat) : Int) == (m.length : Int)) = false := by rw [beq_eq_false_iff_ne]; omega
        simp only [if_neg (show ¬ ((p + q : Nat) : Int) = m.length by omega), h2, h1, true_and, false_and, and_false, decide_false, hb]
        exact Ev.now _
    · simp only [if_neg (show ¬ (p : Int) ≤ 1 by omega), h1, false_and, decide_false]
      exact Ev.now _
  | succ d ih =>
    intro i p q hi hp hq
    refine Ev.step (fun k => by simp only [mintageref12_begins.l0]; rfl) ?_
    rw [strOfNums_size]
    simp only [if_pos (show (i : Int) < m.length by omega), if_pos (show (0 : Int) ≤ i by omega), bt_str hB (show i < m.length by omega), ris12, Option.bind_some]
    rw [Dig.drop_cons (show i < m.length by omega), cp_cons, cd_cons]
    rw [wrap64_id (x := (i : Int) + 1) (by omega) (by omega), wrap64_id (x := (p : Int) + 1) (by omega) (by omega), wrap64_id (x := (q : Int) + 1) (by omega) (by omega)]
    by_cases h1 : rd m (i : Int) = 46
    · simp only [if_pos h1, if_neg (show ¬ IsD (rd m (i : Int)) by unfold IsD; omega)]
      have := ih (i + 1) (p + 1) q (by omega) (by omega) (by omega)
      rw [show p + 1 + cp (m.drop (i + 1)) = p + (cp (m.drop (i + 1)) + 1) by omega] at this
      exact_mod_cast this
    · by_cases h2 : IsD (rd m (i : Int))
      · simp only [if_neg h1, if_pos h2, decide_eq_true h2, if_true]
        have := ih (i + 1) p (q + 1) (by omega) (by omega) (by omega)
        rw [show q + 1 + cd (m.drop (i + 1)) = q + (cd (m.drop (i + 1)) + 1) by omega] at this
        exact_mod_cast this
      · simp only [if_neg h1, if_neg h2, decide_eq_false h2, Bool.false_eq_true, if_false]
        have := ih (i + 1) p q (by omega) (by omega) (by omega)
        exact_mod_cast this
/-- What is behind the sign. -/
def bd (l : List Int) : List Int := l.drop (a1 l)
theorem begins_ev {l : List Int} (hB : Bts l) (hl : l.length ≤ 2000) : Ev (fun k => mintageref12_begins.f k (strOfNums l)) (ansB (cp (bd l)) (cd (bd l)) (bd l).length) := by
  have go : ∀ m : List Int, Bts m → m.length ≤ 2000 → Ev (fun k => mintageref12_begins.j1 k (strOfNums m)) (ansB (cp m) (cd m) m.length) := by
    intro m hm hl
    refine Ev.step (fun k => by simp only [mintageref12_begins.j1]; rfl) ?_
    have := bg_loop hm hl m.length 0 0 0 (by omega) (Nat.le_refl _) (Nat.le_refl _)
    rw [List.drop_zero, Nat.zero_add, Nat.zero_add] at this
    exact this
  unfold mintageref12_begins.f bd
  by_cases h0 : l = []
  · subst h0
    simp only [if_pos (str_nil.2 (rfl : ([] : List Int) = []))]
    refine Ev.step (fun k => by simp only [mintageref12_begins.j0]; rfl) ?_
    simp only [Bool.false_eq_true, if_false, List.drop_nil]
    exact go [] hB hl
  · have hp : 0 < l.length := List.length_pos_iff.2 h0
    simp only [if_neg (fun q => h0 (str_nil.1 q))]
    rw [strOfNums_size]
    have eb : Go.Proofs.YtjefmcfkhalagaaW.PrintWords.bt (strOfNums l) 0 = rd l 0 := bt_str hB (i := 0) hp
    simp only [if_pos (show (0 : Int) < l.length by omega), eb]
    have tl : Ev (fun k => mintageref12_begins.j0 k (strOfNums l) true) (ansB (cp (l.drop 1)) (cd (l.drop 1)) (l.drop 1).length) := by
      refine Ev.step (fun k => by simp only [mintageref12_begins.j0]; rfl) ?_
      rw [strOfNums_size, str_extract, List.take_of_length_le (Nat.le_refl _)]
      simp only [if_true, if_pos (show (1 : Int) ≤ l.length by omega)]
      exact go _ (fun c hc => hB c (List.mem_of_mem_drop hc)) (by rw [List.length_drop]; omega)
    have ea : a1 l = if rd l 0 = 43 ∨ rd l 0 = 45 then 1 else 0 := by
      unfold a1 isb
      rw [if_pos hp]
      show (if (if rd l 0 = 43 then true else rd l 0 == 45) = true then 1 else 0) = _
      by_cases h1 : rd l 0 = 43
      · simp [h1]
      · by_cases h2 : rd l 0 = 45
        · simp [h2]
        · simp [h1, h2]
    rw [ea]
    by_cases h1 : rd l 0 = 43
    · simp only [if_pos h1, h1, true_or, if_true]
      exact tl
    · by_cases h2 : rd l 0 = 45
      · simp only [if_neg h1, h2, or_true, if_true, beq_self_eq_true]
        rw [h2] at h1
        simp only [if_neg h1]
        exact tl
      · have hb : (rd l 0 == 45) = false := by rw [beq_eq_false_iff_ne]; exact h2
        simp only [if_neg h1, hb, h1, h2, or_self, if_false, List.drop_zero]
        refine Ev.step (fun k => by simp only [mintageref12_begins.j0]; rfl) ?_
        simp only [Bool.false_eq_true, if_false]
        exact go _ hB hl
/-- The digits that lead. -/
theorem lead_cnt : ∀ (m : List Int), (lead m = m.length → cp m = 0 ∧ cd m = m.length) ∧ (lead m < m.length → ¬ IsD (rd m (lead m : Int)) ∧
    (rd m (lead m : Int) ≠ 46 → cp m + cd m < m.length) ∧ (rd m (lead m : Int) = 46 → cp m = cp (m.drop (lead m + 1)) + 1 ∧ cd m = lead m + cd (m.drop (lead m + 1)))) := by
  intro m
  induction m with
  | nil => exact ⟨fun _ => ⟨rfl, rfl⟩, fun h => by simp [lead_nil] at h⟩
  | cons c m ih =>
    by_cases hc : IsD c
    · rw [lead_yes hc, cp_cons, cd_cons, if_pos hc, if_neg (show ¬ c = 46 by unfold IsD at hc; omega), List.length_cons]
      have e : rd (c :: m) ((lead m + 1 : Nat) : Int) = rd m (lead m : Int) := by unfold rd; rw [Int.toNat_natCast, Int.toNat_natCast, List.getD_cons_succ]
      rw [e, List.drop_succ_cons]
      refine ⟨fun h => ?_, fun h => ?_⟩
      · have := ih.1 (by omega); omega
      · obtain ⟨i1, i2, i3⟩ := ih.2 (by omega)
        exact ⟨i1, fun q => by have := i2 q; omega, fun q => by have := i3 q; omega⟩
    · rw [lead_no hc, cp_cons, cd_cons, if_neg hc, List.length_cons]
      refine ⟨fun h => by omega, fun _ => ⟨hc, fun q => ?_, fun q => ?_⟩⟩
      · have q : c ≠ 46 := q
        rw [if_neg q]; have := cpd_le m; omega
      · have q : c = 46 := q
        rw [if_pos q]; simp
theorem bd_len (l : List Int) : (bd l).length = l.length - a1 l := by unfold bd; rw [List.length_drop]
theorem dot_iff {l : List Int} (h : pt l < l.length) : dot l = decide (rd l (pt l : Int) = 46) := by
  unfold dot isb
  rw [if_pos h]
  by_cases q : rd l (pt l : Int) = 46
  · simp [q]
  · simp [q]
theorem rd_bd (l : List Int) (i : Nat) : rd (bd l) (i : Int) = rd l ((a1 l + i : Nat) : Int) := by
  unfold bd rd
  rw [Int.toNat_natCast, Int.toNat_natCast, List.getD_eq_getElem?_getD, List.getD_eq_getElem?_getD, List.getElem?_drop]
/-- A text is gone through just if it is of points and digits with one point at most; then so many are its digits. -/
theorem end_fine (l : List Int) : (endAt l = l.length ↔ cp (bd l) ≤ 1 ∧ cp (bd l) + cd (bd l) = (bd l).length) ∧ (endAt l = l.length → cd (bd l) = m1 l + m2 l) := by
  have ha := a1_le l
  have hL : lead (bd l) = m1 l := rfl
  have hll := lead_le (bd l)
  rw [bd_len, hL] at hll
  obtain ⟨c1, c2⟩ := lead_cnt (bd l)
  rw [hL, bd_len] at c1 c2
  rw [bd_len]
  by_cases hp : pt l < l.length
  · have hp' : a1 l + m1 l < l.length := hp
    obtain ⟨d1, d2, d3⟩ := c2 (by omega)
    rw [rd_bd] at d1 d2 d3
    have ep : ((a1 l + m1 l : Nat) : Int) = (pt l : Int) := rfl
    rw [ep] at d1 d2 d3
    by_cases h46 : rd l (pt l : Int) = 46
    · have hd : dot l = true := by rw [dot_iff hp, decide_eq_true h46]
      obtain ⟨g1, g2⟩ := d3 h46
      have er : (bd l).drop (m1 l + 1) = l.drop (pt l + 1) := by unfold bd; rw [List.drop_drop]; congr 1
      rw [er] at g1 g2
      have em : m2 l = lead (l.drop (pt l + 1)) := by unfold m2; rw [if_pos hd]
      have ee : endAt l = pt l + 1 + m2 l := by unfold endAt; rw [if_pos hd]
      obtain ⟨r1, r2⟩ := lead_cnt (l.drop (pt l + 1))
      have hle := lead_le (l.drop (pt l + 1))
      rw [← em, List.length_drop] at r1 r2 hle
      have hpp : pt l = a1 l + m1 l := rfl
      by_cases hm : m2 l = l.length - (pt l + 1)
      · obtain ⟨s1, s2⟩ := r1 hm
        refine ⟨⟨fun _ => by omega, fun _ => by omega⟩, fun _ => by omega⟩
      · obtain ⟨t1, t2, t3⟩ := r2 (by omega)
        refine ⟨⟨fun q => by omega, fun q => ?_⟩, fun q => by omega⟩
        exfalso
        by_cases u : rd (l.drop (pt l + 1)) (m2 l : Int) = 46
        · have := t3 u; omega
        · have := t2 u; omega
    · have hd : dot l = false := by rw [dot_iff hp, decide_eq_false h46]
      have ee : endAt l = pt l := by unfold endAt; rw [hd]; rfl
      have := d2 h46
      refine ⟨⟨fun q => by omega, fun q => by omega⟩, fun q => by omega⟩
  · have hd : dot l = false := by unfold dot isb; rw [if_neg hp]
    have ee : endAt l = pt l := by unfold endAt; rw [hd]; rfl
    have em : m2 l = 0 := by unfold m2; rw [hd]; rfl
    have hpp : pt l = a1 l + m1 l := rfl
    obtain ⟨s1, s2⟩ := c1 (by omega)
    refine ⟨⟨fun _ => by omega, fun _ => by omega⟩, fun _ => by omega⟩
instance (l : List Int) : Decidable (NoForm l) := by unfold NoForm; infer_instance
theorem begins_is {l : List Int} (hB : Bts l) (hl : l.length ≤ 2000) : Ev (fun k => mintageref12_begins.f k (strOfNums l)) (decide (endAt l = l.length), decide (¬ NoForm l)) := by
  have h := begins_ev hB hl
  have e : ansB (cp (bd l)) (cd (bd l)) (bd l).length = (decide (endAt l = l.length), decide (¬ NoForm l)) := by
    unfold ansB NoForm
    obtain ⟨f1, f2⟩ := end_fine l
    have hle : endAt l ≤ l.length := by
      have h1 := pt_le l
      unfold endAt
      split
      · rename_i hd
        have := isb_lt hd
        unfold m2; rw [if_pos hd]
        have := lead_le (l.drop (pt l + 1))
        rw [List.length_drop] at this
        omega
      · exact h1
    congr 1
    · congr 1; exact propext f1.symm
    · congr 1; apply propext
      constructor
      · rintro ⟨x, y, z⟩
        have q := f1.2 ⟨x, y⟩
        have := f2 q
        omega
      · intro q
        have q2 : endAt l = l.length := by omega
        obtain ⟨x, y⟩ := f1.1 q2
        have := f2 q2
        exact ⟨x, y, by omega⟩
  rw [e] at h
  exact h
theorem lead_taken : ∀ (j : Nat) (m : List Int), lead (m.take j) = min (lead m) j := by
  intro j
  induction j with
  | zero => intro m; simp [lead_nil]
  | succ j ih =>
    intro m
    match m with
    | [] => simp [lead_nil]
    | c :: m =>
      rw [List.take_succ_cons]
      by_cases hc : IsD c
      · rw [lead_yes hc, lead_yes hc, ih]; omega
      · rw [lead_no hc, lead_no hc]; omega
theorem end_le (l : List Int) : endAt l ≤ l.length := by
  have h1 := pt_le l
  unfold endAt
  split
  · rename_i hd
    have := isb_lt hd
    unfold m2; rw [if_pos hd]
    have := lead_le (l.drop (pt l + 1))
    rw [List.length_drop] at this
    omega
  · exact h1
/-- What a text begins with, up to where it goes wrong, is gone through. -/
theorem end_take (l : List Int) : endAt (l.take (endAt l)) = endAt l := by
  have hle := end_le l
  have hpe := pt_end l
  have hpa : pt l = a1 l + m1 l := rfl
  obtain ⟨k, hk⟩ : ∃ k, k = endAt l := ⟨_, rfl⟩
  rw [← hk] at hle hpe ⊢
  have hlk : (l.take k).length = k := by rw [List.length_take]; omega
  have htt : l.take k = (l.take k).take k := by rw [List.take_take, Nat.min_self]
  by_cases h0 : k = 0
  · rw [h0, List.take_zero]; rfl
  · have ea : a1 (l.take k) = a1 l := by unfold a1; rw [isb_agree htt (by omega)]
    have em : m1 (l.take k) = m1 l := by
      unfold m1; rw [ea, List.drop_take, lead_taken]
      have : m1 l = lead (l.drop (a1 l)) := rfl
      omega
    have ept : pt (l.take k) = pt l := by unfold pt; rw [ea, em]
    cases hd : dot l with
    | true =>
      have e1 : k = pt l + 1 + m2 l := by rw [hk]; unfold endAt; rw [if_pos hd]
      have e2 : dot (l.take k) = true := by
        have : dot (l.take k) = isb (l.take k) (pt l) 46 46 := by unfold dot; rw [ept]
        rw [this, isb_agree htt (by omega)]; exact hd
      have e3 : m2 (l.take k) = m2 l := by
        have x : m2 l = lead (l.drop (pt l + 1)) := by unfold m2; rw [if_pos hd]
        unfold m2
        rw [if_pos e2, if_pos hd, ept, List.drop_take, lead_taken]
        omega
      unfold endAt
      rw [if_pos e2, ept, e3]; omega
    | false =>
      have e1 : k = pt l := by rw [hk]; unfold endAt; rw [hd]; rfl
      have e2 : dot (l.take k) = false := by
        unfold dot isb; rw [ept, if_neg (by omega)]
      unfold endAt
      rw [e2, ept]; exact e1.symm
theorem begins_take {l : List Int} (hB : Bts l) (hl : l.length ≤ 2000) {k : Nat} (hk : k ≤ l.length) (hk2 : endAt l ≤ k) : ∃ b, Ev (fun n => mintageref12_begins.f n (strOfNums (l.take k))) (decide (k = endAt l), b) := by
  have h := begins_is (l := l.take k) (hB.take k) (by rw [List.length_take]; omega)
  refine ⟨decide (¬ NoForm (l.take k)), ?_⟩
  have e : decide (endAt (l.take k) = (l.take k).length) = decide (k = endAt l) := by
    have hlk : (l.take k).length = k := by rw [List.length_take]; omega
    rw [hlk]
    congr 1
    by_cases q : k = endAt l
    · have h2 := end_take l
      rw [← q] at h2
      exact propext ⟨fun _ => q, fun _ => h2⟩
    · have h2 := end_agree (l := l) (l' := l.take k) (n := k) (by rw [List.take_take, Nat.min_self]) (by omega)
      rw [h2]
      exact propext ⟨fun x => x.symm, fun x => x.symm⟩
  rw [e] at h
  exact h
end Go.Proofs.Ytjefmcfkhalagaa.Scr
