/- The document's Parse, walked: texts of the form. -/
import Derived.Test.YtjefmcfkhalagaaSrcZScaledReads
namespace Go.Proofs.Ytjefmcfkhalagaa.Scr
set_option linter.unusedVariables false
set_option linter.unusedSimpArgs false
open Go.RowKit Go.Proofs.Ytjefmcfkhalagaa.Q Go.Proofs.YtjefmcfkhalagaaW.PrintWords Go.Proofs.YtjefmcfkhalagaaW.PrintLast Go.Proofs.YtjefmcfkhalagaaW.PrintMore Go.Proofs.Ytjefmcfkhalagaa.Dig Go.Proofs.Ytjefmcfkhalagaa.Keep Go.Proofs.Ytjefmcfkhalagaa.Big

theorem str_one {l : List Int} {i : Nat} (h : i < l.length) (W : World) : (Instr.slice 9 (.string (strOfNums l)) (some (.int .i64 (i : Int))) (some (.int .i64 ((i : Int) + 1))) none).run Try.prog W = .ok (.string (strOfNums [rd l (i : Int)])) W := by
  have hs : (strOfNums l).size = l.length := strOfNums_size l
  have := run_slice_string (P := Try.prog) W 9 (strOfNums l) .i64 .i64 (i : Int) ((i : Int) + 1) Try.underlying9 (by omega) (by omega) (by omega)
  have e : (l.take (i + 1)).drop i = [rd l (i : Int)] := by
    have h0 := Dig.drop_cons (l := l.take (i + 1)) (i := i) (by rw [List.length_take]; omega)
    have er : rd (l.take (i + 1)) (i : Int) = rd l (i : Int) := by
      unfold rd
      rw [Int.toNat_natCast, List.getD_eq_getElem?_getD, List.getD_eq_getElem?_getD, List.getElem?_take, if_pos (show i < i + 1 from Nat.lt_succ_self i)]
    rw [h0, List.drop_of_length_le (by rw [List.length_take]; omega), er]
  have e2 : (strOfNums l).extract ((i : Int)).toNat ((i : Int) + 1).toNat = strOfNums [rd l (i : Int)] := by
    rw [show ((i : Int) + 1).toNat = i + 1 by omega, Int.toNat_natCast, str_extract, e]
  rw [e2] at this
  exact this
/-- What stands in the loop's variables. -/
structure Lo (n : Nat) (l : List Int) (RR : Nat ⊕ Sp) (i : Nat) (neg : Bool) (ds : List Int) (bh : Int) : Prop where
  eq : lp (n : Int) (l.drop i) i (neg, ds, bh) = RR
  len : ds.length ≤ i
  bh0 : -1 ≤ bh
  bh1 : bh ≤ i
theorem Lo.step {n : Nat} {l : List Int} {RR : Nat ⊕ Sp} {i : Nat} {neg : Bool} {ds : List Int} {bh : Int} (h : Lo n l RR i neg ds bh) (hi : i < l.length) {st : Sp} (hs : stp (n : Int) (neg, ds, bh) (rd l (i : Int)) = some st) (h1 : st.2.1.length ≤ i + 1) (h2 : -1 ≤ st.2.2) (h3 : st.2.2 ≤ (i : Int) + 1) : Lo n l RR (i + 1) st.1 st.2.1 st.2.2 := by
  refine ⟨?_, h1, h2, by omega⟩
  rw [← h.eq, Dig.drop_cons hi, lp, hs]
theorem Lo.bad {n : Nat} {l : List Int} {RR : Nat ⊕ Sp} {i : Nat} {neg : Bool} {ds : List Int} {bh : Int} (h : Lo n l RR i neg ds bh) (hi : i < l.length) (hs : stp (n : Int) (neg, ds, bh) (rd l (i : Int)) = none) : RR = .inl i := by
  rw [← h.eq, Dig.drop_cons hi, lp, hs]
theorem Lo.done {n : Nat} {l : List Int} {RR : Nat ⊕ Sp} {neg : Bool} {ds : List Int} {bh : Int} (h : Lo n l RR l.length neg ds bh) : RR = .inr (neg, ds, bh) := by
  rw [← h.eq, List.drop_of_length_le (Nat.le_refl _), lp]
/-- What the document's loop tells is the answer. -/
theorem res_bad {l : List Int} {n i : Nat} (hf : ¬ NoForm l) (h : lp (n : Int) l 0 (false, [], -1) = .inl i) : resF l n = (0, (i : Int), 122) := by
  rw [lp_eq n hf] at h
  unfold resF
  rw [if_neg hf]
  cases hb : badAt (frac l) n with
  | some q => rw [hb] at h; injection h with h; subst h; rfl
  | none => rw [hb] at h; cases h
theorem res_done {l : List Int} {n : Nat} {neg : Bool} {ds : List Int} {bh : Int} (hf : ¬ NoForm l) (hl : l.length ≤ 1024) (hn : n ≤ 18) (h : lp (n : Int) l 0 (false, [], -1) = .inr (neg, ds, bh)) :
    ∃ K N c, (AllD (ds ++ List.replicate (n - bh.toNat) 48) ∧ (ds ++ List.replicate (n - bh.toNat) 48).length ≤ 2000) ∧ Nm K (ds ++ List.replicate (n - bh.toNat) 48) N c ∧ resF l n = if N > 999999999999999999 then (0, 0, 123) else (if neg = true then IntKind.u64.wrap (-(N : Int)) else N, 0, 0) := by
  rw [lp_eq n hf] at h
  cases hb : badAt (frac l) n with
  | some q => rw [hb] at h; cases h
  | none =>
    rw [hb] at h
    injection h with h
    injection h with h1 h2
    injection h2 with h2 h3
    have had := digits_all l n (n - bh.toNat)
    have hde := digits_eq l n hb
    rw [h3, h2] at hde
    rw [h2] at had
    have hw : (whole l).length ≤ l.length := by unfold whole; rw [List.length_take, List.length_drop]; omega
    have hdl : (ds ++ List.replicate (n - bh.toNat) 48).length ≤ 2000 := by
      rw [← h2]
      simp only [List.length_append, List.length_take, List.length_replicate]
      omega
    obtain ⟨K, c, hN⟩ := number_all had hdl
    have hd := (dval_bounds had).1
    refine ⟨K, _, c, ⟨had, hdl⟩, hN, ?_⟩
    have e : ((dval (ds ++ List.replicate (n - bh.toNat) 48)).toNat : Int) = dval (all l n) := by rw [← hde]; omega
    unfold resF
    rw [if_neg hf, hb]
    dsimp only
    rw [← e, h1]
    by_cases q : (dval (ds ++ List.replicate (n - bh.toNat) 48)).toNat > 999999999999999999
    · rw [if_pos q, if_pos (by omega)]
    · rw [if_neg q, if_neg (by omega)]
end Go.Proofs.Ytjefmcfkhalagaa.Scr
