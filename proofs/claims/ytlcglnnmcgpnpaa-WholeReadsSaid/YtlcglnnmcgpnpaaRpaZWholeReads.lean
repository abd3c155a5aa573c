/- What WholeReads asks: whole's Parse and the document's are the same. -/
import Derived.Test.YtlcglnnmcgpnpaaRfwZWholeReads
import Derived.Test.YtlcglnnmcgpnpaaBigbZWholeReads
import Derived.Test.YtlcglnnmcgpnpaaQ0ZWholeReads
import Derived.Test.YtlcglnnmcgpnpaaQ1ZWholeReads
import Derived.Test.YtlcglnnmcgpnpaaQ2ZWholeReads
namespace Go.Proofs.Ytlcglnnmcgpnpaa.Whw
set_option linter.unusedVariables false
set_option linter.unusedSimpArgs false
open Go.RowKit Go.Proofs.Ytlcglnnmcgpnpaa.Q Go.Proofs.YtlcglnnmcgpnpaaW.PrintWords Go.Proofs.YtlcglnnmcgpnpaaW.PrintLast Go.Proofs.YtlcglnnmcgpnpaaW.PrintMore Go.Proofs.Ytlcglnnmcgpnpaa.Dig Go.Proofs.Ytlcglnnmcgpnpaa.Big

theorem ris (c : Int) : mintageref04_Is.f c = some (decide (IsD c)) := isd_ev c
theorem dig1 : ([1] : List Int) = dig 1 := (dig_small (by decide) (by decide)).symm
theorem dlen {n : Nat} (h : n < 2 ^ 80) : (dig n).length ≤ 5 := dig_len (by have : (65536 : Nat) ^ 5 = 2 ^ 80 := by rfl
                                                                            omega)
theorem rmost {k : Int} {w : Nat} (h : Ev (fun n => mintageref05_Width.f n k) (w : Int)) (hw : Wd w) (neg : Bool) : Ev (fun n => mintageref05_most.f n k neg) (dig (lim w (decide (k ≤ 4)) neg).toNat) := by
  have e64 : (2 : Nat) ^ 64 = 18446744073709551616 := by rfl
  have e80 : (2 : Nat) ^ 80 = 1208925819614629174706176 := by rfl
  have hw64 : 1 ≤ w ∧ w ≤ 64 := by unfold Wd at hw; omega
  have pw : ∀ j, j ≤ 64 → (2 : Nat) ^ j ≤ 2 ^ 64 := fun j hj => Nat.pow_le_pow_right (by decide) hj
  have one : (dig 1).length ≤ 5 := dlen (by rw [e80]; decide)
  have L : ∀ j : Nat, j ≤ 64 → Ev (fun n => mintageref01_Left.f n [1] (j : Int)) (dig (2 ^ j)) := by
    intro j hj
    have := left_ev (a := 1) (n := j) (by omega) (by omega)
    rw [← dig1, Nat.one_mul] at this
    exact this
  have S : ∀ j : Nat, j ≤ 64 → Ev (fun n => mintageref01_Less.f n (dig (2 ^ j)) [1]) (dig (2 ^ j - 1)) := by
    intro j hj
    have l5 := dlen (n := 2 ^ j) (by have := pw j hj; rw [e80]; omega)
    have := less_ev (a := 2 ^ j) (b := 1) (by unfold Sm; omega) (by unfold Sm; omega) (Nat.one_le_two_pow)
    rw [← dig1] at this
    exact this
  unfold mintageref05_most.f
  refine Ev.bind h ?_
  unfold mintageref05_signed.f
  simp only [Option.bind_some]
  have ew : wrap64 ((w : Int) - 1) = ((w - 1 : Nat) : Int) := by rw [wrap64_id (by omega) (by omega)]; omega
  unfold lim
  cases hs : decide (k ≤ 4) with
  | true =>
    simp only [if_true]
    cases neg with
    | true =>
      simp only [if_true, ew]
      refine Ev.bind (L (w - 1) (by omega)) ?_
      rw [show ((2 : Int) ^ (w - 1)).toNat = 2 ^ (w - 1) from by rw [show (2 : Int) ^ (w - 1) = ((2 ^ (w - 1) : Nat) : Int) from by simp]; exact Int.toNat_natCast _]
      exact Ev.now _
    | false =>
      simp only [Bool.false_eq_true, if_false, ew]
      refine Ev.bind (L (w - 1) (by omega)) ?_
      refine Ev.bind (S (w - 1) (by omega)) ?_
      rw [show ((2 : Int) ^ (w - 1) - 1).toNat = 2 ^ (w - 1) - 1 from by rw [show (2 : Int) ^ (w - 1) = ((2 ^ (w - 1) : Nat) : Int) from by simp]; omega]
      exact Ev.now _
  | false =>
    simp only [Bool.false_eq_true, if_false]
    refine Ev.bind (L w (by omega)) ?_
    refine Ev.bind (S w (by omega)) ?_
    rw [show ((2 : Int) ^ w - 1).toNat = 2 ^ w - 1 from by rw [show (2 : Int) ^ w = ((2 ^ w : Nat) : Int) from by simp]; omega]
    exact Ev.now _
/-- The digits behind the sign are put together, and looked at against the end. -/
theorem rl1 {k : Int} {w : Nat} (h : Ev (fun n => mintageref05_Width.f n k) (w : Int)) (hw : Wd w) (neg : Bool) {frm : Nat} {l : List Int} (hl : l.length < 9223372036854775000) (hall : AllD (l.drop frm)) {L : Nat} (hL : (L : Int) = lim w (decide (k ≤ 4)) neg) (hneg : neg = true → k ≤ 4) :
    ∀ (d i a : Nat), i + d = l.length → frm ≤ i → a ≤ L → Ev (fun n => mintageref05_Parse.l1 n k l neg (dig a) (dig L) (i : Int)) (fin w neg frm (dv a (l.drop i)) (over L a (l.drop i) (i - frm))) := by
  have e64 : (2 : Nat) ^ 64 = 18446744073709551616 := by rfl
  have e80 : (2 : Nat) ^ 80 = 1208925819614629174706176 := by rfl
  have lb := lim_bounds hw (decide (k ≤ 4)) neg
  have hp := p2 hw
  intro d
  induction d with
  | zero =>
    intro i a hi hf ha
    have s5 := dlen (n := a) (by rw [e80]; omega)
    refine Ev.step (fun n => by simp only [mintageref05_Parse.l1]; rfl) ?_
    simp only [if_neg (show ¬ (i : Int) < l.length by omega)]
    refine Ev.bind (words_ev (by unfold Sm; omega)) ?_
    have hwl := wrd_len a
    have hr := rd_wrd 0 a 1
    simp only [Nat.pow_zero, Nat.div_one, Nat.mod_eq_of_lt (show a < 18446744073709551616 by omega), List.replicate_one] at hr
    simp only [if_pos (show (wrd a).length < 17592186044416 by omega), Option.bind_some, if_pos (show (0 : Int) < ((wrd a ++ [0]).length : Int) by first | (simp; done) | (simp; omega))]
    rw [show rd (wrd a ++ [0]) 0 = (a : Int) from hr, List.drop_of_length_le (by omega)]
    simp only [over, dv, fin]
    cases neg with
    | true =>
      simp only [if_true]
      have c := rcut (x := IntKind.u64.wrap (-(a : Int))) h hw (u64_nonneg _) (by rw [w64]; omega)
      have e2 : IntKind.u64.wrap (-(a : Int)) % 2 ^ w = (-(a : Int)) % 2 ^ w := by
        rw [w64]
        unfold Wd at hw
        rcases hw with rfl | rfl | rfl | rfl <;> simp only [show (2 : Int) ^ 8 = 256 from rfl, show (2 : Int) ^ 16 = 65536 from rfl, show (2 : Int) ^ 32 = 4294967296 from rfl, show (2 : Int) ^ 64 = 18446744073709551616 from rfl] <;> omega
      rw [e2] at c
      refine Ev.bind c ?_
      exact Ev.now _
    | false =>
      simp only [Bool.false_eq_true, if_false]
      have c := rcut (x := (a : Int)) h hw (by omega) (by omega)
      have hlt : (a : Int) < 2 ^ w := by
        have : lim w (decide (k ≤ 4)) false ≤ 2 ^ w - 1 := by
          unfold lim
          have tw : (2 : Int) ^ w = 2 * 2 ^ (w - 1) := by
            unfold Wd at hw
            rw [show w = (w - 1) + 1 by omega, Int.pow_succ, Nat.add_sub_cancel]; omega
          have pw : (1 : Int) ≤ 2 ^ (w - 1) := Int.pow_pos (by decide)
          split <;> simp <;> omega
        omega
      rw [Int.emod_eq_of_lt (by omega) hlt] at c
      refine Ev.bind c ?_
      exact Ev.now _
  | succ d ih =>
    intro i a hi hf ha
    have hmem : rd l (i : Int) ∈ l.drop frm := by
      have : l.drop i = rd l i :: l.drop (i + 1) := Dig.drop_cons (by omega)
      have h2 : l.drop i = (l.drop frm).drop (i - frm) := by rw [List.drop_drop]; congr 1; omega
      exact List.mem_of_mem_drop (by rw [← h2, this]; exact List.mem_cons_self)
    have hc := hall _ hmem
    unfold IsD at hc
    obtain ⟨c, hcn⟩ : ∃ c : Nat, rd l i - 48 = (c : Int) := ⟨(rd l i - 48).toNat, by omega⟩
    have hc9 : c ≤ 9 := by omega
    have s5 : ∀ n : Nat, n < 2 ^ 70 → (dig n).length ≤ 5 := fun n hn => dlen (Nat.lt_of_lt_of_le hn (Nat.pow_le_pow_right (by decide) (by decide)))
    have e70 : (2 : Nat) ^ 70 = 1180591620717411303424 := by rfl
    have e10 : ([10] : List Int) = dig 10 := (dig_small (by decide) (by decide)).symm
    have q1 := s5 a (by omega)
    have q2 := s5 10 (by omega)
    have q3 := s5 (a * 10) (by omega)
    have q4 := s5 c (by omega)
    have q5 := s5 (a * 10 + c) (by omega)
    have q6 := s5 L (by omega)
    have t1 := prod_ev (a := a) (b := 10) (by omega) (by omega)
    have t2 := num1_ev (w := (c : Int)) (by omega) (by omega)
    have t3 := sum_ev (a := a * 10) (b := c) (by unfold Sm; omega) (by unfold Sm; omega)
    have t4 := Big.cmp_ev (a := a * 10 + c) (b := L) (by unfold Sm; omega) (by unfold Sm; omega)
    refine Ev.step (fun n => by simp only [mintageref05_Parse.l1]; rfl) ?_
    simp only [if_pos (show (i : Int) < l.length by omega), if_pos (show (0 : Int) ≤ i by omega), hcn, show ((c : Int)) % 256 = (c : Int) from by omega]
    rw [e10]
    refine Ev.bind t1 ?_
    refine Ev.bind t2 ?_
    simp only [Int.toNat_natCast]
    refine Ev.bind t3 ?_
    refine Ev.bind t4 ?_
    rw [Dig.drop_cons (show i < l.length by omega)]
    simp only [over, dv, hcn]
    by_cases ho : a * 10 + c > L
    · rw [if_neg (show ¬ a * 10 + c < L by omega), if_pos ho]
      simp only [if_pos (show (1 : Int) > 0 by decide), if_pos (show (10 * (a : Int) + (c : Int)) > (L : Int) by omega), fin]
      rw [show (frm + (i - frm)) = i by omega]
      exact Ev.now _
    · have : ¬ ((if a * 10 + c < L then (-1 : Int) else if a * 10 + c > L then 1 else 0) > 0) := by
        split
        · decide
        · first | decide | (rw [if_neg ho]; decide)
      simp only [if_neg this, if_neg (show ¬ (10 * (a : Int) + (c : Int)) > (L : Int) by omega)]
      rw [wrap64_id (by omega) (by omega)]
      have := ih (i + 1) (a * 10 + c) (by omega) (by omega) (by omega)
      rw [show i + 1 - frm = i - frm + 1 by omega, show (((a * 10 + c : Nat)) : Int) = 10 * (a : Int) + (c : Int) by omega] at this
      exact_mod_cast this
/-- The first byte behind the sign that is no digit; else what stands behind. -/
theorem rl0 {k : Int} {l : List Int} (hl : l.length < 9223372036854775000) (frm : Nat) (neg : Bool) : ∀ (d i : Nat), i + d = l.length →
    (i + lead (l.drop i) < l.length → Ev (fun n => mintageref05_Parse.l0 n k l (frm : Int) neg (i : Int)) (0, ((i + lead (l.drop i) : Nat) : Int), 52)) ∧
    (∀ R, ¬ (i + lead (l.drop i) < l.length) → Ev (fun n => mintageref05_Parse.l0 n k l (frm : Int) neg (l.length : Int)) R → Ev (fun n => mintageref05_Parse.l0 n k l (frm : Int) neg (i : Int)) R) := by
  intro d
  induction d with
  | zero =>
    intro i hi
    rw [List.drop_of_length_le (show l.length ≤ i by omega), lead_nil]
    refine ⟨fun h => by omega, fun R _ h => ?_⟩
    rw [show i = l.length by omega]; exact h
  | succ d ih =>
    intro i hi
    obtain ⟨i1, i2⟩ := ih (i + 1) (by omega)
    rw [Dig.drop_cons (show i < l.length by omega)]
    by_cases hc : IsD (rd l (i : Int))
    · rw [lead_yes hc]
      have step : ∀ R, Ev (fun n => mintageref05_Parse.l0 n k l (frm : Int) neg ((i + 1 : Nat) : Int)) R → Ev (fun n => mintageref05_Parse.l0 n k l (frm : Int) neg (i : Int)) R := by
        intro R h
        refine Ev.step (fun n => by simp only [mintageref05_Parse.l0]; rfl) ?_
        simp only [if_pos (show (i : Int) < l.length by omega), if_pos (show (0 : Int) ≤ i by omega), ris, decide_eq_true hc, Option.bind_some, if_true]
        rw [wrap64_id (by omega) (by omega)]
        exact_mod_cast h
      refine ⟨fun h => ?_, fun R h hR => step R (i2 R (by omega) hR)⟩
      have := i1 (by omega)
      rw [show i + (lead (l.drop (i + 1)) + 1) = i + 1 + lead (l.drop (i + 1)) by omega]
      exact step _ this
    · rw [lead_no hc]
      refine ⟨fun _ => ?_, fun R h => by omega⟩
      refine Ev.step (fun n => by simp only [mintageref05_Parse.l0]; rfl) ?_
      simp only [if_pos (show (i : Int) < l.length by omega), if_pos (show (0 : Int) ≤ i by omega), ris, decide_eq_false hc, Option.bind_some, Bool.false_eq_true, if_false]
      exact Ev.now _
/-- The sign. -/
theorem rfrom {k : Int} {w : Nat} (h : Ev (fun n => mintageref05_Width.f n k) (w : Int)) (hw : Wd w) {l : List Int} {R : Int × Int × Int}
    (hR : Ev (fun n => mintageref05_Parse.j1 n k l (frm (decide (k ≤ 4)) l : Int) (decide (0 < frm (decide (k ≤ 4)) l) && ng l)) R) : Ev (fun n => mintageref05_Parse.f n k l) R := by
  unfold mintageref05_Parse.f
  refine Ev.bind h ?_
  simp only [if_neg (show ¬ (w : Int) = 0 by unfold Wd at hw; omega)]
  match l, hR with
  | [], hR =>
    simp only [List.length_nil, if_neg (show ¬ ((0 : Nat) : Int) > 0 by decide)]
    refine Ev.step (fun n => by simp only [mintageref05_Parse.j0]; rfl) ?_
    simp only [Bool.false_eq_true, if_false]
    exact hR
  | c :: m, hR =>
    simp only [List.length_cons, if_pos (show ((m.length + 1 : Nat) : Int) > 0 by omega), if_pos (show (0 : Int) < ((m.length + 1 : Nat) : Int) by omega), show rd (c :: m) 0 = c from rfl]
    by_cases h43 : c = 43
    · simp only [if_pos h43]
      refine Ev.step (fun n => by simp only [mintageref05_Parse.j0]; rfl) ?_
      simp only [if_true, List.length_cons, if_pos (show (0 : Int) < ((m.length + 1 : Nat) : Int) by omega)]
      have e : frm (decide (k ≤ 4)) (c :: m) = 1 := by simp [frm, h43]
      rw [e] at hR
      simpa [ng] using hR
    · simp only [if_neg h43]
      by_cases h45 : c = 45
      · simp only [if_pos h45]
        unfold mintageref05_signed.f
        simp only [Option.bind_some]
        refine Ev.step (fun n => by simp only [mintageref05_Parse.j0]; rfl) ?_
        by_cases h4 : k ≤ 4
        · have e : frm (decide (k ≤ 4)) (c :: m) = 1 := by simp [frm, h45, h4]
          rw [e] at hR
          simp only [decide_eq_true h4, if_true, List.length_cons, if_pos (show (0 : Int) < ((m.length + 1 : Nat) : Int) by omega)]
          simpa [ng] using hR
        · have e : frm (decide (k ≤ 4)) (c :: m) = 0 := by simp [frm, h45, h4]
          rw [e] at hR
          simp only [decide_eq_false h4, Bool.false_eq_true, if_false]
          simpa using hR
      · simp only [if_neg h45]
        refine Ev.step (fun n => by simp only [mintageref05_Parse.j0]; rfl) ?_
        have e : frm (decide (k ≤ 4)) (c :: m) = 0 := by simp [frm, h45, h43]
        rw [e] at hR
        simp only [Bool.false_eq_true, if_false]
        simpa using hR
theorem parse_both (k : Int) {l : List Int} (hl : l.length < 9223372036854775000) : ∃ (v p e : Int), Ev (fun n => whole_Parse.f n k l) (v, p, e) ∧ Ev (fun n => mintageref05_Parse.f n k l) (v, p, e) := by
  obtain ⟨w, hwd, ⟨k1, k8, hw, hk⟩ | ⟨hn, hw, hk⟩⟩ := rwidth k
  · have hfl := frm_len (decide (k ≤ 4)) l
    obtain ⟨r1, r2⟩ := rl0 (k := k) hl (frm (decide (k ≤ 4)) l) (decide (0 < frm (decide (k ≤ 4)) l) && ng l) (l.length - frm (decide (k ≤ 4)) l) (frm (decide (k ≤ 4)) l) (by omega)
    by_cases hf : frm (decide (k ≤ 4)) l + lead (l.drop (frm (decide (k ≤ 4)) l)) < l.length
    · refine ⟨_, _, _, parse_form hk hl hf, rfrom hwd hw ?_⟩
      refine Ev.step (fun n => by simp only [mintageref05_Parse.j1]; rfl) ?_
      exact r1 hf
    · by_cases h0 : l.length = frm (decide (k ≤ 4)) l
      · refine ⟨_, _, _, parse_empty hk hl h0, rfrom hwd hw ?_⟩
        refine Ev.step (fun n => by simp only [mintageref05_Parse.j1]; rfl) ?_
        refine r2 _ hf ?_
        refine Ev.step (fun n => by simp only [mintageref05_Parse.l0]; rfl) ?_
        simp only [if_neg (show ¬ (l.length : Int) < l.length by omega), if_pos (show ((frm (decide (k ≤ 4)) l : Nat) : Int) = (l.length : Int) by omega)]
        exact Ev.now _
      · have hall : AllD (l.drop (frm (decide (k ≤ 4)) l)) := all_of_lead (by have := lead_le (l.drop (frm (decide (k ≤ 4)) l)); rw [List.length_drop] at *; omega)
        have hng : (decide (0 < frm (decide (k ≤ 4)) l) && ng l) = ng l := by
          by_cases hz : 0 < frm (decide (k ≤ 4)) l
          · rw [decide_eq_true hz]; rfl
          · have e0 : frm (decide (k ≤ 4)) l = 0 := by omega
            rw [e0, List.drop_zero] at hall
            have h1 : IsD (rd l ((0 : Nat) : Int)) := by
              have := Dig.drop_cons (l := l) (i := 0) (by omega)
              rw [List.drop_zero] at this
              exact hall _ (by rw [this]; exact List.mem_cons_self)
            have : ng l = false := by
              unfold ng
              refine beq_eq_false_iff_ne.mpr fun e => ?_
              unfold IsD at h1
              have e' : rd l ((0 : Nat) : Int) = 45 := e
              omega
            rw [this, Bool.and_false]
        have hd := parse_digits hk hw hl (by omega) hall
        generalize hF : fin w (ng l) (frm (decide (k ≤ 4)) l) (dval (l.drop (frm (decide (k ≤ 4)) l))) (over (lim w (decide (k ≤ 4)) (ng l)) 0 (l.drop (frm (decide (k ≤ 4)) l)) 0) = R at hd
        obtain ⟨v, p, e⟩ := R
        refine ⟨v, p, e, hd, rfrom hwd hw ?_⟩
        rw [hng]
        refine Ev.step (fun n => by simp only [mintageref05_Parse.j1]; rfl) ?_
        rw [hng] at r2
        refine r2 _ hf ?_
        refine Ev.step (fun n => by simp only [mintageref05_Parse.l0]; rfl) ?_
        simp only [if_neg (show ¬ (l.length : Int) < l.length by omega), if_neg (show ¬ ((frm (decide (k ≤ 4)) l : Nat) : Int) = (l.length : Int) by omega)]
        have lb := lim_bounds hw (decide (k ≤ 4)) (ng l)
        obtain ⟨L, hL⟩ : ∃ L : Nat, (L : Int) = lim w (decide (k ≤ 4)) (ng l) := ⟨(lim w (decide (k ≤ 4)) (ng l)).toNat, by omega⟩
        have hm := rmost hwd hw (ng l)
        rw [← hL, Int.toNat_natCast] at hm
        refine Ev.bind hm ?_
        have hneg : ng l = true → k ≤ 4 := by
          intro q
          rw [q, Bool.and_true] at hng
          have hz : 0 < frm (decide (k ≤ 4)) l := of_decide_eq_true hng
          cases l with
          | nil => simp [frm] at hz
          | cons c m =>
            have hc : c = 45 := by
              unfold ng at q
              exact eq_of_beq q
            simp only [frm] at hz
            split at hz
            · rename_i hh
              rcases hh with hh | hh
              · omega
              · exact of_decide_eq_true hh.2
            · omega
        have t := rl1 (k := k) hwd hw (ng l) (frm := frm (decide (k ≤ 4)) l) hl hall hL hneg (l.length - frm (decide (k ≤ 4)) l) (frm (decide (k ≤ 4)) l) 0 (by omega) (Nat.le_refl _) (Nat.zero_le _)
        rw [dig_zero, Nat.sub_self, hL] at t
        rw [← hF]
        exact t
  · subst hw
    refine ⟨0, 0, 50, ?_, ?_⟩
    · unfold whole_Parse.f
      simp only [hk, Option.bind_some, Bool.false_eq_true, if_false]
      exact Ev.now _
    · unfold mintageref05_Parse.f
      refine Ev.bind hwd ?_
      simp only [if_pos (show ((0 : Nat) : Int) = 0 from rfl)]
      exact Ev.now _
theorem reads (k : Int) {l : List Int} (hl : l.length < 9223372036854775000) : ∃ (n : Nat) (v p e : Int), whole_Parse.f n k l = some (v, p, e) ∧ mintageref05_Parse.f n k l = some (v, p, e) := by
  obtain ⟨v, p, e, ⟨K1, h1⟩, K2, h2⟩ := parse_both k hl
  exact ⟨K1 + K2, v, p, e, h1 _ (by omega), h2 _ (by omega)⟩
end Go.Proofs.Ytlcglnnmcgpnpaa.Whw
