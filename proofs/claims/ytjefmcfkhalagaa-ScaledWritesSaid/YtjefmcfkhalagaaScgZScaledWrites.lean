/- scaled.reader.read, walked. NOT BUILT YET. -/
import Derived.Test.YtjefmcfkhalagaaScfZScaledWrites
import Derived.Deep.RegionLaw
import Derived.WalkLawsBesides
namespace Go.Proofs.Ytjefmcfkhalagaa.Scr
set_option linter.unusedVariables false
set_option linter.unusedSimpArgs false
open Go.RowKit Go.Proofs.Ytjefmcfkhalagaa.Q Go.Proofs.YtjefmcfkhalagaaW.PrintWords Go.Proofs.YtjefmcfkhalagaaW.PrintLast Go.Proofs.Ytjefmcfkhalagaa.Keep Go.Proofs.Ytjefmcfkhalagaa.Dig

theorem isb_lt {l : List Int} {p : Nat} {a b : Int} (h : isb l p a b = true) : p < l.length := by
  unfold isb at h
  by_cases hp : p < l.length
  · exact hp
  · rw [if_neg hp] at h; cases h
theorem a1_le (l : List Int) : a1 l ≤ l.length := by
  unfold a1
  split
  · rename_i h; exact isb_lt h
  · exact Nat.zero_le _
theorem pt_le (l : List Int) : pt l ≤ l.length := by
  unfold pt m1
  have := lead_le (l.drop (a1 l))
  have := a1_le l
  rw [List.length_drop] at *
  omega
theorem badAt_some {f : List Int} {sc i : Nat} (h : badAt f sc = some i) : i < f.length ∧ sc ≤ i ∧ rd f (i : Int) ≠ 48 ∧ ∀ j, j < i → sc ≤ j → rd f (j : Int) = 48 := by
  unfold badAt at h
  obtain ⟨h1, h2, h3⟩ := List.find?_range_eq_some.1 h
  have h1' := of_decide_eq_true h1
  refine ⟨List.mem_range.1 h2, h1'.1, h1'.2, fun j hj hs => ?_⟩
  have := h3 j hj
  simp only [Bool.not_eq_true', decide_eq_false_iff_not, not_and] at this
  exact Classical.not_not.1 (this hs)
theorem badAt_none {f : List Int} {sc : Nat} (h : badAt f sc = none) : ∀ i, i < f.length → sc ≤ i → rd f (i : Int) = 48 := by
  unfold badAt at h
  intro i hi hs
  have := List.find?_range_eq_none.1 h i hi
  simp only [Bool.not_eq_true', decide_eq_false_iff_not, not_and] at this
  exact Classical.not_not.1 (this hs)
theorem frac_cell {W : World} {A7 : Option Addr} {n : Nat} {f : List Int} (h : Kd.C (Kd.int .u8) W A7 n f) {i : Nat} (hi : i < n) : ∃ ad : Addr, A7 = some ad ∧ W.cell? (ad.add i) = some (.int .u8 (rd f (i : Int))) := by
  have hr : ReadsInt W .u8 A7 n f := readsInt_of.2 (Kd.reads_of_C (d := (0 : Int)) (h1 := fun _ => rfl) h)
  obtain ⟨ad, e, hc⟩ := hr.at_ (i : Int) (by omega) (by omega)
  exact ⟨ad, e, by simpa using hc⟩
theorem m1_le (l : List Int) : m1 l ≤ l.length := by
  have := lead_le (l.drop (a1 l))
  unfold m1
  rw [List.length_drop] at this
  omega
theorem m2_le (l : List Int) : m2 l ≤ l.length := by
  unfold m2
  split
  · have := lead_le (l.drop (pt l + 1))
    rw [List.length_drop] at this
    omega
  · omega
theorem St.whole_calls {w W : World} {g : Nat} {A : Option Addr} {c : Nat} {l : List Int} (h : St w W g A c l (a1 l)) (hc : l.length ≤ c) (hl : l.length < 1000000) :
    Calls Try.prog 55 #[.pointer (some ⟨g, 0, none⟩)] W fun e w' => ∃ A', e = .returned (.slice A' (m1 l) (c - a1 l)) ∧ St w w' g A c l (pt l) ∧
      ∀ W' : World, Kd.C (Kd.int .u8) W' A l.length l → Kd.C (Kd.int .u8) W' A' (m1 l) (whole l) := h.digits_calls hc (a1_le l) hl
/-- How read ends: a value, or a panic of its own. -/
structure ReadPost (w : World) (g : Nat) (out : Int ⊕ (Int × Int)) (e : Ending) (w' : World) : Prop where
  chg : Chg (fun k => k = g) w w'
  res : (∃ v, out = .inl v ∧ e = .returned (.int .u64 v)) ∨ (∃ pl er, out = .inr (pl, er) ∧ e = .panicked [{ v := .iface 64 (.agg #[.int .i64 pl, .int .i64 er]), recovered := false }])
set_option maxHeartbeats 4000000 in
set_option maxRecDepth 100000 in
theorem read_calls (w : World) (g : Nat) (A : Option Addr) (c : Nat) (l : List Int) (sc : Nat) (hg : Rd w g A c l 0) (ht : Txt w g A l) (hc : l.length ≤ c) (hl : l.length < 1000000) (hs : sc ≤ 18) (K : Nat) (out : Int ⊕ (Int × Int)) (hF : readF K l sc = some out) :
    Calls Try.prog 30 #[.pointer (some ⟨g, 0, none⟩), .int .i64 (sc : Int)] w (ReadPost w g out) := by
  have S0 := Aside0.mk (St.start hg ht)
  have HF := Aside0.mk hF
  have k1 : w.cell? ⟨g, 1, none⟩ = some (.int .i64 ((0 : Nat) : Int)) := (blk_cell hg 1).trans rfl
  clear hg ht hF
  go_enter Try.func30, Try.ntmps30
  go_upto_if 17 with (first
      | (go_at_call 54; refine (S1.out.is_calls 43 45).mono ?_; rintro e_ w2 ⟨rfl, S_⟩; have S2 := Aside0.mk S_; have k2 : w2.cell? ⟨g, 1, none⟩ = some (.int .i64 ((0 : Nat) : Int)) := (blk_cell S_.rd 1).trans rfl; have kf2 := blk_frozen S_.rd 1; clear S_)
      | (go_at_call 54; refine (S0.out.is_calls 45 45).mono ?_; rintro e_ w1 ⟨rfl, S_⟩; have S1 := Aside0.mk S_; clear S_))
  go_cut [17] from 18 to 24 (fun s wx => Aside0 (St w wx g A c l (a1 l)))
  case first =>
    by_cases h1 : isb l 0 43 45 = true
    · have e1 : a1 l = 1 := by unfold a1; rw [if_pos h1]
      have P := Aside0.mk (S2.out.put 1)
      rw [h1]
      clear h1
      go_wp2_with fail
      go_meet
      exact ⟨by rw [e1]; exact P.out⟩
    · have e1 : a1 l = 0 := by unfold a1; rw [if_neg h1]
      have h1' : isb l 0 43 45 = false := by simpa using h1
      rw [h1']
      clear h1 h1'
      go_wp2_with fail
      go_meet
      exact ⟨by rw [e1]; exact S2.out⟩
  case rest =>
    have S3 := hcut
    clear hcut k1
    go_upto_if 32 with (first
      | (go_at_call 54; refine (S4.out.is_calls 46 46).mono ?_; rintro e_ w5 ⟨rfl, S_⟩; have S5 := Aside0.mk S_; have k5 : w5.cell? ⟨g, 1, none⟩ = some (.int .i64 ((pt l : Nat) : Int)) := (blk_cell S_.rd 1).trans rfl; have kf5 := blk_frozen S_.rd 1; clear S_)
      | (go_at_call 55; refine (S3.out.whole_calls hc hl).mono ?_; rintro e_ w4 ⟨A4, rfl, S_, R_⟩; have S4 := Aside0.mk S_; have R4 := Aside0.mk R_; have k4 : w4.cell? ⟨g, 1, none⟩ = some (.int .i64 ((pt l : Nat) : Int)) := (blk_cell S4.out.rd 1).trans rfl; clear S_ R_))
    go_cut [7, 32] from 33 to 41 (fun v s wx => ∃ A7 c7, v = .slice A7 (m2 l) c7 ∧ m2 l ≤ c7 ∧ Aside0 (St w wx g A c l (endAt l)) ∧ Aside0 (∀ W' : World, Kd.C (Kd.int .u8) W' A l.length l → Kd.C (Kd.int .u8) W' A7 (m2 l) (frac l)))
    case first =>
      by_cases h2 : dot l = true
      · have hp := isb_lt h2
        have e2 : endAt l = pt l + 1 + m2 l := by unfold endAt; rw [if_pos h2]
        have e3 : m2 l = lead (l.drop (pt l + 1)) := by unfold m2; rw [if_pos h2]
        have e4 : frac l = (l.drop (pt l + 1)).take (m2 l) := by unfold frac; rw [if_pos h2]
        have hle := lead_le (l.drop (pt l + 1))
        rw [List.length_drop] at hle
        have hw : wrap64 (((pt l : Nat) : Int) + 1) = ((pt l + 1 : Nat) : Int) := by unfold wrap64; omega
        have P := Aside0.mk (S5.out.put (pt l + 1))
        have hd : isb l (pt l) 46 46 = true := h2
        rw [hd]
        have E2 := Aside0.mk e2
        have E3 := Aside0.mk e3
        have E4 := Aside0.mk e4
        clear h2 hd e2 e3 e4
        go_wp2_with (first
          | (go_at_call 55; refine (P.out.digits_calls hc (by omega) hl).mono ?_; rintro e_ w7 ⟨A7, rfl, S_, R_⟩; have S7 := Aside0.mk S_; have R7 := Aside0.mk R_; clear S_ R_))
        go_meet
        case rel => exact ⟨A7, _, by rw [E3.out], by rw [E3.out]; omega, ⟨by rw [E2.out, E3.out]; exact S7.out⟩, ⟨by rw [E4.out, E3.out]; exact R7.out⟩⟩
      · have e2 : endAt l = pt l := by unfold endAt; rw [if_neg h2]
        have e3 : m2 l = 0 := by unfold m2; rw [if_neg h2]
        have e4 : frac l = [] := by unfold frac; rw [if_neg h2]
        have hd : isb l (pt l) 46 46 = false := by simpa [dot] using h2
        rw [hd]
        have E2 := Aside0.mk e2
        have E3 := Aside0.mk e3
        have E4 := Aside0.mk e4
        clear h2 hd e2 e3 e4
        go_wp2_with fail
        go_meet
        case rel => exact ⟨none, 0, by rw [E3.out], by rw [E3.out]; omega, ⟨by rw [E2.out]; exact S5.out⟩, ⟨by rw [E3.out, E4.out]; exact fun W' _ => Kd.C_of_reads (h1 := fun _ => rfl) (readsInt_of.1 (ReadsInt.nil W' .u8))⟩⟩
    case rest =>
      obtain ⟨A7, c7, rfl, hc7, S8, R7⟩ := hcut
      have k8 : wc.cell? ⟨g, 1, none⟩ = some (.int .i64 ((endAt l : Nat) : Int)) := (blk_cell S8.out.rd 1).trans rfl
      have k9 : wc.cell? ⟨g, 0, none⟩ = some (.slice A l.length c) := (blk_cell S8.out.rd 0).trans rfl
      have h := HF.out
      unfold readF at h
      clear S0 S1 S2 S3 S4 S5 k2 kf2 k4 k5 kf5 HF
      have hm1 := m1_le l
      have hm2 := m2_le l
      by_cases c1 : m1 l + m2 l = 0
      · rw [if_pos (.inl c1)] at h
        obtain rfl := Option.some.inj h
        have z1 : m1 l = 0 := by omega
        have z2 : m2 l = 0 := by omega
        clear c1 h hm1 hm2 hc hl hs hc7 R4 R7
        go_wp2_with fail
        go_quiet (fail)
        go_wp2_with fail
        exact ⟨rfl, S8.out.chg.drewN_ _, .inr ⟨_, _, rfl, rfl⟩⟩
      · have z1 : IntKind.i64.wrap (((m1 l : Nat) : Int) + ((m2 l : Nat) : Int)) = ((m1 l : Nat) : Int) + ((m2 l : Nat) : Int) := by rw [IntKind.wrap_i64]; omega
        have z2 : (((m1 l : Nat) : Int) + ((m2 l : Nat) : Int) == 0) = false := by simp; omega
        by_cases c2 : endAt l < l.length
        · rw [if_pos (.inr c2)] at h
          obtain rfl := Option.some.inj h
          have z3 : decide (((endAt l : Nat) : Int) < (l.length : Int)) = true := decide_eq_true (by omega)
          have z4 : decide (endAt l < l.length) = true := decide_eq_true c2
          clear c1 c2 h hm1 hm2 hc hl hs hc7 R4 R7
          go_wp2_with fail
          go_quiet (fail)
          go_wp2_with fail
          exact ⟨rfl, (S8.out.chg.drewN_ _), .inr ⟨_, _, rfl, rfl⟩⟩
        · rw [if_neg (by omega)] at h
          have z3 : decide (((endAt l : Nat) : Int) < (l.length : Int)) = false := decide_eq_false (by omega)
          have z4 : decide (endAt l < l.length) = false := decide_eq_false c2
          have HF := Aside0.mk h
          clear c1 c2 h
          go_wp2_with fail
          go_quiet (fail)
          clear z1 z2 z3 z4
          go_wp2_with fail
          have CF := Aside0.mk (R7.out (wc.drewN nq) (S8.out.C))
          have CW := Aside0.mk (R4.out (wc.drewN nq) (S8.out.C))
          have HCH := Aside0.mk (S8.out.chg.drewN_ (ok := fun k => k = g) nq)
          have hfl : (frac l).length = m2 l := CF.out.1
          clear R4 R7 S8 k8 k9
          generalize wc.drewN nq = W at CF CW HCH ⊢
          have h := HF.out
          clear HF
          cases hb : badAt (frac l) sc with
          | some i0 =>
            obtain ⟨q1, q2, q3, q4⟩ := badAt_some hb
            rw [hb] at h
            obtain rfl := Option.some.inj h
            rw [hfl] at q1
            have HQ := Aside0.mk q4
            have hp := pt_le l
            have q3' : (rd (frac l) (i0 : Int) != 48) = true := by simpa using q3
            clear hb h q3 q4 hfl
            go_loop [9] (fun v => ∃ i : Nat, sc ≤ i ∧ i ≤ i0 ∧ v = .int .i64 i) (fun v => i0 + 1 - (intOf v).toNat)
            case atStart => exact ⟨sc, Nat.le_refl _, q2, rfl⟩
            case round =>
              obtain ⟨i, hi1, hi2, rfl⟩ := hrel
              obtain ⟨ad, hA, hcell⟩ := frac_cell CF.out (i := i) (by omega)
              subst hA
              by_cases hlt : i < i0
              · rw [HQ.out i hlt hi1] at hcell
                clear q3' CW
                go_wp2_with fail
                go_round
                case rel => exact ⟨i + 1, by omega, by omega, by go_num⟩
                case measure => simp [intOf]; omega
              · obtain rfl : i = i0 := by omega
                obtain ⟨x, hx⟩ : ∃ x, rd (frac l) (i : Int) = x := ⟨_, rfl⟩
                rw [hx] at hcell q3'
                clear hx CW
                go_wp2_with fail
                exact ⟨rfl, HCH.out, .inr ⟨_, _, rfl, rfl⟩⟩
          | none =>
            have hq := badAt_none hb
            rw [hb] at h
            rw [hfl] at hq
            have HQ := Aside0.mk hq
            have HF := Aside0.mk h
            clear hb h hq
            go_loop [9] (fun v => ∃ i : Nat, sc ≤ i ∧ (i = sc ∨ i ≤ m2 l) ∧ v = .int .i64 i) (fun v => m2 l + 1 - (intOf v).toNat)
            case atStart => exact ⟨sc, Nat.le_refl _, .inl rfl, rfl⟩
            case round =>
              obtain ⟨i, hi1, hi2, rfl⟩ := hrel
              by_cases hlt : i < m2 l
              · obtain ⟨ad, hA, hcell⟩ := frac_cell CF.out hlt
                subst hA
                rw [HQ.out i hlt hi1] at hcell
                clear CW HF
                go_wp2_with fail
                go_round
                case rel => exact ⟨i + 1, by omega, by omega, by go_num⟩
                case measure => simp [intOf]; omega
              · have hwl : (whole l).length = m1 l := CW.out.1
                have LX : Aside0 ((([48] : List Int).length + (whole l).length) * 1 ≤ 140737488355328) := ⟨by rw [hwl]; simp; omega⟩
                have CW' : Aside0 (Kd.C (Kd.int .u8) W A4 (whole l).length (whole l)) := ⟨by rw [hwl]; exact CW.out⟩
                have CWL := Aside0.mk hwl
                rw [← hwl]
                clear hwl CW
                go_upto_region 18 with (first
                  | ((with_reducible refine gate_dst (N := 84) rfl ?_); refine Kd.R_lit (Kd.int .u8) W.heap.size 5 ?hg (N := 84) ?hd (xs := ([48] : List Int)) (inner := [.int .u8 48]) (ok := fun _ => True) (okp := fun _ => True) ?hr ?hp (fun _ hk => hk) trivial (Below.refl W.heap.size W) (Nat.le_refl _) (by simp) ?_; (case hd => rfl); (case hg => rfl); (case hr => first | (go_simp; done) | (go_simp; rfl)); (case hp => exact (Reps.one (show Kd.M (Kd.int .u8) _ _ _ 48 [.int .u8 48] from rfl) (Reps.none _ _))); intro v139 w15 ho16 hb hg_ hnew_; have HO := Aside0.mk ho16; have HB15 := Aside0.mk hb; have CW15 := Aside0.mk (Kd.C_below CW'.out hb); clear hg_ hnew_ ho16 hb)
                  | ((with_reducible refine gate_builtin (b := .append) (xs := #[.tmp 84, .tmp 85]) rfl ?_); at_builtin; refine Kd.R_append_rows (Kd.int .u8) (w0 := W) W.heap.size rfl (.tmp 84) (.tmp 85) 22 5 (.int .u8 0) 1 rfl Try.underlying22 info5 rfl (by decide) (by omega) v139 ([48] : List Int) (whole l) _ _ _ (fun _ => True) (fun _ => False) rfl rfl HO.out CW15.out (fun _ _ h => h) (fun _ h => h.elim) (fun _ _ => trivial) HB15.out (below_size HB15.out) LX.out ?_; intro v142 w17 ho hb hg hat; have HO17 := Aside0.mk ho; have HB17 := Aside0.mk hb; clear ho hb hg hat))
                clear HO HB15 CW15 CW' LX
                go_wp2_with fail
                have hwl := hm1
                have HWL : Aside0 ((whole l).length ≤ 1000000) := ⟨by have := CWL.out; omega⟩
                go_loopw [10, 88] (fun v i wr => ∃ j : Nat, j ≤ sc ∧ i = .int .i64 j ∧ Aside0 (Below W.heap.size W wr) ∧ Aside0 ((Kd.int .u8).R 5 wr W.heap.size (fun _ => True) v ([48] ++ whole l ++ ((frac l).take j ++ List.replicate (j - (frac l).length) 48)))) (fun _ i _ => sc - (intOf i).toNat)
                case atStart => exact ⟨0, Nat.zero_le _, rfl, HB17, ⟨by simpa using HO17.out⟩⟩
                case round =>
                  obtain ⟨j, hj, rfl, HBr, HOr⟩ := hrel
                  clear HB17 HO17
                  by_cases hjs : j < sc
                  · have LL : Aside0 ((([48] ++ whole l ++ ((frac l).take j ++ List.replicate (j - (frac l).length) 48)).length + 1) * 1 ≤ 140737488355328) := ⟨by
                      have := HWL.out
                      simp only [List.length_append, List.length_take, List.length_replicate, List.length_cons, List.length_nil]; omega⟩
                    have hmin : j < m2 l ∨ m2 l ≤ j := by omega
                    rcases hmin with hlt2 | hge2
                    · obtain ⟨ad, hA, hcell⟩ := frac_cell (Kd.C_below CF.out HBr.out) hlt2
                      subst hA
                      have hne : Aside0 ([48] ++ whole l ++ ((frac l).take j ++ List.replicate (j - (frac l).length) 48) ++ [rd (frac l) (j : Int)] = [48] ++ whole l ++ ((frac l).take (j + 1) ++ List.replicate (j + 1 - (frac l).length) 48)) := ⟨by
                        rw [show j - (frac l).length = 0 by omega, show j + 1 - (frac l).length = 0 by omega, List.take_succ_eq_append_getElem (show j < (frac l).length by omega)]
                        have e : rd (frac l) (j : Int) = (frac l)[j]'(by omega) := by
                          unfold rd
                          rw [Int.toNat_natCast, List.getD_eq_getElem?_getD, List.getElem?_eq_getElem (show j < (frac l).length by omega)]; rfl
                        rw [e]; simp⟩
                      obtain ⟨x, hx⟩ : ∃ x, rd (frac l) (j : Int) = x := ⟨_, rfl⟩
                      rw [hx] at hcell hne
                      clear hx hfl HF HQ
                      go_wp2_with (first
                      | (at_builtin; refine Kd.R_append (Kd.int .u8) (w0 := W) W.heap.size rfl (.tmp 95) (.tmp 100) 22 5 (.int .u8 0) 1 rfl Try.underlying22 info5 rfl (by decide) (by omega) u10 ([48] ++ whole l ++ ((frac l).take j ++ List.replicate (j - (frac l).length) 48)) x [.int .u8 x] (fun _ => True) (fun _ => False) rfl rfl ?aP (fun _ hk => hk.elim) (fun _ _ => trivial) HOr.out HBr.out (below_size HBr.out) LL.out ?_; (case aP => rfl); intro v9 w9 ho hb hg hat; have HO9 := Aside0.mk ho; have HB9 := Aside0.mk hb; clear ho hb hg hat))
                      go_roundw
                      case rel => exact ⟨j + 1, by omega, by go_num, HB9, ⟨by rw [← hne.out]; exact HO9.out⟩⟩
                      case measure => simp [intOf]; omega
                    · have hne : Aside0 ([48] ++ whole l ++ ((frac l).take j ++ List.replicate (j - (frac l).length) 48) ++ [48] = [48] ++ whole l ++ ((frac l).take (j + 1) ++ List.replicate (j + 1 - (frac l).length) 48)) := ⟨by
                        rw [List.take_of_length_le (show (frac l).length ≤ j by omega), List.take_of_length_le (show (frac l).length ≤ j + 1 by omega), show j + 1 - (frac l).length = (j - (frac l).length) + 1 by omega, List.replicate_succ']; simp⟩
                      clear hfl HF HQ
                      go_wp2_with (first
                      | (at_builtin; refine Kd.R_append (Kd.int .u8) (w0 := W) W.heap.size rfl (.tmp 102) (.tmp 103) 22 5 (.int .u8 0) 1 rfl Try.underlying22 info5 rfl (by decide) (by omega) u10 ([48] ++ whole l ++ ((frac l).take j ++ List.replicate (j - (frac l).length) 48)) 48 [.int .u8 48] (fun _ => True) (fun _ => False) rfl rfl ?aP (fun _ hk => hk.elim) (fun _ _ => trivial) HOr.out HBr.out (below_size HBr.out) LL.out ?_; (case aP => rfl); intro v9 w9 ho hb hg hat; have HO9 := Aside0.mk ho; have HB9 := Aside0.mk hb; clear ho hb hg hat))
                      go_roundw
                      case rel => exact ⟨j + 1, by omega, by go_num, HB9, ⟨by rw [← hne.out]; exact HO9.out⟩⟩
                      case measure => simp [intOf]; omega
                  · obtain rfl : j = sc := by omega
                    have eL : [48] ++ whole l ++ ((frac l).take j ++ List.replicate (j - (frac l).length) 48) = all l j := by unfold all; simp
                    have hR := HOr.out
                    rw [eL] at hR
                    have ho := Kd.own_of_R hR
                    obtain ⟨A9, c9, e9⟩ := own_slice ho
                    subst e9
                    have V9 := Aside0.mk (Kd.V_mk (e := 5) (base := wr.heap.size) (own_le ho) (Kd.F_mono (ok' := fun _ => True) (Kd.C_F (Kd.heap_int .u8) (Kd.R_reads' hR).2.2) (fun _ _ => trivial)))
                    obtain ⟨⟨v, er⟩, hval, h⟩ := Option.bind_eq_some_iff.1 HF.out
                    have HVAL := Aside0.mk hval
                    have HCr : Aside0 (Chg (fun k => k = g) w wr) := ⟨HCH.out.trans (Chg.of_below HBr.out)⟩
                    clear HF hR ho hval eL HOr HQ CF HCH hfl
                    go_upto_region 26 with (first
                      | (go_at_call 56; refine (digit_Value.calls K (fun _ => True) A9 c9 (all l j) v er wr V9.out HVAL.out).mono ?_; rintro e_ w20 ⟨rfl, hd_⟩; have HC20 := Aside0.mk (HCr.out.trans (Chg.of_below hd_)); clear hd_))
                    by_cases g1 : er = 0
                    · subst g1
                      by_cases g2 : v > 999999999999999999
                      · rw [if_pos (.inr g2)] at h
                        obtain rfl := Option.some.inj h
                        clear h V9 HVAL
                        go_wp2_with fail
                        exact ⟨rfl, HC20.out, .inr ⟨_, _, rfl, rfl⟩⟩
                      · rw [if_neg (by simp; omega)] at h
                        by_cases g3 : isb l 0 45 45 = true
                        · rw [if_pos g3] at h
                          obtain rfl := Option.some.inj h
                          rw [g3]
                          clear h V9 HVAL g3
                          go_wp2_with fail
                          go_ret
                          exact ⟨HC20.out, .inl ⟨_, rfl, rfl⟩⟩
                        · rw [if_neg g3] at h
                          obtain rfl := Option.some.inj h
                          have g4 : isb l 0 45 45 = false := by simpa using g3
                          rw [g4]
                          clear h V9 HVAL g3 g4
                          go_wp2_with fail
                          go_ret
                          exact ⟨HC20.out, .inl ⟨_, rfl, rfl⟩⟩
                    · rw [if_pos (.inl g1)] at h
                      obtain rfl := Option.some.inj h
                      have g1' : (er != 0) = true := by simpa using g1
                      clear h V9 HVAL
                      go_wp2_with fail
                      exact ⟨rfl, HC20.out, .inr ⟨_, _, rfl, rfl⟩⟩
end Go.Proofs.Ytjefmcfkhalagaa.Scr
