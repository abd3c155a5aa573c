/- ref.Spans, walked. -/
import Derived.Test.YtbjoinocajobhaaEvcZAuditSpans
import Derived.BigQuiet
import Derived.StillTailTactics
namespace Go.Proofs.Ytbjoinocajobhaa.Evs
set_option linter.unusedVariables false
set_option linter.unusedSimpArgs false
open Go.RowKit Go.Proofs.Ytbjoinocajobhaa.Q Go.Proofs.YtbjoinocajobhaaW.PrintWords Go.Proofs.YtbjoinocajobhaaW.PrintLast Go.Proofs.Ytbjoinocajobhaa.Ju Go.Proofs.Ytbjoinocajobhaa.Keep Go.Maps
theorem kindB_is (k : Int) : (!kindB k) = (decide (k < 1) || decide (4 < k)) := by
  unfold kindB
  by_cases h1 : k < 1 <;> by_cases h2 : 4 < k <;> simp [h1, h2] <;> omega
theorem stB_eq {l : List E6} {i : Nat} {P : List (Nat × Int)} {e : E6} {o : Int} (he : ev l i = e) (ho : lastO l P e.f0 P.length = o) :
    stB l i P = if kindB e.f2 = false then none else if e.f3 = false then (if o ≥ 0 then none else some (P ++ [(i, -1)])) else if o < 0 ∨ (ev l (pr P o.toNat).1).f1 ≠ e.f1 ∨ (ev l (pr P o.toNat).1).f2 ≠ e.f2 then none else some (P.set o.toNat ((pr P o.toNat).1, (i : Int))) := by
  unfold stB
  rw [he, ho]; rfl
theorem below_eq {W W' : World} (h : W' = W) : Below W.heap.size W W' := h ▸ Below.refl _ _
set_option maxHeartbeats 4000000 in
set_option maxRecDepth 100000 in
theorem spansO_calls (w : World) (A : Option Addr) (c : Nat) (l : List E6) (se : Int) (hr : ER w A l) (hl : l.length ≤ 300) :
    Calls Try.prog 24 #[.slice A l.length c, .int .i64 se] w fun e w' => ∃ v, e = .returned (.tuple #[v, .int .i64 (spansO se l).2]) ∧ Kd.R k32 32 w' w.heap.size (fun _ => True) v (spansO se l).1 ∧ Below w.heap.size w w' := by
  have CR := Aside0.mk hr
  obtain ⟨RB, hRB⟩ : ∃ R, runB l l.length 0 [] = R := ⟨_, rfl⟩
  have hSF : spansO se l = ansO l se RB := by unfold spansO; rw [hRB]
  have HSF := Aside0.mk hSF
  have HRB := Aside0.mk hRB
  clear hr hRB hSF
  go_enter Try.func24, Try.ntmps24
  go_upto_region 4 with fail
  go_loopw [6, 7, 8] (fun s6 s7 s8 wr => ∃ (i : Nat) (P : List (Nat × Int)), i ≤ l.length ∧ s8 = .int .i64 (i : Int) ∧ P.length ≤ i ∧ (∃ AB cB AE cE, s6 = .slice AB P.length cB ∧ s7 = .slice AE P.length cE ∧ Aside0 (TR w wr (.slice AB P.length cB) (.slice AE P.length cE) (begP P) (endP P))) ∧ Aside0 (Rng i P) ∧ Aside0 (runB l (l.length - i) i P = RB)) (fun _ _ s8 _ => l.length - (intOf s8).toNat)
  case atStart => exact ⟨0, [], Nat.zero_le _, rfl, Nat.le_refl _, ⟨none, 0, none, 0, rfl, rfl, ⟨⟨Kd.R_nil _ _ _ _ _, Kd.R_nil _ _ _ _ _, Below.refl _ _⟩⟩⟩, ⟨fun k hk => by simp at hk⟩, HRB⟩
  case round =>
    obtain ⟨i, P, hi, rfl, hPi, ⟨AB, cB, AE, cE, rfl, rfl, TA⟩, HG, HRU⟩ := hrel
    clear HRB
    by_cases hlt : i < l.length
    · obtain ⟨ad, e, h0, h1, h2, h3, h4, h5⟩ := CR.out.at_ TA.out.bel hlt
      subst e
      have p1 := eq_true (show (0 : Int) ≤ (i : Int) by omega)
      have p2 := eq_true (show (i : Int) < (l.length : Int) by omega)
      have hru : runB l (l.length - i) i P = (stB l i P).bind fun P' => runB l (l.length - (i + 1)) (i + 1) P' := by
        rw [show l.length - i = (l.length - (i + 1)) + 1 by omega]; rfl
      have HRU2 : Aside0 ((stB l i P).bind (fun P' => runB l (l.length - (i + 1)) (i + 1) P') = RB) := ⟨hru ▸ HRU.out⟩
      clear hru HRU
      obtain ⟨e, hev⟩ : ∃ e, ev l i = e := ⟨_, rfl⟩
      rw [hev] at h0 h1 h2 h3 h4 h5
      have HEV := Aside0.mk hev
      clear hev
      go_upto_region 7 with (first
        | ((with_reducible refine gate_dst (N := 9) rfl ?_); refine box_event ?hg (N := 9) ?hd (cs := #[.int .i64 0, .int .i64 0, .int .i64 0, .bool false, .int .i64 0, .int .i64 0]) (t := 83) ?hr ?_; (case hd => rfl); (case hg => rfl); (case hr => first | (go_simp; done) | (go_simp; rfl)); intro tb hg w11 hbox hb; have HB1 := Aside0.mk hb; have BX := Aside0.mk hbox; have GE := Aside0.mk (show wr.heap.size ≤ tb by rw [hg]; exact Nat.le_refl _); clear hb hbox hg; have z0 := (blk_cell BX.out 0); have z1 := (blk_cell BX.out 1); have z2 := (blk_cell BX.out 2); have z3 := (blk_cell BX.out 3); have z4 := (blk_cell BX.out 4); have z5 := (blk_cell BX.out 5); have f0 := blk_frozen BX.out 0; have f1 := blk_frozen BX.out 1; have f2 := blk_frozen BX.out 2; have f3 := blk_frozen BX.out 3; have f4 := blk_frozen BX.out 4; have f5 := blk_frozen BX.out 5))
      obtain ⟨W5, hW5, B5, X5⟩ := laid6 HB1.out BX.out GE.out e
      rw [hW5]
      clear hW5 z0 z1 z2 z3 z4 z5 f0 f1 f2 f3 f4 f5 h0 h1 h2 h3 h4 h5 BX HB1 GE
      have S5 := Aside0.mk (TA.out.below B5)
      have T5 := Aside0.mk X5
      clear B5 X5 TA
      have a2 : W5.cell? ⟨tb, 2, none⟩ = some (.int .i64 e.f2) := (blk_cell T5.out 2).trans rfl
      go_cut [33] from 26 to 33 (fun s33 wx => s33 = .bool (!kindB e.f2) ∧ wx = W5)
      case first =>
        have hkb := kindB_is e.f2
        have HKB := Aside0.mk hkb
        clear hkb
        by_cases c1 : e.f2 < 1
        · have d1 := decide_eq_true c1
          go_wp2_with fail
          go_meet
          case rel => exact ⟨by rw [HKB.out, d1]; rfl, rfl⟩
        · have d1 := decide_eq_false c1
          go_wp2_with fail
          go_meet
          case rel => exact ⟨by rw [HKB.out, d1]; rfl, rfl⟩
      case rest =>
        obtain ⟨rfl, rfl⟩ := hcut
        clear a2
        cases hK : kindB e.f2
        case false =>
          have hsn : stB l i P = none := by unfold stB; rw [HEV.out, if_pos hK]
          have hRN : RB = none := by rw [← HRU2.out, hsn]; rfl
          have HS2 : Aside0 (spansO se l = ([], 310)) := ⟨by rw [HSF.out, hRN]; rfl⟩
          clear hsn hRN
          go_wp2_with fail
          go_ret2
          rw [HS2.out]
          exact ⟨_, rfl, Kd.R_nil _ _ _ _ _, S5.out.bel⟩
        case true =>
          go_upto_region 11 with fail
          go_loopw [10, 11] (fun s10 s11 wx => ∃ k : Nat, k ≤ P.length ∧ s11 = .int .i64 (k : Int) ∧ s10 = .int .i64 (lastO l P e.f0 k) ∧ Aside0 (Below wc.heap.size wc wx)) (fun _ s11 _ => P.length - (intOf s11).toNat)
          case atStart => exact ⟨0, Nat.zero_le _, rfl, rfl, ⟨Below.refl _ _⟩⟩
          case round =>
            obtain ⟨k, hkP, rfl, rfl, BW⟩ := hrel
            by_cases hk : k < P.length
            · have TW := Aside0.mk (S5.out.below BW.out)
              obtain ⟨gB, eB, -, -, b0, -, -⟩ := int_row TW.out.b hk
              obtain ⟨gE, eE, -, -, e0, -, -⟩ := int_row TW.out.e hk
              subst eB eE
              rw [begP_at hk] at b0
              rw [endP_at hk] at e0
              obtain ⟨b, hb⟩ : ∃ b, (pr P k).1 = b := ⟨_, rfl⟩
              rw [hb] at b0
              have hbl : b < l.length := by have := (HG.out k hk).1; omega
              obtain ⟨ad', e', m0, -, -, -, -, -⟩ := CR.out.at_ TW.out.bel hbl
              obtain rfl := Option.some.inj e'
              have t0 : wr.cell? ⟨tb, 0, none⟩ = some (.int .i64 e.f0) := ((BW.out.cell (blk_lt T5.out)).trans (blk_cell T5.out 0)).trans rfl
              have q1 := eq_true (show (0 : Int) ≤ (k : Int) by omega)
              have q2 := eq_true (show (k : Int) < (P.length : Int) by omega)
              have q3 := eq_true (show (0 : Int) ≤ (b : Int) by omega)
              have q4 := eq_true (show (b : Int) < (l.length : Int) by omega)
              go_upto_region 13 with fail
              go_cut [57] from 40 to 57 (fun s57 wx => s57 = .bool ((ev l b).f0 == e.f0 && decide ((pr P k).2 < 0)) ∧ Aside0 (Below wc.heap.size wc wx))
              case first =>
                cases hq : ((ev l b).f0 == e.f0)
                case false =>
                  go_quiet (fail)
                  go_wp2_with fail
                  go_meet
                  case rel => exact ⟨by rw [hq]; rfl, ⟨pw_below_drewN BW.out _⟩⟩
                case true =>
                  go_quiet (fail)
                  go_wp2_with fail
                  go_meet
                  case rel => exact ⟨by rw [hq]; rfl, ⟨pw_below_drewN BW.out _⟩⟩
              case rest =>
                obtain ⟨rfl, BW9⟩ := hcut
                have hls := lastO_succ l P e.f0 k
                rw [hb] at hls
                cases hB : ((ev l b).f0 == e.f0 && decide ((pr P k).2 < 0))
                case false =>
                  rw [if_neg (fun q => by rw [q.1, q.2] at hB; cases hB)] at hls
                  have HLS := Aside0.mk hls
                  clear hls b0 e0 m0 t0 q3 q4
                  go_wp2_with fail
                  go_roundw
                  case rel => exact ⟨k + 1, by omega, by go_num, by rw [HLS.out], BW9⟩
                  case measure => simp [intOf]; omega
                case true =>
                  rw [if_pos (by simpa using hB)] at hls
                  have HLS := Aside0.mk hls
                  clear hls b0 e0 m0 t0 q3 q4
                  go_wp2_with fail
                  go_roundw
                  case rel => exact ⟨k + 1, by omega, by go_num, by rw [HLS.out], BW9⟩
                  case measure => simp [intOf]; omega
            · obtain rfl : k = P.length := by omega
              have SW := Aside0.mk (S5.out.below BW.out)
              have TW := Aside0.mk ((BW.out.block tb (blk_lt T5.out)).trans T5.out)
              clear S5 T5 BW
              obtain ⟨o, ho⟩ : ∃ o, lastO l P e.f0 P.length = o := ⟨_, rfl⟩
              have hor := lastO_rng l P e.f0 P.length
              rw [ho] at hor ⊢
              have HO := Aside0.mk ho
              clear ho
              have c2 : wr.cell? ⟨tb, 2, none⟩ = some (.int .i64 e.f2) := (blk_cell TW.out 2).trans rfl
              have c1 : wr.cell? ⟨tb, 1, none⟩ = some (.int .i64 e.f1) := (blk_cell TW.out 1).trans rfl
              have c3 : wr.cell? ⟨tb, 3, none⟩ = some (.bool e.f3) := (blk_cell TW.out 3).trans rfl
              have q2 := eq_false (show ¬ (P.length : Int) < (P.length : Int) by omega)
              go_upto_if 61 with fail
              clear q2
              cases hf3 : e.f3
              case false =>
                have hst := stB_eq HEV.out HO.out
                rw [if_neg (by rw [hK]; decide), if_pos hf3] at hst
                by_cases ho0 : 0 ≤ o
                · rw [if_pos ho0] at hst
                  have hRN : RB = none := by rw [← HRU2.out, hst]; rfl
                  have HS2 : Aside0 (spansO se l = ([], 310)) := ⟨by rw [HSF.out, hRN]; rfl⟩
                  have q1 := eq_true ho0
                  clear hst hRN
                  go_wp2_with fail
                  go_ret2
                  rw [HS2.out]
                  exact ⟨_, rfl, Kd.R_nil _ _ _ _ _, SW.out.bel⟩
                · rw [if_neg (show ¬ o ≥ 0 from ho0)] at hst
                  have HRU3 : Aside0 (runB l (l.length - (i + 1)) (i + 1) (P ++ [(i, -1)]) = RB) := ⟨by have := HRU2.out; rw [hst] at this; exact this⟩
                  have q1 := eq_false ho0
                  clear hst hf3
                  have LLB : Aside0 (((begP P).length + 1) * 8 ≤ 140737488355328) := ⟨by rw [begP_len]; omega⟩
                  have LLE : Aside0 (((endP P).length + 1) * 8 ≤ 140737488355328) := ⟨by rw [endP_len]; omega⟩
                  go_upto_region 19 with (first
                    | (at_builtin; go_must (refine Kd.R_append (Kd.int .i64) (w0 := w) w.heap.size rfl (.tmp 64) (.tmp 66) 23 3 (.int .i64 0) 8 rfl Try.underlying23 infoInt rfl (by decide) (by omega) (.slice AB P.length cB) (begP P) (i : Int) [.int .i64 (i : Int)] (fun _ => True) (fun _ => False) rfl rfl ?aP (fun _ hk => hk.elim) (fun _ _ => trivial) SW.out.b SW.out.bel SW.out.bel.size LLB.out ?_; (case aP => rfl); intro v7 w7 ho_ hb_ hg_ hat; have S7 := Aside0.mk (SW.out.growB ho_ hg_ hat hb_); clear ho_ hb_ hg_ hat)))
                  go_wp2_with (first
                    | (at_builtin; go_must (refine Kd.R_append (Kd.int .i64) (w0 := w) w.heap.size rfl (.tmp 68) (.tmp 69) 23 3 (.int .i64 0) 8 rfl Try.underlying23 infoInt rfl (by decide) (by omega) (.slice AE P.length cE) (endP P) (-1) [.int .i64 (-1)] _ (fun _ => False) rfl rfl ?aP (fun _ hk => hk.elim) S7.out.freshE S7.out.e S7.out.bel S7.out.bel.size LLE.out ?_; (case aP => rfl); intro v8 w8 ho_ hb_ hg_ hat; have S8 := Aside0.mk (S7.out.growE ho_ hg_ hb_); clear ho_ hb_ hg_ hat)))
                  go_roundw
                  case rel =>
                    have hl : (P ++ [(i, (-1 : Int))]).length = P.length + 1 := by simp
                    have hS := S8.out
                    rw [← begP_snoc P i (-1), ← endP_snoc P i (-1)] at hS
                    obtain ⟨A7, c7, rfl⟩ := Kd.R_slice hS.b
                    obtain ⟨A8, c8, rfl⟩ := Kd.R_slice hS.e
                    rw [begP_len, endP_len] at hS
                    rw [begP_len, endP_len]
                    exact ⟨i + 1, P ++ [(i, -1)], by omega, by go_num, by rw [hl]; omega, ⟨A7, c7, A8, c8, rfl, rfl, ⟨hS⟩⟩, ⟨HG.out.snoc⟩, HRU3⟩
                  case measure => simp [intOf]; omega
              case true =>
                have hst := stB_eq HEV.out HO.out
                rw [if_neg (by rw [hK]; decide), if_neg (by rw [hf3]; decide)] at hst
                have HST := Aside0.mk hst
                clear hst c3 hf3
                go_upto_region 20 with fail
                go_cut [98] from 71 to 98 (fun s98 wx => (∃ b : Bool, s98 = .bool b ∧ (b = true ↔ (o < 0 ∨ (ev l (pr P o.toNat).1).f1 ≠ e.f1 ∨ (ev l (pr P o.toNat).1).f2 ≠ e.f2))) ∧ Aside0 (Below wr.heap.size wr wx))
                case first =>
                  by_cases ho0 : o < 0
                  · have d1 := decide_eq_true ho0
                    go_quiet (fail)
                    go_wp2_with fail
                    go_meet
                    case rel => exact ⟨⟨true, rfl, by simp [ho0]⟩, ⟨pw_below_drewN (Below.refl _ _) _⟩⟩
                  · have d1 := decide_eq_false ho0
                    obtain ⟨k, rfl⟩ : ∃ k : Nat, o = (k : Int) := ⟨o.toNat, by omega⟩
                    have hk : k < P.length := by omega
                    obtain ⟨gB, eB, -, -, b0, -, -⟩ := int_row SW.out.b hk
                    subst eB
                    rw [begP_at hk] at b0
                    obtain ⟨b, hb⟩ : ∃ b, (pr P k).1 = b := ⟨_, rfl⟩
                    rw [hb] at b0
                    have hbl : b < l.length := by have := (HG.out k hk).1; omega
                    obtain ⟨ad', e', -, m1, m2, -, -, -⟩ := CR.out.at_ SW.out.bel hbl
                    obtain rfl := Option.some.inj e'
                    have q1 := eq_true (show (0 : Int) ≤ (k : Int) by omega)
                    have q2 := eq_true (show (k : Int) < (P.length : Int) by omega)
                    have q3 := eq_true (show (0 : Int) ≤ (b : Int) by omega)
                    have q4 := eq_true (show (b : Int) < (l.length : Int) by omega)
                    have HB := Aside0.mk hb
                    have HOK := Aside0.mk ho0
                    clear hb
                    cases hf1 : ((ev l b).f1 != e.f1)
                    case true =>
                      go_quiet (fail)
                      go_wp2_with fail
                      go_meet
                      case rel => exact ⟨⟨true, rfl, by rw [Int.toNat_natCast, HB.out]; simp at hf1; simp [hf1]⟩, ⟨pw_below_drewN (Below.refl _ _) _⟩⟩
                    case false =>
                      go_quiet (fail)
                      go_wp2_with fail
                      go_meet
                      case rel => exact ⟨⟨(ev l b).f2 != e.f2, rfl, by rw [Int.toNat_natCast, HB.out]; simp at hf1; have := HOK.out; simp [hf1, this]; intro q; omega⟩, ⟨pw_below_drewN (Below.refl _ _) _⟩⟩
                case rest =>
                  obtain ⟨⟨bad, rfl, hbad⟩, BD⟩ := hcut
                  have SD := Aside0.mk (SW.out.below BD.out)
                  clear c1 c2 SW TW BD
                  cases bad
                  case true =>
                    have hst := HST.out
                    rw [if_pos (hbad.1 rfl)] at hst
                    have hRN : RB = none := by rw [← HRU2.out, hst]; rfl
                    have HS2 : Aside0 (spansO se l = ([], 310)) := ⟨by rw [HSF.out, hRN]; rfl⟩
                    clear hst hRN hbad
                    go_wp2_with fail
                    go_ret2
                    rw [HS2.out]
                    exact ⟨_, rfl, Kd.R_nil _ _ _ _ _, SD.out.bel⟩
                  case false =>
                    have hng := fun q => Bool.false_ne_true (hbad.2 q)
                    have hst := HST.out
                    rw [if_neg hng] at hst
                    have ho0 : ¬ o < 0 := fun q => hng (.inl q)
                    have HRU3 : Aside0 (runB l (l.length - (i + 1)) (i + 1) (P.set o.toNat ((pr P o.toNat).1, (i : Int))) = RB) := ⟨by have := HRU2.out; rw [hst] at this; exact this⟩
                    clear hst hbad hng
                    obtain ⟨k, rfl⟩ : ∃ k : Nat, o = (k : Int) := ⟨o.toNat, by omega⟩
                    rw [Int.toNat_natCast] at HRU3
                    have hk : k < P.length := by omega
                    obtain ⟨gE, eE, -, -, e0, fE, -⟩ := int_row SD.out.e hk
                    subst eE
                    have q1 := eq_true (show (0 : Int) ≤ (k : Int) by omega)
                    have q2 := eq_true (show (k : Int) < (P.length : Int) by omega)
                    have S9 := Aside0.mk (SD.out.putE hk (i : Int))
                    go_wp2_with fail
                    go_roundw
                    case rel =>
                      have hl : (P.set k ((pr P k).1, (i : Int))).length = P.length := by simp
                      have hS := S9.out
                      rw [← begP_set P k (i : Int), ← endP_set P k ((pr P k).1, (i : Int))] at hS
                      refine ⟨i + 1, P.set k ((pr P k).1, (i : Int)), by omega, by go_num, by rw [hl]; omega, ?_, ⟨HG.out.set⟩, HRU3⟩
                      rw [hl]
                      exact ⟨AB, cB, some ⟨gE, 0, none⟩, cE, rfl, rfl, ⟨hS⟩⟩
                    case measure => simp [intOf]; omega
    · have hil : i = l.length := by omega
      have hRA : RB = some P := by rw [← HRU.out, hil, Nat.sub_self]; rfl
      have HS2 : Aside0 (spansO se l = (outF l se P, 0)) := ⟨by rw [HSF.out, hRA]; rfl⟩
      clear hRA HRU HSF
      rename World => W0
      clear hil
      have p2 := eq_false (show ¬ (i : Int) < (l.length : Int) by omega)
      go_upto_region 25 with fail
      clear p2
      go_loopw [12, 13] (fun s12 s13 wx => ∃ (k : Nat) (out : List S32), k ≤ P.length ∧ s13 = .int .i64 (k : Int) ∧ out.length ≤ k ∧ Aside0 (out = outF l se (P.take k)) ∧ (∃ A c, s12 = .slice A out.length c ∧ Aside0 (Kd.R k32 32 wx W0.heap.size (fun _ => True) (.slice A out.length c) out)) ∧ Aside0 (Below W0.heap.size W0 wx)) (fun _ s13 _ => P.length - (intOf s13).toNat)
      case atStart => exact ⟨0, [], Nat.zero_le _, rfl, Nat.le_refl _, ⟨rfl⟩, ⟨none, 0, rfl, ⟨Kd.R_nil _ _ _ _ _⟩⟩, ⟨Below.refl _ _⟩⟩
      case round =>
        obtain ⟨k, out, hkP, rfl, hol, HOT, ⟨AX, cx, rfl, HO⟩, BW⟩ := hrel
        by_cases hk : k < P.length
        · have TW := Aside0.mk (TA.out.below BW.out)
          obtain ⟨gB, eB, -, -, b0, -, -⟩ := int_row TW.out.b hk
          obtain ⟨gE, eE, -, -, e0, -, -⟩ := int_row TW.out.e hk
          subst eB eE
          rw [begP_at hk] at b0
          rw [endP_at hk] at e0
          obtain ⟨b, hb⟩ : ∃ b, (pr P k).1 = b := ⟨_, rfl⟩
          obtain ⟨f, hf⟩ : ∃ f, (pr P k).2 = f := ⟨_, rfl⟩
          rw [hb] at b0
          rw [hf] at e0
          have hbl : b < l.length := by have := (HG.out k hk).1; omega
          have hfl : f = -1 ∨ (0 ≤ f ∧ f < (l.length : Int)) := by have := (HG.out k hk).2; rw [hf] at this; omega
          obtain ⟨ad, e', h0, h1, h2, h3, h4, h5⟩ := CR.out.at_ TW.out.bel hbl
          subst e'
          have HPR : Aside0 (pr P k = (b, f)) := ⟨by rw [← hb, ← hf]⟩
          have HOF := Aside0.mk (outF_take l se P hk)
          clear hb hf
          obtain ⟨e, hev⟩ : ∃ e, ev l b = e := ⟨_, rfl⟩
          rw [hev] at h0 h1 h2 h3 h4 h5
          have HEV := Aside0.mk hev
          clear hev
          have q1 := eq_true (show (0 : Int) ≤ (k : Int) by omega)
          have q2 := eq_true (show (k : Int) < (P.length : Int) by omega)
          have q3 := eq_true (show (0 : Int) ≤ (b : Int) by omega)
          have q4 := eq_true (show (b : Int) < (l.length : Int) by omega)
          go_upto_region 28 with (first
            | ((with_reducible refine gate_dst (N := 14) rfl ?_); refine box_event ?hg (N := 14) ?hd (cs := #[.int .i64 0, .int .i64 0, .int .i64 0, .bool false, .int .i64 0, .int .i64 0]) (t := 83) ?hr ?_; (case hd => rfl); (case hg => rfl); (case hr => first | (go_simp; done) | (go_simp; rfl)); intro tb hg w11 hbox hb; have HB1 := Aside0.mk hb; have BX := Aside0.mk hbox; have GE := Aside0.mk (show wr.heap.size ≤ tb by rw [hg]; exact Nat.le_refl _); clear hb hbox hg; have z0 := (blk_cell BX.out 0); have z1 := (blk_cell BX.out 1); have z2 := (blk_cell BX.out 2); have z3 := (blk_cell BX.out 3); have z4 := (blk_cell BX.out 4); have z5 := (blk_cell BX.out 5); have f0 := blk_frozen BX.out 0; have f1 := blk_frozen BX.out 1; have f2 := blk_frozen BX.out 2; have f3 := blk_frozen BX.out 3; have f4 := blk_frozen BX.out 4; have f5 := blk_frozen BX.out 5))
          obtain ⟨W5, hW5, B5, X5⟩ := laid6 HB1.out BX.out GE.out e
          rw [hW5]
          have b5 : W5.cell? ⟨gB, k, none⟩ = some (.int .i64 (b : Int)) := (B5.cell (World.block_lt_of_cell? _ _ b0)).trans b0
          have e5 : W5.cell? ⟨gE, k, none⟩ = some (.int .i64 f) := (B5.cell (World.block_lt_of_cell? _ _ e0)).trans e0
          clear hW5 z0 z1 z2 z3 z4 z5 f0 f1 f2 f3 f4 f5 h0 h1 h2 h3 h4 h5 BX HB1 GE b0 e0 q3 q4
          have RO5 := Aside0.mk (Kd.R_below HO.out B5)
          have TW5 := Aside0.mk (TW.out.below B5)
          have BW5 := Aside0.mk (below_step BW.out B5)
          have T5 := Aside0.mk X5
          clear B5 X5 TW BW HO
          have c1 : W5.cell? ⟨tb, 1, none⟩ = some (.int .i64 e.f1) := (blk_cell T5.out 1).trans rfl
          have c2 : W5.cell? ⟨tb, 2, none⟩ = some (.int .i64 e.f2) := (blk_cell T5.out 2).trans rfl
          go_upto_if 119 with fail
          cases hs : (e.f1 != se)
          case true =>
            have hs' : ¬ e.f1 = se := by simpa using hs
            have HOF2 : Aside0 (out = outF l se (P.take (k + 1))) := ⟨by rw [HOF.out, HPR.out, HEV.out, if_neg hs']; exact HOT.out⟩
            clear hs hs' b5 e5 c1 c2
            go_wp2_with fail
            go_roundw
            case rel => exact ⟨k + 1, out, by omega, by go_num, by omega, HOF2, ⟨AX, cx, rfl, RO5⟩, BW5⟩
            case measure => simp [intOf]; omega
          case false =>
            have hs' : e.f1 = se := by simpa using hs
            have HOF2 : Aside0 (out ++ [spanO l (pr P k)] = outF l se (P.take (k + 1))) := ⟨by rw [HOF.out, HPR.out, HEV.out, if_pos hs', ← HOT.out]⟩
            clear hs hs'
            go_upto_region 29 with fail
            go_cut [15] from 120 to 130 (fun v wx => ∃ ts : Nat, v = .pointer (some ⟨ts, 0, none⟩) ∧ W5.heap.size ≤ ts ∧ Aside0 (wx.heap[ts]? = some (.cells #[.int .i64 e.f2, .int .i64 (b : Int), .int .i64 f, .int .i64 0, .int .i64 0] 32 (0, 0))) ∧ Aside0 (Below W5.heap.size W5 wx))
            case first =>
              obtain ⟨O, hO⟩ : ∃ O : Obj, O = .cells #[.int .i64 0, .int .i64 0, .int .i64 0, .int .i64 0, .int .i64 0] 32 (0, 0) := ⟨_, rfl⟩
              have hBO : Below W5.heap.size W5 (W5.alloc O) := below_alloc (Below.refl _ _) O
              have b6 : (W5.alloc O).cell? ⟨gB, k, none⟩ = some (.int .i64 (b : Int)) := (hBO.cell (World.block_lt_of_cell? _ _ b5)).trans b5
              have e6 : (W5.alloc O).cell? ⟨gE, k, none⟩ = some (.int .i64 f) := (hBO.cell (World.block_lt_of_cell? _ _ e5)).trans e5
              have c6 : (W5.alloc O).cell? ⟨tb, 2, none⟩ = some (.int .i64 e.f2) := (hBO.cell (World.block_lt_of_cell? _ _ c2)).trans c2
              have hbx : (W5.alloc O).heap[W5.heap.size]? = some (.cells #[.int .i64 0, .int .i64 0, .int .i64 0, .int .i64 0, .int .i64 0] 32 (0, 0)) := by rw [hO]; exact blk_new W5 _
              have z0 := blk_cell hbx 0
              have z1 := blk_cell hbx 1
              have z2 := blk_cell hbx 2
              have z3 := blk_cell hbx 3
              have z4 := blk_cell hbx 4
              have f0 := blk_frozen hbx 0
              have f1 := blk_frozen hbx 1
              have f2 := blk_frozen hbx 2
              have f3 := blk_frozen hbx 3
              have f4 := blk_frozen hbx 4
              subst hO
              clear hbx hBO
              go_region
              all_goals
                go_wp2_with fail
                go_meet
                case rel => exact ⟨W5.heap.size, rfl, Nat.le_refl _, ⟨blk_new W5 _⟩, ⟨below_drew (below_alloc (Below.refl _ _) _)⟩⟩
            case rest =>
            obtain ⟨ts, rfl, hts, T7, BD⟩ := hcut
            have e7 : wc.cell? ⟨gE, k, none⟩ = some (.int .i64 f) := (BD.out.cell (World.block_lt_of_cell? _ _ e5)).trans e5
            have RO7 := Aside0.mk (Kd.R_below RO5.out BD.out)
            have TW7 := Aside0.mk (TW5.out.below BD.out)
            have BW7 := Aside0.mk (below_step BW5.out BD.out)
            have HGE : Aside0 (gE < W5.heap.size) := ⟨World.block_lt_of_cell? _ _ e5⟩
            have HSZ : Aside0 (w.heap.size ≤ W5.heap.size) := ⟨TW5.out.bel.size⟩
            clear b5 e5 c1 c2 TW5 T5 RO7 BW7
            obtain ⟨X, hX⟩ : ∃ X, spanO l (pr P k) = X := ⟨_, rfl⟩
            rw [hX] at HOF2
            have HX : Aside0 (X = ⟨e.f2, (b : Int), f, if 0 ≤ f then (ev l f.toNat).f4 else 0, if 0 ≤ f then (ev l f.toNat).f5 else 0⟩) := ⟨by rw [← hX, HPR.out]; unfold spanO; rw [HEV.out]⟩
            clear hX
            go_upto_if 135 with fail
            go_cut [15] from 135 to 153 (fun s15 wx => s15 = .pointer (some ⟨ts, 0, none⟩) ∧ Aside0 (Below W5.heap.size W5 wx) ∧ Aside0 (wx.heap[ts]? = some (.cells #[.int .i64 X.f0, .int .i64 X.f1, .int .i64 X.f2, .int .i64 X.f3, .int .i64 X.f4] 32 (0, 0))))
            case first =>
              by_cases hf0 : 0 ≤ f
              · obtain ⟨m, rfl⟩ : ∃ m : Nat, f = (m : Int) := ⟨f.toNat, by omega⟩
                have hm : m < l.length := by omega
                obtain ⟨ad', e', -, -, -, -, h4, h5⟩ := CR.out.at_ TW7.out.bel hm
                obtain rfl := Option.some.inj e'
                have q3 := eq_true (show (0 : Int) ≤ (m : Int) by omega)
                have q4 := eq_true (show (m : Int) < (l.length : Int) by omega)
                have hne : ∀ {a : Addr}, a.block < W5.heap.size → (⟨ts, 3, none⟩ : Addr).block ≠ a.block := fun {a} q r => by
                  have r' : ts = a.block := r
                  omega
                have e7' : (wc.setCell ⟨ts, 3, none⟩ (.int .i64 (ev l m).f4)).cell? ⟨gE, k, none⟩ = some (.int .i64 (m : Int)) := cell_far e7 (hne HGE.out)
                obtain ⟨ad2, e', -, -, -, -, -, g5⟩ := CR.out.at_ (Below.refl _ _) hm
                obtain rfl := Option.some.inj e'
                have h5' : (wc.setCell ⟨ts, 3, none⟩ (.int .i64 (ev l m).f4)).cell? ⟨(ad.add (m * 6)).block, (ad.add (m * 6)).off + 5, none⟩ = some (.int .i64 (ev l m).f5) := cell_far h5 (hne (by have := World.block_lt_of_cell? _ _ g5; have := HSZ.out; omega))
                have T8 := blk_put T7.out 3 (.int .i64 (ev l m).f4) rfl
                have z3 := blk_cell T7.out 3
                have f3 := blk_frozen T7.out 3
                have z4 := blk_cell T8 4
                have f4 := blk_frozen T8 4
                have T9 := Aside0.mk (blk_put T8 4 (.int .i64 (ev l m).f5) rfl)
                clear g5 T8
                have d1 := eq_true hf0
                go_wp2_with fail
                go_meet
                case rel => exact ⟨rfl, ⟨(BD.out.setCell hts _).setCell hts _⟩, ⟨by rw [HX.out, if_pos hf0, if_pos hf0, Int.toNat_natCast]; exact T9.out⟩⟩
              · have HF0 := Aside0.mk hf0
                have d1 := eq_false hf0
                go_wp2_with fail
                go_meet
                case rel => exact ⟨rfl, BD, ⟨by rw [HX.out, if_neg (show ¬ 0 ≤ f by omega), if_neg (show ¬ 0 ≤ f by omega)]; exact T7.out⟩⟩
            case rest =>
              obtain ⟨rfl, BD9, T9⟩ := hcut
              have ROC := Aside0.mk (Kd.R_below RO5.out BD9.out)
              have BWC := Aside0.mk (below_step BW5.out BD9.out)
              have LLO : Aside0 ((out.length + 1) * 40 ≤ 140737488355328) := ⟨by omega⟩
              have y0 : wc.cell? ⟨ts, 0, none⟩ = some (.int .i64 X.f0) := (blk_cell T9.out 0).trans rfl
              have y1 : wc.cell? ⟨ts, 1, none⟩ = some (.int .i64 X.f1) := (blk_cell T9.out 1).trans rfl
              have y2 : wc.cell? ⟨ts, 2, none⟩ = some (.int .i64 X.f2) := (blk_cell T9.out 2).trans rfl
              have y3 : wc.cell? ⟨ts, 3, none⟩ = some (.int .i64 X.f3) := (blk_cell T9.out 3).trans rfl
              have y4 : wc.cell? ⟨ts, 4, none⟩ = some (.int .i64 X.f4) := (blk_cell T9.out 4).trans rfl
              clear e7 RO5 BW5 BD BD9 TW7 T7 HX
              go_wp2_with (first
                | (at_builtin; go_must (refine Kd.R_append k32 (w0 := W0) W0.heap.size rfl (.tmp 154) (.tmp 156) 22 32 _ 40 rfl Try.underlying22 info32 rfl (by decide) (by omega) (.slice AX out.length cx) out X [.int .i64 X.f0, .int .i64 X.f1, .int .i64 X.f2, .int .i64 X.f3, .int .i64 X.f4] (fun _ => True) (fun _ => False) rfl rfl (k32_mkM _ _ _ _) (fun _ hk => hk.elim) (fun _ _ => trivial) ROC.out BWC.out BWC.out.size LLO.out ?_; intro v7 w9 ho_ hb_ hg_ hat; obtain ⟨A7, c7, rfl⟩ := Kd.R_slice ho_; have K7 := Aside0.mk ho_; have HB9 := Aside0.mk hb_; clear ho_ hb_ hg_ hat)))
              go_roundw
              case rel =>
                have hlen : (out ++ [X]).length = out.length + 1 := by simp
                rw [hlen] at K7
                exact ⟨k + 1, out ++ [X], by omega, by go_num, by rw [hlen]; omega, HOF2, ⟨A7, c7, by rw [hlen], by rw [hlen]; exact K7⟩, HB9⟩
              case measure => simp [intOf]; omega
        · obtain rfl : k = P.length := by omega
          have q2 := eq_false (show ¬ (P.length : Int) < (P.length : Int) by omega)
          have hT : out = outF l se P := by have := HOT.out; rwa [List.take_length] at this
          have HT := Aside0.mk hT
          clear hT
          go_wp2_with fail
          go_ret2
          rw [HS2.out]
          refine ⟨_, rfl, ?_, below_step TA.out.bel BW.out⟩
          rw [← HT.out]
          exact Kd.R_lower HO.out TA.out.bel.size
end Go.Proofs.Ytbjoinocajobhaa.Evs
