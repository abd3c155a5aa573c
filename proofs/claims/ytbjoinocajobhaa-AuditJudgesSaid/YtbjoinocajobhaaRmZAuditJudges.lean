/- The document's judge: try, walked. -/
import Derived.Test.YtbjoinocajobhaaRlZAuditJudges
import Derived.Test.YtbjoinocajobhaaPlZAuditJudges
import Derived.RegionTactic
import Derived.ChangeAlike
import Derived.BigRegion
import Derived.Deep.CutRange
namespace Go.Proofs.Ytbjoinocajobhaa.Ju
set_option linter.unusedVariables false
set_option linter.unusedSimpArgs false
open Go.RowKit Go.Proofs.Ytbjoinocajobhaa.Q Go.Proofs.YtbjoinocajobhaaW.PrintWords Go.Proofs.YtbjoinocajobhaaW.PrintLast Go.Proofs.Ytbjoinocajobhaa.Keep Go.Maps
set_option maxHeartbeats 4000000 in
set_option maxRecDepth 100000 in
theorem try_calls (B0 g bm : Nat) (A : Option Addr) (c : Nat) (l : List S32) (hl : l.length ≤ 14) (hkd : ∀ j, j < l.length → 1 ≤ (sp l j).f0 ∧ (sp l j).f0 ≤ 4) : ∀ (fu : Nat) (W : World) (v : Value) (ord : List Int) (F : Nat → Bool) (m : Nat) (q : Qs),
    RS B0 W g bm A c l v ord F → free m l.length = fu → m < 2 ^ l.length → RQ l m q → ord.length + fu ≤ 1000 →
    Calls Try.prog 28 #[.pointer (some ⟨g, 0, none⟩), .int .i64 (m : Int), .agg #[.int .i64 q.i, .int .i64 q.o, .bool q.cl, .bool q.ca]] W (TryPost B0 W g bm A c l v ord m q) := by
  intro fu
  induction fu using Nat.strongRecOn with
  | ind fu ih =>
  intro W v ord F m q hS hfu hm hrq ho
  have HS := Aside0.mk hS
  have HIH := Aside0.mk ih
  have HRQ := Aside0.mk hrq
  have hq := hrq.wq hl
  have hm14 : m < 16384 := by have := Nat.pow_le_pow_right (n := 2) (by omega) hl; omega
  obtain ⟨k1, k2, k3, k4⟩ := key_steps hl hm14 hrq
  have K1 := Aside0.mk k1
  have K2 := Aside0.mk k2
  have K3 := Aside0.mk k3
  have K4 := Aside0.mk k4
  have KE := Aside0.mk (w_idL (x := (l.length : Int) + 1) rfl (by omega))
  have KL : Aside0 (keyN l m q < NN l) := ⟨keyN_lt hrq hm⟩
  clear hS ih hrq k1 k2 k3 k4
  go_enter Try.func28, Try.ntmps28
  go_upto_if 16 with (first
    | (go_at_call 36; (with_reducible refine (rall_calls W1 g A c l m ((blk_cell S1.out.blk 0).trans rfl) S1.out.C hm14 hl).mono ?_); rintro e_ w9 ⟨rfl, rfl⟩)
    | ((with_reducible refine gate_dst (N := 5) rfl ?_); refine box_event ?hg (N := 5) ?hd (cs := #[.int .i64 q.i, .int .i64 q.o, .bool q.cl, .bool q.ca]) (t := 44) ?hr ?_; (case hd => rfl); (case hg => rfl); (case hr => first | (go_simp; done) | (go_simp; rfl)); intro T hT W1 hbox hb; have B1 := Aside0.mk hb; have T1 := Aside0.mk hbox; have ET := Aside0.mk hT; have S1 := Aside0.mk (HS.out.below hb); clear hb hbox hT))
  cases hov : over l m
  case true =>
    go_wp2_with fail
    go_ret
    have hC := C_over q hov
    exact ⟨by rw [hC]; rfl, Chg.of_below B1.out, v, F, by rw [hC]; simpa using S1.out, fun k hk => .inl hk⟩
  case false =>
    obtain ⟨f, rfl⟩ : ∃ f, fu = f + 1 := by
      cases fu with
      | zero => rw [over_of_free hfu] at hov; cases hov
      | succ f => exact ⟨f, rfl⟩
    have HOV := Aside0.mk hov
    clear hov
    have z0 : W1.cell? ⟨T, 0, none⟩ = some (.int .i64 q.i) := (blk_cell T1.out 0).trans rfl
    have z1 : W1.cell? ⟨T, 1, none⟩ = some (.int .i64 q.o) := (blk_cell T1.out 1).trans rfl
    have y0 : W1.cell? ⟨g, 0, none⟩ = some (.slice A l.length c) := (blk_cell S1.out.blk 0).trans rfl
    obtain ⟨a1, a2⟩ := KE.out
    obtain ⟨b1, b2⟩ := K1.out
    obtain ⟨c1, c2⟩ := K2.out
    obtain ⟨d1, d2⟩ := K3.out
    obtain ⟨f1, f2⟩ := K4.out
    go_upto_region 5 with fail
    clear a1 a2 b1 b2 c1 c2 d1 d2 f1 f2 z0 z1 y0
    obtain ⟨K, hK⟩ : ∃ K, K = keyN l m q := ⟨_, rfl⟩
    have HK := Aside0.mk hK
    rw [← hK]
    rw [← hK] at KL
    clear hK K1 K2 K3 K4 KE
    have y1 : W1.cell? ⟨g, 1, none⟩ = some (.slice (some ⟨bm, 0, none⟩) (NN l) (NN l)) := (blk_cell S1.out.blk 1).trans rfl
    have sn : W1.cell? ⟨bm, K, none⟩ = some (.bool (F K)) := S1.out.fl.cell KL.out
    have p1 := eq_true (show (0 : Int) ≤ (K : Int) by omega)
    have p2 := eq_true (show (K : Int) < (NN l : Int) by have := KL.out; omega)
    go_upto_if 40 with fail
    clear y1 sn p1 p2
    cases hF : F K
    case true =>
      go_wp2_with fail
      go_ret
      have hC := S1.out.snd m q hm HRQ.out (by rw [← HK.out]; exact hF)
      exact ⟨by rw [hC]; rfl, Chg.of_below B1.out, v, F, by rw [hC]; simpa using S1.out, fun k hk => .inl hk⟩
    case false =>
      go_upto_region 8 with fail
      have hTv : Aside0 (∀ k, v.ownBlock = some k → k < T) := ⟨fun k hk => by rw [ET.out]; exact Kd.R_lt HS.out.ord k hk⟩
      have hTg : Aside0 (T ≠ g ∧ T ≠ bm) := ⟨by have := blk_lt HS.out.blk; have h2 := HS.out.fl.lt; have h3 := ET.out; omega⟩
      go_loopw [9] (fun s9 wr => ∃ (j : Nat) (v' : Value) (F' : Nat → Bool), j ≤ l.length ∧ s9 = .int .i64 (j : Int) ∧ Aside0 (Chg (Wr g bm v) W wr) ∧ Aside0 (RS B0 wr g bm A c l v' ord F') ∧ Aside0 (∀ k, v'.ownBlock = some k → v.ownBlock = some k ∨ T < k) ∧
        Aside0 (wr.heap[T]? = some (.cells #[.int .i64 q.i, .int .i64 q.o, .bool q.cl, .bool q.ca] 44 (0, 0))) ∧ Aside0 (∀ i, i < j → branch l m q i = none)) (fun s9 _ => l.length - (intOf s9).toNat)
      case atStart => exact ⟨0, v, F, Nat.zero_le _, rfl, ⟨Chg.of_below B1.out⟩, S1, ⟨fun k hk => .inl hk⟩, T1, ⟨fun i hi => by omega⟩⟩
      case round =>
        obtain ⟨j, v', F', hj, rfl, CG, SR, VR, TR, BR⟩ := hrel
        clear S1 T1 B1
        have y0 : wr.cell? ⟨g, 0, none⟩ = some (.slice A l.length c) := (blk_cell SR.out.blk 0).trans rfl
        by_cases hlt : j < l.length
        · have p1 := eq_true (show (0 : Int) ≤ (j : Int) by omega)
          have p2 := eq_true (show (j : Int) < (l.length : Int) by omega)
          cases hM : may l m j
          case false =>
            go_wp2_with (first | (go_at_call 37; (with_reducible refine (rfits_calls wr g A c l m j ((blk_cell SR.out.blk 0).trans rfl) SR.out.C hm14 hl hlt).mono ?_); rintro e_ W9 ⟨rfl, hd_⟩; rw [hM]; have CG9 : Aside0 (Chg (Wr g bm v) W W9) := ⟨CG.out.trans (Chg.of_below hd_)⟩; have S9 := Aside0.mk (SR.out.below hd_); have T9 := Aside0.mk ((hd_.block T (blk_lt TR.out)).trans TR.out); clear hd_))
            go_roundw
            case rel => exact ⟨j + 1, v', F', by omega, by go_num, CG9, S9, VR, T9, ⟨upto BR.out (branch_may hM)⟩⟩
            case measure => simp [intOf]; omega
          case true =>
            have HMT := Aside0.mk hM
            obtain ⟨⟨code, num, q', okk⟩, hcq⟩ : ∃ r, callQ q (sp l j).f0 = r := ⟨_, rfl⟩
            obtain ⟨kk, hkk⟩ := (take_ev hq (sp l j).f0 (hkd j hlt)).rounds
            rw [hcq] at hkk
            dsimp only at hkk
            have HCQ := Aside0.mk hcq
            have HKK := Aside0.mk hkk
            clear hcq hkk hM
            go_upto_region 12 with (first
              | (go_at_call 37; (with_reducible refine (rfits_calls wr g A c l m j ((blk_cell SR.out.blk 0).trans rfl) SR.out.C hm14 hl hlt).mono ?_); rintro e_ W9 ⟨rfl, hd_⟩; rw [HMT.out]; have CG9 : Aside0 (Chg (Wr g bm v) W W9) := ⟨CG.out.trans (Chg.of_below hd_)⟩; have S9 := Aside0.mk (SR.out.below hd_); have T9 := Aside0.mk ((hd_.block T (blk_lt TR.out)).trans TR.out); clear hd_; have t0 : W9.cell? ⟨T, 0, none⟩ = some (.int .i64 q.i) := (blk_cell T9.out 0).trans rfl; have t1 : W9.cell? ⟨T, 1, none⟩ = some (.int .i64 q.o) := (blk_cell T9.out 1).trans rfl; have t2 : W9.cell? ⟨T, 2, none⟩ = some (.bool q.cl) := (blk_cell T9.out 2).trans rfl; have t3 : W9.cell? ⟨T, 3, none⟩ = some (.bool q.ca) := (blk_cell T9.out 3).trans rfl)
              | ((with_reducible refine gate_dst (N := 10) rfl ?_); refine box_event ?hg (N := 10) ?hd (cs := #[.int .i64 0, .int .i64 0, .bool false, .bool false]) (t := 44) ?hr ?_; (case hd => rfl); (case hg => rfl); (case hr => first | (go_simp; done) | (go_simp; rfl)); intro gn hg WB hbox hb; have BB := Aside0.mk hb; have BY := Aside0.mk hbox; have GN := Aside0.mk (show W9.heap.size ≤ gn by rw [hg]; exact Nat.le_refl _); clear hb hbox hg; have n0 := (blk_cell BY.out 0); have n1 := (blk_cell BY.out 1); have n2 := (blk_cell BY.out 2); have n3 := (blk_cell BY.out 3); have o0 := blk_frozen BY.out 0; have o1 := blk_frozen BY.out 1; have o2 := blk_frozen BY.out 2; have o3 := blk_frozen BY.out 3))
            obtain ⟨WC, hWC, BC, XC, FC⟩ := laid4q BB.out BY.out GN.out q.i q.o q.cl q.ca
            rw [hWC]
            clear hWC n0 n1 n2 n3 o0 o1 o2 o3 t0 t1 t2 t3 y0 FC BB BY
            have SC := Aside0.mk (S9.out.below BC)
            have IC : Aside0 (IsS44 W9 WC gn q.i q.o q.cl q.ca) := ⟨⟨XC, GN.out⟩⟩
            have BCA := Aside0.mk BC
            clear BC XC
            obtain ⟨ad, e, x0, -, -, -, -⟩ := span_at SC.out.C (Below.refl _ _) hlt
            subst e
            have y0 : WC.cell? ⟨g, 0, none⟩ = some (.slice (some ad) l.length c) := (blk_cell SC.out.blk 0).trans rfl
            go_upto_region 13 with (first
              | (go_at_call 18; go_must (refine (mintageref31_Queue_Take.calls kk gn q.i q.o q.cl q.ca (sp l j).f0 code num okk q'.i q'.o q'.cl q'.ca W9 WC IC.out BCA.out HKK.out).mono ?_; rintro e_ WD ⟨rfl, hi_, hb_, hk_⟩; have ID := Aside0.mk hi_; have BD := Aside0.mk hb_; clear hi_ hb_ hk_)))
            have SD := Aside0.mk (S9.out.below BD.out)
            have CGD : Aside0 (Chg (Wr g bm v) W WD) := ⟨CG9.out.trans (Chg.of_below BD.out)⟩
            have TD := Aside0.mk ((BD.out.block T (blk_lt T9.out)).trans T9.out)
            have ND := Aside0.mk ID.out.1
            have HGN : Aside0 (g < gn) := ⟨Nat.lt_of_lt_of_le (blk_lt S9.out.blk) GN.out⟩
            have VG : Aside0 (∀ k, v'.ownBlock = some k → k < gn) := ⟨fun k hk => Nat.lt_of_lt_of_le (Kd.R_lt S9.out.ord k hk) GN.out⟩
            clear x0 y0 SC IC BCA CG9 S9 T9 GN CG SR TR ID BD HKK
            obtain ⟨ad', e', -, -, x2, x3, x4⟩ := span_at SD.out.C (Below.refl _ _) hlt
            obtain rfl := Option.some.inj e'
            clear e'
            have y0 : WD.cell? ⟨g, 0, none⟩ = some (.slice (some ad) l.length c) := (blk_cell SD.out.blk 0).trans rfl
            go_cut [13, 105] from 55 to 105 (fun s13 s105 wx => s13 = .bool okk ∧ s105 = .bool (bad okk (sp l j) code num) ∧ WD = wx)
            case first =>
              cases hok : okk
              case false =>
                go_wp2_with fail
                go_meet
                case rel => exact ⟨by rw [hok], by unfold bad; rw [hok]; rfl, rfl⟩
              case true =>
                cases hE : ended (sp l j)
                case false =>
                  have he : ((sp l j).f2 != -1) = false := hE
                  go_wp2_with fail
                  go_meet
                  case rel => exact ⟨by rw [hok], by unfold bad; rw [hok, hE]; rfl, rfl⟩
                case true =>
                  have he : ((sp l j).f2 != -1) = true := hE
                  by_cases hc : code = (sp l j).f3
                  · have hc' : (code != (sp l j).f3) = false := by simp [hc]
                    by_cases hnm : num = (sp l j).f4
                    · have hn' : (num != (sp l j).f4) = false := by simp [hnm]
                      clear hc hnm
                      go_wp2_with fail
                      go_meet
                      case rel => exact ⟨by rw [hok], by unfold bad; rw [hok, hE, hc', hn']; rfl, rfl⟩
                    · have hn' : (num != (sp l j).f4) = true := by simpa using hnm
                      clear hc hnm
                      go_wp2_with fail
                      go_meet
                      case rel => exact ⟨by rw [hok], by unfold bad; rw [hok, hE, hc', hn']; rfl, rfl⟩
                  · have hc' : (code != (sp l j).f3) = true := by simpa using hc
                    clear hc
                    go_wp2_with fail
                    go_meet
                    case rel => exact ⟨by rw [hok], by unfold bad; rw [hok, hE, hc']; rfl, rfl⟩
            case rest =>
              obtain ⟨rfl, rfl, rfl⟩ := hcut
              clear x2 x3 x4 y0
              cases hB : bad okk (sp l j) code num
              case true =>
                go_wp2_with fail
                go_roundw
                case rel => exact ⟨j + 1, v', F', by omega, by go_num, CGD, SD, VR, TD, ⟨upto BR.out (branch_bad HMT.out HCQ.out hB)⟩⟩
                case measure => simp [intOf]; omega
              case false =>
                have HBAD := Aside0.mk hB
                have hokk : okk = true := by
                  cases okk
                  · unfold bad at hB; simp at hB
                  · rfl
                have HRQ' := Aside0.mk (RQ.call HRQ.out hl hlt (may_bit HMT.out) (hkd j hlt) HCQ.out hokk)
                clear hB hokk
                obtain ⟨A3, c3, rfl⟩ := Kd.R_slice SD.out.ord
                have y2 : WD.cell? ⟨g, 2, none⟩ = some (.slice A3 ord.length c3) := (blk_cell SD.out.blk 2).trans rfl
                have LL : Aside0 ((ord.length + 1) * 8 ≤ 140737488355328) := ⟨by omega⟩
                have BS : Aside0 (B0 ≤ WD.heap.size) := ⟨Nat.le_of_lt (Nat.lt_of_le_of_lt SD.out.hg (blk_lt SD.out.blk))⟩
                have OKF : Aside0 (∀ k, WD.heap.size ≤ k → k ≠ g ∧ k ≠ bm) := ⟨fun k hk => by have := blk_lt SD.out.blk; have := SD.out.fl.lt; omega⟩
                go_upto_region 15 with (first
                  | (at_builtin; go_must (refine Kd.R_append (Kd.int .i64) (w0 := WD) B0 rfl (.tmp 110) (.tmp 112) 23 3 (.int .i64 0) 8 rfl Try.underlying23 infoInt rfl (by decide) (by omega) (.slice A3 ord.length c3) ord (j : Int) [.int .i64 (j : Int)] (fun k => k ≠ g ∧ k ≠ bm) (fun _ => False) rfl rfl ?aP (fun _ hk => hk.elim) OKF.out SD.out.ord (Below.refl _ _) BS.out LL.out ?_; (case aP => rfl); intro v9 w9 ho_ hb_ hg_ hat; obtain ⟨A9, c9, rfl⟩ := Kd.R_slice ho_; have HO9 := Aside0.mk ho_; have HG9 := Aside0.mk hg_; have HAT := Aside0.mk hat; have y29 : w9.cell? ⟨g, 2, none⟩ = some (.slice A3 ord.length c3) := (blk_cell ((hg_.block g (blk_lt SD.out.blk) (fun e => (SD.out.ord.1 g e.symm).1 rfl)).trans SD.out.blk) 2).trans rfl; have f29 : w9.frozen? ⟨g, 2, none⟩ = false := blk_frozen ((hg_.block g (blk_lt SD.out.blk) (fun e => (SD.out.ord.1 g e.symm).1 rfl)).trans SD.out.blk) 2; clear ho_ hb_ hg_ hat)))
                have VR9 : Aside0 (∀ k, (Value.slice A9 (ord ++ [(j : Int)]).length c9).ownBlock = some k → v.ownBlock = some k ∨ T < k) := ⟨fun k hk => by
                  rcases HAT.out with h1 | ⟨b, h1, h2⟩
                  · exact VR.out k (h1 ▸ hk)
                  · rw [h1] at hk; obtain rfl := Option.some.inj hk
                    have := blk_lt TD.out; exact .inr (by omega)⟩
                have SE := Aside0.mk (SD.out.put (fun k hk hne => HG9.out.block k hk hne) HO9.out)
                have CGE : Aside0 (Chg (Wr g bm v) W (w9.setCell ⟨g, 2, none⟩ (.slice A9 (ord ++ [(j : Int)]).length c9))) := ⟨(chg_app CGD.out HG9.out VR.out ET.out).set_ (ok := Wr g bm v) (g := g) (.inl rfl) _⟩
                have TE : Aside0 ((w9.setCell ⟨g, 2, none⟩ (.slice A9 (ord ++ [(j : Int)]).length c9)).heap[T]? = some (.cells #[.int .i64 q.i, .int .i64 q.o, .bool q.cl, .bool q.ca] 44 (0, 0))) := ⟨by
                  rw [Below.heap_setCell _ _ _ _ hTg.out.1, HG9.out.block T (blk_lt TD.out) (fun e => by rcases VR.out T e.symm with h1 | h1; (have := hTv.out T h1; omega); omega)]
                  exact TD.out⟩
                have NE : Aside0 ((w9.setCell ⟨g, 2, none⟩ (.slice A9 (ord ++ [(j : Int)]).length c9)).heap[gn]? = some (.cells #[.int .i64 q'.i, .int .i64 q'.o, .bool q'.cl, .bool q'.ca] 44 (0, 0))) := ⟨by
                  have hne : gn ≠ g := by have := HGN.out; omega
                  rw [Below.heap_setCell _ _ _ _ hne, HG9.out.block gn (blk_lt ND.out) (fun e => by have := VG.out gn e.symm; omega)]
                  exact ND.out⟩
                rw [List.length_append, List.length_singleton] at SE CGE TE NE VR9
                generalize w9.setCell ⟨g, 2, none⟩ (.slice A9 (ord.length + 1) c9) = WE at SE CGE TE NE ⊢
                clear HO9 HG9 HAT y29 f29 y2 SD CGD TD ND VG HGN LL BS OKF
                have n0 : WE.cell? ⟨gn, 0, none⟩ = some (.int .i64 q'.i) := (blk_cell NE.out 0).trans rfl
                have n1 : WE.cell? ⟨gn, 1, none⟩ = some (.int .i64 q'.o) := (blk_cell NE.out 1).trans rfl
                have n2 : WE.cell? ⟨gn, 2, none⟩ = some (.bool q'.cl) := (blk_cell NE.out 2).trans rfl
                have n3 : WE.cell? ⟨gn, 3, none⟩ = some (.bool q'.ca) := (blk_cell NE.out 3).trans rfl
                have hbit := may_bit HMT.out
                have hfs := free_set hbit (n := l.length) hlt
                have hm' : m ||| 2 ^ j < 2 ^ l.length := Nat.or_lt_two_pow hm (Nat.pow_lt_pow_right (by omega) hlt)
                have hf' : free (m ||| 2 ^ j) l.length = f := by omega
                have HKEY := Aside0.mk (HIH.out f (by omega) WE (.slice A9 (ord.length + 1) c9) (ord ++ [(j : Int)]) F' (m ||| 2 ^ j) q' SE.out hf' hm' HRQ'.out (by rw [List.length_append, List.length_singleton]; omega))
                have hj32 : j < 32 := by omega
                have p3 := eq_true (show (j : Int) ≤ 32 by omega)
                have hj14 : j < 14 := by omega
                obtain ⟨⟨e1, e2⟩, ⟨e3, e4⟩⟩ := set_steps hm14 hj14 hbit
                have HBG := Aside0.mk (branch_good (q := q) HMT.out HCQ.out HBAD.out)
                clear hm' hf' hbit
                generalize m ||| 2 ^ j = mm at HKEY HBG e3 e4 ⊢
                cases hC : C l mm q'
                case some r =>
                  go_wp2_with (go_at_call 28; go_must (refine HKEY.out.mono ?_; rintro e_ WG HP; have hP := HP.out; rw [hC] at hP; subst hP; have HPP := Aside0.mk HP; clear HP))
                  go_ret
                  obtain ⟨v7, F7, S7, V7⟩ := HPP.out.ss
                  have hCM : C l m q = some ((j : Int) :: r) := C_some (by rw [HOV.out]; simp) hlt BR.out (by rw [HBG.out, hC]; rfl)
                  refine ⟨by rw [hCM]; rfl, chg_comp CGE.out HPP.out.chg VR9.out ET.out, v7, F7, ?_, fun k hk => ?_⟩
                  · rw [hC] at S7
                    simpa [hCM] using S7
                  · have hsz := CGE.out.size
                    rcases V7 k hk with h1 | h1
                    · rcases VR9.out k h1 with h2 | h2
                      · exact .inl h2
                      · have := ET.out; exact .inr (by omega)
                    · exact .inr (by omega)
                case none =>
                  go_upto_region 17 with (go_at_call 28; go_must (refine HKEY.out.mono ?_; rintro e_ WG HP; have hP := HP.out; rw [hC] at hP; subst hP; obtain ⟨v7, F7, S7, V7⟩ := HP.ss; rw [hC] at S7; obtain ⟨A7, c7, rfl⟩ := Kd.R_slice S7.ord; have HS7 := Aside0.mk S7; have HV7 := Aside0.mk V7; have HC7 := Aside0.mk HP.chg; clear HP V7 S7))
                  have HS8 : Aside0 (RS B0 WG g bm (some ad) c l (.slice A7 (ord.length + 1) c7) (ord ++ [(j : Int)]) F7) := ⟨by simpa using HS7.out⟩
                  clear e1 e2 e3 e4 n0 n1 n2 n3
                  have y2 : WG.cell? ⟨g, 2, none⟩ = some (.slice A7 (ord.length + 1) c7) := (blk_cell HS8.out.blk 2).trans rfl
                  have f2 : WG.frozen? ⟨g, 2, none⟩ = false := blk_frozen HS8.out.blk 2
                  have hle7 := (Kd.R_reads' HS8.out.ord).2.1
                  have w7 : IntKind.i64.wrap (ord.length : Int) = (ord.length : Int) := by rw [IntKind.wrap_i64]; omega
                  have q7 := eq_true (show (ord.length : Int) ≤ (c7 : Int) by omega)
                  have q8 := eq_true (show (0 : Int) ≤ (ord.length : Int) by omega)
                  go_region
                  have HSP : Aside0 (RS B0 (WG.setCell ⟨g, 2, none⟩ (.slice A7 ord.length c7)).drew g bm (some ad) c l (.slice A7 ord.length c7) ord F7) := ⟨by
                    have ht := Kd.R_take HS8.out.ord (m := ord.length) (by simp)
                    rw [List.take_left] at ht
                    exact (HS8.out.put (w9 := WG) (fun _ _ _ => rfl) ht).below (Below.refl _ _).drew⟩
                  have HCH : Aside0 (Chg (Wr g bm v) W (WG.setCell ⟨g, 2, none⟩ (.slice A7 ord.length c7)).drew) := ⟨((chg_comp CGE.out HC7.out VR9.out ET.out).set_ (ok := Wr g bm v) (g := g) (.inl rfl) _).drew_⟩
                  have HTT : Aside0 ((WG.setCell ⟨g, 2, none⟩ (.slice A7 ord.length c7)).drew.heap[T]? = some (.cells #[.int .i64 q.i, .int .i64 q.o, .bool q.cl, .bool q.ca] 44 (0, 0))) := ⟨by
                    show (WG.setCell ⟨g, 2, none⟩ (.slice A7 ord.length c7)).heap[T]? = _
                    rw [Below.heap_setCell _ _ _ _ hTg.out.1, HC7.out.block T (blk_lt TE.out) (fun e => by
                      rcases e with e | e | e
                      · exact hTg.out.1 e
                      · exact hTg.out.2 e
                      · rcases VR9.out T e with h1 | h1
                        · have := hTv.out T h1; omega
                        · omega)]
                    exact TE.out⟩
                  have HVV : Aside0 (∀ k, (Value.slice A7 ord.length c7).ownBlock = some k → v.ownBlock = some k ∨ T < k) := ⟨fun k hk => by
                    have hk2 : (Value.slice A7 (ord ++ [(j : Int)] ++ (none : Option (List Int)).getD []).length c7).ownBlock = some k := by cases A7 <;> exact hk
                    rcases HV7.out k hk2 with h1 | h1
                    · exact VR9.out k h1
                    · have := blk_lt TE.out; exact .inr (by omega)⟩
                  clear y2 f2 HS8 HS7 HC7 HV7 w7 q7 q8
                  generalize (WG.setCell ⟨g, 2, none⟩ (.slice A7 ord.length c7)).drew = WH at *
                  go_wp2_with fail
                  go_roundw
                  case rel => exact ⟨j + 1, _, F7, by omega, by go_num, HCH, HSP, HVV, HTT, ⟨upto BR.out (by rw [HBG.out, hC]; rfl)⟩⟩
                  case measure => simp [intOf]; omega
        · obtain rfl : j = l.length := by omega
          have hCN : C l m q = none := C_none (by rw [HOV.out]; simp) BR.out
          have HCN := Aside0.mk hCN
          have p2 := eq_false (show ¬ ((l.length : Int) < (l.length : Int)) by omega)
          have y1 : wr.cell? ⟨g, 1, none⟩ = some (.slice (some ⟨bm, 0, none⟩) (NN l) (NN l)) := (blk_cell SR.out.blk 1).trans rfl
          have sn : wr.cell? ⟨bm, K, none⟩ = some (.bool (F' K)) := SR.out.fl.cell KL.out
          have sf : wr.frozen? ⟨bm, K, none⟩ = false := SR.out.fl.frozen K
          have r1 := eq_true (show (0 : Int) ≤ (K : Int) by omega)
          have r2 := eq_true (show (K : Int) < (NN l : Int) by have := KL.out; omega)
          clear hCN
          go_wp2_with fail
          go_ret
          refine ⟨by rw [HCN.out]; rfl, CG.out.set_ (ok := Wr g bm v) (g := bm) (.inr (.inl rfl)) _, v', (fun k => if k = keyN l m q then true else F' k), ?_, fun k hk => ?_⟩
          · have := SR.out.mark hm HRQ.out HCN.out
            rw [← HK.out] at this
            rw [HCN.out]
            simpa [← HK.out] using this
          · rcases VR.out k hk with h1 | h1
            · exact .inl h1
            · have := ET.out; exact .inr (by omega)
end Go.Proofs.Ytbjoinocajobhaa.Ju
