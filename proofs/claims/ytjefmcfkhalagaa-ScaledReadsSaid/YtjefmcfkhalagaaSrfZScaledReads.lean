/- The document's Parse, walked: texts of the form. -/
import Derived.Test.YtjefmcfkhalagaaSrdZScaledReads
namespace Go.Proofs.Ytjefmcfkhalagaa.Scr
set_option linter.unusedVariables false
set_option linter.unusedSimpArgs false
open Go.RowKit Go.Proofs.Ytjefmcfkhalagaa.Q Go.Proofs.YtjefmcfkhalagaaW.PrintWords Go.Proofs.YtjefmcfkhalagaaW.PrintLast Go.Proofs.YtjefmcfkhalagaaW.PrintMore Go.Proofs.Ytjefmcfkhalagaa.Dig Go.Proofs.Ytjefmcfkhalagaa.Keep Go.Proofs.Ytjefmcfkhalagaa.Big
theorem w_id0 {x y : Int} (h : x = y) (h2 : -1000000 ≤ y ∧ y ≤ 1000000) : wrap64 x = y ∧ IntKind.i64.wrap x = y := by
  subst h
  exact ⟨wrap64_id (by omega) (by omega), by rw [IntKind.wrap_i64]; omega⟩
set_option pp.deepTerms true in
set_option pp.maxSteps 100000 in
set_option maxHeartbeats 8000000 in
set_option maxRecDepth 100000 in
theorem rp_go (n : Nat) (l : List Int) (hb : Bts l) (A : Option Addr) (c : Nat) (w : World) (h : n ≤ 18) (hl : l.length ≤ 1024) (hC : Kd.C (Kd.int .u8) w A l.length l) (hf : ¬ NoForm l) : Calls Try.prog 13 #[.int .i64 (n : Int), .slice A l.length c] w (Told3 w (resF l n)) := by
  have H1 : Aside0 (mintageref12_scaleOK.f (n : Int) = some true) := ⟨by rw [scaleOK_ev, decide_eq_true (by omega)]⟩
  have HN : Aside0 ((strOfNums l).size = l.length) := ⟨strOfNums_size l⟩
  obtain ⟨K, hK⟩ := begins_is hb (by omega)
  have H2 : Aside0 (mintageref12_begins.f K (strOfNums l) = some (decide (endAt l = l.length), true)) := ⟨by have := hK K (Nat.le_refl _); rw [decide_eq_true hf] at this; exact this⟩
  have HC := Aside0.mk hC
  have SA : Aside0 (∀ i, i < l.length → ∀ W, (Instr.index 9 (.string (strOfNums l)) (.int .i64 (i : Int))).run Try.prog W = .ok (.int .u8 (rd l (i : Int))) W) := ⟨fun i hi W => str_at hb hi W⟩
  have S1 : Aside0 (∀ i, i < l.length → ∀ W, (Instr.slice 9 (.string (strOfNums l)) (some (.int .i64 (i : Int))) (some (.int .i64 ((i : Int) + 1))) none).run Try.prog W = .ok (.string (strOfNums [rd l (i : Int)])) W) := ⟨fun i hi W => str_one hi W⟩
  obtain ⟨RR, hRR⟩ : ∃ RR, lp (n : Int) l 0 (false, [], -1) = RR := ⟨_, rfl⟩
  have RB : Aside0 (∀ i, RR = .inl i → resF l n = (0, (i : Int), 122)) := ⟨fun i q => res_bad hf (hRR.trans q)⟩
  have RD : Aside0 (∀ neg ds bh, RR = .inr (neg, ds, bh) → ∃ K N c, (AllD (ds ++ List.replicate (n - bh.toNat) 48) ∧ (ds ++ List.replicate (n - bh.toNat) 48).length ≤ 2000) ∧ Nm K (ds ++ List.replicate (n - bh.toNat) 48) N c ∧ resF l n = if N > 999999999999999999 then (0, 0, 123) else (if neg = true then IntKind.u64.wrap (-(N : Int)) else N, 0, 0)) := ⟨fun neg ds bh q => res_done hf hl h (hRR.trans q)⟩
  have L0 : Aside0 (Lo n l RR 0 false [] (-1)) := ⟨⟨hRR, by simp, by omega, by omega⟩⟩
  have HBT := Aside0.mk hb
  clear hK hf hb hC hRR
  go_enter Try.func13, Try.ntmps13
  go_upto_region 5 with (first | (go_at_call 31; refine (mintageref12_scaleOK.calls (n : Int) true _ H1.out).mono ?_; rintro e_ w1 ⟨rfl, hd_⟩; have HB := Aside0.mk hd_.below; clear hd_))
  have cs := Kd.C_string (P := Try.prog) (A := A) (c := c) Try.underlying22 Try.underlying5 Try.underlying9 (Kd.C_below HC.out HB.out)
  go_upto_region 6 with fail
  obtain ⟨S, hS⟩ : ∃ S, strOfNums l = S := ⟨_, rfl⟩
  rw [hS] at H2 HN SA S1
  rw [hS]
  clear cs hS HC H1
  have hz := HN.out
  go_upto_region 14 with (first | (go_at_call 32; refine (mintageref12_begins.calls K S _ true _ H2.out).mono ?_; rintro e_ w2 ⟨rfl, hd_⟩; have HB2 := Aside0.mk (below_step HB.out hd_.below); clear hd_))
  go_upto_region 18 with fail
  clear H2
  go_loop [13, 14, 15, 16] (fun s13 s14 s15 s16 => ∃ (i : Nat) (neg : Bool) (ds : List Int) (bh : Int), i ≤ l.length ∧ s16 = .int .i64 (i : Int) ∧ s13 = .bool neg ∧ s14 = .string (strOfNums ds) ∧ s15 = .int .i64 bh ∧ Aside0 (Lo n l RR i neg ds bh)) (fun _ _ _ s16 => l.length - (intOf s16).toNat)
  case atStart => exact ⟨0, false, [], -1, Nat.zero_le _, rfl, rfl, rfl, rfl, L0⟩
  case round =>
    clear L0
    obtain ⟨i, neg, ds, bh, hi, rfl, rfl, rfl, rfl, L⟩ := hrel
    by_cases hlt : i < l.length
    · have sa := SA.out i hlt
      have s1 := S1.out i hlt
      have hbx := HBT.out _ (rd_mem hlt)
      obtain ⟨x, hx⟩ : ∃ x, rd l (i : Int) = x := ⟨_, rfl⟩
      rw [hx] at sa s1 hbx
      have E1 := Aside0.mk (w_id0 (x := (i : Int) + 1) rfl (by omega))
      have E2 := Aside0.mk (w_id0 (x := bh + 1) rfl (by have := L.out.bh0; have := L.out.bh1; omega))
      have R1 : Aside0 (i + 1 ≤ l.length ∧ l.length - (i + 1) < l.length - i) := ⟨by omega⟩
      have LL := Aside0.mk (show ds.length ≤ 1024 ∧ ds.length ≤ i from ⟨by have := L.out.len; omega, L.out.len⟩)
      have hb0 := L.out.bh0
      have hb1 := L.out.bh1
      by_cases h45 : x = 45
      · subst h45
        have L2 : Aside0 (Lo n l RR (i + 1) true ds bh) := ⟨L.out.step hlt (st := (true, ds, bh)) (by rw [hx]; rfl) (by have := LL.out; dsimp only; omega) hb0 (by dsimp only; omega)⟩
        clear hb0 hb1
        obtain ⟨e1, e1'⟩ := E1.out
        go_wp2_with fail
        go_round
        case rel => exact ⟨i + 1, true, ds, bh, R1.out.1, by go_num, rfl, rfl, rfl, L2⟩
        case measure => clear e1 e1'; have := R1.out.2; simp [intOf]; omega
      · by_cases h46 : x = 46
        · subst h46
          have L2 : Aside0 (Lo n l RR (i + 1) neg ds 0) := ⟨L.out.step hlt (st := (neg, ds, 0)) (by rw [hx]; rfl) (by have := LL.out; dsimp only; omega) (by dsimp only; omega) (by dsimp only; omega)⟩
          clear hb0 hb1 h45
          obtain ⟨e1, e1'⟩ := E1.out
          go_wp2_with fail
          go_round
          case rel => exact ⟨i + 1, neg, ds, 0, R1.out.1, by go_num, rfl, rfl, rfl, L2⟩
          case measure => clear e1 e1'; have := R1.out.2; simp [intOf]; omega
        · by_cases h43 : x = 43
          · subst h43
            have L2 : Aside0 (Lo n l RR (i + 1) neg ds bh) := ⟨L.out.step hlt (st := (neg, ds, bh)) (by rw [hx]; rfl) (by have := LL.out; dsimp only; omega) hb0 (by dsimp only; omega)⟩
            clear hb0 hb1 h45 h46
            obtain ⟨e1, e1'⟩ := E1.out
            go_wp2_with fail
            go_round
            case rel => exact ⟨i + 1, neg, ds, bh, R1.out.1, by go_num, rfl, rfl, rfl, L2⟩
            case measure => clear e1 e1'; have := R1.out.2; simp [intOf]; omega
          · obtain ⟨bh', hbh⟩ : ∃ b, b = if bh ≥ 0 then bh + 1 else bh := ⟨_, rfl⟩
            have hst : stp (n : Int) (neg, ds, bh) x = if bh' ≤ (n : Int) then some (neg, ds ++ [x], bh') else if x = 48 then some (neg, ds, bh') else none := by
              unfold stp
              rw [if_neg h45, if_neg h46, if_neg h43, hbh]
            have hr : -1 ≤ bh' ∧ bh' ≤ (i : Int) + 1 := by rw [hbh]; split <;> omega
            have hcut : (bh ≥ 0 ∧ bh' = bh + 1) ∨ (bh < 0 ∧ bh' = bh) := by
              rw [hbh]; by_cases q : bh ≥ 0
              · left; exact ⟨q, if_pos q⟩
              · right; exact ⟨by omega, if_neg q⟩
            have HST := Aside0.mk hst
            have HR := Aside0.mk hr
            have HCUT := Aside0.mk hcut
            clear hst hr hcut hbh hb0 hb1
            go_upto_if 71 with fail
            go_cut [15] from 55 to 73 (fun s15 wx => s15 = .int .i64 bh' ∧ w2 = wx)
            case first =>
              obtain ⟨e2, e2'⟩ := E2.out
              rcases HCUT.out with ⟨q, q2⟩ | ⟨q, q2⟩
              · go_wp2_with fail
                go_meet
                case rel => exact ⟨by rw [q2], rfl⟩
              · go_wp2_with fail
                go_meet
                case rel => exact ⟨by rw [q2], rfl⟩
            case rest =>
              obtain ⟨rfl, rfl⟩ := hcut
              have hr1 := HR.out.1
              by_cases hle : bh' ≤ (n : Int)
              · have L2 : Aside0 (Lo n l RR (i + 1) neg (ds ++ [x]) bh') := ⟨L.out.step hlt (st := (neg, ds ++ [x], bh')) (by rw [hx, HST.out, if_pos hle]) (by have := LL.out; simp; omega) HR.out.1 (by have := HR.out.2; dsimp only; omega)⟩
                obtain ⟨D, hD⟩ : ∃ D, D = strOfNums ds := ⟨_, rfl⟩
                obtain ⟨X, hX⟩ : ∃ X, X = strOfNums [x] := ⟨_, rfl⟩
                have hDX : Aside0 (D ++ X = strOfNums (ds ++ [x])) := ⟨by rw [hD, hX, str_append]⟩
                have hcat : D.size + X.size ≤ 1025 := by rw [hD, hX, strOfNums_size, strOfNums_size]; have := LL.out.1; simp; omega
                have hcat := eq_false (show ¬ (9223372036854775807 < D.size + X.size) by omega)
                rw [← hD]
                rw [← hX] at s1
                clear hD hX h45 h46 h43 hbx hr1
                obtain ⟨e1, e1'⟩ := E1.out
                go_wp2_with fail
                go_round
                case rel => exact ⟨i + 1, neg, ds ++ [x], bh', R1.out.1, by go_num, rfl, by rw [← hDX.out], rfl, L2⟩
                case measure => clear e1 e1' hcat; have := R1.out.2; simp [intOf]; omega
              · by_cases h48 : x = 48
                · subst h48
                  have L2 : Aside0 (Lo n l RR (i + 1) neg ds bh') := ⟨L.out.step hlt (st := (neg, ds, bh')) (by rw [hx, HST.out, if_neg hle, if_pos rfl]) (by have := LL.out; dsimp only; omega) HR.out.1 (by have := HR.out.2; dsimp only; omega)⟩
                  clear h45 h46 h43 hbx hr1
                  obtain ⟨e1, e1'⟩ := E1.out
                  go_wp2_with fail
                  go_round
                  case rel => exact ⟨i + 1, neg, ds, bh', R1.out.1, by go_num, rfl, rfl, rfl, L2⟩
                  case measure => clear e1 e1'; have := R1.out.2; simp [intOf]; omega
                · have RX : Aside0 (resF l n = (0, (i : Int), 122)) := ⟨RB.out i (L.out.bad hlt (by rw [hx, HST.out, if_neg hle, if_neg h48]))⟩
                  clear h45 h46 h43 hbx hr1
                  go_wp2_with fail
                  go_ret3
                  exact ⟨by rw [RX.out]; rfl, HB2.out⟩
    · obtain rfl : i = l.length := by omega
      obtain ⟨K, N, cc, ⟨had, hadl⟩, hNm, hres⟩ := RD.out neg ds bh L.out.done
      have HNm := Aside0.mk hNm
      have HAD : Aside0 (Bts (ds ++ List.replicate (n - bh.toNat) 48)) := ⟨fun c hc => by have := had c hc; unfold IsD at this; omega⟩
      have HADL := Aside0.mk hadl
      have HRes := Aside0.mk hres
      have hbh0 := L.out.bh0
      have hbh1 := L.out.bh1
      have HBTT := HBT
      have hdl := L.out.len
      clear hNm hres had hadl RB RD L SA S1 HBT
      go_upto_region 32 with fail
      clear hz
      have HF : Aside0 (l.length ≤ 1024 ∧ ds.length ≤ 1024 ∧ -1 ≤ bh ∧ bh ≤ 1024) := ⟨by omega⟩
      go_loop [14, 17] (fun s14 s17 => ∃ k : Nat, k ≤ n ∧ s17 = .int .i64 (k : Int) ∧ s14 = .string (strOfNums (ds ++ List.replicate (k - bh.toNat) 48))) (fun _ s17 => n - (intOf s17).toNat)
      case atStart => exact ⟨0, Nat.zero_le _, rfl, by rw [Nat.zero_sub]; simp⟩
      case round =>
        obtain ⟨k, hk, rfl, rfl⟩ := hrel
        by_cases hkn : k < n
        · have E1 := Aside0.mk (w_id0 (x := (k : Int) + 1) rfl (by omega))
          have R1 : Aside0 (k + 1 ≤ n ∧ n - (k + 1) < n - k) := ⟨by omega⟩
          have hlen : (ds ++ List.replicate (k - bh.toNat) 48).length ≤ 2000 := by rw [List.length_append, List.length_replicate]; omega
          by_cases hq : bh ≤ (k : Int)
          · have hs : Aside0 (strOfNums (ds ++ List.replicate (k - bh.toNat) 48) ++ ⟨#[48]⟩ = strOfNums (ds ++ List.replicate (k + 1 - bh.toNat) 48)) := ⟨by
              have e0 : (⟨#[48]⟩ : ByteArray) = strOfNums [48] := by rfl
              rw [e0, str_append, show k + 1 - bh.toNat = (k - bh.toNat) + 1 by omega, List.replicate_succ', List.append_assoc]⟩
            obtain ⟨D, hD⟩ : ∃ D, D = strOfNums (ds ++ List.replicate (k - bh.toNat) 48) := ⟨_, rfl⟩
            have hsz : D.size ≤ 2000 := by rw [hD, strOfNums_size]; exact hlen
            rw [← hD] at hs ⊢
            have hcat := eq_false (show ¬ (9223372036854775807 < D.size + 1) by omega)
            clear hD hbh0 hbh1 hdl hlen hsz
            obtain ⟨e1, e1'⟩ := E1.out
            go_wp2_with fail
            go_round
            case rel => exact ⟨k + 1, R1.out.1, by go_num, by rw [← hs.out]⟩
            case measure => clear e1 e1' hcat; have := R1.out.2; simp [intOf]; omega
          · have hs : Aside0 (k - bh.toNat = k + 1 - bh.toNat) := ⟨by omega⟩
            clear hbh0 hbh1 hdl hlen
            obtain ⟨e1, e1'⟩ := E1.out
            go_wp2_with fail
            go_round
            case rel => exact ⟨k + 1, R1.out.1, by go_num, by rw [← hs.out]⟩
            case measure => clear e1 e1'; have := R1.out.2; simp [intOf]; omega
        · obtain rfl : k = n := by omega
          obtain ⟨DS, hDS⟩ : ∃ D, ds ++ List.replicate (k - bh.toNat) 48 = D := ⟨_, rfl⟩
          rw [hDS] at HNm HAD HADL ⊢
          obtain ⟨dn, hdn⟩ : ∃ d, dig N = d := ⟨_, rfl⟩
          obtain ⟨mo, hmo⟩ : ∃ d, dig 999999999999999999 = d := ⟨_, rfl⟩
          obtain ⟨wd, hwd⟩ : ∃ d, wrd N = d := ⟨_, rfl⟩
          have HRD : Aside0 (rd (wd ++ [0]) 0 = ((N % 18446744073709551616 : Nat) : Int)) := ⟨by have := rd_wrd 0 N 1; rw [hwd] at this; simpa using this⟩
          have HWL : Aside0 ((wd.length + 1) * 8 ≤ 140737488355328) := ⟨by have := HNm.out.len; rw [hwd] at this; omega⟩
          have HDL : DS.length ≤ 140737488355328 := by have := HADL.out; omega
          have HDL := Aside0.mk HDL
          obtain ⟨h1, h2, h3, h4, h5, h6, h7⟩ := HNm.out
          rw [hdn] at h1 h2 h4 h6
          rw [hmo] at h3 h4
          rw [hwd] at h6
          have F1 := Aside0.mk h1
          have F2 := Aside0.mk h2
          have F3 := Aside0.mk h3
          have F4 := Aside0.mk h4
          have F5 := Aside0.mk h5
          have F6 := Aside0.mk h6
          clear h1 h2 h3 h4 h5 h6 h7 hdn hmo hwd hDS HNm hbh0 hbh1 hdl
          go_upto_region 37 with (first
            | ((with_reducible refine gate_dst (N := 100) rfl ?_); (refine conv_bytes rfl 9 22 5 _ rfl DS HAD.out rfl Try.underlying9 Try.underlying22 Try.underlying5 HDL.out ?_; intro A3 c3 w3 hC_ hT_ hc_ hb_; have HC3 := Aside0.mk hC_; have HB3 := Aside0.mk (below_step HB2.out hb_); have HCC := Aside0.mk hc_; clear hC_ hT_ hc_ hb_))
            | (go_at_call 33; refine (mintageref04_Number.calls K _ c3 DS dn w3 HC3.out HCC.out F1.out).mono ?_; rintro e_ w4 ⟨v4, rfl, hR_, hd_⟩; have HR4 := Aside0.mk hR_; have HD4 := Aside0.mk hd_; clear hR_ hd_))
          go_upto_region 38 with (first
            | (go_at_call 34; go_loud (refine (mintageref01_Trim.calls K (fun _ => True) v4 dn dn w3 w4 HD4.out HR4.out F2.out).mono ?_; rintro e_ w5 ⟨v5, rfl, hR_, hd_, hk_⟩; obtain ⟨A5, c5, e5⟩ := Kd.R_slice hR_; subst e5; have HC5 := Aside0.mk (Kd.R_reads' hR_).2.2; have HL5 := Aside0.mk (Kd.R_reads' hR_).2.1; have HB5 := Aside0.mk (below_step HB3.out hd_); clear hR_ hd_ hk_)))
          go_upto_if 108 with (first
            | ((with_reducible refine gate_dst (N := 105) rfl ?_); refine Kd.R_lit (Kd.int .u64) w5.heap.size 26 ?hg (N := 105) ?hd (xs := ([999999999999999999] : List Int)) (inner := [.int .u64 999999999999999999]) (ok := fun _ => True) (okp := fun _ => True) ?hr ?hp (fun _ hk => hk) trivial (Below.refl w5.heap.size w5) (Nat.le_refl _) (by simp) ?_; (case hd => rfl); (case hg => rfl); (case hr => first | (go_simp; done) | (go_simp; rfl)); (case hp => exact (Reps.one (show Kd.M (Kd.int .u64) _ _ _ 999999999999999999 [.int .u64 999999999999999999] from rfl) (Reps.none _ _))); intro v6 w6 ho6 hb hg_ hnew_; obtain ⟨A6, c6, e6⟩ := Kd.R_slice ho6; subst e6; have HC6 := Aside0.mk (Kd.R_reads' ho6).2.2; have HL6 := Aside0.mk (Kd.R_reads' ho6).2.1; have HB6 := Aside0.mk (below_step HB5.out hb); have HC5b := Aside0.mk (Kd.C_below HC5.out hb); clear hg_ hnew_ ho6 hb)
            | (go_at_call 36; go_loud (refine (mintageref01_Num.calls K A6 c6 [999999999999999999] mo w6 HC6.out HL6.out F3.out).mono ?_; rintro e_ w7 ⟨v7, rfl, hR_, hd_⟩; obtain ⟨A7, c7, e7⟩ := Kd.R_slice hR_; subst e7; have HC7 := Aside0.mk (Kd.R_reads' hR_).2.2; have HL7 := Aside0.mk (Kd.R_reads' hR_).2.1; have HC5c := Aside0.mk (Kd.C_below HC5b.out hd_); have HB7 := Aside0.mk (below_step HB6.out hd_); clear hR_ hd_))
            | (go_at_call 35; go_loud (refine (mintageref01_Cmp.calls K A5 c5 dn A7 c7 mo cc w7 HC5c.out HL5.out HC7.out HL7.out F4.out).mono ?_; rintro e_ w8 ⟨rfl, hd_⟩; have HC5d := Aside0.mk (Kd.C_below HC5c.out hd_.below); have HB8 := Aside0.mk (below_step HB7.out hd_.below); clear hd_)))
          by_cases hgt : cc > 0
          · have RX : Aside0 (resF l k = (0, 0, 123)) := ⟨by rw [HRes.out, if_pos (F5.out.1 hgt)]⟩
            go_wp2_with fail
            go_ret3
            exact ⟨by rw [RX.out]; rfl, HB8.out⟩
          · have hle := mt F5.out.2 hgt
            have RX : Aside0 (resF l k = (if neg = true then IntKind.u64.wrap (-(N : Int)) else N, 0, 0)) := ⟨by rw [HRes.out, if_neg hle]⟩
            have hrd : rd (wd ++ [0]) 0 = (N : Int) := by rw [HRD.out, Nat.mod_eq_of_lt (by omega)]
            have HRD2 := Aside0.mk hrd
            have HBits : Aside0 (mintageref12_bits.f neg (N : Int) = some (if neg = true then IntKind.u64.wrap (-(N : Int)) else N)) := ⟨by unfold mintageref12_bits.f; cases neg <;> rfl⟩
            obtain ⟨rs, hrs⟩ : ∃ r, r = (if neg = true then IntKind.u64.wrap (-(N : Int)) else (N : Int)) := ⟨_, rfl⟩
            rw [← hrs] at HBits RX
            clear hle hrd hrs HRes F5 HRD
            obtain ⟨y, hy⟩ : ∃ y : List Int, y = wd ++ [0] := ⟨_, rfl⟩
            have hyl : 0 < y.length := by rw [hy]; simp
            have HY := Aside0.mk hy
            have HYL := Aside0.mk hyl
            rw [← hy] at HRD2
            clear hy hyl
            go_wp2_with (first
              | (go_at_call 38; go_loud (refine (mintageref01_Words.calls K A5 c5 dn wd w8 HC5d.out HL5.out F6.out).mono ?_; rintro e_ w9 ⟨v9, rfl, hR_, hd_⟩; have HR9 := Aside0.mk (Kd.R_lower hR_ (below_size HB8.out)); have HB9 := Aside0.mk (below_step HB8.out hd_); clear hR_ hd_))
              | ((with_reducible refine gate_builtin (b := .append) (xs := #[.tmp 111, .tmp 112]) rfl ?_); at_builtin; go_loud (refine Kd.R_append (Kd.int .u64) (w0 := w) w.heap.size rfl (.tmp 111) (.tmp 112) 79 26 (.int .u64 0) 8 rfl Try.underlying79 info26 rfl (by decide) (by omega) v9 wd 0 [.int .u64 0] (fun _ => True) (fun _ => False) rfl rfl ?aP (fun _ hk => hk.elim) (fun _ _ => trivial) (by (with_reducible repeat (first | apply Kd.R_alloc | apply Kd.R_drewN | apply Kd.R_drew)); exact HR9.out) (by repeat (first | (with_reducible first | exact HB9.out | apply below_alloc | apply pw_below_drewN | apply below_drew1) | exact HB9.out)) (below_size (by repeat (first | (with_reducible first | exact HB9.out | apply below_alloc | apply pw_below_drewN | apply below_drew1) | exact HB9.out))) HWL.out ?_; (case aP => rfl); intro v10 w10 ho hb hg hat; rw [← HY.out] at ho; obtain ⟨A10, c10, e10⟩ := Kd.R_slice ho; subst e10; have HC10 := Aside0.mk (Kd.R_reads' ho).2.2; have HB10 := Aside0.mk hb; clear ho hb hg hat; obtain ⟨ad, ea, hx0⟩ := Kd.at_int HC10.out 0 (Int.le_refl 0) (by have := HYL.out; omega); cases ea; rw [HRD2.out] at hx0; rw [show ((0 : Int)).toNat = 0 from rfl, Addr.add_zero'] at hx0; have qi := eq_true HYL.out; have qi2 := eq_true (show (0 : Int) < (y.length : Int) by have := HYL.out; omega)))
              | (go_at_call 37; go_loud (refine (mintageref12_bits.calls neg (N : Int) rs _ HBits.out).mono ?_; rintro e_ w11 ⟨rfl, hd_⟩; have HB11 := Aside0.mk (below_step HB10.out hd_.below); clear hd_)))
            go_ret3
            exact ⟨by rw [RX.out]; rfl, HB11.out⟩
end Go.Proofs.Ytjefmcfkhalagaa.Scr
