/- DateParts, walked. -/
import Derived.Test.YtobgpdmiiipmmaaPartsbZDateParts
import Derived.Outline
import Derived.Test.YtobgpdmiiipmmaaQ2ZDateParts
import Derived.Test.YtobgpdmiiipmmaaQ0ZDateParts
import Derived.Test.YtobgpdmiiipmmaaQ1ZDateParts
namespace Go.Proofs.Ytobgpdmiiipmmaa.Keep
set_option linter.unusedVariables false
set_option linter.unusedSimpArgs false
open Go.RowKit Go.Proofs.Ytobgpdmiiipmmaa.Q Go.Proofs.YtobgpdmiiipmmaaW.PrintWords Go.Proofs.YtobgpdmiiipmmaaW.PrintLast

theorem parts_at (k : Nat) (Y M D H I S Ln V1 P1 E1 V2 P2 E2 : Int) (w : World) (A : Option Addr) (c : Nat) (l : List Int) (hr : Kd.C (Kd.int .u8) w A l.length l) (hc : l.length ≤ c) (hl : l.length ≤ 140737488351232) (N : Cal.Nums Y M D H I S) (P : Cal.Says Y M D H I S Ln V1 P1 E1 V2 P2 E2) : True := trivial
/-- What the walk needs to know at some number of rounds. -/
structure Pk (k : Nat) (Y M D H I S V1 P1 E1 V2 P2 E2 : Int) (SY SM SD SH SI SS : ByteArray) : Prop where
  ty : mintagelaw13_text.f k Y 4 = some SY
  tm : mintagelaw13_text.f k M 2 = some SM
  td : mintagelaw13_text.f k D 2 = some SD
  th : mintagelaw13_text.f k H 2 = some SH
  ti : mintagelaw13_text.f k I 2 = some SI
  ts : mintagelaw13_text.f k S 2 = some SS
  day : date_Day.f k (Cal.day Y M D) = some (V1, P1, E1)
  mom : date_Moment.f k (Cal.tim Y M D H I S) = some (V2, P2, E2)
  dayS : SY ++ { data := #[45] } ++ SM ++ { data := #[45] } ++ SD = strOfNums (Cal.day Y M D)
  timS : SY ++ { data := #[45] } ++ SM ++ { data := #[45] } ++ SD ++ { data := #[84] } ++ SH ++ { data := #[58] } ++ SI ++ { data := #[58] } ++ SS = strOfNums (Cal.tim Y M D H I S)
theorem day_btsA {Y M D H I S : Int} (N : Cal.Nums Y M D H I S) : Bts (Cal.day Y M D) ∧ Bts (Cal.tim Y M D H I S) := by
  obtain ⟨y0, y1, m0, m1, d0, d1, h0, h1, i0, i1, s0, s1⟩ := N
  have c1 : ∀ b : Int, 0 ≤ b → b < 256 → Bts [b] := fun b h h' c hc => by simp at hc; omega
  have hd : Bts (Cal.day Y M D) := ((((Cal.D_bts y0 (by omega)).append (c1 45 (by decide) (by decide))).append (Cal.D_bts m0 (by omega))).append (c1 45 (by decide) (by decide))).append (Cal.D_bts d0 (by omega))
  exact ⟨hd, (((((hd.append (c1 84 (by decide) (by decide))).append (Cal.D_bts h0 (by omega))).append (c1 58 (by decide) (by decide))).append (Cal.D_bts i0 (by omega))).append (c1 58 (by decide) (by decide))).append (Cal.D_bts s0 (by omega))⟩
theorem pk_of {Y M D H I S Ln V1 P1 E1 V2 P2 E2 : Int} (N : Cal.Nums Y M D H I S) (P : Cal.Says Y M D H I S Ln V1 P1 E1 V2 P2 E2) : ∃ K, ∀ k, K ≤ k → Pk k Y M D H I S V1 P1 E1 V2 P2 E2 (strOfNums (digit_Pad.D 4 Y)) (strOfNums (digit_Pad.D 2 M)) (strOfNums (digit_Pad.D 2 D)) (strOfNums (digit_Pad.D 2 H)) (strOfNums (digit_Pad.D 2 I)) (strOfNums (digit_Pad.D 2 S)) := by
  have hN := N
  obtain ⟨y0, y1, m0, m1, d0, d1, h0, h1, i0, i1, s0, s1⟩ := N
  obtain ⟨K1, t1⟩ := Cal.text13 y0 (by omega) 4 (by omega)
  obtain ⟨K2, t2⟩ := Cal.text13 m0 (by omega) 2 (by omega)
  obtain ⟨K3, t3⟩ := Cal.text13 d0 (by omega) 2 (by omega)
  obtain ⟨K4, t4⟩ := Cal.text13 h0 (by omega) 2 (by omega)
  obtain ⟨K5, t5⟩ := Cal.text13 i0 (by omega) 2 (by omega)
  obtain ⟨K6, t6⟩ := Cal.text13 s0 (by omega) 2 (by omega)
  obtain ⟨K7, t7⟩ := Cal.day_ev (Cal.day Y M D)
  obtain ⟨K8, t8⟩ := Cal.moment_ev (Cal.tim Y M D H I S) (by rw [Cal.tim_len]; omega)
  rw [P.day] at t7
  rw [P.mom] at t8
  refine ⟨K1 + K2 + K3 + K4 + K5 + K6 + K7 + K8, fun k hk => ⟨t1 k (by omega), t2 k (by omega), t3 k (by omega), t4 k (by omega), t5 k (by omega), t6 k (by omega), t7 k (by omega), t8 k (by omega), ?_, ?_⟩⟩
  · simp only [lit1s, str_append]; rfl
  · simp only [lit1s, str_append]; rfl
set_option maxHeartbeats 4000000 in
set_option maxRecDepth 100000 in
theorem dateParts_walk0 (y m d h i s : Int) (w : World) (A : Option Addr) (c : Nat) (l : List Int) (hr : Kd.C (Kd.int .u8) w A l.length l) (hc : l.length ≤ c) (hl : l.length ≤ 140737488351232) (hby : ∀ c ∈ l, 0 ≤ c ∧ c < 256) (y0 : 0 ≤ y) (m0 : 0 ≤ m) (d0 : 0 ≤ d) (h0 : 0 ≤ h) (i0 : 0 ≤ i) (s0 : 0 ≤ s) :
    Calls Try.prog 8 #[.int .u64 y, .int .u64 m, .int .u64 d, .int .u64 h, .int .u64 i, .int .u64 s, .slice A l.length c] w fun e w' => e = .returned (.bool true) ∧ Below w.heap.size w w' := by
  have N : Cal.Nums (y % 10000) (m % 20) (d % 40) (h % 30) (i % 70) (s % 70) := ⟨by omega, by omega, by omega, by omega, by omega, by omega, by omega, by omega, by omega, by omega, by omega, by omega⟩
  have H0 := Aside0.mk hr
  have HBY := Aside0.mk hby
  clear hr hby
  go_enter Try.func8, Try.ntmps8
  go_upto_region 2 with (fail)
  generalize y % 10000 = Y at N ⊢
  generalize m % 20 = M at N ⊢
  generalize d % 40 = D at N ⊢
  generalize h % 30 = H at N ⊢
  generalize i % 70 = I at N ⊢
  generalize s % 70 = S at N ⊢
  obtain ⟨Ln, V1, P1, E1, V2, P2, E2, hP⟩ := Cal.says N
  obtain ⟨k, hk⟩ := pk_of N hP
  obtain ⟨hb1, hb2⟩ := day_btsA N
  have z4 : ∀ x, (strOfNums (digit_Pad.D 4 x)).size = 4 := fun x => by rw [strOfNums_size, Cal.D_len]
  have z2 : ∀ x, (strOfNums (digit_Pad.D 2 x)).size = 2 := fun x => by rw [strOfNums_size, Cal.D_len]
  have KK := Aside0.mk (hk k (Nat.le_refl _))
  have zY := z4 Y
  have zM := z2 M
  have zD := z2 D
  have zH := z2 H
  have zI := z2 I
  have zS := z2 S
  generalize strOfNums (digit_Pad.D 4 Y) = SY at KK zY
  generalize strOfNums (digit_Pad.D 2 M) = SM at KK zM
  generalize strOfNums (digit_Pad.D 2 D) = SD at KK zD
  generalize strOfNums (digit_Pad.D 2 H) = SH at KK zH
  generalize strOfNums (digit_Pad.D 2 I) = SI at KK zI
  generalize strOfNums (digit_Pad.D 2 S) = SS at KK zS
  have PP := Aside0.mk hP
  have B1 := Aside0.mk hb1
  have B2 := Aside0.mk hb2
  obtain ⟨Y0, Y1, M0, M1, D0, D1, H0', H1, I0, I1, S0, S1⟩ := N
  clear hP hk hb1 hb2 z4 z2 y0 m0 d0 h0 i0 s0
  go_upto_region 4 with (first
    | (go_at_call 30; (with_reducible refine (mintagelaw13_text.calls k _ _ SD w2 KK.out.td).mono ?_); rintro e_ w3 ⟨rfl, hd_⟩; have HB3 := Aside0.mk (below_step HB2.out hd_); clear hd_)
    | (go_at_call 30; (with_reducible refine (mintagelaw13_text.calls k _ _ SM w1 KK.out.tm).mono ?_); rintro e_ w2 ⟨rfl, hd_⟩; have HB2 := Aside0.mk (below_step HB1.out hd_); clear hd_)
    | (go_at_call 30; (with_reducible refine (mintagelaw13_text.calls k _ _ SY w KK.out.ty).mono ?_); rintro e_ w1 ⟨rfl, hd_⟩; have HB1 := Aside0.mk hd_; clear hd_))
  clear HB1 HB2
  go_cut [54] (fun v wc => v = .bool (decide (M < 1 ∨ M > 12)) ∧ Aside0 (Below w.heap.size w wc))
  case first =>
    by_cases c1 : M < 1
    · have e1 : decide (M < 1 ∨ M > 12) = true := decide_eq_true (.inl c1)
      have E1' := Aside0.mk e1
      clear e1
      go_wp2_with fail
      go_meet
      case rel => exact ⟨by rw [E1'.out], HB3⟩
    · by_cases c2 : M > 12
      · have E1' := Aside0.mk (show decide (M < 1 ∨ M > 12) = true from decide_eq_true (.inr c2))
        go_wp2_with fail
        go_meet
        case rel => exact ⟨by rw [E1'.out], HB3⟩
      · have E1' := Aside0.mk (show decide (M < 1 ∨ M > 12) = false from decide_eq_false (by omega))
        go_wp2_with fail
        go_meet
        case rel => exact ⟨by rw [E1'.out], HB3⟩
  case rest =>
    obtain ⟨rfl, HB4⟩ := hcut
    clear HB3
    go_upto_if 54 with (fail)
    go_cut [16, 54] from 55 to 66 (fun v s wc => v = .int .i64 P1 ∧ Aside0 (Below w.heap.size w wc))
    case first =>
      by_cases c1 : M < 1 ∨ M > 12
      · rw [decide_eq_true c1]
        have e := Aside0.mk (PP.out.p5 c1)
        clear c1
        go_wp2_with fail
        go_meet
        case rel => exact ⟨by rw [e.out], HB4⟩
      · rw [decide_eq_false c1]
        have HL := Aside0.mk PP.out.len
        have c3 : 1 ≤ M := by omega
        have c4 : M ≤ 12 := by omega
        by_cases c2 : D < 1
        · have e := Aside0.mk (PP.out.p8 c1 (.inl c2))
          clear c1
          go_wp2_with fail
          go_meet
          case rel => exact ⟨by rw [e.out], HB4⟩
        · by_cases c5 : D > Ln
          · have e := Aside0.mk (PP.out.p8 c1 (.inr c5))
            clear c1
            go_wp2_with (first | (go_at_call 20; refine (date_Length.calls Y M Ln _ HL.out).mono ?_; rintro e_ w5 ⟨rfl, hd_⟩; have HB5 := Aside0.mk (below_step HB4.out hd_); clear hd_))
            go_meet
            case rel => exact ⟨by rw [e.out], HB5⟩
          · have e := Aside0.mk (PP.out.p0 c1 (by omega))
            clear c1
            go_wp2_with (first | (go_at_call 20; refine (date_Length.calls Y M Ln _ HL.out).mono ?_; rintro e_ w5 ⟨rfl, hd_⟩; have HB5 := Aside0.mk (below_step HB4.out hd_); clear hd_))
            go_meet
            case rel => exact ⟨by rw [e.out], HB5⟩
    case rest =>
      obtain ⟨rfl, HB6⟩ := hcut
      clear HB4
      have hdl : (Cal.day Y M D).length = 10 := Cal.day_len _ _ _
      go_upto_region 9 with (first
        | ((with_reducible refine gate_dst (N := 69) rfl ?_); refine conv_bytes rfl 9 29 5 _ rfl (Cal.day Y M D) B1.out (congrArg Value.string KK.out.dayS) Try.underlying9 Try.underlying29 Try.underlying5 (by omega) ?_; intro A_ c_ w7 hC_ hT_ hc_ hb_; have HC7 := Aside0.mk hC_; have HB7 := Aside0.mk (below_step HB6.out hb_); have HC_ := Aside0.mk hc_; clear hC_ hT_ hb_ hc_)
        | (go_at_call 23; refine (date_Day.calls k (some A_) c_ (Cal.day Y M D) V1 P1 E1 w7 HC7.out HC_.out KK.out.day).mono ?_; rintro e_ w8 ⟨rfl, hd_⟩; have HB8 := Aside0.mk (below_step HB7.out hd_); clear hd_))
      clear HB6 HC7 HC_ hdl HB7
      go_cut [93] (fun v wc => v = .bool false ∧ Aside0 (Below w.heap.size w wc))
      case first =>
        by_cases c1 : P1 = 0
        · have e := PP.out.e0 c1
          clear PP KK
          subst c1
          subst e
          go_wp2_with (first
            | (go_at_call 16; refine (mintagelaw13_num.calls 0 0 _ rfl).mono ?_; rintro e_ w9 ⟨rfl, hd_⟩; have HB9 := Aside0.mk (below_step HB8.out hd_.below); clear hd_))
          go_meet
          case rel => exact ⟨rfl, HB9⟩
        · obtain ⟨e, e'⟩ := PP.out.e1 c1
          have b1 : (P1 == 0) = false := by simpa using c1
          clear PP KK
          subst e
          go_wp2_with (first
            | (go_at_call 16; refine (mintagelaw13_num.calls 131 131 w9 rfl).mono ?_; rintro e_ w10 ⟨rfl, hd_⟩; have HB10 := Aside0.mk (below_step HB9.out hd_.below); clear hd_)
            | (go_at_call 16; refine (mintagelaw13_num.calls 131 131 w8 rfl).mono ?_; rintro e_ w9 ⟨rfl, hd_⟩; have HB9 := Aside0.mk (below_step HB8.out hd_.below); clear hd_))
          go_meet
          case rel => exact ⟨rfl, HB10⟩
      case rest =>
        obtain ⟨rfl, HB11⟩ := hcut
        clear HB8
        go_upto_block 0 with (first
          | (go_at_call 30; (with_reducible refine (mintagelaw13_text.calls k _ _ SS w13 KK.out.ts).mono ?_); rintro e_ w14 ⟨rfl, hd_⟩; have HB14 := Aside0.mk (below_step HB13.out hd_); clear hd_)
          | (go_at_call 30; (with_reducible refine (mintagelaw13_text.calls k _ _ SI w12 KK.out.ti).mono ?_); rintro e_ w13 ⟨rfl, hd_⟩; have HB13 := Aside0.mk (below_step HB12.out hd_); clear hd_)
          | (go_at_call 30; (with_reducible refine (mintagelaw13_text.calls k _ _ SH _ KK.out.th).mono ?_); rintro e_ w12 ⟨rfl, hd_⟩; have HB12 := Aside0.mk (below_step HB11.out hd_); clear hd_))
        clear HB11 HB12 HB13
        go_cut [16] from 107 to 118 (fun v wc => v = .int .i64 P2 ∧ Aside0 (Below w.heap.size w wc))
        case first =>
          by_cases c1 : P1 = 0
          · by_cases g1 : H > 23
            · have e := Aside0.mk (PP.out.q11 c1 g1)
              clear PP KK
              subst c1
              go_wp2_with fail
              go_meet
              case rel => exact ⟨by rw [e.out], HB14⟩
            · by_cases g2 : I > 59
              · have e := Aside0.mk (PP.out.q14 c1 g1 g2)
                clear PP KK
                subst c1
                go_wp2_with fail
                go_meet
                case rel => exact ⟨by rw [e.out], HB14⟩
              · by_cases g3 : S > 59
                · have e := Aside0.mk (PP.out.q17 c1 g1 g2 g3)
                  clear PP KK
                  subst c1
                  go_wp2_with fail
                  go_meet
                  case rel => exact ⟨by rw [e.out], HB14⟩
                · have e := Aside0.mk (PP.out.q0 c1 g1 g2 g3)
                  clear PP KK
                  subst c1
                  go_wp2_with fail
                  go_meet
                  case rel => exact ⟨by rw [e.out], HB14⟩
          · have e := Aside0.mk (PP.out.q c1)
            have hpos := (PP.out.e1 c1).2
            have b1 : decide (0 < P1) = true := decide_eq_true hpos
            clear PP KK
            go_wp2_with fail
            go_meet
            case rel => exact ⟨by rw [e.out], HB14⟩
        case rest =>
          obtain ⟨rfl, HB15⟩ := hcut
          clear HB14
          have htl : (Cal.tim Y M D H I S).length = 19 := Cal.tim_len _ _ _ _ _ _
          go_upto_region 20 with (first
            | ((with_reducible refine gate_dst (N := 121) rfl ?_); refine conv_bytes rfl 9 29 5 _ rfl (Cal.tim Y M D H I S) B2.out (congrArg Value.string KK.out.timS) Try.underlying9 Try.underlying29 Try.underlying5 (by omega) ?_; intro A2_ c2_ w16 hC_ hT_ hc_ hb_; have HC16 := Aside0.mk hC_; have HB16 := Aside0.mk (below_step HB15.out hb_); have HC_ := Aside0.mk hc_; clear hC_ hT_ hb_ hc_)
            | (go_at_call 25; refine (date_Moment.calls k (some A2_) c2_ (Cal.tim Y M D H I S) V2 P2 E2 w16 HC16.out HC_.out KK.out.mom).mono ?_; rintro e_ w17 ⟨rfl, hd_⟩; have HB17 := Aside0.mk (below_step HB16.out hd_); clear hd_))
          clear HB15 HC16 HC_ htl HB16
          go_cut [145] (fun v wc => v = .bool false ∧ Aside0 (Below w.heap.size w wc))
          case first =>
            by_cases c1 : P2 = 0
            · have e := PP.out.f0 c1
              clear PP KK
              subst c1
              subst e
              go_wp2_with (first
                | (go_at_call 16; refine (mintagelaw13_num.calls 0 0 _ rfl).mono ?_; rintro e_ w18 ⟨rfl, hd_⟩; have HB18 := Aside0.mk (below_step HB17.out hd_.below); clear hd_))
              go_meet
              case rel => exact ⟨rfl, HB18⟩
            · obtain ⟨e, e'⟩ := PP.out.f1 c1
              have b1 : (P2 == 0) = false := by simpa using c1
              clear PP KK
              subst e
              go_wp2_with (first
                | (go_at_call 16; refine (mintagelaw13_num.calls 131 131 w18 rfl).mono ?_; rintro e_ w19 ⟨rfl, hd_⟩; have HB19 := Aside0.mk (below_step HB18.out hd_.below); clear hd_)
                | (go_at_call 16; refine (mintagelaw13_num.calls 131 131 w17 rfl).mono ?_; rintro e_ w18 ⟨rfl, hd_⟩; have HB18 := Aside0.mk (below_step HB17.out hd_.below); clear hd_))
              go_meet
              case rel => exact ⟨rfl, HB19⟩
          case rest =>
            obtain ⟨rfl, HB20⟩ := hcut
            clear HB17
            obtain ⟨n, hn⟩ : ∃ n, l.length % 7 = n := ⟨_, rfl⟩
            have hnz : ((l.length : Int) % 7) = (n : Int) := by omega
            have hn6 : n ≤ 6 := by omega
            have hnl : n ≤ l.length := by omega
            have HS0 : Aside0 (SY ++ { data := #[45] } ++ SM ++ { data := #[45] } ++ SD ++ { data := #[84] } ++ SH ++ { data := #[58] } ++ SI ++ { data := #[58] } ++ SS ++ { data := #[46] } = strOfNums (Cal.tim Y M D H I S ++ 46 :: Cal.fd l 0)) := ⟨by rw [KK.out.timS, lit1s, str_append]; rfl⟩
            clear hn
            go_wp2_with fail
            go_loopw [22, 23, 24] (fun v s k wr => ∃ j : Nat, j ≤ 6 ∧ k = .int .i64 j ∧ v = .int .u64 (Cal.vv l n j) ∧ s = .string (strOfNums (Cal.tim Y M D H I S ++ 46 :: Cal.fd l (min j n))) ∧ Aside0 (Below w.heap.size w wr)) (fun _ _ k _ => 6 - (intOf k).toNat)
            case atStart => exact ⟨0, by omega, rfl, by simp [Cal.vv, Cal.fd, Dig.dval, Dig.dv], by rw [Nat.zero_min]; exact congrArg Value.string HS0.out, HB20⟩
            case round =>
              obtain ⟨j, hj, rfl, rfl, rfl, HBr⟩ := hrel
              clear HS0 HB20
              obtain ⟨v0, v1⟩ := Cal.vv_bd (j := j) hnl hn6 hj
              have hfl : (Cal.fd l (min j n)).length = min j n := Cal.fd_len (by omega)
              have hTz : (strOfNums (Cal.tim Y M D H I S ++ 46 :: Cal.fd l (min j n))).size = 20 + min j n := by
                rw [strOfNums_size, List.length_append, Cal.tim_len, List.length_cons, hfl]; omega
              by_cases h6 : j < 6
              · by_cases hlt : j < n
                · have hv := Aside0.mk (Cal.vv_lo hnl hlt)
                  have hT : Aside0 (strOfNums (Cal.tim Y M D H I S ++ 46 :: Cal.fd l (min j n)) ++ strOfNums [48 + rd l (j : Int) % 10] = strOfNums (Cal.tim Y M D H I S ++ 46 :: Cal.fd l (min (j + 1) n))) := ⟨by
                    rw [str_append, show min (j + 1) n = j + 1 by omega, show min j n = j by omega, Cal.fd_succ (by omega)]; simp⟩
                  have hzX : (strOfNums [48 + rd l (j : Int) % 10]).size = 1 := by rw [strOfNums_size]; rfl
                  have H0r := Kd.C_below H0.out HBr.out
                  obtain ⟨ad, hA, hcell⟩ := (readsInt_of.2 (Kd.reads_of_C (d := (0 : Int)) (h1 := fun _ => rfl) H0r) : ReadsInt wr .u8 A l.length l).at_ (j : Int) (by omega) (by omega)
                  subst hA
                  rw [Int.toNat_natCast] at hcell
                  have hc0 : 0 ≤ rd l (j : Int) ∧ rd l (j : Int) < 256 := HBY.out _ (by unfold rd; rw [Int.toNat_natCast, List.getD_eq_getElem?_getD, List.getElem?_eq_getElem (show j < l.length by omega)]; exact List.getElem_mem _)
                  obtain ⟨cc, hcc⟩ : ∃ cc, rd l (j : Int) = cc := ⟨_, rfl⟩
                  rw [hcc] at hv hT hzX hc0 hcell
                  obtain ⟨q0, q1⟩ := hc0
                  have hcv : (convert 29 9 (.slice (some ⟨wr.heap.size, 0, none⟩) 1 1)).run Try.prog (wr.alloc (.cells #[.int .u8 (48 + cc % 10)] 5)) = .ok (.string (strOfNums [48 + cc % 10])) (wr.alloc (.cells #[.int .u8 (48 + cc % 10)] 5)) := by
                    refine Kd.C_string (P := Try.prog) (A := some ⟨wr.heap.size, 0, none⟩) (n := 1) (c := 1) (xs := [48 + cc % 10]) Try.underlying29 Try.underlying5 Try.underlying9 ?_
                    refine Kd.C_of_reads (h1 := fun _ => rfl) (readsInt_of.1 ⟨rfl, by omega, fun _ => ⟨_, rfl, fun i hi => ?_⟩⟩)
                    obtain rfl : i = 0 := by omega
                    rw [add_plain, cell_of_row _ _ _ _ _ (0, 0) (heap_alloc_new wr _)]; rfl
                  generalize strOfNums [48 + cc % 10] = X at hcv hT hzX
                  generalize strOfNums (Cal.tim Y M D H I S ++ 46 :: Cal.fd l (min j n)) = T at hT hTz ⊢
                  generalize Cal.vv l n j = v at hv v0 v1 ⊢
                  clear hcc H0r hfl PP KK
                  go_wp2_with fail
                  go_roundw
                  case rel => exact ⟨j + 1, by omega, by go_num, by rw [hv.out], by rw [hT.out], ⟨by repeat (first | exact HBr.out | apply below_alloc)⟩⟩
                  case measure => simp [intOf]; omega
                · have hv := Aside0.mk (Cal.vv_hi (l := l) (n := n) (j := j) (by omega))
                  have hm : Aside0 (min (j + 1) n = min j n) := ⟨by omega⟩
                  generalize Cal.vv l n j = v at hv v0 v1 ⊢
                  clear hfl PP KK
                  go_wp2_with fail
                  go_roundw
                  case rel => exact ⟨j + 1, by omega, by go_num, by rw [hv.out], by rw [hm.out], HBr⟩
                  case measure => simp [intOf]; omega
              · obtain rfl : j = 6 := by omega
                have N : Cal.Nums Y M D H I S := ⟨Y0, Y1, M0, M1, D0, D1, H0', H1, I0, I1, S0, S1⟩
                have e6 : min 6 n = n := by omega
                have e7 : Cal.vv l n 6 = Dig.dval (Cal.fd l n) * 10 ^ (6 - (Cal.fd l n).length) := by unfold Cal.vv; rw [e6, Cal.fd_len hnl]
                have hL3 : (Cal.tim Y M D H I S ++ 46 :: Cal.fd l n).length ≤ 1000 := by rw [List.length_append, Cal.tim_len, List.length_cons, Cal.fd_len hnl]; omega
                obtain ⟨K3, h3⟩ := Cal.moment_ev (Cal.tim Y M D H I S ++ 46 :: Cal.fd l n) (by omega)
                have h3' := h3 K3 (Nat.le_refl _)
                have B3 : Aside0 (Bts (Cal.tim Y M D H I S ++ 46 :: Cal.fd l n)) := ⟨B2.out.append (fun c hc => by
                  rcases List.mem_cons.1 hc with rfl | hc
                  · decide
                  · exact Cal.fd_bts l n c hc)⟩
                rw [e6]
                clear hTz hj h6 hfl e6 KK B1 B2 h3
                by_cases hn0 : n = 0
                · subst hn0
                  rw [show Cal.fd l 0 = [] from by simp [Cal.fd], Cal.mom1 N] at h3'
                  rw [show Cal.fd l 0 = [] from by simp [Cal.fd]] at hL3 B3 ⊢
                  have H3 := Aside0.mk h3'
                  generalize hLL : Cal.tim Y M D H I S ++ [46] = L3 at hL3 B3 H3 ⊢
                  obtain ⟨T, hT⟩ : ∃ T, strOfNums L3 = T := ⟨_, rfl⟩
                  have HT := Aside0.mk hT
                  rw [hT]
                  clear hT hLL h3' e7 PP N
                  go_wp2_with (first
                    | ((with_reducible refine gate_dst (N := 180) rfl ?_); refine conv_bytes rfl 9 29 5 _ rfl L3 B3.out (by rw [HT.out]; rfl) Try.underlying9 Try.underlying29 Try.underlying5 (by omega) ?_; intro A3_ c3_ w21 hC_ hT_ hc_ hb_; have HC21 := Aside0.mk hC_; have HB21 := Aside0.mk (below_step HBr.out hb_); have HC_ := Aside0.mk hc_; clear hC_ hT_ hb_ hc_)
                    | (go_at_call 18; refine (mintagelaw13_wakes.calls true _ rfl).mono ?_; rintro e_ w24 ⟨rfl, hd_⟩; have HB24 := Aside0.mk (below_step HB23.out hd_); clear hd_)
                    | (go_at_call 16; refine (mintagelaw13_num.calls 130 130 _ rfl).mono ?_; rintro e_ w23 ⟨rfl, hd_⟩; have HB23 := Aside0.mk (below_step HB22.out hd_.below); clear hd_)
                    | (go_at_call 25; refine (date_Moment.calls K3 (some A3_) c3_ L3 0 20 130 w21 HC21.out HC_.out H3.out).mono ?_; rintro e_ w22 ⟨rfl, hd_⟩; have HB22 := Aside0.mk (below_step HB21.out hd_); clear hd_))
                  go_ret
                  exact ⟨rfl, HB24.out⟩
                · obtain ⟨V3, hm3, hV3⟩ := PP.out.more (Cal.fd l n) (fun e => by have := Cal.fd_len hnl; rw [e] at this; simp at this; omega) (Cal.fd_all l n) (by rw [Cal.fd_len hnl]; exact hn6)
                  rw [hm3] at h3'
                  rw [← e7] at hV3
                  have H3 := Aside0.mk h3'
                  have b0 : ((n : Int) == 0) = false := by simp; omega
                  generalize hLL : Cal.tim Y M D H I S ++ 46 :: Cal.fd l n = L3 at hL3 B3 H3 ⊢
                  obtain ⟨T, hT⟩ : ∃ T, strOfNums L3 = T := ⟨_, rfl⟩
                  have HT := Aside0.mk hT
                  rw [hT]
                  generalize Cal.vv l n 6 = v at hV3 v0 v1 ⊢
                  by_cases c1 : P2 = 0
                  · have e := PP.out.f0 c1
                    have hV := hV3 c1
                    clear hT hLL h3' e7 PP N hm3 hV3
                    subst c1
                    subst e
                    go_wp2_with (first
                      | ((with_reducible refine gate_dst (N := 180) rfl ?_); refine conv_bytes rfl 9 29 5 _ rfl L3 B3.out (by rw [HT.out]; rfl) Try.underlying9 Try.underlying29 Try.underlying5 (by omega) ?_; intro A3_ c3_ w21 hC_ hT_ hc_ hb_; have HC21 := Aside0.mk hC_; have HB21 := Aside0.mk (below_step HBr.out hb_); have HC_ := Aside0.mk hc_; clear hC_ hT_ hb_ hc_)
                      | (go_at_call 18; refine (mintagelaw13_wakes.calls true _ rfl).mono ?_; rintro e_ w25 ⟨rfl, hd_⟩; have HB25 := Aside0.mk (below_step HB24.out hd_); clear hd_)
                      | (go_at_call 16; refine (mintagelaw13_num.calls 0 0 w23 rfl).mono ?_; rintro e_ w24 ⟨rfl, hd_⟩; have HB24 := Aside0.mk (below_step HB23.out hd_.below); clear hd_)
                      | (go_at_call 16; refine (mintagelaw13_num.calls 0 0 w22 rfl).mono ?_; rintro e_ w23 ⟨rfl, hd_⟩; have HB23 := Aside0.mk (below_step HB22.out hd_.below); clear hd_)
                      | (go_at_call 25; refine (date_Moment.calls K3 (some A3_) c3_ L3 V3 0 0 w21 HC21.out HC_.out H3.out).mono ?_; rintro e_ w22 ⟨rfl, hd_⟩; have HB22 := Aside0.mk (below_step HB21.out hd_); clear hd_))
                    go_ret
                    exact ⟨rfl, HB25.out⟩
                  · obtain ⟨e, e'⟩ := PP.out.f1 c1
                    have b1 : decide (0 < P2) = true := decide_eq_true e'
                    clear hT hLL h3' e7 PP N hm3 hV3
                    subst e
                    go_wp2_with (first
                      | ((with_reducible refine gate_dst (N := 180) rfl ?_); refine conv_bytes rfl 9 29 5 _ rfl L3 B3.out (by rw [HT.out]; rfl) Try.underlying9 Try.underlying29 Try.underlying5 (by omega) ?_; intro A3_ c3_ w21 hC_ hT_ hc_ hb_; have HC21 := Aside0.mk hC_; have HB21 := Aside0.mk (below_step HBr.out hb_); have HC_ := Aside0.mk hc_; clear hC_ hT_ hb_ hc_)
                      | (go_at_call 18; refine (mintagelaw13_wakes.calls true _ rfl).mono ?_; rintro e_ w25 ⟨rfl, hd_⟩; have HB25 := Aside0.mk (below_step HB24.out hd_); clear hd_)
                      | (go_at_call 16; refine (mintagelaw13_num.calls 131 131 w23 rfl).mono ?_; rintro e_ w24 ⟨rfl, hd_⟩; have HB24 := Aside0.mk (below_step HB23.out hd_.below); clear hd_)
                      | (go_at_call 16; refine (mintagelaw13_num.calls 131 131 w22 rfl).mono ?_; rintro e_ w23 ⟨rfl, hd_⟩; have HB23 := Aside0.mk (below_step HB22.out hd_.below); clear hd_)
                      | (go_at_call 25; refine (date_Moment.calls K3 (some A3_) c3_ L3 V3 P2 131 w21 HC21.out HC_.out H3.out).mono ?_; rintro e_ w22 ⟨rfl, hd_⟩; have HB22 := Aside0.mk (below_step HB21.out hd_); clear hd_))
                    go_ret
                    exact ⟨rfl, HB25.out⟩
end Go.Proofs.Ytobgpdmiiipmmaa.Keep
