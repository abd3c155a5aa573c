/- The document's Print, walked. -/
import Derived.Test.YtjefmcfkhalagaaSwbZScaledWrites
import Derived.Test.YtjefmcfkhalagaaKeep0ZScaledWrites
import Derived.Test.YtjefmcfkhalagaaRdrZScaledWrites
import Derived.Outline
import Derived.Deep.QuietTactic
import Derived.Test.YtjefmcfkhalagaaQ1ZScaledWrites
import Derived.Test.YtjefmcfkhalagaaQ0ZScaledWrites
import Derived.Test.YtjefmcfkhalagaaQ2ZScaledWrites
namespace Go.Proofs.Ytjefmcfkhalagaa.Swx
set_option linter.unusedVariables false
set_option linter.unusedSimpArgs false
open Go.Proofs.YtjefmcfkhalagaaW.PrintWords hiding bt
open Go.RowKit Go.Proofs.Ytjefmcfkhalagaa.Q Go.Proofs.YtjefmcfkhalagaaW.PrintLast Go.Proofs.YtjefmcfkhalagaaW.PrintMore Go.Proofs.Ytjefmcfkhalagaa.Dig Go.Proofs.Ytjefmcfkhalagaa.Big Go.Proofs.Ytjefmcfkhalagaa.Keep
/-- A row that is read, in a new world. -/
def ToldR (w : World) (l : List Int) (er : Int) (e : Ending) (w' : World) : Prop := ∃ A c, e = .returned (.tuple #[.slice A l.length c, .int .i64 er]) ∧ RdR 5 .u8 w' A l ∧ l.length ≤ c ∧ Below w.heap.size w w'
theorem w_id0 {x y : Int} (h : x = y) (h2 : -1000000 ≤ y ∧ y ≤ 1000000) : wrap64 x = y ∧ IntKind.i64.wrap x = y := by
  subst h
  exact ⟨wrap64_id (by omega) (by omega), by rw [IntKind.wrap_i64]; omega⟩
theorem str_ex (l : List Int) (a b : Nat) : (strOfNums l).extract a b = strOfNums ((l.take b).drop a) := by
  apply ByteArray.ext
  apply Array.ext'
  show ((strOfNums l).extract a b).data.toList = (strOfNums ((l.take b).drop a)).data.toList
  rw [Go.Lib.extract_data, strOfNums_data, strOfNums_data]
  rw [List.map_drop, List.map_take]
  rw [List.drop_take]
theorem str_head {l : List Int} {k : Nat} (h : k ≤ l.length) (W : World) : (Instr.slice 9 (.string (strOfNums l)) none (some (.int .i64 (k : Int))) none).run Try.prog W = .ok (.string (strOfNums (l.take k))) W := by
  have hs : (strOfNums l).size = l.length := strOfNums_size l
  rw [run_slice_string_h (ht := Try.underlying9) (h0 := by omega) (h2 := by omega)]
  rw [Int.toNat_natCast, str_ex, List.drop_zero]
theorem str_rest {l : List Int} {k : Nat} (h : k ≤ l.length) (W : World) : (Instr.slice 9 (.string (strOfNums l)) (some (.int .i64 (k : Int))) none none).run Try.prog W = .ok (.string (strOfNums (l.drop k))) W := by
  have hs : (strOfNums l).size = l.length := strOfNums_size l
  rw [run_slice_string_l (ht := Try.underlying9) (h0 := by omega) (h1 := by omega)]
  rw [Int.toNat_natCast, str_ex, hs, List.take_of_length_le (Nat.le_refl _)]
set_option maxHeartbeats 1000000 in
set_option maxRecDepth 100000 in
theorem rpr_scale (s b : Int) (w : World) (h : ¬ (0 ≤ s ∧ s ≤ 18)) : Calls Try.prog 22 #[.int .i64 s, .int .u64 b] w (ToldR w [] 120) := by
  have H1 : Aside0 (mintageref12_scaleOK.f s = some false) := ⟨by rw [(may_is s).2, decide_eq_false h]⟩
  clear h
  go_enter Try.func22, Try.ntmps22
  go_wp2_with (first | (go_at_call 31; refine (mintageref12_scaleOK.calls s false _ H1.out).mono ?_; rintro e_ w1 ⟨rfl, hd_⟩; have HB := Aside0.mk hd_.below; clear hd_))
  go_ret2
  exact ⟨none, 0, rfl, RdR.nil _ _ _, Nat.le_refl _, HB.out⟩
set_option maxHeartbeats 1000000 in
set_option maxRecDepth 100000 in
theorem rpr_not (s b : Int) (w : World) (h : 0 ≤ s ∧ s ≤ 18) (n : Bool) (v : Int) (hf : mintageref12_Fits.f b = some (false, n, v)) : Calls Try.prog 22 #[.int .i64 s, .int .u64 b] w (ToldR w [] 123) := by
  have H1 : Aside0 (mintageref12_scaleOK.f s = some true) := ⟨by rw [(may_is s).2, decide_eq_true h]⟩
  have H2 := Aside0.mk hf
  clear h hf
  go_enter Try.func22, Try.ntmps22
  go_wp2_with (first
    | (go_at_call 31; refine (mintageref12_scaleOK.calls s true _ H1.out).mono ?_; rintro e_ w1 ⟨rfl, hd_⟩; have HB := Aside0.mk hd_.below; clear hd_)
    | (go_at_call 43; refine (mintageref12_Fits.calls b false n v _ H2.out).mono ?_; rintro e_ w2 ⟨rfl, hd_⟩; have HB2 := Aside0.mk (below_step HB.out hd_.below); clear hd_))
  go_ret2
  exact ⟨none, 0, rfl, RdR.nil _ _ _, Nat.le_refl _, HB2.out⟩
set_option maxHeartbeats 4000000 in
set_option maxRecDepth 100000 in
theorem rpr_ok (s K : Nat) (b : Int) (neg : Bool) (x c wd : Nat) (w : World) (h : s ≤ 18) (hf : mintageref12_Fits.f b = some (true, neg, (x : Int))) (hn : mintageref01_Num.f K [(x : Int)] = some (dig x)) (hd : mintageref02_Digits.f K (dig x) = some (strOfNums (digit_Pad.D (c + 1) (x : Int))))
    (hx : (x : Int) < 18446744073709551616) (hx10 : (x : Int) < 10 ^ (c + 1)) (hc : c ≤ 18) (w1 : c + 1 ≤ wd) (w2 : s + 1 ≤ wd) (w3 : wd = c + 1 ∨ wd = s + 1) :
    Calls Try.prog 22 #[.int .i64 (s : Int), .int .u64 b] w (ToldR w (pt neg (digit_Pad.D wd (x : Int)) s) 0) := by
  have H1 : Aside0 (mintageref12_scaleOK.f (s : Int) = some true) := ⟨by rw [(may_is s).2, decide_eq_true (by omega)]⟩
  have H2 := Aside0.mk hf
  have H3 := Aside0.mk hn
  have H4 := Aside0.mk hd
  have hD : ∀ j, digit_Pad.D (c + 1 + j) (x : Int) = List.replicate j 48 ++ digit_Pad.D (c + 1) (x : Int) := fun j => D_rep _ j (Int.natCast_nonneg _) hx hx10
  have hall : AllD (digit_Pad.D wd (x : Int)) := D_all wd (Int.natCast_nonneg _) hx
  have HL := D_lenb (c + 1) (x : Int)
  have HDW : digit_Pad.D wd (x : Int) = List.replicate (wd - (c + 1)) 48 ++ digit_Pad.D (c + 1) (x : Int) := by rw [← hD]; congr 1; omega
  obtain ⟨d0, hd0⟩ : ∃ d, digit_Pad.D (c + 1) (x : Int) = d := ⟨_, rfl⟩
  rw [hd0] at H4 HDW HL
  rw [HDW] at hall ⊢
  have HALL := Aside0.mk hall
  clear hf hn hd hD hall HDW hd0 hx hx10
  obtain ⟨G, hG⟩ : ∃ G, G = pt neg (List.replicate (wd - (c + 1)) 48 ++ d0) s := ⟨_, rfl⟩
  rw [← hG]
  have HG := Aside0.mk hG
  clear hG
  obtain ⟨xi, hxi⟩ : ∃ z : Int, (x : Int) = z := ⟨_, rfl⟩
  rw [hxi] at H2 H3
  obtain ⟨dx, hdx⟩ : ∃ z, dig x = z := ⟨_, rfl⟩
  rw [hdx] at H3 H4
  clear hdx hxi
  go_enter Try.func22, Try.ntmps22
  go_upto_region 6 with (first
    | (go_at_call 31; refine (mintageref12_scaleOK.calls (s : Int) true _ H1.out).mono ?_; rintro e_ w1 ⟨rfl, hd_⟩; have HB := Aside0.mk hd_.below; clear hd_)
    | (go_at_call 43; refine (mintageref12_Fits.calls b true neg xi _ H2.out).mono ?_; rintro e_ w2 ⟨rfl, hd_⟩; have HB2 := Aside0.mk (below_step HB.out hd_.below); clear hd_))
  go_upto_region 7 with (first
    | ((with_reducible refine gate_dst (N := 22) rfl ?_); refine Kd.R_lit (Kd.int .u64) w2.heap.size 26 ?hg (N := 22) ?hd (xs := ([xi] : List Int)) (inner := [.int .u64 xi]) (ok := fun _ => True) (okp := fun _ => True) ?hr ?hp (fun _ hk => hk) trivial (Below.refl w2.heap.size w2) (Nat.le_refl _) (by simp) ?_; (case hd => rfl); (case hg => rfl); (case hr => first | (go_simp; done) | (go_simp; rfl)); (case hp => exact (Reps.one (show Kd.M (Kd.int .u64) _ _ _ xi [.int .u64 xi] from rfl) (Reps.none _ _))); intro v3 w3 ho3 hb hg_ hnew_; obtain ⟨A3, c3, e3⟩ := Kd.R_slice ho3; subst e3; have HC3 := Aside0.mk (Kd.R_reads' ho3).2.2; have HL3 := Aside0.mk (Kd.R_reads' ho3).2.1; have HB3 := Aside0.mk (below_step HB2.out hb); clear hg_ hnew_ ho3 hb)
    | (go_at_call 36; go_loud (refine (mintageref01_Num.calls K A3 c3 [xi] dx w3 HC3.out HL3.out H3.out).mono ?_; rintro e_ w4 ⟨v4, rfl, hR_, hd_⟩; obtain ⟨A4, c4, e4⟩ := Kd.R_slice hR_; subst e4; have HV4 := Aside0.mk (Kd.V_mk (e := 3) (base := w4.heap.size) (own_le (Kd.own_of_R hR_)) (Kd.F_mono (ok' := fun _ => True) (Kd.C_F (Kd.heap_int .i64) (Kd.R_reads' hR_).2.2) (fun _ _ => trivial))); have HB4 := Aside0.mk (below_step HB3.out hd_); clear hR_ hd_))
    | (go_at_call 44; go_loud (refine (mintageref02_Digits.calls K (fun _ => True) A4 c4 dx _ w4 HV4.out H4.out).mono ?_; rintro e_ w5 ⟨rfl, hd_⟩; have HB5 := Aside0.mk (below_step HB4.out hd_); clear hd_)))
  go_loop [9] (fun v => ∃ j : Nat, j ≤ wd - (c + 1) ∧ v = .string (strOfNums (List.replicate j 48 ++ d0))) (fun v => match v with | .string z => s + 1 - z.size | _ => 0)
  case atStart => exact ⟨0, Nat.zero_le _, by simp⟩
  case round =>
    obtain ⟨j, hj, rfl⟩ := hrel
    have hz : (strOfNums (List.replicate j 48 ++ d0)).size = j + (c + 1) := by rw [strOfNums_size, List.length_append, List.length_replicate, HL]
    by_cases hle : j + (c + 1) ≤ s
    · have R1 : Aside0 (j + 1 ≤ wd - (c + 1)) := ⟨by omega⟩
      have hs : Aside0 (⟨#[48]⟩ ++ strOfNums (List.replicate j 48 ++ d0) = strOfNums (List.replicate (j + 1) 48 ++ d0)) := ⟨by
        have e0 : (⟨#[48]⟩ : ByteArray) = strOfNums [48] := by rfl
        rw [e0, str_append, List.replicate_succ]; rfl⟩
      have hz2 : Aside0 ((strOfNums (List.replicate (j + 1) 48 ++ d0)).size = j + 1 + (c + 1)) := ⟨by rw [strOfNums_size, List.length_append, List.length_replicate, HL]⟩
      obtain ⟨S, hS⟩ : ∃ S, strOfNums (List.replicate j 48 ++ d0) = S := ⟨_, rfl⟩
      rw [hS] at hz hs ⊢
      have hcat := eq_false (show ¬ (9223372036854775807 < 1 + S.size) by omega)
      clear hS
      go_wp2_with fail
      go_round
      case rel => exact ⟨j + 1, R1.out, by rw [← hs.out]⟩
      case measure => clear hcat; have h1 := hz2.out; rw [← hs.out] at h1; simp only [h1, hz]; omega
    · obtain rfl : j = wd - (c + 1) := by omega
      obtain ⟨ds, hds⟩ : ∃ d, List.replicate (wd - (c + 1)) 48 ++ d0 = d := ⟨_, rfl⟩
      have hdl : ds.length = wd := by rw [← hds, List.length_append, List.length_replicate, HL]; omega
      rw [hds] at HALL HG ⊢
      rw [hds] at hz
      have hz : (strOfNums ds).size = wd := by rw [strOfNums_size, hdl]
      obtain ⟨body, hbody⟩ : ∃ d, d = ds.take (wd - s) ++ (if s = 0 then [] else 46 :: ds.drop (wd - s)) := ⟨_, rfl⟩
      have HBo : Aside0 (Bts body) := ⟨by
        have h1 : ∀ c ∈ ds, 0 ≤ c ∧ c < 256 := fun c hc => by have := HALL.out c hc; unfold IsD at this; omega
        rw [hbody]
        refine Bts.append (fun c hc => h1 c (List.mem_of_mem_take hc)) ?_
        split
        · exact Bts.nil
        · intro c hc
          rcases List.mem_cons.1 hc with rfl | hc
          · omega
          · exact h1 c (List.mem_of_mem_drop hc)⟩
      have HBl : Aside0 (body.length ≤ 100) := ⟨by
        rw [hbody, List.length_append, List.length_take]
        split
        · simp; omega
        · simp; omega⟩
      have HPT : Aside0 (G = sgl neg ++ body) := ⟨by rw [HG.out]; unfold pt; rw [hdl, hbody, List.append_assoc]⟩
      have HBD := Aside0.mk hbody
      have st := fun W => str_head (l := ds) (k := wd - s) (by omega) W
      have sr := fun W => str_rest (l := ds) (k := wd - s) (by omega) W
      have sz1 : (strOfNums (ds.take (wd - s))).size = wd - s := by rw [strOfNums_size, List.length_take]; omega
      have sz2 : (strOfNums (ds.drop (wd - s))).size = s := by rw [strOfNums_size, List.length_drop]; omega
      have HJ : Aside0 (strOfNums (ds.take (wd - s)) ++ ⟨#[46]⟩ ++ strOfNums (ds.drop (wd - s)) = strOfNums (ds.take (wd - s) ++ 46 :: ds.drop (wd - s))) := ⟨by
        have e0 : (⟨#[46]⟩ : ByteArray) = strOfNums [46] := by rfl
        rw [e0, str_append, str_append, List.append_assoc]; rfl⟩
      have HT0 : Aside0 (s = 0 → ds.take (wd - s) = ds) := ⟨fun h0 => List.take_of_length_le (by omega)⟩
      have HWD : Aside0 (wd ≤ 19) := ⟨by omega⟩
      clear hbody hds HALL
      obtain ⟨S, hS⟩ : ∃ S, strOfNums ds = S := ⟨_, rfl⟩
      have HSS := Aside0.mk hS
      rw [hS] at hz st sr ⊢
      obtain ⟨P, hP⟩ : ∃ P, strOfNums (ds.take (wd - s)) = P := ⟨_, rfl⟩
      obtain ⟨T, hT⟩ : ∃ T, strOfNums (ds.drop (wd - s)) = T := ⟨_, rfl⟩
      rw [hP] at st sz1 HJ
      rw [hT] at sr sz2 HJ
      clear hS hP hT
      have E1 := Aside0.mk (w_id0 (x := (wd : Int) - (s : Int)) (y := ((wd - s : Nat) : Int)) (by omega) (by have := HWD.out; omega))
      go_upto_if 32 with fail
      go_cut [9] from 25 to 46 (fun s9 wx => s9 = .string (strOfNums body) ∧ Aside0 (Below w.heap.size w wx))
      case first =>
        by_cases h0 : s = 0
        · have e : Value.string S = .string (strOfNums body) := by rw [HBD.out, if_pos h0, List.append_nil, HT0.out h0, HSS.out]
          have HE := Aside0.mk e
          have p0 : ¬ 0 < s := by omega
          clear st sr sz1 sz2 e h0
          go_wp2_with fail
          go_meet
          case rel => exact ⟨HE.out, HB5⟩
        · have e : P ++ ⟨#[46]⟩ ++ T = strOfNums body := by rw [HBD.out, if_neg h0, HJ.out]
          have HE := Aside0.mk e
          have hwd := HWD.out
          have hcat1 := eq_false (show ¬ (9223372036854775807 < P.size + 1) by omega)
          have hcat2 := eq_false (show ¬ (9223372036854775807 < P.size + 1 + T.size) by omega)
          clear e
          obtain ⟨e1, e1'⟩ := E1.out
          go_upto_region 10 with fail
          go_quiet (fail)
          go_wp2_with fail
          go_meet
          case rel => exact ⟨by rw [HE.out], ⟨pw_below_drewN HB5.out _⟩⟩
      case rest =>
        obtain ⟨rfl, B6⟩ := hcut
        clear st sr sz1 sz2
        have hbz : (strOfNums body).size = body.length := strOfNums_size body
        cases neg
        case false =>
          have HR : Aside0 (G = body) := ⟨by rw [HPT.out]; rfl⟩
          have hle := HBl.out
          have HLE : Aside0 (body.length ≤ 140737488355328) := ⟨by omega⟩
          clear hle
          go_wp2_with (first
            | ((with_reducible refine gate_dst (N := 51) rfl ?_); refine conv_bytes rfl 9 22 5 _ rfl body HBo.out rfl Try.underlying9 Try.underlying22 Try.underlying5 HLE.out ?_; intro A7 c7 w7 hC_ hT_ hc_ hb_; have HC7 := Aside0.mk (RdR.mk1 hC_ hT_); have HB7 := Aside0.mk (below_step B6.out hb_); have HCC := Aside0.mk hc_; clear hC_ hT_ hc_ hb_))
          go_ret2
          rw [HR.out]
          exact ⟨_, _, rfl, HC7.out, HCC.out, HB7.out⟩
        case true =>
          have HR : Aside0 (G = 45 :: body) := ⟨by rw [HPT.out]; rfl⟩
          have hj : ⟨#[45]⟩ ++ strOfNums body = strOfNums (45 :: body) := by
            have e0 : (⟨#[45]⟩ : ByteArray) = strOfNums [45] := by rfl
            rw [e0, str_append]; rfl
          have HJ2 := Aside0.mk hj
          have hle := HBl.out
          have HLE : Aside0 ((45 :: body).length ≤ 140737488355328) := ⟨by simp; omega⟩
          have HBo2 : Aside0 (Bts (45 :: body)) := ⟨fun c hc => by
            rcases List.mem_cons.1 hc with rfl | hc
            · omega
            · exact HBo.out c hc⟩
          obtain ⟨B, hB⟩ : ∃ B, strOfNums body = B := ⟨_, rfl⟩
          rw [hB] at hbz HJ2 ⊢
          clear hB hj
          obtain ⟨bd, hbd⟩ : ∃ b, b = 45 :: body := ⟨_, rfl⟩
          rw [← hbd] at HJ2 HLE HBo2 HR
          clear hbd
          go_wp2_with (first
            | ((with_reducible refine gate_dst (N := 51) rfl ?_); refine conv_bytes rfl 9 22 5 _ rfl bd HBo2.out (congrArg Value.string HJ2.out) Try.underlying9 Try.underlying22 Try.underlying5 HLE.out ?_; intro A7 c7 w7 hC_ hT_ hc_ hb_; have HC7 := Aside0.mk (RdR.mk1 hC_ hT_); have HB7 := Aside0.mk (below_step B6.out hb_); have HCC := Aside0.mk hc_; clear hC_ hT_ hc_ hb_))
          go_ret2
          rw [HR.out]
          exact ⟨_, _, rfl, HC7.out, HCC.out, HB7.out⟩
end Go.Proofs.Ytjefmcfkhalagaa.Swx
