/- DateBack, walked. -/
import Derived.Test.YtobgpdmiiipmmaaBackZDateBack
import Derived.Test.YtobgpdmiiipmmaaLiveZDateBack
import Derived.Outline
import Derived.StillTailTactics
import Derived.Test.YtobgpdmiiipmmaaQ1ZDateBack
import Derived.Test.YtobgpdmiiipmmaaQ2ZDateBack
import Derived.Test.YtobgpdmiiipmmaaQ0ZDateBack
namespace Go.Proofs.Ytobgpdmiiipmmaa.Cal
set_option linter.unusedVariables false
open Go.RowKit Go.Proofs.Ytobgpdmiiipmmaa.Q Go.Proofs.Ytobgpdmiiipmmaa.Dig Go.Proofs.YtobgpdmiiipmmaaW.PrintWords Go.Proofs.YtobgpdmiiipmmaaW.PrintLast
theorem back {n f : Int} (n0 : 0 ≤ n) (f0 : 0 ≤ f) : ∃ k td tu, date_PrintDay.f k (IntKind.u64.wrap (-719528 + n % 3652425)) = some (td, 0) ∧ td.length = 10 ∧ date_Day.f k td = some (IntKind.u64.wrap (-719528 + n % 3652425), 0, 0) ∧
    date_PrintMoment.f k (IntKind.u64.wrap ((-719528 + n % 3652425) * 86400000000 + f % 86400000000)) = some (tu, 0) ∧ 19 ≤ tu.length ∧ tu.length ≤ 100 ∧ date_Moment.f k tu = some (IntKind.u64.wrap ((-719528 + n % 3652425) * 86400000000 + f % 86400000000), 0, 0) ∧ tu.take 10 = td := by
  obtain ⟨D, hD⟩ : ∃ D, -719528 + n % 3652425 = D := ⟨_, rfl⟩
  rw [hD]
  obtain ⟨x, hx⟩ : ∃ x, D * 86400000000 + f % 86400000000 = x := ⟨_, rfl⟩
  rw [hx]
  obtain ⟨y, m, d, hd, hk, hn⟩ := date_ev (n := D) (by omega) (by omega)
  obtain ⟨K1, h1⟩ := printday_ev (by omega) (by omega) hd hk
  have e2 := day_ev (day y ((m : Int) + 1) d)
  rw [day_back hk, show num y m d - 719528 = D by omega] at e2
  obtain ⟨K2, h2⟩ := e2
  obtain ⟨t, ht, K3, h3⟩ := printmoment_ev (x := x) (n := D) (by omega) (by omega) (by omega) hd hk
  have tl : t.length ≤ 7 := by
    rcases ht with ⟨_, rfl⟩ | ⟨p, j, _, rfl, _, hpj, _⟩ <;> simp; omega
  have e4 := moment_ev (tim y ((m : Int) + 1) d (x % 86400000000 / 1000000 / 3600) (x % 86400000000 / 1000000 / 60 % 60) (x % 86400000000 / 1000000 % 60) ++ t) (by rw [List.length_append, tim_len]; omega)
  rw [moment_back hk (by omega) (by omega) (by omega) (by omega) (by omega) (by omega) ht, show (num y m d - 719528) * 86400000000 + ((x % 86400000000 / 1000000 / 3600 * 60 + x % 86400000000 / 1000000 / 60 % 60) * 60 + x % 86400000000 / 1000000 % 60) * 1000000 + x % 86400000000 % 1000000 = x by omega] at e4
  obtain ⟨K4, h4⟩ := e4
  refine ⟨K1 + K2 + K3 + K4, _, _, h1 _ (by omega), day_len _ _ _, h2 _ (by omega), h3 _ (by omega), by rw [List.length_append, tim_len]; omega, by rw [List.length_append, tim_len]; omega, h4 _ (by omega), ?_⟩
  have dl : (day y ((m : Int) + 1) d).length = 10 := day_len _ _ _
  unfold tim
  simp only [List.append_assoc]
  rw [List.take_left' dl]
end Go.Proofs.Ytobgpdmiiipmmaa.Cal
namespace Go.Proofs.Ytobgpdmiiipmmaa.Keep
set_option linter.unusedVariables false
set_option linter.unusedSimpArgs false
open Go.RowKit Go.Proofs.Ytobgpdmiiipmmaa.Q Go.Proofs.YtobgpdmiiipmmaaW.PrintWords Go.Proofs.YtobgpdmiiipmmaaW.PrintLast
theorem C_take {w : World} {A : Option Addr} {l : List Int} (h : Kd.C (Kd.int .u8) w A l.length l) {n : Nat} (hn : n ≤ l.length) : Kd.C (Kd.int .u8) w A n (l.take n) :=
  Kd.C_of_reads (h1 := fun _ => rfl) (readsInt_of.1 (by have := ReadsInt.take_ (readsInt_of.2 (Kd.reads_of_C (d := (0 : Int)) (h1 := fun _ => rfl) h)) n hn; exact this))
set_option maxHeartbeats 4000000 in
set_option maxRecDepth 100000 in
theorem dateBack_walk (n f : Int) (w : World) (wn : (Lit.int .u64 n).wf = true) (wf : (Lit.int .u64 f).wf = true) :
    Calls Try.prog 9 #[.int .u64 n, .int .u64 f] w fun e w' => e = .returned (.bool true) ∧ Below w.heap.size w w' := by
  obtain ⟨n0, n1⟩ := Dig.wf_u64w wn
  obtain ⟨f0, f1⟩ := Dig.wf_u64w wf
  obtain ⟨k, td, tu, h1, l1, h2, h3, l2, l3, h4, htk⟩ := Cal.back n0 f0
  have H1 := Aside0.mk h1
  have H2 := Aside0.mk h2
  have H3 := Aside0.mk h3
  have H4 := Aside0.mk h4
  have HTK := Aside0.mk htk
  have L1' := Aside0.mk l1
  have hd64 : wrap64 (IntKind.u64.wrap (-719528 + n % 3652425)) = -719528 + n % 3652425 := Cal.back64 _ (by omega) (by omega)
  clear h1 h2 h3 h4 htk wn wf l1
  go_enter Try.func9, Try.ntmps9
  go_upto_region 9 with (first
    | (go_at_call 16; refine (mintagelaw13_num.calls 0 0 w7 rfl).mono ?_; rintro e_ w8 ⟨rfl, hd_⟩; have L8 := Aside0.mk (L7.out.below hd_.below); clear hd_)
    | (go_at_call 16; refine (mintagelaw13_num.calls 0 0 w6 rfl).mono ?_; rintro e_ w7 ⟨rfl, hd_⟩; have L7 := Aside0.mk (L6.out.below hd_.below); clear hd_)
    | (go_at_call 16; refine (mintagelaw13_num.calls 0 0 w5 rfl).mono ?_; rintro e_ w6 ⟨rfl, hd_⟩; have L6 := Aside0.mk (L5.out.below hd_.below); clear hd_)
    | (go_at_call 16; refine (mintagelaw13_num.calls 0 0 w4 rfl).mono ?_; rintro e_ w5 ⟨rfl, hd_⟩; have L5 := Aside0.mk (L4.out.below hd_.below); clear hd_)
    | (go_at_call 25; refine (date_Moment.calls k A2 c2 tu _ 0 0 w3 (L3.out.C 0 rfl) l2c H4.out).mono ?_; rintro e_ w4 ⟨rfl, hd_⟩; have L4 := Aside0.mk (L3.out.below hd_); clear hd_)
    | (go_at_call 13; refine (date_PrintMoment.calls k _ tu 0 w2 H3.out).mono ?_; rintro e_ w3 ⟨v_, rfl, hR_, hB_⟩; obtain ⟨A2, c2, rfl, l2c, L_⟩ := L2.out.made hR_ hB_ ⟨by decide, by decide, by decide⟩; have L3 := Aside0.mk L_; clear hR_ hB_ L_)
    | (go_at_call 23; refine (date_Day.calls k A1 c1 td _ 0 0 w1 (L1.out.C 0 rfl) l1c H2.out).mono ?_; rintro e_ w2 ⟨rfl, hd_⟩; have L2 := Aside0.mk (L1.out.below hd_); clear hd_)
    | (go_at_call 10; refine (date_PrintDay.calls k _ td 0 w H1.out).mono ?_; rintro e_ w1 ⟨v_, rfl, hR_, hB_⟩; obtain ⟨A1, c1, rfl, l1c, L_⟩ := (Rows.start w).made hR_ hB_ ⟨by decide, by decide, by decide⟩; have L1 := Aside0.mk L_; clear hR_ hB_ L_))
  have C1 := L8.out.C 1 rfl
  have C2 := L8.out.C 0 rfl
  have HB := Aside0.mk L8.out.bel
  have hT := HTK.out
  have hL := L1'.out
  obtain ⟨S, hS⟩ : ∃ S, strOfNums td = S := ⟨_, rfl⟩
  have v1 := Kd.C_string (P := Try.prog) (w := w8.drew) (A := A1) (c := c1) Try.underlying29 Try.underlying5 Try.underlying9 (Kd.C_drew C1)
  have v2 := Kd.C_string (P := Try.prog) (w := w8.drew) (A := A2) (c := c2) Try.underlying29 Try.underlying5 Try.underlying9 (Kd.C_drew (C_take C2 (n := 10) (by omega)))
  rw [hT] at v2
  rw [hS] at v1 v2
  have v3 := v1
  rw [hL] at v3
  have b1 : decide ((19 : Int) ≤ (tu.length : Int)) = true := decide_eq_true (by omega)
  have b2 := eq_true (show (10 : Int) ≤ (c2 : Int) by omega)
  clear C1 C2 hT hS H1 H2 H3 H4 L1 L2 L3 L4 L5 L6 L7 L8 HTK L1'
  go_still_tail 17, (by kernel_rfl)
  have HB9 := Aside0.mk (below_drew HB.out)
  clear v1 v2 v3 HB b1 b2 hL
  change wpList _ _ _ _ _ w8.drew
  generalize w8.drew = w9 at HB9 ⊢
  go_wp2_with (first | (go_at_call 18; refine (mintagelaw13_wakes.calls true _ rfl).mono ?_; rintro e_ w10 ⟨rfl, hd_⟩; have HB10 := Aside0.mk (below_step HB9.out hd_); clear hd_))
  go_ret
  exact ⟨rfl, HB10.out⟩
end Go.Proofs.Ytobgpdmiiipmmaa.Keep
