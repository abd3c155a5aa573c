/- DateReads, walked. -/
import Derived.Test.YtobgpdmiiipmmaaRdgZDateParts
import Derived.Test.YtobgpdmiiipmmaaLendZDateParts
import Derived.Test.YtobgpdmiiipmmaaQ0ZDateParts
import Derived.Test.YtobgpdmiiipmmaaQ2ZDateParts
import Derived.Test.YtobgpdmiiipmmaaQ1ZDateParts
namespace Go.Proofs.Ytobgpdmiiipmmaa.Cal
open Go.RowKit Go.Proofs.Ytobgpdmiiipmmaa.Q Go.Proofs.Ytobgpdmiiipmmaa.Dig Go.Proofs.YtobgpdmiiipmmaaW.PrintWords Go.Proofs.YtobgpdmiiipmmaaW.PrintLast
theorem leap_any (y : Int) : ∃ b, date_Leap.f y = some b ∧ mintageref13_Leap.f y = some b := by
  have e : mintageref13_Leap.f y = date_Leap.f y := rfl
  rw [e]
  unfold date_Leap.f
  repeat' split
  all_goals exact ⟨_, rfl, rfl⟩
theorem length_any (y m : Int) : ∃ n, date_Length.f y m = some n ∧ Ev (fun k => mintageref13_Length.f k y m) n := by
  by_cases h : y < 0 ∨ y > 9999 ∨ m < 1 ∨ m > 12
  · exact ⟨0, length_no h, rlength_no h⟩
  · obtain ⟨n, rfl⟩ : ∃ n : Nat, m = (n : Int) + 1 := ⟨(m - 1).toNat, by omega⟩
    exact ⟨_, length_ok (by omega) (by omega) (by omega), rlength_ok (by omega) (by omega) (by omega)⟩
theorem reads (l : List Int) (hl : l.length < 9223372036854775807) (y m : Int) : ∃ k a1 a2 a3 b1 b2 b3 lp n, date_Day.f k l = some (a1, a2, a3) ∧ mintageref13_Day.f k l = some (a1, a2, a3) ∧ date_Moment.f k l = some (b1, b2, b3) ∧ mintageref13_Moment.f k l = some (b1, b2, b3) ∧
    date_Leap.f y = some lp ∧ mintageref13_Leap.f y = some lp ∧ date_Length.f y m = some n ∧ mintageref13_Length.f k y m = some n := by
  obtain ⟨K1, h1⟩ := day_ev l
  obtain ⟨K2, h2⟩ := rday_ev l hl
  obtain ⟨K3, h3⟩ := moment_ev l hl
  obtain ⟨K4, h4⟩ := rmoment_ev l hl
  obtain ⟨lp, h5, h6⟩ := leap_any y
  obtain ⟨n, h7, K8, h8⟩ := length_any y m
  exact ⟨K1 + K2 + K3 + K4 + K8, _, _, _, _, _, _, lp, n, h1 _ (by omega), h2 _ (by omega), h3 _ (by omega), h4 _ (by omega), h5, h6, h7, h8 _ (by omega)⟩
end Go.Proofs.Ytobgpdmiiipmmaa.Cal
namespace Go.Proofs.Ytobgpdmiiipmmaa.Keep
set_option linter.unusedVariables false
set_option linter.unusedSimpArgs false
open Go.RowKit Go.Proofs.Ytobgpdmiiipmmaa.Q Go.Proofs.YtobgpdmiiipmmaaW.PrintWords Go.Proofs.YtobgpdmiiipmmaaW.PrintLast
set_option maxHeartbeats 2000000 in
set_option maxRecDepth 100000 in
theorem dateReads_walk (A : Option Addr) (len c : Nat) (z : List Int) (y m : Int) (w : World) (hz : (A = none ∧ len = 0 ∧ c = 0 ∧ z = []) ∨ ∃ x, A = some x ∧ len ≤ c ∧ c ≤ maxLen ∧ z.length = c ∧ (∀ i, i < z.length → w.cell? (x.add i) = some (.int .u8 (z.getD i 0))) ∧ ∀ n ∈ z, (Lit.int .u8 n).wf = true) (hsz : len * 1 ≤ 140737488351232) (_ : (Lit.int .i64 y).wf = true) (_ : (Lit.int .i64 m).wf = true) :
    Calls Try.prog 7 #[.slice A len c, .int .i64 y, .int .i64 m] w fun e w' => e = .returned (.bool true) ∧ Below w.heap.size w w' := by
  obtain ⟨l, rfl, hr, hm, hw, hc⟩ := ReadsInt.ofRowC hz
  have HR : Aside0 (Kd.C (Kd.int .u8) w A l.length l) := ⟨Kd.C_of_reads (readsInt_of.1 hr)⟩
  have hl : l.length ≤ 140737488351232 := by omega
  obtain ⟨k, a1, a2, a3, b1, b2, b3, lp, n, h1, h2, h3, h4, h5, h6, h7, h8⟩ := Cal.reads l (by omega) y m
  have H1 := Aside0.mk h1
  have H2 := Aside0.mk h2
  have H3 := Aside0.mk h3
  have H4 := Aside0.mk h4
  have H5 := Aside0.mk h5
  have H6 := Aside0.mk h6
  have H7 := Aside0.mk h7
  have H8 := Aside0.mk h8
  clear h1 h2 h3 h4 h5 h6 h7 h8 hr hz hw hm
  go_enter Try.func7, Try.ntmps7
  go_wp2_with (first
    | (go_at_call 18; refine (mintagelaw13_wakes.calls true _ rfl).mono ?_; rintro e_ w13 ⟨rfl, hd_⟩; have L13 := Aside0.mk (below_step L12.out hd_); clear hd_)
    | (go_at_call 29; refine (L11.out.back_calls hc (by omega)).mono ?_; rintro e_ w12 ⟨rfl, hd_⟩; have L12 := Aside0.mk hd_; clear hd_)
    | (go_at_call 28; refine (mintageref13_Length.calls k y m n _ H8.out).mono ?_; rintro e_ w11 ⟨rfl, hd_⟩; have L11 := Aside0.mk (L10.out.below hd_.below); clear hd_)
    | (go_at_call 20; refine (date_Length.calls y m n _ H7.out).mono ?_; rintro e_ w10 ⟨rfl, hd_⟩; have L10 := Aside0.mk (L9.out.below hd_); clear hd_)
    | (go_at_call 27; refine (mintageref13_Leap.calls y lp _ H6.out).mono ?_; rintro e_ w9 ⟨rfl, hd_⟩; have L9 := Aside0.mk (L8.out.below hd_.below); clear hd_)
    | (go_at_call 21; refine (date_Leap.calls y lp _ H5.out).mono ?_; rintro e_ w8 ⟨rfl, hd_⟩; have L8 := Aside0.mk (L7.out.below hd_.below); clear hd_)
    | (go_at_call 16; refine (mintagelaw13_num.calls b3 b3 w6 rfl).mono ?_; rintro e_ w7 ⟨rfl, hd_⟩; have L7 := Aside0.mk (L6.out.below hd_.below); clear hd_)
    | (go_at_call 16; refine (mintagelaw13_num.calls a3 a3 w5 rfl).mono ?_; rintro e_ w6 ⟨rfl, hd_⟩; have L6 := Aside0.mk (L5.out.below hd_.below); clear hd_)
    | (go_at_call 26; refine (mintageref13_Moment.calls k A c l b1 b2 b3 _ L4.out.read hc H4.out).mono ?_; rintro e_ w5 ⟨rfl, hd_⟩; have L5 := Aside0.mk (L4.out.below hd_); clear hd_)
    | (go_at_call 25; refine (date_Moment.calls k _ _ l b1 b2 b3 _ L3.out.lent.C (by omega) H3.out).mono ?_; rintro e_ w4 ⟨rfl, hd_⟩; have L4 := Aside0.mk (L3.out.below hd_); clear hd_)
    | (go_at_call 24; refine (mintageref13_Day.calls k A c l a1 a2 a3 _ L2.out.read hc H2.out).mono ?_; rintro e_ w3 ⟨rfl, hd_⟩; have L3 := Aside0.mk (L2.out.below hd_); clear hd_)
    | (go_at_call 23; refine (date_Day.calls k _ _ l a1 a2 a3 _ L1.out.lent.C (by omega) H1.out).mono ?_; rintro e_ w2 ⟨rfl, hd_⟩; have L2 := Aside0.mk (L1.out.below hd_); clear hd_)
    | (go_at_call 22; refine (lv_calls _ A c l HR.out (by omega)).mono ?_; rintro e_ w1 ⟨g, rfl, L_⟩; have L1 := Aside0.mk L_; clear L_))
  go_ret
  exact ⟨rfl, L13.out⟩
end Go.Proofs.Ytobgpdmiiipmmaa.Keep
