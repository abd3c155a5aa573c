/- DigitReads, walked. -/
import Derived.Test.YtonlkffjpofpoaaReaZDigitReads
import Derived.Test.YtonlkffjpofpoaaLendZDigitReads
import Derived.Deep.QuietTactic
import Derived.BigQuiet
import Derived.Test.YtonlkffjpofpoaaQ1ZDigitReads
import Derived.Test.YtonlkffjpofpoaaQ0ZDigitReads
namespace Go.Proofs.Ytonlkffjpofpoaa.Keep
set_option linter.unusedVariables false
set_option linter.unusedSimpArgs false
open Go.RowKit Go.Proofs.Ytonlkffjpofpoaa.Q Go.Proofs.YtonlkffjpofpoaaW.PrintWords Go.Proofs.YtonlkffjpofpoaaW.PrintLast

theorem quiet_anyL {P : Program} {f : FuncId} {args : Array Value} {w : World} {n : Nat} {v : Value} (h : ∀ q, Calls P f args (w.drewN q) fun e w' => e = .returned v ∧ Drawn0 (w.drewN q) w') : Calls P f args (w.drewN n) fun e w'' => e = .returned v ∧ ∃ k, w'' = w.drewN k :=
  (h n).mono fun _ _ ⟨he, k, hk⟩ => ⟨he, n + k, by rw [hk, World.drewN_drewN]⟩
set_option maxHeartbeats 2000000 in
set_option maxRecDepth 100000 in
theorem digitReads_walk (A : Option Addr) (len c : Nat) (z : List Int) (a : Int) (w : World) (hz : (A = none ∧ len = 0 ∧ c = 0 ∧ z = []) ∨ ∃ x, A = some x ∧ len ≤ c ∧ c ≤ maxLen ∧ z.length = c ∧ (∀ i, i < z.length → w.cell? (x.add i) = some (.int .u8 (z.getD i 0))) ∧ ∀ n ∈ z, (Lit.int .u8 n).wf = true) (_ : len * 1 ≤ 140737488351232) (_ : (Lit.int .i64 a).wf = true) :
    Calls Try.prog 5 #[.slice A len c, .int .i64 a] w fun e w' => e = .returned (.bool true) ∧ Below w.heap.size w w' := by
  obtain ⟨l, rfl, hr, hm, hw, hc⟩ := ReadsInt.ofRowC hz
  have HR : Aside0 (Kd.C (Kd.int .u8) w A l.length l) := ⟨Kd.C_of_reads (readsInt_of.1 hr)⟩
  obtain ⟨ys, hys⟩ : ∃ ys, ys = l.take 4000 := ⟨_, rfl⟩
  have hyl : ys.length ≤ 4000 := by rw [hys, List.length_take]; omega
  have hyl2 : ys.length ≤ l.length := by rw [hys, List.length_take]; omega
  have hcy : ys.length ≤ c := by omega
  have HY : Aside0 (Kd.C (Kd.int .u8) w A ys.length ys) := ⟨Kd.C_of_reads (readsInt_of.1 (by
    have := reads_take hr (min 4000 l.length) (by omega)
    have e : ys = l.take (min 4000 l.length) := by rw [hys]; rcases Nat.le_total 4000 l.length with h | h
                                                   · rw [Nat.min_eq_left h]
                                                   · rw [Nat.min_eq_right h, List.take_of_length_le h, List.take_of_length_le (Nat.le_refl _)]
    rw [e]; simpa using this))⟩
  obtain ⟨k, x, o, v, e, r, s, h1, h2, h3, h4, h5, h6, h7, h8⟩ := Dig.reads (l := ys) (by omega) a (Int.tdiv (ys.length : Int) 2)
  have H1 := Aside0.mk h1
  have H2 := Aside0.mk h2
  have H3 := Aside0.mk h3
  have H4 := Aside0.mk h4
  have H5 := Aside0.mk h5
  have H6 := Aside0.mk h6
  have H7 := Aside0.mk h7
  have H8 := Aside0.mk h8
  have HYS := Aside0.mk hys
  clear h1 h2 h3 h4 h5 h6 h7 h8 hr hz hw hm hys
  go_enter Try.func5, Try.ntmps5
  go_wp2_with (first
    | (go_at_call 29; refine (mintageref04_Run.calls k A c ys (Int.tdiv (ys.length : Int) 2) s w9 L9.out.read hcy H8.out).mono ?_; rintro e_ w10 ⟨rfl, hd_⟩; have L10 := Aside0.mk (L9.out.below hd_.below); clear hd_)
    | (go_at_call 28; refine (digit_Run.calls k _ _ ys (Int.tdiv (ys.length : Int) 2) s w8 L8.out.lent.C (by omega) H7.out).mono ?_; rintro e_ w9 ⟨rfl, hd_⟩; have L9 := Aside0.mk (L8.out.below hd_.below); clear hd_)
    | (go_at_call 29; refine (mintageref04_Run.calls k A c ys a r w7 L7.out.read hcy H6.out).mono ?_; rintro e_ w8 ⟨rfl, hd_⟩; have L8 := Aside0.mk (L7.out.below hd_.below); clear hd_)
    | (go_at_call 28; refine (digit_Run.calls k _ _ ys a r w6 L6.out.lent.C (by omega) H5.out).mono ?_; rintro e_ w7 ⟨rfl, hd_⟩; have L7 := Aside0.mk (L6.out.below hd_.below); clear hd_)
    | (go_at_call 16; refine (mintagelaw04_num.calls e e w5 rfl).mono ?_; rintro e_ w6 ⟨rfl, hd_⟩; have L6 := Aside0.mk (L5.out.below hd_.below); clear hd_)
    | (go_at_call 27; refine (mintageref04_Value.calls k (fun _ => True) A c ys v e _ (L4.out.V hcy) H4.out).mono ?_; rintro e_ w5 ⟨rfl, hd_⟩; have L5 := Aside0.mk (L4.out.below hd_); clear hd_)
    | (go_at_call 26; refine (digit_Value.calls k (fun _ => True) _ _ ys v e _ L3.out.LV H3.out).mono ?_; rintro e_ w4 ⟨rfl, hd_⟩; have L4 := Aside0.mk (L3.out.below hd_); clear hd_)
    | (go_at_call 25; refine (mintageref04_Eight.calls k A c ys x o _ L2.out.read hcy H2.out).mono ?_; rintro e_ w3 ⟨rfl, hd_⟩; have L3 := Aside0.mk (L2.out.below hd_); clear hd_)
    | (go_at_call 24; refine (digit_Eight.calls _ _ ys x o _ L1.out.lent.C (by omega) H1.out).mono ?_; rintro e_ w2 ⟨rfl, hd_⟩; have L2 := Aside0.mk (L1.out.below hd_); clear hd_)
    | (go_at_call 23; refine (lv_calls _ A c ys HY.out (by omega)).mono ?_; rintro e_ w1 ⟨g, rfl, L_⟩; have L1 := Aside0.mk L_; clear L_)
    | (go_at_call 22; refine (cut_calls _ A c 4000 l HR.out hc ys HYS.out).mono ?_; rintro e_ w0 ⟨rfl, rfl⟩))
  go_loopw [14] (fun i wr => ∃ n : Nat, n ≤ ys.length ∧ i = .int .i64 (n : Int) ∧ Aside0 (Lv w wr g A ys)) (fun i _ => ys.length - (intOf i).toNat)
  case atStart => exact ⟨0, Nat.zero_le _, rfl, L10⟩
  case round =>
    obtain ⟨n, hn, rfl, L⟩ := hrel
    by_cases hlt : n < ys.length
    · by_cases h3 : n < 300
      · obtain ⟨ad1, e1, hx1⟩ := Kd.at_int L.out.lent.C (n : Int) (by omega) (by omega)
        obtain ⟨ad2, e2, hx2⟩ := Kd.at_int L.out.read (n : Int) (by omega) (by omega)
        injection e1 with e1
        subst e1
        subst e2
        simp only [Int.toNat_natCast, add_plain] at hx1 hx2
        have hi := Dig.isd_ev (rd ys (n : Int))
        obtain ⟨bo, hbo⟩ : ∃ bo, bo = decide (Dig.IsD (rd ys (n : Int))) := ⟨_, rfl⟩
        rw [← hbo] at hi
        have S1 : Aside0 (∀ q : Nat, Calls Try.prog 30 #[.int .u8 (rd ys (n : Int))] (wr.drewN q) fun e w' => e = .returned (.bool bo) ∧ Drawn0 (wr.drewN q) w') := ⟨fun q => digit_Is.calls _ bo _ hi⟩
        have S2 : Aside0 (∀ q : Nat, Calls Try.prog 31 #[.int .u8 (rd ys (n : Int))] (wr.drewN q) fun e w' => e = .returned (.bool bo) ∧ Drawn0 (wr.drewN q) w') := ⟨fun q => mintageref04_Is.calls _ bo _ hi⟩
        clear hi hbo
        have p1 := eq_true (show (0 : Int) ≤ (n : Int) by omega)
        have p2 := eq_true (show (n : Int) < (ys.length : Int) by omega)
        go_wp2_with fail
        go_quiet (first | (go_at_call 30; exact quiet_anyL S1.out) | (go_at_call 31; exact quiet_anyL S2.out))
        go_wp2_with fail
        go_roundw
        case rel => exact ⟨n + 1, by omega, by go_num, ⟨L.out.below (pw_below_drewN (Below.refl _ _) _)⟩⟩
        case measure => simp [intOf]; omega
      · skip
        go_wp2_with (first
          | (go_at_call 20; refine (mintagelaw04_wakes.calls true _ rfl).mono ?_; rintro e_ w12 ⟨rfl, hd_⟩; have L12 := Aside0.mk (below_step L11.out hd_); clear hd_)
          | (go_at_call 32; refine (L.out.back_calls hcy (by omega)).mono ?_; rintro e_ w11 ⟨rfl, hd_⟩; have L11 := Aside0.mk hd_; clear hd_))
        go_ret
        exact ⟨rfl, L12.out⟩
    · obtain rfl : n = ys.length := by omega
      go_wp2_with (first
        | (go_at_call 20; refine (mintagelaw04_wakes.calls true _ rfl).mono ?_; rintro e_ w12 ⟨rfl, hd_⟩; have L12 := Aside0.mk (below_step L11.out hd_); clear hd_)
        | (go_at_call 32; refine (L.out.back_calls hcy (by omega)).mono ?_; rintro e_ w11 ⟨rfl, hd_⟩; have L11 := Aside0.mk hd_; clear hd_))
      go_ret
      exact ⟨rfl, L12.out⟩
end Go.Proofs.Ytonlkffjpofpoaa.Keep
