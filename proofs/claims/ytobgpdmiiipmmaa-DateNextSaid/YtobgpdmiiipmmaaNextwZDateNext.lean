/- DateNext, walked. -/
import Derived.Test.YtobgpdmiiipmmaaNextZDateNext
import Derived.Test.YtobgpdmiiipmmaaLiveZDateNext
import Derived.Outline
import Derived.Deep.QuietTactic
import Derived.BigQuiet
import Derived.Test.YtobgpdmiiipmmaaQ2ZDateNext
import Derived.Test.YtobgpdmiiipmmaaQ0ZDateNext
namespace Go.Proofs.Ytobgpdmiiipmmaa.Keep
set_option linter.unusedVariables false
set_option linter.unusedSimpArgs false
open Go.RowKit Go.Proofs.Ytobgpdmiiipmmaa.Q Go.Proofs.YtobgpdmiiipmmaaW.PrintWords Go.Proofs.YtobgpdmiiipmmaaW.PrintLast
theorem piece2 (A0 : Option Addr) (c0 : Nat) (l : List Int) (a b x : Int) (w : World) (hr0 : Kd.C (Kd.int .u8) w A0 l.length l) (hc0 : l.length ≤ c0) (hl : l.length = 10) (h0 : 0 ≤ a) (h1 : b = a + 2) (h2 : b ≤ 10) (h : mintagelaw13_two.f (Cal.pc l a.toNat b.toNat) = some x) :
    ∃ A c, (∀ W : World, (Instr.slice 29 (.slice A0 10 c0) (some (.int .i64 a)) (some (.int .i64 b)) none).run Try.prog W = .ok (.slice A 2 c) W) ∧
      ∀ n, Calls Try.prog 19 #[.slice A 2 c] (w.drewN n) fun e w' => e = .returned (.int .i64 x) ∧ ∃ m, w' = (w.drewN n).drewN m := by
  obtain ⟨i0, hi0, _, hsz, _⟩ := info_parts info5
  obtain ⟨A, hcut, hA, hC⟩ := print_mid_of (P := Try.prog) (Value.int .u8) 0 29 5 .i64 .i64 Try.underlying29 hi0 hsz A0 c0 l a b h0 (by omega) (by omega) hc0
  have hz : ((l.take b.toNat).drop a.toNat).length = 2 := by rw [List.length_drop, List.length_take]; omega
  refine ⟨A, c0 - a.toNat, ?_, fun n => ?_⟩
  · intro W; have := hcut W; rw [hz, hl] at this; exact this
  · have hc := mintagelaw13_two.calls A (c0 - a.toNat) _ x (w.drewN n) (Kd.C_drewN (Kd.C_of_reads (h1 := fun _ => rfl) (hA _ (Kd.reads_of_C hr0))) n) hC h
    rw [hz] at hc
    exact hc.mono fun _ _ ⟨he, ⟨hd⟩⟩ => ⟨he, hd⟩
theorem i64_id {x : Int} (h : -9223372036854775808 ≤ x) (h' : x < 9223372036854775808) : IntKind.i64.wrap x = x := by rw [IntKind.wrap_i64]; omega
set_option maxHeartbeats 4000000 in
set_option maxRecDepth 100000 in
theorem dateNext_walk (n : Int) (w : World) (wn : (Lit.int .u64 n).wf = true) :
    Calls Try.prog 4 #[.int .u64 n] w fun e w' => e = .returned (.bool true) ∧ Below w.heap.size w w' := by
  obtain ⟨n0, n1⟩ := Dig.wf_u64w wn
  obtain ⟨k, td, tu, y1, y2, M, d, z1, z2, K, b, Ln, Y, Z, h1, h2, l1, l2, t1, t2, t3, t4, s1, s2, s3, s4, ⟨q1, q2, q3, q4⟩, ⟨p1, p2, p3, p4⟩, ⟨m1, m2⟩, ⟨d1, d2⟩, ⟨Y1, Y2⟩, hY, hZ, hLn, hcase⟩ := Cal.next n0
  have H1 := Aside0.mk h1
  have H2 := Aside0.mk h2
  have LL1 := Aside0.mk l1
  have LL2 := Aside0.mk l2
  have HL := Aside0.mk hLn
  have HC := Aside0.mk hcase
  have T1 := Aside0.mk t1
  have T2 := Aside0.mk t2
  have T3 := Aside0.mk t3
  have T4 := Aside0.mk t4
  have S1 := Aside0.mk s1
  have S2 := Aside0.mk s2
  have S3 := Aside0.mk s3
  have S4 := Aside0.mk s4
  have HY := Aside0.mk hY
  have HZ := Aside0.mk hZ
  clear h1 h2 l2 hLn hcase t1 t2 t3 t4 s1 s2 s3 s4 hY hZ wn
  have l2 := LL2.out
  go_enter Try.func4, Try.ntmps4
  go_upto_region 6 with (first
    | (go_at_call 16; refine (mintagelaw13_num.calls 0 0 w3 rfl).mono ?_; rintro e_ w4 ⟨rfl, hd_⟩; have L4 := Aside0.mk (L3.out.below hd_.below); clear hd_)
    | (go_at_call 16; refine (mintagelaw13_num.calls 0 0 w2 rfl).mono ?_; rintro e_ w3 ⟨rfl, hd_⟩; have L3 := Aside0.mk (L2.out.below hd_.below); clear hd_)
    | (go_at_call 10; refine (date_PrintDay.calls k _ tu 0 w1 H2.out).mono ?_; rintro e_ w2 ⟨v_, rfl, hR_, hB_⟩; obtain ⟨A2, c2, rfl, l2c, L_⟩ := L1.out.made hR_ hB_ ⟨by decide, by decide, by decide⟩; have L2 := Aside0.mk L_; clear hR_ hB_ L_)
    | (go_at_call 10; refine (date_PrintDay.calls k _ td 0 w H1.out).mono ?_; rintro e_ w1 ⟨v_, rfl, hR_, hB_⟩; obtain ⟨A1, c1, rfl, l1c, L_⟩ := (Rows.start w).made hR_ hB_ ⟨by decide, by decide, by decide⟩; have L1 := Aside0.mk L_; clear hR_ hB_ L_))
  have HB := Aside0.mk L4.out.bel
  obtain ⟨B1, e1, r1, n1'⟩ := piece2 A1 c1 td 0 2 y1 w4 (L4.out.C 1 rfl) l1c LL1.out (by omega) (by omega) (by omega) T1.out
  obtain ⟨B2, e2, r2, n2'⟩ := piece2 A1 c1 td 2 4 y2 w4 (L4.out.C 1 rfl) l1c LL1.out (by omega) (by omega) (by omega) T2.out
  obtain ⟨B3, e3, r3, n3'⟩ := piece2 A1 c1 td 5 7 M w4 (L4.out.C 1 rfl) l1c LL1.out (by omega) (by omega) (by omega) T3.out
  obtain ⟨B4, e4, r4, n4'⟩ := piece2 A1 c1 td 8 10 d w4 (L4.out.C 1 rfl) l1c LL1.out (by omega) (by omega) (by omega) T4.out
  have N1 := Aside0.mk n1'
  have N2 := Aside0.mk n2'
  have N3 := Aside0.mk n3'
  have N4 := Aside0.mk n4'
  have x1 : IntKind.i64.wrap (y1 * 100) = y1 * 100 := i64_id (by omega) (by omega)
  have x2 : IntKind.i64.wrap (y1 * 100 + y2) = Y := by rw [i64_id (by omega) (by omega)]; exact HY.out
  clear n1' n2' n3' n4' H1 H2 L1 L2 L3
  go_quiet (first | (go_at_call 19; with_reducible exact Calls.quiet_of (N1.out _)) | (go_at_call 19; with_reducible exact Calls.quiet_of (N2.out _)) | (go_at_call 19; with_reducible exact Calls.quiet_of (N3.out _)) | (go_at_call 19; with_reducible exact Calls.quiet_of (N4.out _)))
  clear N1 N2 N3 N4 r1 r2 r3 r4 x1 x2
  go_upto_region 7 with (fail)
  have L5 := Aside0.mk (L4.out.below (pw_below_drewN (Below.refl _ w4) nq))
  generalize w4.drewN nq = w5 at L5 ⊢
  obtain ⟨B1, e1, r1, n1'⟩ := piece2 A2 c2 tu 0 2 z1 w5 (L5.out.C 0 rfl) l2c LL2.out (by omega) (by omega) (by omega) S1.out
  obtain ⟨B2, e2, r2, n2'⟩ := piece2 A2 c2 tu 2 4 z2 w5 (L5.out.C 0 rfl) l2c LL2.out (by omega) (by omega) (by omega) S2.out
  obtain ⟨B3, e3, r3, n3'⟩ := piece2 A2 c2 tu 5 7 K w5 (L5.out.C 0 rfl) l2c LL2.out (by omega) (by omega) (by omega) S3.out
  obtain ⟨B4, e4, r4, n4'⟩ := piece2 A2 c2 tu 8 10 b w5 (L5.out.C 0 rfl) l2c LL2.out (by omega) (by omega) (by omega) S4.out
  have N1 := Aside0.mk n1'
  have N2 := Aside0.mk n2'
  have N3 := Aside0.mk n3'
  have N4 := Aside0.mk n4'
  have x1 : IntKind.i64.wrap (z1 * 100) = z1 * 100 := i64_id (by omega) (by omega)
  have x2 : IntKind.i64.wrap (z1 * 100 + z2) = Z := by rw [i64_id (by omega) (by omega)]; exact HZ.out
  have HB5 := Aside0.mk L5.out.bel
  clear n1' n2' n3' n4' L4 HB
  go_quiet (first | (go_at_call 19; with_reducible exact Calls.quiet_of (N1.out _)) | (go_at_call 19; with_reducible exact Calls.quiet_of (N2.out _)) | (go_at_call 19; with_reducible exact Calls.quiet_of (N3.out _)) | (go_at_call 19; with_reducible exact Calls.quiet_of (N4.out _)))

  have HB6 := Aside0.mk (pw_below_drewN HB5.out nq)
  have hc := HC.out
  clear N1 N2 N3 N4 r1 r2 r3 r4 x1 x2 L5 HB5 T1 T2 T3 T4 S1 S2 S3 S4 HC HY HZ LL1 LL2 l1 l2
  generalize w5.drewN nq = w6 at HB6 ⊢
  rcases hc with ⟨g1, rfl, rfl, rfl⟩ | ⟨rfl, g2, rfl, rfl, rfl⟩ | ⟨rfl, rfl, rfl, rfl, rfl, rfl⟩
  · go_wp2_with (first
      | (go_at_call 18; refine (mintagelaw13_wakes.calls true _ rfl).mono ?_; rintro e_ w8 ⟨rfl, hd_⟩; have HB8 := Aside0.mk (below_step HB7.out hd_); clear hd_)
      | (go_at_call 20; refine (date_Length.calls _ _ Ln _ HL.out).mono ?_; rintro e_ w7 ⟨rfl, hd_⟩; have HB7 := Aside0.mk (below_step HB6.out hd_); clear hd_))
    go_ret
    exact ⟨rfl, HB8.out⟩
  · go_wp2_with (first
      | (go_at_call 18; refine (mintagelaw13_wakes.calls true _ rfl).mono ?_; rintro e_ w9 ⟨rfl, hd_⟩; have HB9 := Aside0.mk (below_step HB8.out hd_); clear hd_)
      | (go_at_call 20; refine (date_Length.calls _ _ _ w7 HL.out).mono ?_; rintro e_ w8 ⟨rfl, hd_⟩; have HB8 := Aside0.mk (below_step HB7.out hd_); clear hd_)
      | (go_at_call 20; refine (date_Length.calls _ _ _ w6 HL.out).mono ?_; rintro e_ w7 ⟨rfl, hd_⟩; have HB7 := Aside0.mk (below_step HB6.out hd_); clear hd_))
    go_ret
    exact ⟨rfl, HB9.out⟩
  · go_wp2_with (first
      | (go_at_call 18; refine (mintagelaw13_wakes.calls true _ rfl).mono ?_; rintro e_ w8 ⟨rfl, hd_⟩; have HB8 := Aside0.mk (below_step HB7.out hd_); clear hd_)
      | (go_at_call 20; refine (date_Length.calls _ _ _ _ HL.out).mono ?_; rintro e_ w7 ⟨rfl, hd_⟩; have HB7 := Aside0.mk (below_step HB6.out hd_); clear hd_))
    go_ret
    exact ⟨rfl, HB8.out⟩
end Go.Proofs.Ytobgpdmiiipmmaa.Keep
