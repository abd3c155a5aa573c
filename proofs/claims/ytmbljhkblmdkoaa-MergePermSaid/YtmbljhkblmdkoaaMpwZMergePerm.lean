/- MergePerm, walked. -/
import Derived.Test.YtmbljhkblmdkoaaMqZMergePerm
import Derived.Test.YtmbljhkblmdkoaaIrZMergePerm
import Derived.StillTailTactics
namespace Go.Proofs.Ytmbljhkblmdkoaa.Mg
set_option linter.unusedVariables false
set_option linter.unusedSimpArgs false
open Go.RowKit Go.Proofs.Ytmbljhkblmdkoaa.Q Go.Proofs.YtmbljhkblmdkoaaW.PrintWords Go.Proofs.YtmbljhkblmdkoaaW.PrintLast Go.Proofs.Ytmbljhkblmdkoaa.Keep Go.Maps
theorem within_to (a : Int) (n : Nat) (hn : n < 1000000) : ∃ m : Nat, mintagekeep_Within.f a 0 (n : Int) = some (m : Int) ∧ m ≤ n := by
  unfold mintagekeep_Within.f
  have e1 : wrap64 (wrap64 ((n : Int) - 0) + 1) = (n : Int) + 1 := by unfold wrap64; omega
  rw [e1, if_neg (by omega)]
  have b1 := Int.tmod_lt_of_pos a (show (0 : Int) < (n : Int) + 1 by omega)
  have b2 := Int.lt_tmod_of_pos a (show (0 : Int) < (n : Int) + 1 by omega)
  by_cases h : Int.tmod a ((n : Int) + 1) < 0
  · rw [if_pos h]
    refine ⟨(Int.tmod a ((n : Int) + 1) + (n + 1)).toNat, ?_, by omega⟩
    congr 1
    unfold wrap64; omega
  · rw [if_neg h]
    refine ⟨(Int.tmod a ((n : Int) + 1)).toNat, ?_, by omega⟩
    congr 1
    unfold wrap64; omega
theorem div_in {q W m : Nat} (hm : m < W) : (q * W + m) / W = q := by rw [Nat.mul_comm, Nat.mul_add_div (by omega), Nat.div_eq_of_lt hm, Nat.add_zero]
theorem w_both {x y : Int} (h : x = y) (h2 : -1000000 ≤ y ∧ y ≤ 1000000) : wrap64 x = y ∧ IntKind.i64.wrap x = y := ⟨w_id h h2, w_id2 h h2⟩
/-- The row's cells, if it has any. -/
def OV (B : Nat) (W : World) (A : Option Addr) (o : List Int) : Prop := 0 < o.length → ∃ g, A = some ⟨g, 0, none⟩ ∧ B ≤ g ∧ IR .i64 3 W g o
theorem OV.below {B : Nat} {W W' : World} {A : Option Addr} {o : List Int} (h : OV B W A o) (hb : Below W.heap.size W W') : OV B W' A o := fun h0 => by
  obtain ⟨g, e, h1, h2⟩ := h h0
  exact ⟨g, e, h1, h2.below hb h2.lt⟩
theorem OV.chg {B : Nat} {ok : Nat → Prop} {W W' : World} {A : Option Addr} {o : List Int} (h : OV B W A o) (hc : Chg ok W W') (hok : ∀ b, ok b → b < B) : OV B W' A o := fun h0 => by
  obtain ⟨g, e, h1, h2⟩ := h h0
  exact ⟨g, e, h1, h2.keep (hc.block g h2.lt (fun q => by have := hok g q; omega))⟩
set_option maxHeartbeats 8000000 in
set_option maxRecDepth 100000 in
theorem perm_walk (win0 n0 : Int) (A : Option Addr) (l : List Int) (c : Nat) (w : World) (hr : Kd.C (Kd.int .i64) w A l.length l) (hc : l.length ≤ c) (hlb : l.length < 9223372036854775807) :
    Calls Try.prog 5 #[.int .i64 win0, .int .i64 n0, .slice A l.length c] w fun e w' => e = .returned (.bool true) ∧ Below w.heap.size w w' := by
  obtain ⟨W, hW⟩ : ∃ W : Nat, 1 + win0 % 64 = (W : Int) := ⟨(1 + win0 % 64).toNat, by omega⟩
  have hW1 : 1 ≤ W ∧ W ≤ 64 := by omega
  obtain ⟨n, hn, hn2⟩ := within_to n0 200 (by decide)
  have e1 := and63 win0
  have e2 : wrap64 (1 + win0 % 64) = (W : Int) := by unfold wrap64; omega
  have e3 : IntKind.i64.wrap (1 + win0 % 64) = (W : Int) := by rw [IntKind.wrap_i64]; omega
  have HR := Aside0.mk hr
  have HW := Aside0.mk hW
  have HC := Aside0.mk hc
  have HN : Aside0 (mintagekeep_Within.f n0 0 200 = some (n : Int)) := ⟨hn⟩
  clear hr hW hc hn
  go_enter Try.func5, Try.ntmps5
  go_upto_region 6 with (first
    | (go_at_call 8; (with_reducible refine (Ms.wakes_calls w1).mono ?_); rintro e_ w2 ⟨rfl, hb_⟩; have B2 := Aside0.mk (below_step B1.out hb_); have S2 := Aside0.mk (S1.out.below hb_); clear hb_)
    | (go_at_call 7; (with_reducible refine (numq 0 w1).mono ?_); rintro e_ w9 ⟨rfl, rfl⟩)
    | (go_at_call 6; (with_reducible refine (new_calls (W : Int) (by omega) (by omega) w0).mono ?_); rintro e_ w1 ⟨g, bm, rfl, hS_, hg_, hbm_, hb_⟩; have S1 := Aside0.mk hS_; have B1 := Aside0.mk (below_step B0.out hb_); have LG := Aside0.mk (Nat.le_trans B0.out.size hg_); have LB := Aside0.mk (Nat.le_trans B0.out.size hbm_); clear hS_ hg_ hbm_ hb_)
    | (go_at_call 18; (with_reducible refine (mintagekeep_Within.calls n0 0 200 (n : Int) w HN.out).mono ?_); rintro e_ w0 ⟨rfl, hd_⟩; have B0 := Aside0.mk hd_.below; clear hd_))
  have G2 := Aside0.mk S2.out.lt
  clear S1 B1 B0 e1 e2 e3 HN
  go_upto_region 8 with fail
  go_loopw [9, 10] (fun s9 s10 wr => ∃ i : Nat, i ≤ n ∧ s10 = .int .i64 i ∧ (∃ A c, s9 = .slice A i c) ∧ Aside0 (Kd.R (Kd.int .i64) 3 wr w2.heap.size (fun _ => True) s9 (iota i)) ∧ Aside0 (Below w2.heap.size w2 wr)) (fun _ s10 _ => n - (intOf s10).toNat)
  case atStart => exact ⟨0, Nat.zero_le _, rfl, ⟨none, 0, rfl⟩, ⟨Kd.R_nil _ _ _ _ _⟩, ⟨Below.refl _ _⟩⟩
  case round =>
    obtain ⟨i, hi, rfl, ⟨A9, c9, rfl⟩, R9, B9⟩ := hrel
    by_cases hlt : i < n
    · have q1 : (i : Int) < (n : Int) := by omega
      have E0 := Aside0.mk (w_both (x := (i : Int) + 1) rfl (by omega))
      have LL : Aside0 (((iota i).length + 1) * 8 ≤ 140737488355328) := ⟨by rw [iota_len]; omega⟩
      have R1 : Aside0 (i + 1 ≤ n ∧ n - (i + 1) < n - i) := ⟨by omega⟩
      have p1 := eq_true q1
      obtain ⟨e1, e1'⟩ := E0.out
      go_wp2_with (first
        | (at_builtin; go_must (refine Kd.R_append (Kd.int .i64) (w0 := w2) w2.heap.size rfl (.tmp 46) (.tmp 48) 29 3 (.int .i64 0) 8 rfl Try.underlying29 info3 rfl (by decide) (by omega) (.slice A9 i c9) (iota i) (i : Int) [.int .i64 (i : Int)] (fun _ => True) (fun _ => False) rfl rfl ?aP (fun _ hk => hk.elim) (fun _ _ => trivial) R9.out B9.out (below_size B9.out) LL.out ?_; (case aP => rfl); intro v8 wA ho_ hb_ hg_ hat; rw [← iota_succ] at ho_; obtain ⟨A8, c8, rfl⟩ := Kd.R_slice ho_; rw [iota_len] at ho_; rw [iota_len]; have RA := Aside0.mk ho_; have BA := Aside0.mk hb_; clear ho_ hb_ hg_ hat)))
      go_roundw
      case rel =>
        exact ⟨i + 1, R1.out.1, by go_num, ⟨A8, c8, rfl⟩, RA, BA⟩
      case measure => clear p1 e1 e1'; have := R1.out.2; simp [intOf]; omega
    · have hin : i = n := by omega
      subst hin
      have p1 := eq_false (show ¬ (i : Int) < (i : Int) by omega)
      have V9 : Aside0 (OV w2.heap.size wr A9 (iota i)) := ⟨fun h0 => by
        obtain ⟨g', cap, e, h1, h2, _⟩ := IR.of_R R9.out (List.length_pos_iff.1 h0)
        injection e with e1 e2 e3
        exact ⟨g', e1, h1, h2⟩⟩
      clear R9
      go_upto_region 12 with fail
      clear p1
      go_loopw [11] (fun s11 wx => ∃ (q : Nat) (o : List Int), q * W ≤ 300 ∧ s11 = .int .i64 ((q * W : Nat) : Int) ∧ Aside0 (Sh W i o) ∧ Aside0 (OV w2.heap.size wx A9 o) ∧ Aside0 (Below w2.heap.size w2 wx)) (fun s11 _ => 300 - (intOf s11).toNat)
      case atStart => exact ⟨0, iota i, by omega, by rw [Nat.zero_mul]; rfl, ⟨Sh.iota W i⟩, V9, B9⟩
      case round =>
        clear V9 B9
        obtain ⟨q, o, hq, rfl, HS, HV, HB⟩ := hrel
        obtain ⟨Q, hQ⟩ : ∃ Q : Nat, Q = q * W := ⟨_, rfl⟩
        rw [← hQ] at hq ⊢
        have HQ := Aside0.mk hQ
        clear hQ
        have E1 := Aside0.mk (w_both (x := (Q : Int) + 1) rfl (by omega))
        by_cases hlt2 : Q + 1 < i
        · have E2 := Aside0.mk (w_both (x := (Q : Int) + (W : Int)) (y := ((Q + W : Nat) : Int)) (by omega) (by omega))
          have E3 := Aside0.mk (w_both (x := (W : Int) - 1) (y := ((W - 1 : Nat) : Int)) (by omega) (by omega))
          have R1 : Aside0 (Q + W ≤ 300 ∧ 300 - (Q + W) < 300 - Q) := ⟨by omega⟩
          have q1 : (Q : Int) + 1 < (i : Int) := by omega
          have p1 := eq_true q1
          obtain ⟨e1, e1'⟩ := E1.out
          go_upto_region 15 with fail
          clear p1 q1 e1 e1'
          go_loopw [12] (fun s12 wx => ∃ (j : Nat) (o' : List Int), j ≤ l.length ∧ j ≤ W ∧ s12 = .int .i64 j ∧ Aside0 (Sh W i o') ∧ Aside0 (OV w2.heap.size wx A9 o') ∧ Aside0 (Below w2.heap.size w2 wx)) (fun s12 _ => l.length - (intOf s12).toNat)
          case atStart => exact ⟨0, o, Nat.zero_le _, Nat.zero_le _, rfl, HS, HV, HB⟩
          case round =>
            clear HS HV HB
            obtain ⟨j, o', hj, hjW, rfl, HS, HV, HB⟩ := hrel
            by_cases hlt4 : j < l.length ∧ j < W
            · have HBw : Aside0 (Below w.heap.size w wr) := ⟨B2.out.trans (HB.out.mono B2.out.size)⟩
              obtain ⟨ad, e, hx⟩ := Kd.at_int (Kd.C_below HR.out HBw.out) (j : Int) (by omega) (by omega)
              simp only [Int.toNat_natCast] at hx
              subst e
              obtain ⟨x, hxx⟩ : ∃ x, x = rd l (j : Int) := ⟨_, rfl⟩
              rw [← hxx] at hx
              obtain ⟨m, hm, hmW⟩ := within_to x (W - 1) (by omega)
              have HM := Aside0.mk hm
              obtain ⟨X, hX⟩ : ∃ X : Nat, X = Q + m := ⟨_, rfl⟩
              obtain ⟨Y, hY⟩ : ∃ Y : Nat, Y = Q + j := ⟨_, rfl⟩
              have E4 := Aside0.mk (w_both (x := (Q : Int) + (m : Int)) (y := (X : Int)) (by omega) (by omega))
              have E5 := Aside0.mk (w_both (x := (Q : Int) + (j : Int)) (y := (Y : Int)) (by omega) (by omega))
              have E6 := Aside0.mk (w_both (x := (j : Int) + 1) rfl (by omega))
              have R2 : Aside0 (j + 1 ≤ l.length ∧ j + 1 ≤ W ∧ l.length - (j + 1) < l.length - j) := ⟨by omega⟩
              have HXB : Aside0 (X / W = Y / W) := ⟨by rw [hX, hY, HQ.out, div_in (by omega), div_in (by omega)]⟩
              have q1 : (j : Int) < (l.length : Int) := by omega
              have q2 : (j : Int) < (W : Int) := by omega
              have q3 : (0 : Int) ≤ (j : Int) := by omega
              clear hxx hm hX hY
              by_cases hXY : X < i ∧ Y < i
              · have hol : o'.length = i := HS.out.len
                obtain ⟨g', e, hge, hir⟩ := HV.out (by omega)
                subst e
                have HIR := Aside0.mk hir
                have HGE := Aside0.mk hge
                have q4 : (X : Int) < (i : Int) := by omega
                have q5 : (Y : Int) < (i : Int) := by omega
                have q6 : (0 : Int) ≤ (X : Int) := by omega
                have q7 : (0 : Int) ≤ (Y : Int) := by omega
                have HXL : Aside0 (X < o'.length ∧ Y < o'.length ∧ X < i ∧ Y < i) := ⟨by omega⟩
                have p1 := eq_true q1
                have p2 := eq_true q2
                have p3 := eq_true q3
                have p4 := eq_true q4
                have p5 := eq_true q5
                have p6 := eq_true q6
                have p7 := eq_true q7
                obtain ⟨e3, e3'⟩ := E3.out
                obtain ⟨e4, e4'⟩ := E4.out
                obtain ⟨e5, e5'⟩ := E5.out
                clear q1 q2 q3 q4 q5 q6 q7 hir hge hol
                go_upto_region 20 with (first
                  | (go_at_call 18; (with_reducible refine (mintagekeep_Within.calls x 0 ((W - 1 : Nat) : Int) (m : Int) wr HM.out).mono ?_); rintro e_ w3 ⟨rfl, hd_⟩; have H3 := Aside0.mk (HIR.out.below hd_.below HIR.out.lt); have B3 := Aside0.mk (below_step HB.out hd_.below); clear hd_))
                clear hx HIR HB HV
                obtain ⟨ox, hox⟩ : ∃ ox, ox = o'.getD X 0 := ⟨_, rfl⟩
                obtain ⟨oy, hoy⟩ : ∃ oy, oy = o'.getD Y 0 := ⟨_, rfl⟩
                have x0 := H3.out.cell HXL.out.1
                have y0 := H3.out.cell HXL.out.2.1
                rw [← hox] at x0
                rw [← hoy] at y0
                have x1 := H3.out.frozen X
                have y1 := H3.out.frozen Y
                have I1 := Aside0.mk (H3.out.put HXL.out.1 oy)
                have z1 := I1.out.cell (j := Y) (by rw [List.length_set]; exact HXL.out.2.1)
                have z2 := I1.out.frozen Y
                have ey : (o'.set X oy).getD Y 0 = oy := by
                  by_cases hq : X = Y
                  · rw [hq, List.getD_eq_getElem?_getD, List.getElem?_set_self HXL.out.2.1]; rfl
                  · rw [List.getD_eq_getElem?_getD, List.getElem?_set_ne hq, ← List.getD_eq_getElem?_getD]; exact hoy.symm
                rw [ey] at z1
                have HOX := Aside0.mk hox
                have HOY := Aside0.mk hoy
                clear ey hox hoy
                go_region
                clear x0 y0 x1 y1 z1 z2 p1 p2 p3 p4 p5 p6 p7 e3 e3' e4 e4' e5 e5'
                obtain ⟨e6, e6'⟩ := E6.out
                go_wp2_with fail
                go_roundw
                case rel => exact ⟨j + 1, (o'.set X oy).set Y ox, R2.out.1, R2.out.2.1, by go_num, ⟨by rw [HOX.out, HOY.out]; exact HS.out.swap HXL.out.2.2.1 HXL.out.2.2.2 HXB.out⟩, ⟨fun _ => ⟨g', rfl, HGE.out, (I1.out.put (by rw [List.length_set]; exact HXL.out.2.1) ox).keep rfl⟩⟩, ⟨((B3.out.setCell HGE.out _).setCell HGE.out _).drew⟩⟩
                case measure => clear e6 e6'; have := R2.out.2.2; simp [intOf]; omega
              · have q4 : X < i → ¬ (Y : Int) < (i : Int) := by omega
                have p1 := eq_true q1
                have p2 := eq_true q2
                have p3 := eq_true q3
                by_cases hXi : X < i
                · have q5 := q4 hXi
                  have q6 : (X : Int) < (i : Int) := by exact_mod_cast hXi
                  have p4 := eq_true q6
                  have p5 := eq_false q5
                  obtain ⟨e3, e3'⟩ := E3.out
                  obtain ⟨e4, e4'⟩ := E4.out
                  obtain ⟨e5, e5'⟩ := E5.out
                  obtain ⟨e6, e6'⟩ := E6.out
                  clear q1 q2 q3 q4 q5 q6
                  go_wp2_with (first
                    | (go_at_call 18; (with_reducible refine (mintagekeep_Within.calls x 0 ((W - 1 : Nat) : Int) (m : Int) wr HM.out).mono ?_); rintro e_ w3 ⟨rfl, hd_⟩; have V3 := Aside0.mk (HV.out.below hd_.below); have B3 := Aside0.mk (below_step HB.out hd_.below); clear hd_))
                  go_roundw
                  case rel => exact ⟨j + 1, o', R2.out.1, R2.out.2.1, by go_num, HS, V3, B3⟩
                  case measure => clear e3 e3' e4 e4' e5 e5' e6 e6' p1 p2 p3 p4 p5; have := R2.out.2.2; simp [intOf]; omega
                · have q6 : ¬ (X : Int) < (i : Int) := by exact_mod_cast hXi
                  have p4 := eq_false q6
                  obtain ⟨e3, e3'⟩ := E3.out
                  obtain ⟨e4, e4'⟩ := E4.out
                  obtain ⟨e5, e5'⟩ := E5.out
                  obtain ⟨e6, e6'⟩ := E6.out
                  clear q1 q2 q3 q4 q6
                  go_wp2_with (first
                    | (go_at_call 18; (with_reducible refine (mintagekeep_Within.calls x 0 ((W - 1 : Nat) : Int) (m : Int) wr HM.out).mono ?_); rintro e_ w3 ⟨rfl, hd_⟩; have V3 := Aside0.mk (HV.out.below hd_.below); have B3 := Aside0.mk (below_step HB.out hd_.below); clear hd_))
                  go_roundw
                  case rel => exact ⟨j + 1, o', R2.out.1, R2.out.2.1, by go_num, HS, V3, B3⟩
                  case measure => clear e3 e3' e4 e4' e5 e5' e6 e6' p1 p2 p3 p4; have := R2.out.2.2; simp [intOf]; omega
            · have q0 : j < l.length → ¬ (j : Int) < (W : Int) := by omega
              have hQW : ((Q + W : Nat) : Int) = (((q + 1) * W : Nat) : Int) := by have := HQ.out; rw [Nat.add_mul]; omega
              have HQW : Aside0 ((q + 1) * W ≤ 300 ∧ ((Q + W : Nat) : Int) = (((q + 1) * W : Nat) : Int)) := ⟨by have := R1.out.1; omega, hQW⟩
              clear hQW
              by_cases hjl : j < l.length
              · have q1 := q0 hjl
                have q2 : (j : Int) < (l.length : Int) := by omega
                have p1 := eq_true q2
                have p2 := eq_false q1
                obtain ⟨e2, e2'⟩ := E2.out
                clear q0 q1 q2
                go_wp2_with fail
                go_roundw
                case rel => exact ⟨q + 1, o', HQW.out.1, by first | (rw [← HQW.out.2]; done) | (rw [← HQW.out.2]; rfl) | (rw [← HQW.out.2]; push_cast; rfl), HS, HV, HB⟩
                case measure => clear p1 p2 e2 e2'; have := R1.out.2; simp [intOf]; omega
              · have q2 : ¬ (j : Int) < (l.length : Int) := by omega
                have p1 := eq_false q2
                obtain ⟨e2, e2'⟩ := E2.out
                clear q0 q2
                go_wp2_with fail
                go_roundw
                case rel => exact ⟨q + 1, o', HQW.out.1, by first | (rw [← HQW.out.2]; done) | (rw [← HQW.out.2]; rfl) | (rw [← HQW.out.2]; push_cast; rfl), HS, HV, HB⟩
                case measure => clear p1 e2 e2'; have := R1.out.2; simp [intOf]; omega
        · have q1 : ¬ (Q : Int) + 1 < (i : Int) := by omega
          have BW : Aside0 (Below w.heap.size w wr) := ⟨B2.out.trans (HB.out.mono B2.out.size)⟩
          have SW := Aside0.mk (S2.out.below HB.out)
          have p1 := eq_false q1
          obtain ⟨e1, e1'⟩ := E1.out
          go_upto_region 23 with fail
          clear p1 q1 e1 e1'
          go_loopw [15, 16] (fun s15 s16 wx => ∃ (j : Nat) (nx : Int) (f : Hd Int) (k : Nat), j ≤ i ∧ s16 = .int .i64 j ∧ s15 = .int .i64 nx ∧ 0 ≤ nx ∧ nx + k ≤ j ∧ Aside0 (Pm W i o j nx f k) ∧ Aside0 (BS wx g bm j W nx f k) ∧ Aside0 (OV w2.heap.size wx A9 o) ∧ Aside0 (Below w.heap.size w wx)) (fun _ s16 _ => i - (intOf s16).toNat)
          case atStart => exact ⟨0, 0, fun _ => none, 0, Nat.zero_le _, rfl, rfl, by decide, by decide, ⟨Pm.start W i o⟩, SW, HV, BW⟩
          case round =>
            clear HB HV SW BW
            obtain ⟨j, nx, f, k, hj, rfl, rfl, hn0, hnk, HP, SR, HV, BR⟩ := hrel
            by_cases hlt6 : j < i
            · have hol : o.length = i := HS.out.len
              obtain ⟨g', e, hge, hir⟩ := HV.out (by omega)
              subst e
              obtain ⟨s, hs⟩ : ∃ s, s = o.getD j 0 := ⟨_, rfl⟩
              obtain ⟨sv, hsv, hsn, -⟩ := HS.out.blk j hlt6
              have hsb : 0 ≤ s ∧ s < 200 := by omega
              have x0 := hir.cell (j := j) (by omega)
              rw [← hs] at x0
              obtain ⟨hp1, hp2, hp3, hp4, hp5⟩ := HP.out.step (by omega) HS.out hlt6
              rw [← hs] at hp1 hp2 hp3 hp4 hp5
              obtain ⟨p, hp⟩ : ∃ p, p = put (W : Int) nx f k s s := ⟨_, rfl⟩
              rw [← hp] at hp1 hp2 hp3 hp4 hp5
              have HPP := Aside0.mk hp
              have HP3 := Aside0.mk hp3
              have HP5 := Aside0.mk hp5
              have WF1 : Aside0 ((Lit.int .i64 s).wf = true) := ⟨wf_i64 (by omega)⟩
              have NB : Aside0 (j < 1000000 ∧ 0 ≤ nx ∧ nx < 1000000) := ⟨by omega⟩
              have E7 := Aside0.mk (w_both (x := (j : Int) + 1) rfl (by omega))
              have R3 : Aside0 (j + 1 ≤ i ∧ i - (j + 1) < i - j) := ⟨by omega⟩
              have q1 : (j : Int) < (i : Int) := by omega
              have q2 : (0 : Int) ≤ (j : Int) := by omega
              have p1 := eq_true q1
              have p2 := eq_true q2
              clear hs hsv hsn hir hp hp3 hp5 q1 q2 hol
              go_upto_region 25 with fail
              obtain ⟨f', nx', k', outs, er⟩ := p
              dsimp only at hp1 hp2 hp4
              subst hp1
              have R6 : Aside0 (0 ≤ nx' ∧ nx' + k' ≤ ((j + 1 : Nat) : Int) ∧ outs.length ≤ 1000 ∧ nx' = nx + outs.length ∧ (outs.length : Int) + nx ≤ 1000) := ⟨by omega⟩
              clear hp2 hp4
              have HP3' : Aside0 (∀ a : Nat, ∀ v, outs[a]? = some v → v = nx + a) := ⟨HP3.out⟩
              clear HP3
              go_cut [17, 18] (fun v17 v18 wx => ∃ A5 c5, v17 = .slice A5 outs.length c5 ∧ v18 = .int .i64 0 ∧ Aside0 (Kd.C (Kd.int .i64) wx A5 outs.length outs) ∧ Aside0 (BS wx g bm (j + 1) W nx' f' k') ∧ Aside0 (OV w2.heap.size wx (some ⟨g', 0, none⟩) o) ∧ Aside0 (Below w.heap.size w wx))
              case first =>
                have S3 : Aside0 (BS wr.drew g bm j W nx f k) := ⟨SR.out.below (below_drew (Below.refl _ _))⟩
                have V3 : Aside0 (OV w2.heap.size wr.drew (some ⟨g', 0, none⟩) o) := ⟨HV.out.below (below_drew (Below.refl _ _))⟩
                have B3 : Aside0 (Below w.heap.size w wr.drew) := ⟨below_drew BR.out⟩
                clear SR HV BR
                go_region_with (go_at_call 11; go_must ((refine (put_calls wr.drew g bm j W nx f k S3.out NB.out.1 NB.out.2 s s WF1.out WF1.out).mono ?_); rw [← HPP.out]; rintro e_ w5 ⟨⟨v5, rfl, hR_⟩, hS_, hC_⟩; obtain ⟨A5, c5, rfl⟩ := Kd.R_slice hR_; have R5 := Aside0.mk (Kd.R_reads' hR_).2.2; have S5 := Aside0.mk hS_; have V5 := Aside0.mk (V3.out.chg hC_ (fun b hb => by have := G2.out; omega)); have B5 : Aside0 (Below w.heap.size w w5) := ⟨B3.out.trans (hC_.below B3.out.size (fun b hb => by have := LG.out; have := LB.out; omega))⟩; clear hR_ hS_ hC_))
                all_goals
                  go_wp2_with fail
                  go_meet
                  case rel => exact ⟨A5, c5, rfl, rfl, R5, S5, V5, B5⟩
              case rest =>
                obtain ⟨A5, c5, rfl, rfl, R5, S5, V5, B5⟩ := hcut
                clear SR HV BR x0 p1 p2 WF1 NB HPP
                go_upto_region 29 with (first
                  | (go_at_call 7; (with_reducible refine (numq 0 wc).mono ?_); rintro e_ w9 ⟨rfl, rfl⟩))
                go_loopw [15, 19] (fun s15 s19 wx => ∃ (a : Nat) (x : Int), a ≤ outs.length ∧ s19 = .int .i64 a ∧ s15 = .int .i64 x ∧ x = nx + a ∧ wc = wx) (fun _ s19 _ => outs.length - (intOf s19).toNat)
                case atStart => exact ⟨0, nx, Nat.zero_le _, rfl, rfl, by simp, rfl⟩
                case round =>
                  obtain ⟨a, x, ha, rfl, rfl, hx, rfl⟩ := hrel
                  have hob : outs.length ≤ 1000 := R6.out.2.2.1
                  have hob2 : (outs.length : Int) + nx ≤ 1000 := R6.out.2.2.2.2
                  by_cases ha2 : a < outs.length
                  · obtain ⟨ad5, e, hy⟩ := Kd.at_int R5.out (a : Int) (by omega) (by omega)
                    simp only [Int.toNat_natCast] at hy
                    subst e
                    have hy2 : rd outs (a : Int) = x := by
                      have := HP3'.out a outs[a] (List.getElem?_eq_getElem ha2)
                      rw [hx, ← this]
                      unfold rd
                      rw [Int.toNat_natCast, List.getD_eq_getElem?_getD, List.getElem?_eq_getElem ha2]; rfl
                    rw [hy2] at hy
                    have E8 := Aside0.mk (w_both (x := x + 1) rfl (by omega))
                    have E9 := Aside0.mk (w_both (x := (a : Int) + 1) rfl (by omega))
                    have R8 : Aside0 (a + 1 ≤ outs.length ∧ x + 1 = nx + ((a + 1 : Nat) : Int) ∧ outs.length - (a + 1) < outs.length - a) := ⟨by omega⟩
                    have q1 : (a : Int) < (outs.length : Int) := by omega
                    have q2 : (0 : Int) ≤ (a : Int) := by omega
                    have p1 := eq_true q1
                    have p2 := eq_true q2
                    obtain ⟨e8, e8'⟩ := E8.out
                    obtain ⟨e9, e9'⟩ := E9.out
                    clear q1 q2 hx hy2
                    go_wp2_with fail
                    go_roundw
                    case rel => exact ⟨a + 1, x + 1, R8.out.1, by go_num, by first | rfl | trivial, R8.out.2.1, by first | rfl | trivial⟩
                    case measure => clear e8 e8' e9 e9' p1 p2; have := R8.out.2.2; simp [intOf]; omega
                  · have hxx : x = nx' := by have := R6.out.2.2.2.1; omega
                    subst hxx
                    have q1 : ¬ (a : Int) < (outs.length : Int) := by omega
                    have p1 := eq_false q1
                    obtain ⟨e7, e7'⟩ := E7.out
                    clear q1 hx
                    go_wp2_with fail
                    go_roundw
                    case rel => exact ⟨j + 1, x, f', k', R3.out.1, by go_num, rfl, R6.out.1, R6.out.2.1, HP5, S5, V5, B5⟩
                    case measure => clear e7 e7' p1; have := R3.out.2; simp [intOf]; omega
            · have hji : j = i := by omega
              subst hji
              obtain ⟨hnx, hk0⟩ := HP.out.end HS.out
              subst hk0
              subst hnx
              have q1 : ¬ (j : Int) < (j : Int) := by omega
              have p1 := eq_false q1
              clear q1
              go_wp2_with (first
                | (go_at_call 13; (with_reducible refine (nextq wr g bm j W (j : Int) f 0 SR.out).mono ?_); rintro e_ w9 ⟨rfl, rfl⟩)
                | (go_at_call 14; (with_reducible refine (heldq wr g bm j W (j : Int) f 0 SR.out).mono ?_); rintro e_ w9 ⟨rfl, rfl⟩))
              go_ret
              exact ⟨rfl, BR.out⟩
end Go.Proofs.Ytmbljhkblmdkoaa.Mg
