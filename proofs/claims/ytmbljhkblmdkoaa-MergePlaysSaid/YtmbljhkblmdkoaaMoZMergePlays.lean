/- MergeOrder: plainly, and walked. -/
import Derived.Test.YtmbljhkblmdkoaaMwkZMergePlays
import Derived.Test.YtmbljhkblmdkoaaMgwZMergePlays
import Derived.Laws.BitsLemmas
import Derived.Test.YtmbljhkblmdkoaaQ0ZMergePlays
namespace Go.Proofs.Ytmbljhkblmdkoaa.Mg
set_option linter.unusedVariables false
set_option linter.unusedSimpArgs false
open Go.RowKit Go.Proofs.Ytmbljhkblmdkoaa.Q Go.Proofs.YtmbljhkblmdkoaaW.PrintWords Go.Proofs.YtmbljhkblmdkoaaW.PrintLast Go.Proofs.Ytmbljhkblmdkoaa.Keep Go.Maps
theorem and63 (n : Int) : bits .and .i64 n 63 = n % 64 := by
  have h127 : (BitVec.ofInt 64 63).toNat = 2 ^ 6 - 1 := by decide
  have key : (BitVec.ofInt 64 n &&& BitVec.ofInt 64 63).toNat = (n % ((2 ^ 64 : Nat) : Int)).toNat % 2 ^ 6 := by
    rw [BitVec.toNat_and, BitVec.toNat_ofInt, h127, Nat.and_two_pow_sub_one_eq_mod]
  show IntKind.i64.wrap ((BitVec.ofInt 64 n &&& BitVec.ofInt 64 63).toNat : Nat) = n % 64
  rw [key, IntKind.wrap_i64]
  omega
theorem within_win (a : Int) (W : Nat) (hW : W ≤ 64) : ∃ t, mintagekeep_Within.f a (-1) (W : Int) = some t ∧ -1 ≤ t ∧ t ≤ W := by
  unfold mintagekeep_Within.f
  have e1 : wrap64 (wrap64 ((W : Int) - -1) + 1) = (W : Int) + 2 := by unfold wrap64; omega
  rw [e1, if_neg (by omega)]
  have b1 := Int.tmod_lt_of_pos a (show (0 : Int) < (W : Int) + 2 by omega)
  have b2 := Int.lt_tmod_of_pos a (show (0 : Int) < (W : Int) + 2 by omega)
  by_cases h : Int.tmod a ((W : Int) + 2) < 0
  · rw [if_pos h]; refine ⟨_, rfl, ?_⟩; unfold wrap64; omega
  · rw [if_neg h]; refine ⟨_, rfl, ?_⟩; unfold wrap64; omega
/-- What is put under a number. -/
def P3 (s v : Int) : Prop := v = 3 * s + 1
/-- What a Put that tells of itself does. -/
structure PS (win : Nat) (nx : Int) (f : Hd Int) (k : Nat) (p : Pu Int) : Prop where
  inn : In P3 win p.f p.nx p.k
  gone : p.f p.nx = none
  nx' : p.nx = nx + p.out.length
  told : ∀ j : Nat, ∀ v, p.out[j]? = some v → v = 3 * (nx + j) + 1
  er : (p.er = 0 ∧ p.k + p.out.length = k + 1) ∨ (p.er ≠ 0 ∧ p.out = [] ∧ p.k = k)
theorem put_step {win : Nat} (hw : 0 < win) {f : Hd Int} {nx : Int} {k : Nat} (h : In P3 win f nx k) (h0 : f nx = none) (s : Int) : PS win nx f k (put win nx f k s (3 * s + 1)) := by
  by_cases h1 : s < nx ∨ (f s).isSome = true
  · have e : put win nx f k s (3 * s + 1) = ⟨f, nx, k, [], 271⟩ := by unfold put; rw [if_pos h1]
    rw [e]
    exact ⟨h, h0, by simp, fun j v hj => by simp at hj, .inr ⟨by simp, rfl, rfl⟩⟩
  by_cases h2 : s - nx ≥ win
  · have e : put win nx f k s (3 * s + 1) = ⟨f, nx, k, [], 272⟩ := by unfold put; rw [if_neg h1, if_pos h2]
    rw [e]
    exact ⟨h, h0, by simp, fun j v hj => by simp at hj, .inr ⟨by simp, rfl, rfl⟩⟩
  have h3 : f s = none := by
    cases e : f s with
    | none => rfl
    | some v => exact absurd (.inr (by rw [e]; rfl)) h1
  obtain ⟨e, D⟩ := put_ok hw h (s := s) (v := 3 * s + 1) (by omega) (by omega) h3 rfl
  rw [e]
  exact ⟨D.rest, D.gone, D.nx', D.told, .inl ⟨rfl, by have := D.len; dsimp only; omega⟩⟩
/-- The number waited for is told at once; the ends of what is held do not rise. -/
theorem put_next {win : Nat} (hw : 0 < win) {f : Hd Int} {nx M : Int} {k : Nat} (h : In P3 win f nx k) (h0 : f nx = none) (hM : nx < M) (hf : ∀ s, f s ≠ none → s < M) :
    (put win nx f k nx (3 * nx + 1)).er = 0 ∧ 1 ≤ (put win nx f k nx (3 * nx + 1)).out.length ∧ (put win nx f k nx (3 * nx + 1)).nx ≤ M ∧ ∀ s, (put win nx f k nx (3 * nx + 1)).f s ≠ none → s < M := by
  obtain ⟨e, D⟩ := put_ok hw h (s := nx) (v := 3 * nx + 1) (Int.le_refl _) (by omega) h0 rfl
  rw [e]
  refine ⟨rfl, ?_, ?_, fun s hs => ?_⟩
  · dsimp only; rw [drain_some (upd_same f nx _)]; simp
  · dsimp only
    rcases Int.lt_or_le M (drain (k + 1) (upd f nx (some (3 * nx + 1))) nx).2.1 with q | q
    · have := D.was M (by omega) q
      rw [upd_other _ _ (by omega)] at this
      have := hf M this
      omega
    · exact q
  · have := D.at_ s
    dsimp only at hs
    rw [this] at hs
    by_cases q : s < (drain (k + 1) (upd f nx (some (3 * nx + 1))) nx).2.1
    · rw [if_pos q] at hs; exact absurd rfl hs
    · rw [if_neg q] at hs
      by_cases q2 : s = nx
      · omega
      · rw [upd_other _ _ q2] at hs; exact hf s hs
theorem some_held {P : Int → Int → Prop} {win : Nat} {f : Hd Int} {nx M : Int} {k : Nat} (h : In P win f nx k) (hk : 0 < k) (hf : ∀ s, f s ≠ none → s < M) : nx < M := by
  rcases Int.lt_or_le nx M with q | q
  · exact q
  · have := h.num
    rw [cnt_none (fun j _ => ?_)] at this
    · omega
    · cases e : f (nx + j) with
      | none => rfl
      | some v => have := hf (nx + j) (by rw [e]; simp); omega
theorem w_id {x y : Int} (h : x = y) (h2 : -1000000 ≤ y ∧ y ≤ 1000000) : wrap64 x = y := by subst h; unfold wrap64; omega
theorem w_id2 {x y : Int} (h : x = y) (h2 : -1000000 ≤ y ∧ y ≤ 1000000) : IntKind.i64.wrap x = y := by subst h; rw [IntKind.wrap_i64]; omega
set_option maxHeartbeats 4000000 in
set_option maxRecDepth 100000 in
theorem order_walk (win0 : Int) (A : Option Addr) (l : List Int) (c : Nat) (w : World) (hr : Kd.C (Kd.int .i64) w A l.length l) (hc : l.length ≤ c) (hlb : l.length < 9223372036854775807) :
    Calls Try.prog 4 #[.int .i64 win0, .slice A l.length c] w fun e w' => e = .returned (.bool true) ∧ Below w.heap.size w w' := by
  obtain ⟨W, hW⟩ : ∃ W : Nat, 1 + win0 % 64 = (W : Int) := ⟨(1 + win0 % 64).toNat, by omega⟩
  have hW1 : 1 ≤ W ∧ W ≤ 64 := by omega
  have e1 := and63 win0
  have e2 : wrap64 (1 + win0 % 64) = (W : Int) := by unfold wrap64; omega
  have e3 : IntKind.i64.wrap (1 + win0 % 64) = (W : Int) := by rw [IntKind.wrap_i64]; omega
  have HR := Aside0.mk hr
  have HW := Aside0.mk hW
  have HC := Aside0.mk hc
  clear hr hW hc
  go_enter Try.func4, Try.ntmps4
  go_upto_region 5 with (first
    | (go_at_call 8; (with_reducible refine (Ms.wakes_calls w1).mono ?_); rintro e_ w2 ⟨rfl, hb_⟩; have B2 := Aside0.mk (below_step B1.out hb_); have S2 := Aside0.mk (S1.out.below hb_); clear hb_)
    | (go_at_call 7; (with_reducible refine (numq 0 w1).mono ?_); rintro e_ w9 ⟨rfl, rfl⟩)
    | (go_at_call 6; (with_reducible refine (new_calls (W : Int) (by omega) (by omega) w).mono ?_); rintro e_ w1 ⟨g, bm, rfl, hS_, hg_, hbm_, hb_⟩; have S1 := Aside0.mk hS_; have B1 := Aside0.mk hb_; have LG := Aside0.mk hg_; have LB := Aside0.mk hbm_; clear hS_ hg_ hbm_ hb_))
  clear S1 B1 e1 e2 e3
  go_upto_region 7 with fail
  go_loopw [7, 8] (fun s7 s8 wr => ∃ (i : Nat) (nx : Int) (f : Hd Int) (k : Nat), i ≤ l.length ∧ i ≤ 400 ∧ s8 = .int .i64 i ∧ s7 = .int .i64 nx ∧ 0 ≤ nx ∧ nx + k ≤ i ∧ Aside0 (In P3 W f nx k) ∧ Aside0 (f nx = none) ∧ Aside0 (BS wr g bm i W nx f k) ∧ Aside0 (Below w.heap.size w wr)) (fun _ s8 _ => l.length - (intOf s8).toNat)
  case atStart => exact ⟨0, 0, fun _ => none, 0, Nat.zero_le _, by decide, rfl, rfl, by decide, by decide, ⟨⟨fun s v h => (by cases h), cnt_none (fun _ _ => rfl)⟩⟩, ⟨rfl⟩, S2, B2⟩
  case round =>
    obtain ⟨i, nx, f, k, hi, hi4, rfl, rfl, hn0, hnk, HI, HG, SR, BR⟩ := hrel
    clear S2 B2
    by_cases hlt : i < l.length ∧ i < 400
    · obtain ⟨ad, e, hx⟩ := Kd.at_int (Kd.C_below HR.out BR.out) (i : Int) (by omega) (by omega)
      simp only [Int.toNat_natCast] at hx
      subst e
      obtain ⟨x, hxx⟩ : ∃ x, x = rd l (i : Int) := ⟨_, rfl⟩
      rw [← hxx] at hx
      clear hxx
      obtain ⟨t, ht, ht1, ht2⟩ := within_win x W hW1.2
      have p1 := eq_true (show (i : Int) < (l.length : Int) by omega)
      have p2 := eq_true (show (i : Int) < 400 by omega)
      have p3 := eq_true (show (0 : Int) ≤ (i : Int) by omega)
      have e4 : wrap64 (nx + t) = nx + t := by unfold wrap64; omega
      have e5 : IntKind.i64.wrap (nx + t) = nx + t := by rw [IntKind.wrap_i64]; omega
      have e6 : wrap64 (3 * (nx + t)) = 3 * (nx + t) := by unfold wrap64; omega
      have e7 : IntKind.i64.wrap (3 * (nx + t)) = 3 * (nx + t) := by rw [IntKind.wrap_i64]; omega
      have e8 : wrap64 (3 * (nx + t) + 1) = 3 * (nx + t) + 1 := by unfold wrap64; omega
      have e9 : IntKind.i64.wrap (3 * (nx + t) + 1) = 3 * (nx + t) + 1 := by rw [IntKind.wrap_i64]; omega
      have wf1 : (Lit.int .i64 (nx + t)).wf = true := wf_i64 (by omega)
      have wf2 : (Lit.int .i64 (3 * (nx + t) + 1)).wf = true := wf_i64 (by omega)
      have WF1 := Aside0.mk wf1
      have WF2 := Aside0.mk wf2
      have hps := put_step (win := W) (by omega) HI.out HG.out (nx + t)
      obtain ⟨p, hp⟩ : ∃ p, p = put (W : Int) nx f k (nx + t) (3 * (nx + t) + 1) := ⟨_, rfl⟩
      rw [← hp] at hps
      have HP := Aside0.mk hp
      have HPS := Aside0.mk hps
      have NX : Aside0 (∀ n, Calls Try.prog 13 #[.pointer (some ⟨g, 0, none⟩)] (wr.drewN n) fun e w' => e = .returned (.int .i64 nx) ∧ w' = wr.drewN n) := ⟨fun n => next_calls _ (SR.out.below (pw_below_drewN (Below.refl _ _) n))⟩
      have NW : Aside0 (∀ n, Calls Try.prog 18 #[.int .i64 x, .int .i64 (-1), .int .i64 (W : Int)] (wr.drewN n) fun e w' => e = .returned (.int .i64 t) ∧ ∃ m, w' = (wr.drewN n).drewN m) := ⟨fun n => (mintagekeep_Within.calls x (-1) (W : Int) t _ ht).mono fun _ _ ⟨a, b⟩ => ⟨a, b.out⟩⟩
      clear wf1 wf2 hps hp ht
      go_upto_region 9 with fail
      go_quiet (first | (go_at_call 13; with_reducible exact Calls.quiet_of_same (NX.out _)) | (go_at_call 18; with_reducible exact Calls.quiet_of (NW.out _)))
      have S3 : Aside0 (BS (wr.drewN nq) g bm i W nx f k) := ⟨SR.out.below (pw_below_drewN (Below.refl _ _) _)⟩
      have B3 : Aside0 (Below w.heap.size w (wr.drewN nq)) := ⟨pw_below_drewN BR.out _⟩
      clear NX NW SR BR hx e4 e5 p1 p2 p3
      generalize wr.drewN nq = w3 at S3 B3 ⊢
      go_upto_region 11 with (first | (go_at_call 14; (with_reducible refine (heldq w3 g bm i W nx f k S3.out).mono ?_); rintro e_ w9 ⟨rfl, rfl⟩))
      go_upto_region 13 with (first | (go_at_call 11; (refine (put_calls w3 g bm i W nx f k S3.out (by omega) (by omega) (nx + t) (3 * (nx + t) + 1) WF1.out WF2.out).mono ?_); rw [← HP.out]; rintro e_ w5 ⟨⟨v5, rfl, hR_⟩, hS_, hC_⟩; obtain ⟨A5, c5, rfl⟩ := Kd.R_slice hR_; have R5 := Aside0.mk (Kd.R_reads' hR_).2.2; have S5 := Aside0.mk hS_; have B5 : Aside0 (Below w.heap.size w w5) := ⟨B3.out.trans (hC_.below B3.out.size (fun b hb => by have := LG.out; have := LB.out; omega))⟩; clear hR_ hS_ hC_))
      clear S3 B3 e6 e7 e8 e9 HP WF1 WF2
      obtain ⟨f', nx', k', outs, er⟩ := p
      have hnx' : nx' = nx + outs.length := HPS.out.nx'
      have hkW := HPS.out.inn.lt (by omega) HPS.out.gone
      dsimp only at hkW
      have hsum : nx' + k' ≤ nx + k + 1 := by
        rcases HPS.out.er with ⟨_, q⟩ | ⟨_, q1, q2⟩
        · dsimp only at q; omega
        · dsimp only at q1 q2
          rw [q1, List.length_nil] at hnx'
          omega
      dsimp only at S5 R5
      have HKW := Aside0.mk hkW
      have HSUM := Aside0.mk hsum
      have HNX := Aside0.mk hnx'
      clear hnx' hkW hsum
      go_loopw [7, 13] (fun s7 s13 wx => ∃ (j : Nat) (m : Int), j ≤ outs.length ∧ s13 = .int .i64 j ∧ s7 = .int .i64 m ∧ m = nx + j ∧ w5 = wx) (fun _ s13 _ => outs.length - (intOf s13).toNat)
      case atStart => exact ⟨0, nx, Nat.zero_le _, rfl, rfl, by simp, rfl⟩
      case round =>
        obtain ⟨j, m, hj, rfl, rfl, hm, rfl⟩ := hrel
        have hob : outs.length ≤ 1000 := by have := HSUM.out; have := HNX.out; omega
        by_cases hj2 : j < outs.length
        · obtain ⟨ad5, e, hy⟩ := Kd.at_int R5.out (j : Int) (by omega) (by omega)
          simp only [Int.toNat_natCast] at hy
          subst e
          have hy2 : rd outs (j : Int) = 3 * m + 1 := by
            have := HPS.out.told j outs[j] (List.getElem?_eq_getElem hj2)
            rw [hm, ← this]
            unfold rd
            rw [Int.toNat_natCast, List.getD_eq_getElem?_getD, List.getElem?_eq_getElem hj2]; rfl
          rw [hy2] at hy
          have p4 := eq_true (show (j : Int) < (outs.length : Int) by omega)
          have p5 := eq_true (show (0 : Int) ≤ (j : Int) by omega)
          have e4 : wrap64 (3 * m) = 3 * m := by unfold wrap64; omega
          have e5 : IntKind.i64.wrap (3 * m) = 3 * m := by rw [IntKind.wrap_i64]; omega
          have e6 : wrap64 (3 * m + 1) = 3 * m + 1 := by unfold wrap64; omega
          have e7 : IntKind.i64.wrap (3 * m + 1) = 3 * m + 1 := by rw [IntKind.wrap_i64]; omega
          have e8 : wrap64 (m + 1) = m + 1 := by unfold wrap64; omega
          have e9 : IntKind.i64.wrap (m + 1) = m + 1 := by rw [IntKind.wrap_i64]; omega
          have HM := Aside0.mk hm
          clear hm hy2
          go_wp2_with fail
          go_roundw
          case rel => exact ⟨j + 1, m + 1, by omega, by go_num, by first | rfl | trivial, by have := HM.out; omega, by first | rfl | trivial⟩
          case measure => simp [intOf]; omega
        · have hmm : m = nx' := by have := HNX.out; omega
          subst hmm
          have R1 : Aside0 (i + 1 ≤ l.length ∧ i + 1 ≤ 400 ∧ 0 ≤ m ∧ m + k' ≤ ((i + 1 : Nat) : Int) ∧ l.length - (i + 1) < l.length - i) := ⟨by have := HNX.out; have := HSUM.out; omega⟩
          have q4 : ¬ (j : Int) < (outs.length : Int) := by omega
          have q5 : ¬ (k' : Int) < 0 := by omega
          have q6 : ¬ (W : Int) ≤ (k' : Int) := by have := HKW.out; omega
          have q7 : -1000000 ≤ (k : Int) + 1 ∧ (k : Int) + 1 ≤ 1000000 := by omega
          have e1 := w_id (x := (i : Int) + 1) rfl (by omega)
          have HJ := Aside0.mk hm
          clear hm
          rcases HPS.out.er with ⟨her, hk1⟩ | ⟨her, ho, hk1⟩
          · dsimp only at her hk1
            subst her
            have hk2 : (k' : Int) + (outs.length : Int) = (k : Int) + 1 := by exact_mod_cast hk1
            have hk3 := q7
            have p4 := eq_false q4
            have p5 := eq_false q5
            have p6 := eq_false q6
            clear q4 q5 q6 q7
            have e2 := w_id hk2 hk3
            have e3 := w_id2 hk2 hk3
            have e4 := w_id (x := (k : Int) + 1) rfl hk3
            have e5 := w_id2 (x := (k : Int) + 1) rfl hk3
            clear hk2 hk3
            have HK1 := Aside0.mk hk1
            clear hk1
            go_wp2_with (first
              | (go_at_call 13; (with_reducible refine (nextq w5 g bm (i + 1) W m f' k' S5.out).mono ?_); rintro e_ w9 ⟨rfl, rfl⟩)
              | (go_at_call 14; (with_reducible refine (heldq w5 g bm (i + 1) W m f' k' S5.out).mono ?_); rintro e_ w9 ⟨rfl, rfl⟩)
              | (go_at_call 7; (with_reducible refine (numq 0 w5).mono ?_); rintro e_ w9 ⟨rfl, rfl⟩))
            go_roundw
            case rel => exact ⟨i + 1, m, f', k', R1.out.1, R1.out.2.1, by go_num, by first | rfl | trivial, R1.out.2.2.1, R1.out.2.2.2.1, ⟨HPS.out.inn⟩, ⟨HPS.out.gone⟩, S5, B5⟩
            case measure => clear p4 p5 p6; have := R1.out.2.2.2.2; simp [intOf]; omega
          · dsimp only at her ho hk1
            subst ho
            subst hk1
            have p4 := eq_false q4
            have p5 := eq_false q5
            have p6 := eq_false q6
            clear q4 q5 q6 q7
            have e2 : (er != 0) = true := by rw [bne_iff_ne]; exact her
            have e3 : (er == 0) = false := by rw [beq_eq_false_iff_ne]; exact her
            have HER := Aside0.mk her
            clear her
            go_wp2_with (first
              | (go_at_call 13; (with_reducible refine (nextq w5 g bm (i + 1) W m f' k' S5.out).mono ?_); rintro e_ w9 ⟨rfl, rfl⟩)
              | (go_at_call 14; (with_reducible refine (heldq w5 g bm (i + 1) W m f' k' S5.out).mono ?_); rintro e_ w9 ⟨rfl, rfl⟩)
              | (go_at_call 7; (with_reducible refine (numq er w5).mono ?_); rintro e_ w9 ⟨rfl, rfl⟩))
            go_roundw
            case rel => exact ⟨i + 1, m, f', k', R1.out.1, R1.out.2.1, by go_num, by first | rfl | trivial, R1.out.2.2.1, R1.out.2.2.2.1, ⟨HPS.out.inn⟩, ⟨HPS.out.gone⟩, S5, B5⟩
            case measure => clear p4 p5 p6; have := R1.out.2.2.2.2; simp [intOf]; omega
    · have q0 : i < l.length → ¬ (i : Int) < 400 := by omega
      go_upto_region 7 with fail
      go_cut [43] (fun v wx => v = .bool false ∧ wr = wx)
      case first =>
        by_cases h1 : i < l.length
        · have p2 := eq_false (q0 h1)
          have p1 := eq_true (show (i : Int) < (l.length : Int) by omega)
          clear q0
          go_wp2_with fail
          go_meet
          case rel => exact ⟨rfl, rfl⟩
        · have p1 := eq_false (show ¬ (i : Int) < (l.length : Int) by omega)
          clear q0
          go_wp2_with fail
          go_meet
          case rel => exact ⟨rfl, rfl⟩
      case rest =>
        obtain ⟨rfl, rfl⟩ := hcut
        clear q0
        obtain ⟨M, hM⟩ : ∃ M : Int, M = nx + W := ⟨_, rfl⟩
        go_upto_region 20 with fail
        go_loopw [7] (fun s7 wx => ∃ (m : Int) (f2 : Hd Int) (k2 n2 : Nat), s7 = .int .i64 m ∧ nx ≤ m ∧ m ≤ M ∧ (n2 : Int) + (M - m) ≤ 500 ∧ Aside0 (In P3 W f2 m k2) ∧ Aside0 (f2 m = none) ∧ Aside0 (∀ s, f2 s ≠ none → s < M) ∧ Aside0 (BS wx g bm n2 W m f2 k2) ∧ Aside0 (Below w.heap.size w wx)) (fun s7 _ => (M - intOf s7).toNat)
        case atStart => exact ⟨nx, f, k, i, rfl, Int.le_refl _, by omega, by omega, HI, HG, ⟨fun s hs => by
          cases e : f s with
          | none => exact absurd e hs
          | some v => have := HI.out.rng s v e; omega⟩, SR, BR⟩
        case round =>
          clear HI HG SR BR
          obtain ⟨m, f2, k2, n2, rfl, hm1, hm2, hn2, HI, HG, HF, SR, BR⟩ := hrel
          by_cases hk : 0 < k2
          · have hmM := some_held HI.out hk HF.out
            have hpn := put_next (win := W) (by omega) HI.out HG.out hmM HF.out
            have hps := put_step (win := W) (by omega) HI.out HG.out m
            obtain ⟨p, hp⟩ : ∃ p, p = put (W : Int) m f2 k2 m (3 * m + 1) := ⟨_, rfl⟩
            rw [← hp] at hps hpn
            have HP := Aside0.mk hp
            have HPS := Aside0.mk hps
            have HPN := Aside0.mk hpn
            have e6 : wrap64 (3 * m) = 3 * m := w_id rfl (by omega)
            have e7 : IntKind.i64.wrap (3 * m) = 3 * m := w_id2 rfl (by omega)
            have e8 : wrap64 (3 * m + 1) = 3 * m + 1 := w_id rfl (by omega)
            have e9 : IntKind.i64.wrap (3 * m + 1) = 3 * m + 1 := w_id2 rfl (by omega)
            have WF1 : Aside0 ((Lit.int .i64 m).wf = true) := ⟨wf_i64 (by omega)⟩
            have WF2 : Aside0 ((Lit.int .i64 (3 * m + 1)).wf = true) := ⟨wf_i64 (by omega)⟩
            have N1 : Aside0 (n2 < 1000000 ∧ 0 ≤ m ∧ m < 1000000) := ⟨by omega⟩
            have p1 := eq_true (show (0 : Int) < (k2 : Int) by omega)
            clear hpn hps hp
            go_upto_region 22 with (first
              | (go_at_call 11; (refine (put_calls wr g bm n2 W m f2 k2 SR.out N1.out.1 N1.out.2 m (3 * m + 1) WF1.out WF2.out).mono ?_); rw [← HP.out]; rintro e_ w5 ⟨⟨v5, rfl, hR_⟩, hS_, hC_⟩; obtain ⟨A5, c5, rfl⟩ := Kd.R_slice hR_; have R5 := Aside0.mk (Kd.R_reads' hR_).2.2; have S5 := Aside0.mk hS_; have B5 : Aside0 (Below w.heap.size w w5) := ⟨BR.out.trans (hC_.below BR.out.size (fun b hb => by have := LG.out; have := LB.out; omega))⟩; clear hR_ hS_ hC_)
              | (go_at_call 13; (with_reducible refine (nextq wr g bm n2 W m f2 k2 SR.out).mono ?_); rintro e_ w9 ⟨rfl, rfl⟩)
              | (go_at_call 14; (with_reducible refine (heldq wr g bm n2 W m f2 k2 SR.out).mono ?_); rintro e_ w9 ⟨rfl, rfl⟩))
            clear SR BR e6 e7 e8 e9 HP WF1 WF2 p1 N1
            obtain ⟨f', nx', k', outs, er⟩ := p
            have hnx' : nx' = m + outs.length := HPS.out.nx'
            obtain ⟨her, hout, hle, hfm⟩ := HPN.out
            dsimp only at her hout hle S5 R5
            subst her
            have HFM := Aside0.mk hfm
            have HNX := Aside0.mk hnx'
            have h22 : ((outs.length : Int) == 0) = false := by rw [beq_eq_false_iff_ne]; omega
            have R1 : Aside0 (nx ≤ nx' ∧ nx' ≤ M ∧ ((n2 + 1 : Nat) : Int) + (M - nx') ≤ 500 ∧ outs.length ≤ 1000 ∧ (M - nx').toNat < (M - m).toNat) := ⟨by omega⟩
            clear hfm hnx' hout hle hk
            go_upto_region 25 with (first
              | (go_at_call 7; (with_reducible refine (numq 0 w5).mono ?_); rintro e_ w9 ⟨rfl, rfl⟩))
            clear h22
            go_loopw [7, 16] (fun s7 s16 wx => ∃ (j : Nat) (x : Int), j ≤ outs.length ∧ s16 = .int .i64 j ∧ s7 = .int .i64 x ∧ x = m + j ∧ w5 = wx) (fun _ s16 _ => outs.length - (intOf s16).toNat)
            case atStart => exact ⟨0, m, Nat.zero_le _, rfl, rfl, by simp, rfl⟩
            case round =>
              obtain ⟨j, x, hj, rfl, rfl, hx, rfl⟩ := hrel
              have hob : outs.length ≤ 1000 := R1.out.2.2.2.1
              by_cases hj2 : j < outs.length
              · obtain ⟨ad5, e, hy⟩ := Kd.at_int R5.out (j : Int) (by omega) (by omega)
                simp only [Int.toNat_natCast] at hy
                subst e
                have hy2 : rd outs (j : Int) = 3 * x + 1 := by
                  have := HPS.out.told j outs[j] (List.getElem?_eq_getElem hj2)
                  rw [hx, ← this]
                  unfold rd
                  rw [Int.toNat_natCast, List.getD_eq_getElem?_getD, List.getElem?_eq_getElem hj2]; rfl
                rw [hy2] at hy
                have e4 : wrap64 (3 * x) = 3 * x := w_id rfl (by omega)
                have e5 : IntKind.i64.wrap (3 * x) = 3 * x := w_id2 rfl (by omega)
                have e6 : wrap64 (3 * x + 1) = 3 * x + 1 := w_id rfl (by omega)
                have e7 : IntKind.i64.wrap (3 * x + 1) = 3 * x + 1 := w_id2 rfl (by omega)
                have e8 : wrap64 (x + 1) = x + 1 := w_id rfl (by omega)
                have e9 : IntKind.i64.wrap (x + 1) = x + 1 := w_id2 rfl (by omega)
                have HM : Aside0 (x + 1 = m + ((j + 1 : Nat) : Int) ∧ j + 1 ≤ outs.length) := ⟨by omega⟩
                have p4 := eq_true (show (j : Int) < (outs.length : Int) by omega)
                have p5 := eq_true (show (0 : Int) ≤ (j : Int) by omega)
                clear hx hy2
                go_wp2_with fail
                go_roundw
                case rel => exact ⟨j + 1, x + 1, HM.out.2, by go_num, by first | rfl | trivial, HM.out.1, by first | rfl | trivial⟩
                case measure => clear p4 p5; simp [intOf]; omega
              · have hxx : x = nx' := by have := HNX.out; omega
                subst hxx
                have p4 := eq_false (show ¬ (j : Int) < (outs.length : Int) by omega)
                clear hx
                go_wp2_with fail
                go_roundw
                case rel => exact ⟨x, f', k', n2 + 1, rfl, R1.out.1, R1.out.2.1, R1.out.2.2.1, ⟨HPS.out.inn⟩, ⟨HPS.out.gone⟩, HFM, S5, B5⟩
                case measure => clear p4; have := R1.out.2.2.2.2; simp [intOf]; omega
          · have p1 := eq_false (show ¬ (0 : Int) < (k2 : Int) by omega)
            go_wp2_with (first
              | (go_at_call 13; (with_reducible refine (nextq wr g bm n2 W m f2 k2 SR.out).mono ?_); rintro e_ w9 ⟨rfl, rfl⟩)
              | (go_at_call 14; (with_reducible refine (heldq wr g bm n2 W m f2 k2 SR.out).mono ?_); rintro e_ w9 ⟨rfl, rfl⟩))
            go_ret
            exact ⟨rfl, BR.out⟩
end Go.Proofs.Ytmbljhkblmdkoaa.Mg
