/- AuditJudges, walked. -/
import Derived.Test.YtbjoinocajobhaaRnZAuditJudges
import Derived.Test.YtbjoinocajobhaaOpsZAuditJudges
import Derived.Test.YtbjoinocajobhaaBkiZAuditJudges
import Derived.Test.YtbjoinocajobhaaPlwZAuditJudges
import Derived.Test.YtbjoinocajobhaaQ0ZAuditJudges
import Derived.Test.YtbjoinocajobhaaQ1ZAuditJudges
namespace Go.Proofs.Ytbjoinocajobhaa.Ju
set_option linter.unusedVariables false
set_option linter.unusedSimpArgs false
open Go.RowKit Go.Proofs.Ytbjoinocajobhaa.Q Go.Proofs.YtbjoinocajobhaaW.PrintWords Go.Proofs.YtbjoinocajobhaaW.PrintLast Go.Proofs.Ytbjoinocajobhaa.Keep Go.Maps
theorem elI : El 3 := ⟨by decide, by decide, by decide⟩
theorem kMj {base : Nat} {okp : Nat → Prop} {W w : World} (x : S32) (cs : List Value) (h : k32.K w x cs) : k32.M W base okp x cs := by
  have := k32_open h
  subst this
  exact k32_mkM _ _ _ x
theorem ints_samej (l : List Int) (hl : l.length < 1000000) : Ev (fun k => mintagekeep_Ints.f k l l) true := by
  have loop : ∀ (d i : Nat), i + d = l.length → Ev (fun k => mintagekeep_Ints.l0 k l l (i : Int)) true := by
    intro d
    induction d with
    | zero =>
      intro i hi
      refine Ev.step (fun k => by simp only [mintagekeep_Ints.l0]; rfl) ?_
      simp only [if_neg (show ¬ (i : Int) < (l.length : Int) by omega)]
      exact Ev.now _
    | succ d ih =>
      intro i hi
      refine Ev.step (fun k => by simp only [mintagekeep_Ints.l0]; rfl) ?_
      simp only [if_pos (show (i : Int) < (l.length : Int) by omega), if_pos (show (0 : Int) ≤ (i : Int) by omega), if_true]
      rw [show wrap64 ((i : Int) + 1) = ((i + 1 : Nat) : Int) by unfold wrap64; omega]
      exact ih (i + 1) (by omega)
  unfold mintagekeep_Ints.f
  simp only [if_true]
  exact loop l.length 0 (by omega)
theorem num_callsj (e : Int) (w : World) : Calls Try.prog 14 #[.int .i64 e] w fun e_ w' => e_ = .returned (.int .i64 e) ∧ Drawn0 w w' := mintagelaw31_num.calls e e w rfl
theorem comp_len : ∀ (n : Nat) {l : List S32} {m : Nat} {q : Qs} {r : List Int}, comp n l m q = some r → r.length ≤ n
  | 0, l, m, q, r, h => by
    unfold comp at h
    split at h
    · injection h with h; subst h; exact Nat.le_refl _
    · cases h
  | n + 1, l, m, q, r, h => by
    unfold comp at h
    split at h
    · injection h with h; subst h; exact Nat.zero_le _
    · obtain ⟨i, _, hi⟩ := List.exists_of_findSome?_eq_some h
      obtain ⟨q', _, hq⟩ := Option.bind_eq_some_iff.1 hi
      obtain ⟨r', hr, e⟩ := Option.map_eq_some_iff.1 hq
      subst e
      have := comp_len n hr
      simp only [List.length_cons]; omega
theorem judge_len (l : List S32) : (judgeF l).1.length ≤ 14 := by
  unfold judgeF
  split
  · exact Nat.zero_le _
  · rename_i hl
    split
    · exact Nat.zero_le _
    · split
      · rename_i o ho
        exact Nat.le_trans (comp_len _ ho) (Nat.le_trans (free_le 0 _) (by omega))
      · exact Nat.zero_le _
theorem rows_livej {w W : World} {l : List Ent} (h : Keep.Rows w W l) : Live w (W.alloc (.cells #[.slice none 0 0, .slice none 0 0, .slice none 0 0, .slice none 0 0, .slice none 0 0, .slice none 0 0] 38)) (fun j => j = W.heap.size) W.heap.size l :=
  ⟨h.below (below_alloc (Below.refl _ _) _), Bk.new W _ h.bel.size, fun i p hp _ j hj e => by
    have := own_lt (h.own i p hp) j hj
    omega⟩
set_option maxHeartbeats 4000000 in
set_option maxRecDepth 100000 in
theorem judges_walk (A : Option Addr) (l : List S32) (c : Nat) (w : World) (hr : Kd.C k32 w A l.length l) (hc : l.length ≤ c) (_ : ∀ y ∈ l, WfS y) :
    Calls Try.prog 3 #[.slice A l.length c] w fun e w' => e = .returned (.bool true) ∧ Below w.heap.size w w' := by
  have CR := Aside0.mk hr
  clear hr
  go_enter Try.func3, Try.ntmps3
  go_upto_if 17 with fail
  go_cut [0] from 15 to 19 (fun s0 wx => ∃ m : List S32, s0 = .slice A m.length c ∧ m.length ≤ 20 ∧ m.length ≤ c ∧ Aside0 (Kd.C k32 w A m.length m) ∧ wx = w)
  case first =>
    by_cases h : 20 < l.length
    · have p1 := eq_true (show (20 : Int) < (l.length : Int) by omega)
      have q1 := eq_true (show (20 : Int) ≤ (c : Int) by omega)
      have hm := C_take CR.out 20 (by omega)
      have hl : (l.take 20).length = 20 := by rw [List.length_take]; omega
      have HM := Aside0.mk hm
      have HL := Aside0.mk hl
      clear hm hl
      go_wp2_with fail
      go_meet
      case rel => exact ⟨l.take 20, by rw [HL.out], by rw [HL.out]; omega, by rw [HL.out]; omega, HM, rfl⟩
    · have p1 := eq_false (show ¬ ((20 : Int) < (l.length : Int)) by omega)
      go_wp2_with fail
      go_meet
      case rel => exact ⟨l, rfl, by omega, hc, CR, rfl⟩
  case rest =>
    obtain ⟨l, rfl, hm1, hm2, CM, rfl⟩ := hcut
    clear CR
    obtain ⟨⟨o, ok, er⟩, hj⟩ : ∃ r, judgeF l = r := ⟨_, rfl⟩
    have hol := judge_len l
    rw [hj] at hol
    have HJ := Aside0.mk hj
    have HOL : Aside0 (o.length ≤ 14) := ⟨hol⟩
    obtain ⟨KI, hKI⟩ := ints_samej o (by have := HOL.out; omega)
    have HKI : Aside0 (mintagekeep_Ints.f KI o o = some true) := ⟨hKI KI (Nat.le_refl _)⟩
    have LX : Aside0 ((([] : List S32).length + l.length) * 40 ≤ 140737488355328) := ⟨by simp; omega⟩
    have G0 := Aside0.mk (Keep.Rows.start wc)
    have hu32 := Try.underlying32
    clear hj hol hKI
    go_upto_region 4 with (first
      | ((with_reducible refine gate_builtin (b := .append) (xs := #[.tmp 20, .tmp 21]) rfl ?_); at_builtin; go_must (refine Kd.R_append_rows k32 (w0 := wc) wc.heap.size rfl (.tmp 20) (.tmp 21) 22 32 _ 40 rfl Try.underlying22 info32 rfl (by decide) (by omega) vla ([] : List S32) l _ _ _ (fun _ => True) (fun _ => False) rfl rfl HOa.out HCa.out kMj (fun _ hk => hk.elim) (fun _ _ => trivial) HLa.out (below_size HLa.out) LX.out ?_; intro v3 w3 ho_ hb_ hg_ hat_; rw [List.nil_append] at ho_; obtain ⟨A3, c3, e3⟩ := Kd.R_slice ho_; subst e3; have C3 := Aside0.mk (Kd.R_reads' ho_).2.2; have l3 := (Kd.R_reads' ho_).2.1; have B3 := Aside0.mk hb_; have G3 := Aside0.mk (G0.out.below hb_); clear ho_ hb_ hg_ hat_))
      | ((with_reducible refine gate_dst (N := 20) rfl ?_); go_must (refine Kd.R_lit k32 wc.heap.size 32 ?hg (N := 20) ?hd (xs := ([] : List S32)) (inner := ([] : List Value)) (ok := fun _ => True) (okp := fun _ => True) ?hr ?hp (fun _ hk => hk) trivial (Below.refl wc.heap.size wc) (Nat.le_refl _) (by simp) ?_; (case hd => rfl); (case hg => rfl); (case hr => first | (go_simp; done) | (go_simp; rfl)); (case hp => exact (Reps.none _ _)); intro vla wla ho_ hb_ hg_ hnew_; have HOa := Aside0.mk ho_; have HLa := Aside0.mk hb_; have HCa := Aside0.mk (Kd.C_below CM.out hb_); clear ho_ hb_ hg_ hnew_)))
    go_upto_region 5 with (go_at_call 11; go_must (refine (judge_calls w3 A3 c3 l C3.out).mono ?_; rintro e_ w4 ⟨v4, rfl, hR_, hd_⟩; rw [HJ.out] at hR_; rw [HJ.out]; obtain ⟨A4, c4, rfl, l4, G_⟩ := G3.out.made hR_ hd_ elI; have G4 := Aside0.mk G_; have C4 := Aside0.mk (Kd.C_below C3.out hd_); have B4 := Aside0.mk (below_step B3.out hd_); clear hR_ hd_ G_))
    go_upto_region 6 with (go_at_call 12; go_must (refine (refJudge_calls w4 A c l (Kd.C_below CM.out B4.out)).mono ?_; rintro e_ w5 ⟨v5, rfl, hR_, hd_⟩; rw [HJ.out] at hR_; rw [HJ.out]; obtain ⟨A5, c5, rfl⟩ := Kd.R_slice hR_; have D5 := Aside0.mk (Kd.R_reads' hR_).2.2; have l5 := (Kd.R_reads' hR_).2.1; have G5 := Aside0.mk (G4.out.below hd_); have C5 := Aside0.mk (Kd.C_below C4.out hd_); have B5 := Aside0.mk (below_step B4.out hd_); clear hR_ hd_))
    go_upto_region 7 with (go_at_call 11; go_must (refine (judge_calls w5 A3 c3 l C5.out).mono ?_; rintro e_ w6 ⟨v6, rfl, hR_, hd_⟩; rw [HJ.out] at hR_; rw [HJ.out]; obtain ⟨A6, c6, rfl, l6, G_⟩ := G5.out.made hR_ hd_ elI; have G6 := Aside0.mk G_; have C6 := Aside0.mk (Kd.C_below C5.out hd_); have D6 := Aside0.mk (Kd.C_below D5.out hd_); have B6 := Aside0.mk (below_step B5.out hd_); clear hR_ hd_ G_))
    go_upto_region 10 with (first
      | (go_at_call 14; go_must ((with_reducible refine (num_callsj er w7).mono ?_); rintro e_ w8 ⟨rfl, hd_⟩; have G8 := Aside0.mk (G7.out.below hd_.below); have C8 := Aside0.mk (Kd.C_below C7.out hd_.below); have B8 := Aside0.mk (below_step B7.out hd_.below); clear hd_))
      | (go_at_call 13; go_must ((with_reducible refine (mintagekeep_Ints.calls KI A4 c4 o A5 c5 o true w6 (G6.out.C 1 rfl) l4 D6.out l5 HKI.out).mono ?_); rintro e_ w7 ⟨rfl, hd_⟩; have G7 := Aside0.mk (G6.out.below hd_.below); have C7 := Aside0.mk (Kd.C_below C6.out hd_.below); have B7 := Aside0.mk (below_step B6.out hd_.below); clear hd_)))
    clear G7 C7 B7 G6 C6 D6 B6 G5 C5 D5 B5 G4 C4 B4 G3 C3 B3 G0 HOa HLa HCa LX HKI
    go_loopw [13] (fun s13 wr => ∃ i : Nat, i ≤ l.length ∧ s13 = .int .i64 (i : Int) ∧ Aside0 (Keep.Rows wc wr [⟨3, .i64, .slice A6 o.length c6, o, true⟩, ⟨3, .i64, .slice A4 o.length c4, o, true⟩]) ∧ Aside0 (Kd.C k32 wr A3 l.length l) ∧ Aside0 (Below wc.heap.size wc wr)) (fun s13 _ => l.length - (intOf s13).toNat)
    case atStart => exact ⟨0, Nat.zero_le _, rfl, G8, C8, B8⟩
    case round =>
      obtain ⟨i, hi, rfl, G9, C9, B9⟩ := hrel
      clear G8 C8 B8
      by_cases hlt : i < l.length
      · obtain ⟨ad, e, x0, x1, x2, x3, x4⟩ := span_at C9.out (Below.refl _ _) hlt
        subst e
        obtain ⟨ae, e', y0, y1, y2, y3, y4⟩ := span_at CM.out B9.out hlt
        subst e'
        have p1 := eq_true (show (0 : Int) ≤ (i : Int) by omega)
        have p2 := eq_true (show (i : Int) < (l.length : Int) by omega)
        go_upto_region 12 with fail
        go_quiet (fail)
        go_wp2_with fail
        go_roundw
        case rel => exact ⟨i + 1, by omega, by go_num, ⟨G9.out.below (pw_below_drewN (Below.refl _ _) _)⟩, ⟨Kd.C_below C9.out (pw_below_drewN (Below.refl _ _) _)⟩, ⟨pw_below_drewN B9.out _⟩⟩
        case measure => simp [intOf]; omega
      · obtain rfl : i = l.length := by omega
        have p2 := eq_false (show ¬ ((l.length : Int) < (l.length : Int)) by omega)
        have L9 := Aside0.mk (rows_livej G9.out)
        have hsz : o.length ≤ 10000000000000 := by have := HOL.out; omega
        have HSZ := Aside0.mk hsz
        clear hsz
        go_upto_region 16 with (first
          | (go_at_call 15; go_must (refine (L9.out.ints_calls 1 (A := A4) (c := c4) (xs := o) rfl HSZ.out).mono ?_; rintro e_ w10 ⟨rfl, ok10, L_⟩; have L10 := Aside0.mk L_; clear L_)))
        go_upto_region 17 with (first
          | (go_at_call 15; go_must (refine (L10.out.ints_calls 0 (A := A6) (c := c6) (xs := o) rfl HSZ.out).mono ?_; rintro e_ w11 ⟨rfl, ok11, L_⟩; have L11 := Aside0.mk L_; clear L_)))
        go_wp2_with (first
          | (go_at_call 17; refine (wakes_calls w12).mono ?_; rintro e_ w13 ⟨rfl, hd_⟩; have L13 := Aside0.mk (L12.out.below hd_); clear hd_)
          | (go_at_call 16; refine L11.out.close_calls.mono ?_; rintro e_ w12 ⟨rfl, L_⟩; have L12 := Aside0.mk L_; clear L_))
        go_ret
        exact ⟨rfl, L13.out.bel⟩
end Go.Proofs.Ytbjoinocajobhaa.Ju
