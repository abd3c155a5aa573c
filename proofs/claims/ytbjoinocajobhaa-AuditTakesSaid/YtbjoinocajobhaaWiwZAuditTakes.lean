/- AuditWitness, walked. -/
import Derived.Test.YtbjoinocajobhaaWiZAuditTakes
import Derived.Test.YtbjoinocajobhaaPlwZAuditTakes
import Derived.Deep.OwnRows
import Derived.Test.YtbjoinocajobhaaQ0ZAuditTakes
namespace Go.Proofs.Ytbjoinocajobhaa.Ju
set_option linter.unusedVariables false
set_option linter.unusedSimpArgs false
open Go.RowKit Go.Proofs.Ytbjoinocajobhaa.Q Go.Proofs.YtbjoinocajobhaaW.PrintWords Go.Proofs.YtbjoinocajobhaaW.PrintLast
theorem infoBool : (Try.prog.info? 4).map (fun i => (i.zero, i.size, i.bytes)) = some (some (.bool false), 1, 1) := by kernel_rfl
theorem num_calls (e : Int) (w : World) : Calls Try.prog 14 #[.int .i64 e] w fun e_ w' => e_ = .returned (.int .i64 e) ∧ Drawn0 w w' := mintagelaw31_num.calls e e w rfl
/-- The state of the law's queue and what has been seen. -/
structure Wt (w1 W : World) (sb g n m : Nat) (q : Qs) : Prop where
  seen : W.rowIs sb 4 n (fun k => .bool (m.testBit k))
  que : IsS44 w1 W g q.i q.o q.cl q.ca
  below : Below w1.heap.size w1 W
  lo : w1.heap.size ≤ sb
  ne : sb ≠ g
theorem Wt.mark {w1 W : World} {sb g n m : Nat} {q : Qs} (h : Wt w1 W sb g n m q) (k : Nat) : Wt w1 (W.setCell ⟨sb, k, none⟩ (.bool true)) sb g n (m ||| 2 ^ k) q :=
  ⟨(h.seen.set k (.bool true)).congr (fun i hi => by
      rw [testBit_set]
      by_cases e : i = k
      · rw [if_pos e, decide_eq_true e.symm, Bool.or_true]
      · rw [if_neg e, decide_eq_false (fun x => e x.symm), Bool.or_false]),
    ⟨(Below.heap_setCell _ _ _ _ (fun e => h.ne e.symm)).trans h.que.1, h.que.2⟩, h.below.setCell h.lo _, h.lo, h.ne⟩
theorem Wt.took {w1 W W' : World} {sb g n m : Nat} {q q' : Qs} (h : Wt w1 W sb g n m q) (hi : IsS44 w1 W' g q'.i q'.o q'.cl q'.ca) (hb : Below w1.heap.size w1 W') (hk : KeepBut W W' g none) : Wt w1 W' sb g n m q' :=
  ⟨h.seen.of_block (hk.2 sb h.seen.lt h.ne (by simp)), hi, hb, h.lo, h.ne⟩
set_option maxHeartbeats 4000000 in
set_option maxRecDepth 100000 in
theorem witness_walk (A : Option Addr) (l : List S32) (c : Nat) (w : World) (hr : Kd.C k32 w A l.length l) (hc : l.length ≤ c) (_ : ∀ y ∈ l, WfS y) :
    Calls Try.prog 4 #[.slice A l.length c] w fun e w' => e = .returned (.bool true) ∧ Below w.heap.size w w' := by
  have CR := Aside0.mk hr
  clear hr
  go_enter Try.func4, Try.ntmps4
  go_upto_if 17 with fail
  go_cut [0] from 15 to 19 (fun s0 wx => ∃ m : List S32, s0 = .slice A m.length c ∧ m.length ≤ 14 ∧ m.length ≤ c ∧ Aside0 (Kd.C k32 w A m.length m) ∧ wx = w)
  case first =>
    by_cases h : 14 < l.length
    · have p1 := eq_true (show (14 : Int) < (l.length : Int) by omega)
      have q1 := eq_true (show (14 : Int) ≤ (c : Int) by omega)
      have hm := C_take CR.out 14 (by omega)
      have hl : (l.take 14).length = 14 := by rw [List.length_take]; omega
      have HM := Aside0.mk hm
      have HL := Aside0.mk hl
      clear hm hl
      go_wp2_with fail
      go_meet
      case rel => exact ⟨l.take 14, by rw [HL.out], by rw [HL.out]; omega, by rw [HL.out]; omega, HM, rfl⟩
    · have p1 := eq_false (show ¬ ((14 : Int) < (l.length : Int)) by omega)
      go_wp2_with fail
      go_meet
      case rel => exact ⟨l, rfl, by omega, hc, CR, rfl⟩
  case rest =>
    obtain ⟨l, rfl, hm1, hm2, CM, rfl⟩ := hcut
    clear CR
    rcases judge_cases l with ⟨o, hj⟩ | ⟨er, hj⟩
    · have HPA := Aside0.mk (judge_path hj)
      have HJ := Aside0.mk hj
      clear hj
      go_upto_region 6 with (first
        | (go_at_call 14; go_must (refine (num_calls 0 w1).mono ?_; rintro e_ w2 ⟨rfl, hd_⟩; have B2 := Aside0.mk (hd_.below); clear hd_))
        | (go_at_call 11; go_must (refine (judge_calls wc A c l CM.out).mono ?_; rintro e_ w1 ⟨v1, rfl, ho_, hd_⟩; rw [HJ.out] at ho_; rw [HJ.out]; obtain ⟨A1, c1, rfl⟩ := Kd.R_slice ho_; have C1 := Aside0.mk (Kd.R_reads' ho_).2.2; have B1 := Aside0.mk hd_; clear ho_ hd_)))
      have C2 := Aside0.mk (Kd.C_below C1.out B2.out)
      have B12 := Aside0.mk (below_step B1.out B2.out)
      have hol : o.length ≤ 9223372036854775807 := C2.out.2.1
      clear C1 B1 B2 HJ
      have hmk := run_make_row' (P := Try.prog) 42 4 (.bool false) 1 Try.underlying42 infoBool rfl .i64 .i64 l.length (by omega) (by omega)
      go_upto_region 8 with fail
      have HWT : Aside0 (Wt w2 ((w2.alloc (.cells (madeCells #[.bool false] l.length) 4)).alloc (.cells #[.int .i64 0, .int .i64 0, .bool false, .bool false] 44)) w2.heap.size (w2.heap.size + 1) l.length 0 qq0) :=
        ⟨⟨((World.rowIs_made w2 (.bool false) l.length 4).alloc _).congr (fun i hi => by simp), ⟨by have h := (Go.MapKept.heap_alloc (w2.alloc (.cells (madeCells #[.bool false] l.length) 4)) (.cells #[.int .i64 0, .int .i64 0, .bool false, .bool false] 44)).1; have e : (w2.alloc (.cells (madeCells #[.bool false] l.length) 4)).heap.size = w2.heap.size + 1 := (by simp); rw [e] at h; exact h, by omega⟩, below_alloc (below_alloc (Below.refl _ _) _) _, Nat.le_refl _, by omega⟩⟩
      generalize (w2.alloc (.cells (madeCells #[.bool false] l.length) 4)).alloc (.cells #[.int .i64 0, .int .i64 0, .bool false, .bool false] 44) = W3 at HWT ⊢
      have HS2 : Aside0 (wc.heap.size ≤ w2.heap.size) := ⟨B12.out.size⟩
      generalize hsb : w2.heap.size = sb at HWT ⊢
      generalize hgq : sb + 1 = g at HWT ⊢
      clear hmk
      go_wp2_with fail
      go_loopw [8] (fun s8 wr => ∃ (i m : Nat) (q : Qs), i ≤ o.length ∧ s8 = .int .i64 i ∧ Aside0 (Wt w2 wr sb g l.length m q) ∧ Aside0 (Path l m q (o.drop i)) ∧ Aside0 (Wq q)) (fun s8 _ => o.length - (intOf s8).toNat)
      case atStart => exact ⟨0, 0, qq0, Nat.zero_le _, rfl, HWT, ⟨HPA.out⟩, ⟨⟨by decide, by decide⟩⟩⟩
      case round =>
        obtain ⟨i, m, q, hi, rfl, WT, HP, HWQ⟩ := hrel
        clear HWT
        by_cases hlt : i < o.length
        · obtain ⟨n, q', hx, hn, ho, hs, hp⟩ : ∃ (n : Nat) (q' : Qs), rd o (i : Int) = (n : Int) ∧ n < l.length ∧ over l m = false ∧ step l m q n = some q' ∧ Path l (m ||| 2 ^ n) q' (o.drop (i + 1)) := by
            have h := HP.out
            rw [List.drop_eq_getElem_cons hlt] at h
            obtain ⟨n, q', h1, h2, h3, h4, h5⟩ := h
            refine ⟨n, q', ?_, h2, h3, h4, h5⟩
            unfold rd
            rw [Int.toNat_natCast, List.getD_eq_getElem?_getD, List.getElem?_eq_getElem hlt]; exact h1
          obtain ⟨code, num, hSF⟩ := step_facts hs
          have SF := Aside0.mk hSF
          have HPN := Aside0.mk hp
          clear hp hs ho hSF HP
          obtain ⟨ao, eo, hox⟩ := Kd.at_int C2.out (i : Int) (by omega) (by omega)
          rw [hx, Int.toNat_natCast] at hox
          subst eo
          have ox := (WT.out.below.cell (World.block_lt_of_cell? w2 _ hox)).trans hox
          have sn : wr.cell? ⟨sb, n, none⟩ = some (.bool false) := by rw [WT.out.seen.cell hn, SF.out.bit]
          have p1 := eq_true (show (0 : Int) ≤ (i : Int) by omega)
          have p2 := eq_true (show (i : Int) < (o.length : Int) by omega)
          have p3 := eq_false (show ¬ ((n : Int) < 0) by omega)
          have p4 := eq_false (show ¬ ((l.length : Int) ≤ (n : Int)) by omega)
          have p5 := eq_true (show (0 : Int) ≤ (n : Int) by omega)
          have p6 := eq_true (show (n : Int) < (l.length : Int) by omega)
          go_wp2_with fail
          clear ox sn hox
          go_loopw [10] (fun s10 wk => ∃ k : Nat, k ≤ l.length ∧ s10 = .int .i64 k ∧ Aside0 (Wt w2 wk sb g l.length m q)) (fun s10 _ => l.length - (intOf s10).toNat)
          case atStart => exact ⟨0, Nat.zero_le _, rfl, WT⟩
          case round =>
            obtain ⟨k, hk, rfl, WK⟩ := hrel
            by_cases hkl : k < l.length
            · have HBk : Aside0 (Below wc.heap.size wc wr) := ⟨B12.out.trans (WK.out.below.mono HS2.out)⟩
              obtain ⟨ad, e, h0, h1, h2, h3, h4⟩ := span_at CM.out HBk.out hkl
              obtain ⟨ad', e', g0, g1, g2, g3, g4⟩ := span_at CM.out HBk.out hn
              subst e
              obtain rfl := Option.some.inj e'
              have sk : wr.cell? ⟨sb, k, none⟩ = some (.bool (m.testBit k)) := WK.out.seen.cell hkl
              have r1 := eq_true (show (0 : Int) ≤ (k : Int) by omega)
              have r2 := eq_true (show (k : Int) < (l.length : Int) by omega)
              cases hb : m.testBit k
              case true =>
                rw [hb] at sk
                go_wp2_with fail
                go_quiet (fail)
                go_wp2_with fail
                go_roundw
                case rel => exact ⟨k + 1, by omega, by go_num, ⟨⟨WK.out.seen, WK.out.que, pw_below_drewN WK.out.below _, WK.out.lo, WK.out.ne⟩⟩⟩
                case measure => simp [intOf]; omega
              case false =>
                rw [hb] at sk
                cases hE : ended (sp l k)
                case false =>
                  have hE' : ((sp l k).f2 != -1) = false := hE
                  clear hE
                  go_wp2_with fail
                  go_quiet (fail)
                  go_wp2_with fail
                  go_roundw
                  case rel => exact ⟨k + 1, by omega, by go_num, ⟨⟨WK.out.seen, WK.out.que, pw_below_drewN WK.out.below _, WK.out.lo, WK.out.ne⟩⟩⟩
                  case measure => simp [intOf]; omega
                case true =>
                  have hE' : ((sp l k).f2 != -1) = true := hE
                  have hM := SF.out.may k hkl hb hE
                  have hM1 := eq_false hM
                  have hM2 : decide ((sp l k).f2 < (sp l n).f1) = false := decide_eq_false hM
                  clear hE hM
                  go_wp2_with fail
                  go_quiet (fail)
                  go_wp2_with fail
                  go_roundw
                  case rel => exact ⟨k + 1, by omega, by go_num, ⟨⟨WK.out.seen, WK.out.que, pw_below_drewN WK.out.below _, WK.out.lo, WK.out.ne⟩⟩⟩
                  case measure => simp [intOf]; omega
            · obtain rfl : k = l.length := by omega
              have r2 := eq_false (show ¬ ((l.length : Int) < (l.length : Int)) by omega)
              have sk : wr.cell? ⟨sb, n, none⟩ = some (.bool false) := by rw [WK.out.seen.cell hn, SF.out.bit]
              have fk := WK.out.seen.frozen n
              go_upto_region 20 with fail
              have W5 := Aside0.mk (WK.out.mark n)
              clear WK sk fk
              generalize wr.setCell ⟨sb, n, none⟩ (.bool true) = WS at W5 ⊢
              have HB5 : Aside0 (Below wc.heap.size wc WS) := ⟨B12.out.trans (W5.out.below.mono HS2.out)⟩
              obtain ⟨ad, e, g0, g1, g2, g3, g4⟩ := span_at CM.out HB5.out hn
              subst e
              obtain ⟨kk, hkk⟩ := (take_ev HWQ.out (sp l n).f0 SF.out.kind).rounds
              have hwq := wq_call HWQ.out (sp l n).f0
              rw [SF.out.call] at hkk hwq
              dsimp only at hkk hwq
              have HKK := Aside0.mk hkk
              have HWQ' := Aside0.mk hwq
              clear hkk hwq
              go_upto_region 21 with (go_at_call 18; go_must (refine (mintageref31_Queue_Take.calls kk g q.i q.o q.cl q.ca (sp l n).f0 code num true q'.i q'.o q'.cl q'.ca w2 WS W5.out.que W5.out.below HKK.out).mono ?_; rintro e_ WT6 ⟨rfl, hi_, hb_, hk_⟩; have W6 := Aside0.mk (W5.out.took hi_ hb_ hk_); clear hi_ hb_ hk_))
              clear g0 g1 g2 g3 g4 HB5 W5 HKK
              have HB6 : Aside0 (Below wc.heap.size wc WT6) := ⟨B12.out.trans (W6.out.below.mono HS2.out)⟩
              obtain ⟨ad', e', g0, g1, g2, g3, g4⟩ := span_at CM.out HB6.out hn
              obtain rfl := Option.some.inj e'
              cases hE : ended (sp l n)
              case false =>
                have hE' : ((sp l n).f2 != -1) = false := hE
                clear hE
                go_wp2_with fail
                go_roundw
                case rel => exact ⟨i + 1, m ||| 2 ^ n, q', by omega, by go_num, W6, HPN, HWQ'⟩
                case measure => simp [intOf]; omega
              case true =>
                have hE' : ((sp l n).f2 != -1) = true := hE
                have c1' : (code != (sp l n).f3) = false := by rw [SF.out.code_ hE]; simp
                have c2' : (num != (sp l n).f4) = false := by rw [SF.out.num_ hE]; simp
                clear hE
                go_wp2_with fail
                go_roundw
                case rel => exact ⟨i + 1, m ||| 2 ^ n, q', by omega, by go_num, W6, HPN, HWQ'⟩
                case measure => simp [intOf]; omega
        · obtain rfl : i = o.length := by omega
          have p2 := eq_false (show ¬ ((o.length : Int) < (o.length : Int)) by omega)
          have hov : Aside0 (over l m = true) := ⟨by have h := HP.out; rw [List.drop_length] at h; exact h⟩
          clear HP
          go_wp2_with fail
          clear p2
          go_loopw [14] (fun s14 wk => ∃ k : Nat, k ≤ l.length ∧ s14 = .int .i64 k ∧ Aside0 (Wt w2 wk sb g l.length m q)) (fun s14 _ => l.length - (intOf s14).toNat)
          case atStart => exact ⟨0, Nat.zero_le _, rfl, WT⟩
          case round =>
            obtain ⟨k, hk, rfl, WK⟩ := hrel
            by_cases hkl : k < l.length
            · have HBk : Aside0 (Below wc.heap.size wc wr) := ⟨B12.out.trans (WK.out.below.mono HS2.out)⟩
              obtain ⟨ad, e, h0, h1, h2, h3, h4⟩ := span_at CM.out HBk.out hkl
              subst e
              have sk : wr.cell? ⟨sb, k, none⟩ = some (.bool (m.testBit k)) := WK.out.seen.cell hkl
              have r1 := eq_true (show (0 : Int) ≤ (k : Int) by omega)
              have r2 := eq_true (show (k : Int) < (l.length : Int) by omega)
              cases hb : m.testBit k
              case true =>
                rw [hb] at sk
                go_wp2_with fail
                go_roundw
                case rel => exact ⟨k + 1, by omega, by go_num, WK⟩
                case measure => simp [intOf]; omega
              case false =>
                rw [hb] at sk
                have hE' : ((sp l k).f2 != -1) = false := by
                  cases hE : ended (sp l k)
                  · exact hE
                  · have := over_all hov.out k hkl hE
                    rw [hb] at this; cases this
                go_wp2_with fail
                go_roundw
                case rel => exact ⟨k + 1, by omega, by go_num, WK⟩
                case measure => simp [intOf]; omega
            · obtain rfl : k = l.length := by omega
              have r2 := eq_false (show ¬ ((l.length : Int) < (l.length : Int)) by omega)
              have HBk : Aside0 (Below wc.heap.size wc wr) := ⟨B12.out.trans (WK.out.below.mono HS2.out)⟩
              by_cases h0 : o = []
              · subst h0
                go_wp2_with (go_at_call 17; go_must (refine (wakes_calls _).mono ?_; rintro e_ w9 ⟨rfl, hd_⟩; have B9 := Aside0.mk (below_step HBk.out hd_); clear hd_))
                go_ret
                exact ⟨rfl, B9.out⟩
              · obtain ⟨pz, hpz⟩ : ∃ p, o.length = p + 1 := ⟨o.length - 1, by have := List.length_pos_iff.2 h0; omega⟩
                obtain ⟨x, hx⟩ : ∃ x, o.getLast? = some x := ⟨_, List.getLast?_eq_some_getLast h0⟩
                obtain ⟨z, hz, hzl, hze⟩ := path_last l o 0 q0 HPA.out x hx
                have hrd : rd o (pz : Int) = (z : Int) := by
                  rw [List.getLast?_eq_getElem?, hpz, Nat.add_sub_cancel] at hx
                  unfold rd
                  rw [Int.toNat_natCast, List.getD_eq_getElem?_getD, hx, ← hz]; rfl
                obtain ⟨ao, eo, hox⟩ := Kd.at_int C2.out (pz : Int) (by omega) (by omega)
                rw [hrd, Int.toNat_natCast] at hox
                subst eo
                have ox := (WK.out.below.cell (World.block_lt_of_cell? w2 _ hox)).trans hox
                obtain ⟨ad, e, h0', h1, h2, h3, h4⟩ := span_at CM.out HBk.out hzl
                subst e
                have t1 : ((o.length : Int) == 0) = false := by rw [beq_eq_false_iff_ne]; omega
                have t2 : wrap64 ((o.length : Int) - 1) = (pz : Int) := by unfold wrap64; omega
                have t3 : IntKind.i64.wrap ((o.length : Int) - 1) = (pz : Int) := by rw [IntKind.wrap_i64]; omega
                have t4 := eq_true (show (pz : Int) < (o.length : Int) by omega)
                have t5 := eq_true (show (0 : Int) ≤ (pz : Int) by omega)
                have t6 := eq_true (show (z : Int) < (l.length : Int) by omega)
                have t7 := eq_true (show (0 : Int) ≤ (z : Int) by omega)
                have t8 : ((sp l z).f2 != -1) = true := hze
                have t9 : o.length ≠ 0 := by omega
                clear hpz hx hrd hze hox
                go_wp2_with (go_at_call 17; go_must (refine (wakes_calls _).mono ?_; rintro e_ w9 ⟨rfl, hd_⟩; have B9 := Aside0.mk (below_step HBk.out hd_); clear hd_))
                go_ret
                exact ⟨rfl, B9.out⟩
    · have HJ := Aside0.mk hj
      clear hj
      by_cases he : er = 0
      · subst he
        go_wp2_with (first
          | (go_at_call 17; go_must (refine (wakes_calls _).mono ?_; rintro e_ w9 ⟨rfl, hd_⟩; have B9 := Aside0.mk (below_step B2.out hd_); clear hd_))
          | (go_at_call 14; go_must (refine (num_calls 0 w1).mono ?_; rintro e_ w2 ⟨rfl, hd_⟩; have B2 := Aside0.mk (below_step B1.out hd_.below); clear hd_))
          | (go_at_call 11; go_must (refine (judge_calls wc A c l CM.out).mono ?_; rintro e_ w1 ⟨v1, rfl, ho_, hd_⟩; rw [HJ.out] at ho_; rw [HJ.out]; obtain ⟨A1, c1, rfl⟩ := Kd.R_slice ho_; have B1 := Aside0.mk hd_; clear ho_ hd_)))
        go_ret
        exact ⟨rfl, B9.out⟩
      · have he' : (er != 0) = true := by simpa using he
        clear he
        go_wp2_with (first
          | (go_at_call 17; go_must (refine (wakes_calls _).mono ?_; rintro e_ w9 ⟨rfl, hd_⟩; have B9 := Aside0.mk (below_step B2.out hd_); clear hd_))
          | (go_at_call 14; go_must (refine (num_calls er w1).mono ?_; rintro e_ w2 ⟨rfl, hd_⟩; have B2 := Aside0.mk (below_step B1.out hd_.below); clear hd_))
          | (go_at_call 11; go_must (refine (judge_calls wc A c l CM.out).mono ?_; rintro e_ w1 ⟨v1, rfl, ho_, hd_⟩; rw [HJ.out] at ho_; rw [HJ.out]; obtain ⟨A1, c1, rfl⟩ := Kd.R_slice ho_; have B1 := Aside0.mk hd_; clear ho_ hd_)))
        go_ret
        exact ⟨rfl, B9.out⟩
end Go.Proofs.Ytbjoinocajobhaa.Ju
