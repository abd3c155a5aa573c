/- AuditSerial, walked. -/
import Derived.Test.YtbjoinocajobhaaSeZAuditTakes
import Derived.Test.YtbjoinocajobhaaWiwZAuditTakes
import Derived.Test.YtbjoinocajobhaaQ0ZAuditTakes
namespace Go.Proofs.Ytbjoinocajobhaa.Ju
set_option linter.unusedVariables false
set_option linter.unusedSimpArgs false
open Go.RowKit Go.Proofs.Ytbjoinocajobhaa.Q Go.Proofs.YtbjoinocajobhaaW.PrintWords Go.Proofs.YtbjoinocajobhaaW.PrintLast Go.Proofs.YtbjoinocajobhaaW.PrintMore
set_option maxHeartbeats 2000000 in
set_option maxRecDepth 100000 in
open Go.ChangeShapes Go.WideShapes Go.Deep in
theorem open_nums {H : Type} {enc : TypeId × Value → H} {W : World} {base : Nat} {sp_ : Nat → Bool} {hd : Bool} {fuel len cap : Nat} {A : Option Addr} {x : DataW H × List MemPlace} (h : DataW.trod enc Try.prog W base sp_ hd fuel 23 [.slice A len cap] = some x) :
    ∃ l : List Int, l.length = len ∧ Kd.C (Kd.int .i64) W A l.length l ∧ l.length ≤ cap ∧ ∀ y ∈ l, (Lit.int .i64 y).wf = true := by
  rcases open_slice Try.underlying23 h with ⟨hcs, _⟩ | ⟨a, len', cap', m, n, D, Pl, hcs, hb, hl, hm, hmm, _, hx⟩
  · simp at hcs
    obtain ⟨rfl, rfl, rfl⟩ := hcs
    exact ⟨[], rfl, ⟨rfl, by simp, fun h => by simp at h⟩, Nat.le_refl _, fun y hy => by cases hy⟩
  · simp at hcs
    obtain ⟨rfl, rfl, rfl⟩ := hcs
    have hlm : len ≤ m := by rw [hmm]; split <;> omega
    have ce : Try.prog.cellsOf 3 = 1 := by kernel_rfl
    have each : ∀ i, i < len → ∃ y : Int, (Lit.int .i64 y).wf = true ∧ W.cell? (a.add i) = some (.int .i64 y) := by
      intro i hi
      obtain ⟨cs', h1, h2⟩ := hx i (by omega)
      rw [ce, Nat.mul_one] at h1
      obtain ⟨_, hlen, hcell⟩ := World.cells?_some h1
      match cs', hlen with
      | [v0], _ =>
        obtain ⟨a0, q0, _, w0⟩ := DataW.trod_int Try.underlying3 h2
        have e0 := hcell 0 (by omega)
        simp at q0
        subst q0
        rw [Deep.add_add] at e0
        exact ⟨a0, w0, by simpa using e0⟩
    obtain ⟨q, hq⟩ := choose_lt each
    refine ⟨(List.range len).map q, by simp, ?_, by simp; omega, fun y hy => ?_⟩
    · refine ⟨by simp, by simp [maxLen] at *; omega, fun hp => ⟨a, rfl, fun j p hj => ?_⟩⟩
      obtain ⟨hjl, rfl⟩ := List.getElem?_eq_some_iff.1 hj
      simp only [List.length_map, List.length_range] at hjl
      simp only [List.getElem_map, List.getElem_range]
      refine ⟨[.int .i64 (q j)], rfl, rfl, fun i u hu => ?_⟩
      match i, hu with
      | 0, hu => obtain rfl := Option.some.inj hu; have := (hq j hjl).2; simpa [Kd.int, Kd.scalar, Kd.sz] using this
    · obtain ⟨j, hj, rfl⟩ := List.mem_map.1 hy
      exact (hq j (List.mem_range.1 hj)).1
theorem ints_same (l : List Int) (hl : l.length < 1000000) : Ev (fun k => mintagekeep_Ints.f k l l) true := by
  have loop : ∀ (d i : Nat), i + d = l.length → Ev (fun k => mintagekeep_Ints.l0 k l l (i : Int)) true := by
    intro d
    induction d with
    | zero =>
      intro i hi
      refine Ev.step (fun k => by simp only [mintagekeep_Ints.l0]; rfl) ?_
      simp only [if_neg (show ¬ (i : Int) < (l.length : Int) by omega)]
      exact Ev.now _
    | succ d ih =>
      intro i hi
      refine Ev.step (fun k => by simp only [mintagekeep_Ints.l0]; rfl) ?_
      simp only [if_pos (show (i : Int) < (l.length : Int) by omega), if_pos (show (0 : Int) ≤ (i : Int) by omega), if_true]
      rw [show wrap64 ((i : Int) + 1) = ((i + 1 : Nat) : Int) by unfold wrap64; omega]
      exact ih (i + 1) (by omega)
  unfold mintagekeep_Ints.f
  simp only [if_true]
  exact loop l.length 0 (by omega)
/-- Two rows of unlike elements lie apart: a row of numbers stays while a row of spans grows, and the other way round. -/
theorem keep_nums {W W1 : World} {base : Nat} {v5 v6 : Value} {ss : List S32} {xs : List Int} (h5 : Kd.R k32 32 W base (fun _ => True) v5 ss) (h6 : Kd.R (Kd.int .i64) 3 W base (fun _ => True) v6 xs) (hg : W.grownBy W1 v5.ownBlock) : Kd.R (Kd.int .i64) 3 W1 base (fun _ => True) v6 xs := by
  have hf := Kd.R_flat (ok' := fun k => v6.ownBlock = some k) (fun h => h) h6 (fun k hk _ => hk)
  refine Kd.R_mono (Kd.R_grown hf hg (fun k hk e => ?_)) (fun _ _ => trivial)
  obtain ⟨i5, o5⟩ := Kd.R_own h5
  obtain ⟨cells, hc⟩ := own_typed o5 k e.symm
  exact Kd.R_ne h6 hc (by decide) hk.symm
theorem keep_spans {W W1 : World} {base : Nat} {v5 v6 : Value} {ss : List S32} {xs : List Int} (h5 : Kd.R k32 32 W base (fun _ => True) v5 ss) (h6 : Kd.R (Kd.int .i64) 3 W base (fun _ => True) v6 xs) (hg : W.grownBy W1 v6.ownBlock) : Kd.R k32 32 W1 base (fun _ => True) v5 ss := by
  have hf := Kd.R_flat (ok' := fun k => v5.ownBlock = some k) (fun h => h) h5 (fun k hk _ => hk)
  refine Kd.R_mono (Kd.R_grown hf hg (fun k hk e => ?_)) (fun _ _ => trivial)
  obtain ⟨i6, o6⟩ := Kd.R_own h6
  obtain ⟨cells, hc⟩ := own_typed o6 k e.symm
  exact Kd.R_ne h5 hc (by decide) hk.symm
set_option maxHeartbeats 4000000 in
set_option maxRecDepth 100000 in
theorem serial_walk (A : Option Addr) (l : List S32) (c : Nat) (B : Option Addr) (gz : List Int) (gc : Nat) (w : World) (hr : Kd.C k32 w A l.length l) (hc : l.length ≤ c) (_ : ∀ y ∈ l, WfS y) (hr2 : Kd.C (Kd.int .i64) w B gz.length gz) (hc2 : gz.length ≤ gc) (_ : ∀ y ∈ gz, (Lit.int .i64 y).wf = true) :
    Calls Try.prog 9 #[.slice A l.length c, .slice B gz.length gc] w fun e w' => e = .returned (.bool true) ∧ Below w.heap.size w w' := by
  have CR := Aside0.mk hr
  have CG := Aside0.mk hr2
  have hu32 := Try.underlying32
  clear hr hr2
  go_enter Try.func9, Try.ntmps9
  go_upto_if 16 with fail
  go_cut [0] from 14 to 18 (fun s0 wx => ∃ m : List S32, s0 = .slice A m.length c ∧ m.length ≤ 14 ∧ m.length ≤ c ∧ Aside0 (Kd.C k32 w A m.length m) ∧ wx = w)
  case first =>
    by_cases h : 14 < l.length
    · have p1 := eq_true (show (14 : Int) < (l.length : Int) by omega)
      have q1 := eq_true (show (14 : Int) ≤ (c : Int) by omega)
      have hm := C_take CR.out 14 (by omega)
      have hl : (l.take 14).length = 14 := by rw [List.length_take]; omega
      have HM := Aside0.mk hm
      have HL := Aside0.mk hl
      clear hm hl
      go_wp2_with fail
      go_meet
      case rel => exact ⟨l.take 14, by rw [HL.out], by rw [HL.out]; omega, by rw [HL.out]; omega, HM, rfl⟩
    · have p1 := eq_false (show ¬ ((14 : Int) < (l.length : Int)) by omega)
      go_wp2_with fail
      go_meet
      case rel => exact ⟨l, rfl, by omega, hc, CR, rfl⟩
  case rest =>
    obtain ⟨l, rfl, hm1, hm2, CM, rfl⟩ := hcut
    clear CR
    rename World => w0
    go_wp2_with fail
    go_loopw [5, 6, 7, 8] (fun v5 v6 v7 v8 wr => ∃ (ss : List S32) (at_ : Int), ss.length ≤ l.length ∧ v8 = .int .i64 ss.length ∧ v7 = .int .i64 at_ ∧ Aside0 (Bld ss at_) ∧ Aside0 (Below w0.heap.size w0 wr) ∧ Aside0 (Kd.R k32 32 wr w0.heap.size (fun _ => True) v5 ss) ∧ Aside0 (Kd.R (Kd.int .i64) 3 wr w0.heap.size (fun _ => True) v6 (irange 0 ss.length))) (fun _ _ _ v8 _ => l.length - (intOf v8).toNat)
    case atStart => exact ⟨[], 0, Nat.zero_le _, rfl, rfl, ⟨⟨fun i hi => by simp at hi, fun i j _ hj => by simp at hj, by omega, by simp⟩⟩, ⟨Below.refl _ _⟩, ⟨Kd.R_nil _ _ _ _ _⟩, ⟨Kd.R_nil _ _ _ _ _⟩⟩
    case round =>
      obtain ⟨ss, at_, hj, rfl, rfl, BL, HB, H5, H6⟩ := hrel
      by_cases hlt : ss.length < l.length
      · obtain ⟨ad, e, h0, h1, h2, h3, h4⟩ := span_at CM.out HB.out hlt
        subst e
        have p1 := eq_true (show (0 : Int) ≤ (ss.length : Int) by omega)
        have p2 := eq_true (show (ss.length : Int) < (l.length : Int) by omega)
        go_upto_region 10 with (first | ((with_reducible refine gate_dst (N := 9) rfl ?_); refine box_event ?hg (N := 9) ?hd (cs := #[.int .i64 0, .int .i64 0, .int .i64 0, .int .i64 0, .int .i64 0]) (t := 32) ?hr ?_; (case hd => rfl); (case hg => rfl); (case hr => first | (go_simp; done) | (go_simp; rfl)); intro gb hg w11 hbox hb; have HB1 := Aside0.mk hb; have BX := Aside0.mk hbox; have GE := Aside0.mk (show wr.heap.size ≤ gb by rw [hg]; exact Nat.le_refl _); clear hb hbox hg; have z0 := (blk_cell BX.out 0); have z1 := (blk_cell BX.out 1); have z2 := (blk_cell BX.out 2); have z3 := (blk_cell BX.out 3); have z4 := (blk_cell BX.out 4); have f0 := blk_frozen BX.out 0; have f1 := blk_frozen BX.out 1; have f2 := blk_frozen BX.out 2; have f3 := blk_frozen BX.out 3; have f4 := blk_frozen BX.out 4))
        obtain ⟨W4, hW4, B4, X4, -, -⟩ := laid5 HB1.out BX.out GE.out (sp l ss.length)
        rw [hW4]
        clear hW4 z0 z1 z2 z3 z4 f0 f1 f2 f3 f4 h0 h1 h2 h3 h4 BX HB1
        have HB4 := Aside0.mk B4
        have HX4 := Aside0.mk X4
        clear B4 X4
        obtain ⟨kd, hkd, hk1, hk4⟩ := within14 (sp l ss.length).f0
        have HKD := Aside0.mk hkd
        clear hkd
        have x0 : W4.cell? ⟨gb, 0, none⟩ = some (.int .i64 (sp l ss.length).f0) := (blk_cell HX4.out 0).trans rfl
        go_upto_if 36 with (go_at_call 20; go_must (refine (mintagekeep_Within.calls (sp l ss.length).f0 1 4 kd W4 HKD.out).mono ?_; rintro e_ w5 ⟨rfl, hd_⟩; have HB5 := Aside0.mk (HB4.out.trans (hd_.below.mono HB4.out.size)); have HX5 := Aside0.mk ((hd_.below.block gb (blk_lt HX4.out)).trans HX4.out); have y0 : w5.cell? ⟨gb, 0, none⟩ = some (.int .i64 (sp l ss.length).f0) := (blk_cell HX5.out 0).trans rfl; have fy := blk_frozen HX5.out 0; clear hd_))
        have HB6 : Aside0 (Below wr.heap.size wr (w5.setCell ⟨gb, 0, none⟩ (.int .i64 kd))) := ⟨HB5.out.setCell GE.out _⟩
        have HX6 := Aside0.mk (blk_put HX5.out 0 (.int .i64 kd) rfl)
        generalize w5.setCell ⟨gb, 0, none⟩ (.int .i64 kd) = W6 at HB6 HX6 ⊢
        clear HB4 HX4 x0 HB5 HX5 y0 fy HKD
        go_cut [10] from 33 to 41 (fun s10 wx => ∃ gap : Int, s10 = .int .i64 gap ∧ 1 ≤ gap ∧ gap ≤ 9 ∧ Aside0 (Below W6.heap.size W6 wx))
        case first =>
          by_cases hgz : ss.length < gz.length
          · obtain ⟨ag, eg, hgc⟩ := Kd.at_int CG.out (ss.length : Int) (by omega) (by omega)
            subst eg
            rw [Int.toNat_natCast] at hgc
            have hgc2 := (HB6.out.cell (World.block_lt_of_cell? _ _ ((HB.out.cell (World.block_lt_of_cell? _ _ hgc)).trans hgc))).trans ((HB.out.cell (World.block_lt_of_cell? _ _ hgc)).trans hgc)
            have q1 := eq_true (show (ss.length : Int) < (gz.length : Int) by omega)
            obtain ⟨gv, hgv, hg1, hg9⟩ := within19 (rd gz (ss.length : Int))
            have HGV := Aside0.mk hgv
            clear hgc hgv
            go_wp2_with (go_at_call 20; go_must (refine (mintagekeep_Within.calls (rd gz (ss.length : Int)) 1 9 gv W6 HGV.out).mono ?_; rintro e_ w7 ⟨rfl, hd_⟩; have HD := Aside0.mk hd_.below; clear hd_))
            go_meet
            case rel => exact ⟨gv, rfl, hg1, hg9, HD⟩
          · have q1 := eq_false (show ¬ ((ss.length : Int) < (gz.length : Int)) by omega)
            go_wp2_with fail
            go_meet
            case rel => exact ⟨1, rfl, by omega, by omega, ⟨Below.refl _ _⟩⟩
        case rest =>
          obtain ⟨gap, rfl, hg1, hg9, HBD⟩ := hcut
          have HB7 : Aside0 (Below wr.heap.size wr wc) := ⟨HB6.out.trans (HBD.out.mono HB6.out.size)⟩
          have HX7 := Aside0.mk ((HBD.out.block gb (blk_lt HX6.out)).trans HX6.out)
          clear HB6 HX6 HBD
          have bl := BL.out.lo
          have bh := BL.out.hi
          have x0 : wc.cell? ⟨gb, 0, none⟩ = some (.int .i64 kd) := (blk_cell HX7.out 0).trans rfl
          have x1 : wc.cell? ⟨gb, 1, none⟩ = some (.int .i64 (sp l ss.length).f1) := (blk_cell HX7.out 1).trans rfl
          have x2 : wc.cell? ⟨gb, 2, none⟩ = some (.int .i64 (sp l ss.length).f2) := (blk_cell HX7.out 2).trans rfl
          have x3 : wc.cell? ⟨gb, 3, none⟩ = some (.int .i64 (sp l ss.length).f3) := (blk_cell HX7.out 3).trans rfl
          have x4 : wc.cell? ⟨gb, 4, none⟩ = some (.int .i64 (sp l ss.length).f4) := (blk_cell HX7.out 4).trans rfl
          have y1 := blk_frozen HX7.out 1
          have y2 := blk_frozen HX7.out 2
          have e1 : wrap64 (at_ + gap) = at_ + gap := by unfold wrap64; omega
          have e2 : wrap64 (at_ + gap + gap) = at_ + gap + gap := by unfold wrap64; omega
          have e3 : wrap64 (at_ + gap + gap - 1) = at_ + gap + gap - 1 := by unfold wrap64; omega
          have d1 : IntKind.i64.wrap (at_ + gap) = at_ + gap := by rw [IntKind.wrap_i64]; omega
          have d2 : IntKind.i64.wrap (at_ + gap + gap) = at_ + gap + gap := by rw [IntKind.wrap_i64]; omega
          have d3 : IntKind.i64.wrap (at_ + gap + gap - 1) = at_ + gap + gap - 1 := by rw [IntKind.wrap_i64]; omega
          go_upto_region 17 with fail
          have HX8 := Aside0.mk (blk_put (blk_put HX7.out 1 (.int .i64 (at_ + gap)) rfl) 2 (.int .i64 (at_ + gap + gap - 1)) rfl)
          have HB8 : Aside0 (Below wr.heap.size wr ((wc.setCell ⟨gb, 1, none⟩ (.int .i64 (at_ + gap))).setCell ⟨gb, 2, none⟩ (.int .i64 (at_ + gap + gap - 1)))) := ⟨(HB7.out.setCell GE.out _).setCell GE.out _⟩
          generalize (wc.setCell ⟨gb, 1, none⟩ (.int .i64 (at_ + gap))).setCell ⟨gb, 2, none⟩ (.int .i64 (at_ + gap + gap - 1)) = W8 at HX8 HB8 ⊢
          clear HX7 HB7 x0 x1 x2 x3 x4 y1 y2 e1 e2 e3 d1 d2 d3
          have K5 := Aside0.mk (Kd.R_below H5.out HB8.out)
          have K6 := Aside0.mk (Kd.R_below H6.out HB8.out)
          have HBW : Aside0 (Below w0.heap.size w0 W8) := ⟨below_step HB.out HB8.out⟩
          have LL5 : Aside0 ((ss.length + 1) * 40 ≤ 140737488355328) := ⟨by omega⟩
          have LL6 : Aside0 (((irange 0 ss.length).length + 1) * 8 ≤ 140737488355328) := ⟨by rw [irange_len]; omega⟩
          obtain ⟨A5, c5, rfl⟩ := Kd.R_slice K5.out
          have x0 : W8.cell? ⟨gb, 0, none⟩ = some (.int .i64 kd) := (blk_cell HX8.out 0).trans rfl
          have x1 : W8.cell? ⟨gb, 1, none⟩ = some (.int .i64 (at_ + gap)) := (blk_cell HX8.out 1).trans rfl
          have x2 : W8.cell? ⟨gb, 2, none⟩ = some (.int .i64 (at_ + gap + gap - 1)) := (blk_cell HX8.out 2).trans rfl
          have x3 : W8.cell? ⟨gb, 3, none⟩ = some (.int .i64 (sp l ss.length).f3) := (blk_cell HX8.out 3).trans rfl
          have x4 : W8.cell? ⟨gb, 4, none⟩ = some (.int .i64 (sp l ss.length).f4) := (blk_cell HX8.out 4).trans rfl
          go_wp2_with (first
            | (at_builtin; (refine Kd.R_append (Kd.int .i64) (w0 := w0) w0.heap.size rfl (.tmp 58) (.tmp 60) 23 3 (.int .i64 0) 8 rfl Try.underlying23 infoInt rfl (by decide) (by omega) u6 (irange 0 ss.length) (ss.length : Int) [.int .i64 (ss.length : Int)] (fun _ => True) (fun _ => False) rfl rfl ?aP (fun _ hk => hk.elim) (fun _ _ => trivial) K69.out HB9.out (below_size HB9.out) LL6.out ?_; (case aP => rfl); intro v8 wA ho_ hb_ hg_ hat; have K8 := Aside0.mk ho_; have HBA := Aside0.mk hb_; have K7A := Aside0.mk (keep_spans K7.out K69.out hg_); clear ho_ hb_ hg_ hat))
            | (at_builtin; (refine Kd.R_append k32 (w0 := w0) w0.heap.size rfl (.tmp 54) (.tmp 56) 22 32 _ 40 rfl Try.underlying22 info32 rfl (by decide) (by omega) (.slice A5 ss.length c5) ss ⟨kd, at_ + gap, at_ + gap + gap - 1, (sp l ss.length).f3, (sp l ss.length).f4⟩ [.int .i64 kd, .int .i64 (at_ + gap), .int .i64 (at_ + gap + gap - 1), .int .i64 (sp l ss.length).f3, .int .i64 (sp l ss.length).f4] (fun _ => True) (fun _ => False) rfl rfl (k32_mkM _ _ _ _) (fun _ hk => hk.elim) (fun _ _ => trivial) K5.out HBW.out (below_size HBW.out) LL5.out ?_; intro v7 w9 ho_ hb_ hg_ hat; have K7 := Aside0.mk ho_; have HB9 := Aside0.mk hb_; have K69 := Aside0.mk (keep_nums K5.out K6.out hg_); clear ho_ hb_ hg_ hat)))
          go_roundw
          case rel =>
            have hlen : (ss ++ [(⟨kd, at_ + gap, at_ + gap + gap - 1, (sp l ss.length).f3, (sp l ss.length).f4⟩ : S32)]).length = ss.length + 1 := by simp
            exact ⟨ss ++ [⟨kd, at_ + gap, at_ + gap + gap - 1, (sp l ss.length).f3, (sp l ss.length).f4⟩], at_ + gap + gap - 1, by rw [hlen]; omega, by rw [hlen]; go_num, rfl, ⟨BL.out.more ⟨hk1, hk4⟩ ⟨hg1, hg9⟩ _ _⟩, HBA, K7A, ⟨by rw [hlen, irange_snoc]; simpa using K8.out⟩⟩
          case measure => simp [intOf]; omega
      · have hfull : ss.length = l.length := by omega
        have SER := Aside0.mk (BL.out.serial (by omega))
        have hsl : ss.length ≤ 14 := by omega
        obtain ⟨A5, c5, rfl⟩ := Kd.R_slice H5.out
        obtain ⟨A6, c6, rfl⟩ := Kd.R_slice H6.out
        have hr5 := Kd.R_reads' H5.out
        have hr6 := Kd.R_reads' H6.out
        have C5 := Aside0.mk hr5.2.2
        have C6 := Aside0.mk hr6.2.2
        have h5le := hr5.2.1
        have h6le := hr6.2.1
        have p2 := eq_false (show ¬ ((ss.length : Int) < (l.length : Int)) by omega)
        have hJ := serial_judge SER.out
        obtain ⟨ki, hki⟩ := (ints_same (irange 0 ss.length) (by rw [irange_len]; omega)).rounds
        have HKI := Aside0.mk hki
        clear hki hr5 hr6 hfull hlt
        cases hP : plainB ss
        case true =>
          rw [hP, if_pos rfl] at hJ
          have HJ := Aside0.mk hJ
          have HP := Aside0.mk hP
          clear hJ hP
          go_wp2_with (first
            | (go_at_call 17; go_must (refine (wakes_calls _).mono ?_; rintro e_ w9 ⟨rfl, hd_⟩; have B9 := Aside0.mk (below_step B4.out hd_); clear hd_))
            | (go_at_call 13; go_must (refine (mintagekeep_Ints.calls ki A1 c1 (irange 0 ss.length) A6 c6 (irange 0 ss.length) true w3 (Kd.C_below C1.out B3.out) h1le (Kd.C_below C6.out B13.out) h6le HKI.out).mono ?_; rintro e_ w4 ⟨rfl, hd_⟩; have B4 := Aside0.mk (below_step BW3.out hd_.below); clear hd_))
            | (go_at_call 21; go_must (refine (plain_calls w2 A5 c5 ss (Kd.C_below C5.out B12.out) h5le (by omega)).mono ?_; rintro e_ w3 ⟨rfl, hd_⟩; rw [HP.out]; have B3 := Aside0.mk (B2.out.trans (hd_.mono B2.out.size)); have B13 := Aside0.mk (below_step B12.out hd_); have BW3 := Aside0.mk (below_step BW2.out hd_); clear hd_))
            | (go_at_call 14; go_must (refine (num_calls 0 w1).mono ?_; rintro e_ w2 ⟨rfl, hd_⟩; have B2 := Aside0.mk hd_.below; have B12 := Aside0.mk (below_step B1.out hd_.below); have BW2 := Aside0.mk (below_step BW1.out hd_.below); clear hd_))
            | (go_at_call 11; go_must (refine (judge_calls wr A5 c5 ss C5.out).mono ?_; rintro e_ w1 ⟨v1, rfl, ho_, hd_⟩; rw [HJ.out] at ho_; rw [HJ.out]; obtain ⟨A1, c1, rfl⟩ := Kd.R_slice ho_; have C1 := Aside0.mk (Kd.R_reads' ho_).2.2; have h1le := (Kd.R_reads' ho_).2.1; have B1 := Aside0.mk hd_; have BW1 := Aside0.mk (below_step HB.out hd_); clear ho_ hd_)))
          go_ret
          exact ⟨rfl, B9.out⟩
        case false =>
          rw [hP, if_neg (by simp)] at hJ
          have HJ := Aside0.mk hJ
          have HP := Aside0.mk hP
          clear hJ hP
          go_wp2_with (first
            | (go_at_call 17; go_must (refine (wakes_calls _).mono ?_; rintro e_ w9 ⟨rfl, hd_⟩; have B9 := Aside0.mk (below_step BW3.out hd_); clear hd_))
            | (go_at_call 21; go_must (refine (plain_calls w2 A5 c5 ss (Kd.C_below C5.out B12.out) h5le (by omega)).mono ?_; rintro e_ w3 ⟨rfl, hd_⟩; rw [HP.out]; have BW3 := Aside0.mk (below_step BW2.out hd_); clear hd_))
            | (go_at_call 14; go_must (refine (num_calls 0 w1).mono ?_; rintro e_ w2 ⟨rfl, hd_⟩; have B12 := Aside0.mk (below_step B1.out hd_.below); have BW2 := Aside0.mk (below_step BW1.out hd_.below); clear hd_))
            | (go_at_call 11; go_must (refine (judge_calls wr A5 c5 ss C5.out).mono ?_; rintro e_ w1 ⟨v1, rfl, ho_, hd_⟩; rw [HJ.out] at ho_; rw [HJ.out]; obtain ⟨A1, c1, rfl⟩ := Kd.R_slice ho_; have B1 := Aside0.mk hd_; have BW1 := Aside0.mk (below_step HB.out hd_); clear ho_ hd_)))
          go_ret
          exact ⟨rfl, B9.out⟩
end Go.Proofs.Ytbjoinocajobhaa.Ju
