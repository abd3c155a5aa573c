/- AuditLooser, walked. -/
import Derived.Test.YtbjoinocajobhaaLoZAuditTakes
import Derived.Test.YtbjoinocajobhaaSewZAuditTakes
import Derived.Deep.RegionLaw
import Derived.Test.YtbjoinocajobhaaQ0ZAuditTakes
namespace Go.Proofs.Ytbjoinocajobhaa.Ju
set_option linter.unusedVariables false
set_option linter.unusedSimpArgs false
open Go.RowKit Go.Proofs.Ytbjoinocajobhaa.Q Go.Proofs.YtbjoinocajobhaaW.PrintWords Go.Proofs.YtbjoinocajobhaaW.PrintLast Go.Proofs.YtbjoinocajobhaaW.PrintMore
/-- A row of spans of the call's own, cell by cell. -/
def RowAt (W : World) (g : Nat) (l : List S32) : Prop := ∃ cur : Array Value, W.heap[g]? = some (.cells cur 32 (0, 0)) ∧ ∀ j, j < l.length →
  cur[j * 5]? = some (.int .i64 (sp l j).f0) ∧ cur[j * 5 + 1]? = some (.int .i64 (sp l j).f1) ∧ cur[j * 5 + 2]? = some (.int .i64 (sp l j).f2) ∧ cur[j * 5 + 3]? = some (.int .i64 (sp l j).f3) ∧ cur[j * 5 + 4]? = some (.int .i64 (sp l j).f4)
theorem RowAt.of_R {W : World} {base : Nat} {ok : Nat → Prop} {v : Value} {l : List S32} (h : Kd.R k32 32 W base ok v l) (h0 : l ≠ []) : ∃ g cap, v = .slice (some ⟨g, 0, none⟩) l.length cap ∧ base ≤ g ∧ RowAt W g l := by
  have hp := List.length_pos_iff.2 h0
  obtain ⟨inner, o⟩ := Kd.R_own h
  obtain ⟨A, c, hv⟩ := Kd.R_slice h
  subst hv
  have C := (Kd.R_reads' h).2.2
  rcases o.2 with ⟨hn, _⟩ | ⟨g, cap, cur, hv2, hb, _⟩
  · injection hn with h1 h2; omega
  · injection hv2 with h1 h2 h3
    subst h1
    obtain ⟨cells, hc⟩ := own_typed o g rfl
    refine ⟨g, c, rfl, hb, cells, hc, fun j hj => ?_⟩
    obtain ⟨ad, e, h0, h1, h2, h3, h4⟩ := span_at C (Below.refl _ _) hj
    obtain rfl := Option.some.inj e
    have a0 : (⟨g, 0, none⟩ : Addr).add (j * 5) = ⟨g, j * 5, none⟩ := by simp [Addr.add]; intro h; exact h.symm
    rw [a0] at h0 h1 h2 h3 h4
    exact ⟨(blk_cell hc _).symm.trans h0, (blk_cell hc _).symm.trans h1, (blk_cell hc _).symm.trans h2, (blk_cell hc _).symm.trans h3, (blk_cell hc _).symm.trans h4⟩
theorem RowAt.C {W : World} {g : Nat} {l : List S32} (h : RowAt W g l) (hl : l.length ≤ 100) : Kd.C k32 W (some ⟨g, 0, none⟩) l.length l := by
  obtain ⟨cur, hc, hh⟩ := h
  refine ⟨rfl, by omega, fun _ => ⟨_, rfl, fun j p hj => ?_⟩⟩
  obtain ⟨hjl, rfl⟩ := List.getElem?_eq_some_iff.1 hj
  have e : sp l j = l[j] := by
    unfold sp rd_T32
    rw [Int.toNat_natCast, List.getD_eq_getElem?_getD, List.getElem?_eq_getElem hjl]; rfl
  obtain ⟨h0, h1, h2, h3, h4⟩ := hh j hjl
  rw [e] at h0 h1 h2 h3 h4
  refine ⟨_, rfl, k32_mk W l[j], fun i u hu => ?_⟩
  have a0 : ∀ n, (⟨g, 0, none⟩ : Addr).add n = ⟨g, n, none⟩ := fun n => by simp [Addr.add]; intro h; exact h.symm
  match i, hu with
  | 0, hu => obtain rfl := Option.some.inj hu; exact (congrArg W.cell? (a0 _)).trans ((blk_cell hc _).trans h0)
  | 1, hu => obtain rfl := Option.some.inj hu; exact (congrArg W.cell? (a0 _)).trans ((blk_cell hc _).trans h1)
  | 2, hu => obtain rfl := Option.some.inj hu; exact (congrArg W.cell? (a0 _)).trans ((blk_cell hc _).trans h2)
  | 3, hu => obtain rfl := Option.some.inj hu; exact (congrArg W.cell? (a0 _)).trans ((blk_cell hc _).trans h3)
  | 4, hu => obtain rfl := Option.some.inj hu; exact (congrArg W.cell? (a0 _)).trans ((blk_cell hc _).trans h4)
theorem RowAt.keep {W W' : World} {g : Nat} {l : List S32} (h : RowAt W g l) (e : W'.heap[g]? = W.heap[g]?) : RowAt W' g l := by
  obtain ⟨cur, hc, hh⟩ := h
  exact ⟨cur, e.trans hc, hh⟩
theorem RowAt.lt {W : World} {g : Nat} {l : List S32} (h : RowAt W g l) : g < W.heap.size := by
  obtain ⟨cur, hc, _⟩ := h
  exact blk_lt hc
theorem RowAt.frozen {W : World} {g : Nat} {l : List S32} (h : RowAt W g l) (i : Nat) : W.frozen? ⟨g, i, none⟩ = false := by
  obtain ⟨cur, hc, _⟩ := h
  exact blk_frozen hc i
theorem RowAt.cell {W : World} {g : Nat} {l : List S32} (h : RowAt W g l) {j : Nat} (hj : j < l.length) : W.cell? ⟨g, j * 5 + 1, none⟩ = some (.int .i64 (sp l j).f1) ∧ W.cell? ⟨g, j * 5 + 2, none⟩ = some (.int .i64 (sp l j).f2) := by
  obtain ⟨cur, hc, hh⟩ := h
  exact ⟨(blk_cell hc _).trans (hh j hj).2.1, (blk_cell hc _).trans (hh j hj).2.2.1⟩
theorem RowAt.put1 {W : World} {g : Nat} {l : List S32} (h : RowAt W g l) {k : Nat} (hk : k < l.length) (x : Int) : RowAt (W.setCell ⟨g, k * 5 + 1, none⟩ (.int .i64 x)) g (l.set k { sp l k with f1 := x }) := by
  obtain ⟨cur, hc, hh⟩ := h
  refine ⟨_, blk_set hc _ _, fun j hj => ?_⟩
  rw [List.length_set] at hj
  have hin := (Array.getElem?_eq_some_iff.1 (hh k hk).2.1).1
  obtain ⟨h0, h1, h2, h3, h4⟩ := hh j hj
  rw [sp_set hk]
  simp only [Array.getElem?_setIfInBounds]
  by_cases e : j = k
  · subst e
    rw [if_pos rfl, if_neg (by omega), if_pos rfl, if_pos hin, if_neg (by omega), if_neg (by omega), if_neg (by omega)]
    exact ⟨h0, rfl, h2, h3, h4⟩
  · rw [if_neg e, if_neg (by omega), if_neg (by omega), if_neg (by omega), if_neg (by omega), if_neg (by omega)]
    exact ⟨h0, h1, h2, h3, h4⟩
theorem RowAt.put2 {W : World} {g : Nat} {l : List S32} (h : RowAt W g l) {k : Nat} (hk : k < l.length) (x : Int) : RowAt (W.setCell ⟨g, k * 5 + 2, none⟩ (.int .i64 x)) g (l.set k { sp l k with f2 := x }) := by
  obtain ⟨cur, hc, hh⟩ := h
  refine ⟨_, blk_set hc _ _, fun j hj => ?_⟩
  rw [List.length_set] at hj
  have hin := (Array.getElem?_eq_some_iff.1 (hh k hk).2.2.1).1
  obtain ⟨h0, h1, h2, h3, h4⟩ := hh j hj
  rw [sp_set hk]
  simp only [Array.getElem?_setIfInBounds]
  by_cases e : j = k
  · subst e
    rw [if_pos rfl, if_neg (by omega), if_neg (by omega), if_pos rfl, if_pos hin, if_neg (by omega), if_neg (by omega)]
    exact ⟨h0, h1, rfl, h3, h4⟩
  · rw [if_neg e, if_neg (by omega), if_neg (by omega), if_neg (by omega), if_neg (by omega), if_neg (by omega)]
    exact ⟨h0, h1, h2, h3, h4⟩
theorem within0 (a : Int) (n : Nat) (hn : n < 1000000) : ∃ m : Nat, mintagekeep_Within.f a 0 (n : Int) = some (m : Int) ∧ m ≤ n := by
  unfold mintagekeep_Within.f
  have e1 : wrap64 (wrap64 ((n : Int) - 0) + 1) = (n : Int) + 1 := by unfold wrap64; omega
  rw [e1, if_neg (by omega)]
  have b1 := Int.tmod_lt_of_pos a (show (0 : Int) < (n : Int) + 1 by omega)
  have b2 := Int.lt_tmod_of_pos a (show (0 : Int) < (n : Int) + 1 by omega)
  by_cases h : Int.tmod a ((n : Int) + 1) < 0
  · rw [if_pos h]
    refine ⟨(Int.tmod a ((n : Int) + 1) + (n + 1)).toNat, ?_, by omega⟩
    congr 1
    unfold wrap64; omega
  · rw [if_neg h]
    refine ⟨(Int.tmod a ((n : Int) + 1)).toNat, ?_, by omega⟩
    congr 1
    unfold wrap64; omega
theorem wfs_all {l : List S32} (h : ∀ y ∈ l, WfS y) : ∀ j, j < l.length → WfS (sp l j) := fun j hj => by
  have e : sp l j = l[j] := by
    unfold sp rd_T32
    rw [Int.toNat_natCast, List.getD_eq_getElem?_getD, List.getElem?_eq_getElem hj]; rfl
  rw [e]; exact h _ (List.getElem_mem hj)
theorem wfs_take {l : List S32} (h : ∀ y ∈ l, WfS y) (n : Nat) : ∀ j, j < (l.take n).length → WfS (sp (l.take n) j) := wfs_all fun y hy => h y (List.mem_of_mem_take hy)
theorem wf_hi {a : Int} (h : (Lit.int .i64 a).wf = true) : -9223372036854775808 ≤ a ∧ a < 9223372036854775808 := by
  have h1 : (decide (IntKind.i64.min ≤ a) && decide (a ≤ IntKind.i64.max)) = true := h
  rw [show IntKind.i64.min = -9223372036854775808 from rfl, show IntKind.i64.max = 9223372036854775807 from rfl] at h1
  simp at h1
  omega
theorem kM {base : Nat} {okp : Nat → Prop} {W w : World} (x : S32) (cs : List Value) (h : k32.K w x cs) : k32.M W base okp x cs := by
  have := k32_open h
  subst this
  exact k32_mkM _ _ _ x
theorem RowAt.other {W : World} {g g' i : Nat} {v : Value} {l : List S32} (h : RowAt W g l) (hne : g' ≠ g) : RowAt (W.setCell ⟨g', i, none⟩ v) g l := h.keep (Below.heap_setCell _ _ _ _ (fun e => hne e.symm))
def Bx (W : World) (T : Nat) (x : S32) : Prop := W.heap[T]? = some (.cells #[.int .i64 x.f0, .int .i64 x.f1, .int .i64 x.f2, .int .i64 x.f3, .int .i64 x.f4] 32 (0, 0))
theorem Bx.other {W : World} {T g' i : Nat} {v : Value} {x : S32} (h : Bx W T x) (hne : g' ≠ T) : Bx (W.setCell ⟨g', i, none⟩ v) T x := (Below.heap_setCell _ _ _ _ (fun e => hne e.symm)).trans h
theorem Bx.keep {W W' : World} {T : Nat} {x : S32} (h : Bx W T x) (e : W'.heap[T]? = W.heap[T]?) : Bx W' T x := e.trans h
theorem Bx.lt {W : World} {T : Nat} {x : S32} (h : Bx W T x) : T < W.heap.size := blk_lt h
theorem Bx.put0 {W : World} {T : Nat} {x : S32} (h : Bx W T x) (y : Int) : Bx (W.setCell ⟨T, 0, none⟩ (.int .i64 y)) T { x with f0 := y } := (blk_set h _ _).trans (by simp [Bx])
theorem Bx.put1 {W : World} {T : Nat} {x : S32} (h : Bx W T x) (y : Int) : Bx (W.setCell ⟨T, 1, none⟩ (.int .i64 y)) T { x with f1 := y } := (blk_set h _ _).trans (by simp [Bx])
theorem Bx.put2 {W : World} {T : Nat} {x : S32} (h : Bx W T x) (y : Int) : Bx (W.setCell ⟨T, 2, none⟩ (.int .i64 y)) T { x with f2 := y } := (blk_set h _ _).trans (by simp [Bx])
theorem Bx.c0 {W : World} {T : Nat} {x : S32} (h : Bx W T x) : W.cell? ⟨T, 0, none⟩ = some (.int .i64 x.f0) := (blk_cell h 0).trans rfl
theorem Bx.c1 {W : World} {T : Nat} {x : S32} (h : Bx W T x) : W.cell? ⟨T, 1, none⟩ = some (.int .i64 x.f1) := (blk_cell h 1).trans rfl
theorem Bx.c2 {W : World} {T : Nat} {x : S32} (h : Bx W T x) : W.cell? ⟨T, 2, none⟩ = some (.int .i64 x.f2) := (blk_cell h 2).trans rfl
theorem Bx.c3 {W : World} {T : Nat} {x : S32} (h : Bx W T x) : W.cell? ⟨T, 3, none⟩ = some (.int .i64 x.f3) := (blk_cell h 3).trans rfl
theorem Bx.c4 {W : World} {T : Nat} {x : S32} (h : Bx W T x) : W.cell? ⟨T, 4, none⟩ = some (.int .i64 x.f4) := (blk_cell h 4).trans rfl
theorem Bx.fr {W : World} {T : Nat} {x : S32} (h : Bx W T x) (i : Nat) : W.frozen? ⟨T, i, none⟩ = false := blk_frozen h i
theorem lit0R {W : World} {b g : Nat} (h : W.heap[g]? = some (.cells #[] 32 (0, 0))) (hb : b ≤ g) : Kd.R k32 32 W b (fun _ => True) (.slice (some ⟨g, 0, none⟩) 0 0) ([] : List S32) :=
  ⟨fun _ _ => trivial, [], ⟨by simp, .inr ⟨g, 0, #[], rfl, hb, h, Nat.le_refl _, by decide, rfl, rfl⟩⟩, Reps.none _ _⟩
theorem lit1C {W : World} {g : Nat} {y : S32} (h : Bx W g y) : Kd.C k32 W (some ⟨g, 0, none⟩) 1 [y] :=
  RowAt.C (l := [y]) ⟨_, h, fun j hj => by
    obtain rfl : j = 0 := by simpa using hj
    exact ⟨rfl, rfl, rfl, rfl, rfl⟩⟩ (by simp)
theorem new_sz {W : World} {o : Obj} {g : Nat} (h : g = W.heap.size) : (W.alloc o).heap[g]? = some o := by subst h; exact blk_new W o
theorem old_drew {W : World} {o : Obj} {g : Nat} (h : W.heap[g]? = some o) : W.drew.heap[g]? = some o := h
theorem RowAt.below {W W' : World} {g : Nat} {l : List S32} {b : Nat} (h : RowAt W g l) (hb : Below b W W') (hg : g < b) : RowAt W' g l := h.keep (hb.block g hg)
theorem judge_yes (w : World) (A : Option Addr) (c n : Nat) (l : List S32) (hn : l.length = n) (hr : Kd.C k32 w A l.length l) (hj : ∃ o, judgeF l = (o, true, 0)) :
    Calls Try.prog 11 #[.slice A n c] w fun e w' => ∃ v, e = .returned (.tuple #[v, .bool true, .int .i64 0]) ∧ Below w.heap.size w w' := by
  subst hn
  obtain ⟨o, hj⟩ := hj
  refine (judge_calls w A c l hr).mono ?_
  rintro e w' ⟨v, rfl, _, hb⟩
  rw [hj]
  exact ⟨v, rfl, hb⟩
set_option maxHeartbeats 40000000 in
set_option maxRecDepth 100000 in
theorem looser_walk (A : Option Addr) (l : List S32) (c : Nat) (at_ by_ : Int) (mo : S32) (w : World) (hr : Kd.C k32 w A l.length l) (hc : l.length ≤ c) (hwf : ∀ y ∈ l, WfS y) (hmo : WfS mo) :
    Calls Try.prog 6 #[.slice A l.length c, .int .i64 at_, .int .i64 by_, .agg #[.int .i64 mo.f0, .int .i64 mo.f1, .int .i64 mo.f2, .int .i64 mo.f3, .int .i64 mo.f4]] w fun e w' => e = .returned (.bool true) ∧ Below w.heap.size w w' := by
  have CR := Aside0.mk hr
  have hu32 := Try.underlying32
  clear hr
  go_enter Try.func6, Try.ntmps6
  go_upto_if 30 with (first | ((with_reducible refine gate_dst (N := 7) rfl ?_); refine box_event ?hg (N := 7) ?hd (cs := #[.int .i64 mo.f0, .int .i64 mo.f1, .int .i64 mo.f2, .int .i64 mo.f3, .int .i64 mo.f4]) (t := 32) ?hr ?_; (case hd => rfl); (case hg => rfl); (case hr => first | (go_simp; done) | (go_simp; rfl)); intro T hT w1 hbox hb; have B1 := Aside0.mk hb; have BT := Aside0.mk hbox; have GT := Aside0.mk (show w.heap.size ≤ T by rw [hT]; exact Nat.le_refl _); clear hb hbox hT))
  go_cut [0] from 28 to 32 (fun s0 wx => ∃ m : List S32, s0 = .slice A m.length c ∧ m.length ≤ 13 ∧ m.length ≤ c ∧ Aside0 (Kd.C k32 w A m.length m) ∧ (∀ j, j < m.length → WfS (sp m j)) ∧ wx = w1)
  case first =>
    by_cases h : 13 < l.length
    · have p1 := eq_true (show (13 : Int) < (l.length : Int) by omega)
      have q1 := eq_true (show (13 : Int) ≤ (c : Int) by omega)
      have hm := C_take CR.out 13 (by omega)
      have hl : (l.take 13).length = 13 := by rw [List.length_take]; omega
      have HM := Aside0.mk hm
      have HL := Aside0.mk hl
      clear hm hl
      go_wp2_with fail
      go_meet
      case rel => exact ⟨l.take 13, by rw [HL.out], by rw [HL.out]; omega, by rw [HL.out]; omega, HM, wfs_take hwf 13, rfl⟩
    · have p1 := eq_false (show ¬ ((13 : Int) < (l.length : Int)) by omega)
      go_wp2_with fail
      go_meet
      case rel => exact ⟨l, rfl, by omega, hc, CR, wfs_all hwf, rfl⟩
  case rest =>
    obtain ⟨l, rfl, hm1, hm2, CM, HWS, rfl⟩ := hcut
    clear CR
    have CM1 := Aside0.mk (Kd.C_below CM.out B1.out)
    by_cases hgood : ∃ o, judgeF l = (o, true, 0) ∧ l ≠ []
    · obtain ⟨o, hj, hne⟩ := hgood
      have HJ := Aside0.mk hj
      have hpos : 0 < l.length := List.length_pos_iff.2 hne
      have hlz : ((l.length : Int) == 0) = false := by rw [beq_eq_false_iff_ne]; omega
      have hlz2 : l.length ≠ 0 := by omega
      obtain ⟨n, hn⟩ : ∃ n, l.length = n + 1 := ⟨l.length - 1, by omega⟩
      have hn1 : wrap64 ((l.length : Int) - 1) = (n : Int) := by unfold wrap64; omega
      have hn2 : IntKind.i64.wrap ((l.length : Int) - 1) = (n : Int) := by rw [IntKind.wrap_i64]; omega
      obtain ⟨k, hk, hkn⟩ := within0 at_ n (by omega)
      obtain ⟨b, hb, hbn⟩ := within0 by_ 100000 (by omega)
      have hkl : k < l.length := by omega
      have HK := Aside0.mk hk
      have HBY := Aside0.mk (show mintagekeep_Within.f by_ 0 100000 = some (b : Int) from hb)
      clear hj hn hk hb
      go_upto_region 8 with (first
        | (go_at_call 20; (refine (mintagekeep_Within.calls by_ 0 100000 (b : Int) w4 HBY.out).mono ?_; rintro e_ w5 ⟨rfl, hd_⟩; have B5 := Aside0.mk (below_step B4.out hd_.below); have T5 := Aside0.mk ((hd_.below.block T (blk_lt T4.out)).trans T4.out); clear hd_))
        | (go_at_call 20; (refine (mintagekeep_Within.calls at_ 0 (n : Int) (k : Int) w3 HK.out).mono ?_; rintro e_ w4 ⟨rfl, hd_⟩; have B4 := Aside0.mk (below_step B3.out hd_.below); have T4 := Aside0.mk ((hd_.below.block T (blk_lt T3.out)).trans T3.out); clear hd_))
        | (go_at_call 14; go_must (refine (num_calls 0 w2).mono ?_; rintro e_ w3 ⟨rfl, hd_⟩; have B3 := Aside0.mk (below_step B2.out hd_.below); have T3 := Aside0.mk ((hd_.below.block T (blk_lt T2.out)).trans T2.out); clear hd_))
        | (go_at_call 11; go_must (refine (judge_calls wc A c l CM1.out).mono ?_; rintro e_ w2 ⟨v1, rfl, ho_, hd_⟩; rw [HJ.out] at ho_; rw [HJ.out]; obtain ⟨A1, c1, rfl⟩ := Kd.R_slice ho_; have B2 := Aside0.mk (below_step B1.out hd_); have T2 := Aside0.mk ((hd_.block T (blk_lt BT.out)).trans BT.out); clear ho_ hd_)))
      have LX : Aside0 ((([] : List S32).length + l.length) * 40 ≤ 140737488355328) := ⟨by simp; omega⟩
      have Ba := B5
      have hform := judge_form HJ.out
      have hsp := span_form (hform.2 k hkl)
      have h1lo : 0 ≤ (sp l k).f1 := hsp.2.1
      have HWF : Aside0 (WfS (sp l k)) := ⟨HWS k hkl⟩
      have h1hi : (sp l k).f1 < 9223372036854775808 := by have := wf_hi HWF.out.2.1; omega
      have h2hi : (sp l k).f2 < 9223372036854775808 := by have := wf_hi HWF.out.2.2.1; omega
      have HSP := Aside0.mk hsp
      have HFO := Aside0.mk hform
      clear hsp hform
      go_upto_region 9 with (first
        | ((with_reducible refine gate_builtin (b := .append) (xs := #[.tmp 59, .tmp 60]) rfl ?_); at_builtin; go_must (refine Kd.R_append_rows k32 (w0 := w5) w5.heap.size rfl (.tmp 59) (.tmp 60) 22 32 _ 40 rfl Try.underlying22 info32 rfl (by decide) (by omega) vla ([] : List S32) l _ _ _ (fun _ => True) (fun _ => False) rfl rfl HOa.out HCa.out kM (fun _ hk => hk.elim) (fun _ _ => trivial) HLa.out (below_size HLa.out) LX.out ?_; intro v7 wqa ho_ hb_ hg_ hat_; rw [List.nil_append] at ho_; obtain ⟨ga, ca, rfl, hga, hra⟩ := RowAt.of_R ho_ hne; have RWa := Aside0.mk hra; have BWa := Aside0.mk hb_; have GWa := Aside0.mk hga; clear ho_ hb_ hg_ hat_ hra hga))
        | ((with_reducible refine gate_dst (N := 59) rfl ?_); go_must (refine Kd.R_lit k32 w5.heap.size 32 ?hg (N := 59) ?hd (xs := ([] : List S32)) (inner := ([] : List Value)) (ok := fun _ => True) (okp := fun _ => True) ?hr ?hp (fun _ hk => hk) trivial (Below.refl w5.heap.size w5) (Nat.le_refl _) (by simp) ?_; (case hd => rfl); (case hg => rfl); (case hr => first | (go_simp; done) | (go_simp; rfl)); (case hp => exact (Reps.none _ _)); intro vla wla ho_ hb_ hg_ hnew_; have HOa := Aside0.mk ho_; have HLa := Aside0.mk hb_; have HCa := Aside0.mk (Kd.C_below (Kd.C_below CM.out Ba.out) hb_); clear ho_ hb_ hg_ hnew_)))
      have xa := (RWa.out.cell hkl).1
      have fa := RWa.out.frozen (k * 5 + 1)
      have e1 : wrap64 ((sp l k).f1 - (b : Int)) = (sp l k).f1 - (b : Int) := by unfold wrap64; omega
      have e2 : IntKind.i64.wrap ((sp l k).f1 - (b : Int)) = (sp l k).f1 - (b : Int) := by rw [IntKind.wrap_i64]; omega
      have p1 := eq_true (show (0 : Int) ≤ (k : Int) by omega)
      have p2 := eq_true (show (k : Int) < (l.length : Int) by omega)
      go_upto_if 78 with fail
      have R9 := Aside0.mk (RWa.out.put1 hkl ((sp l k).f1 - (b : Int)))
      have HB9 : Aside0 (Below w5.heap.size w5 (wqa.setCell ⟨ga, k * 5 + 1, none⟩ (.int .i64 ((sp l k).f1 - (b : Int))))) := ⟨BWa.out.setCell GWa.out _⟩
      generalize wqa.setCell ⟨ga, k * 5 + 1, none⟩ (.int .i64 ((sp l k).f1 - (b : Int))) = W9 at R9 HB9 ⊢
      clear RWa BWa xa fa e1 e2 HOa HLa HCa
      go_cut [78] from 79 to 82 (fun s78 wx => ∃ la : List S32, Aside0 (la.length = l.length) ∧ Aside0 (∃ o', judgeF la = (o', true, 0)) ∧ Aside0 (RowAt wx ga la) ∧ Aside0 (Below w5.heap.size w5 wx))
      case first =>
        by_cases hneg : (sp l k).f1 - (b : Int) < 0
        · have q1 := eq_true hneg
          have x9 := (R9.out.cell (j := k) (by rw [List.length_set]; exact hkl)).1
          rw [sp_set hkl, if_pos rfl] at x9
          have f9 := R9.out.frozen (k * 5 + 1)
          go_wp2_with fail
          go_meet
          case rel => exact ⟨l.set k { sp l k with f1 := 0 }, ⟨by simp⟩, ⟨by have h := loose_a HJ.out hkl (by_ := (b : Int)) (by omega); unfold lowF at h; rw [if_pos hneg] at h; exact h⟩, ⟨by have h := R9.out.put1 (k := k) (by rw [List.length_set]; exact hkl) 0; rw [List.set_set, sp_set hkl, if_pos rfl] at h; exact h⟩, ⟨HB9.out.setCell GWa.out _⟩⟩
        · have q1 := eq_false hneg
          go_wp2_with fail
          go_meet
          case rel => exact ⟨l.set k { sp l k with f1 := (sp l k).f1 - (b : Int) }, ⟨by simp⟩, ⟨by have h := loose_a HJ.out hkl (by_ := (b : Int)) (by omega); unfold lowF at h; rw [if_neg (by omega)] at h; exact h⟩, R9, HB9⟩
      case rest =>
        obtain ⟨la, HLA, HJA, RA, HBA⟩ := hcut
        clear R9 HB9
        have Bb : Aside0 (Below w.heap.size w wc) := ⟨B5.out.trans (HBA.out.mono B5.out.size)⟩
        go_upto_region 13 with (first
        | ((with_reducible refine gate_builtin (b := .append) (xs := #[.tmp 83, .tmp 84]) rfl ?_); at_builtin; go_must (refine Kd.R_append_rows k32 (w0 := wc) wc.heap.size rfl (.tmp 83) (.tmp 84) 22 32 _ 40 rfl Try.underlying22 info32 rfl (by decide) (by omega) vlb ([] : List S32) l _ _ _ (fun _ => True) (fun _ => False) rfl rfl HOb.out HCb.out kM (fun _ hk => hk.elim) (fun _ _ => trivial) HLb.out (below_size HLb.out) LX.out ?_; intro v7 wqb ho_ hb_ hg_ hat_; rw [List.nil_append] at ho_; obtain ⟨gb, cb, rfl, hgb, hrb⟩ := RowAt.of_R ho_ hne; have RWb := Aside0.mk hrb; have BWb := Aside0.mk hb_; have GWb := Aside0.mk hgb; clear ho_ hb_ hg_ hat_ hrb hgb))
        | ((with_reducible refine gate_dst (N := 83) rfl ?_); go_must (refine Kd.R_lit k32 wc.heap.size 32 ?hg (N := 83) ?hd (xs := ([] : List S32)) (inner := ([] : List Value)) (ok := fun _ => True) (okp := fun _ => True) ?hr ?hp (fun _ hk => hk) trivial (Below.refl wc.heap.size wc) (Nat.le_refl _) (by simp) ?_; (case hd => rfl); (case hg => rfl); (case hr => first | (go_simp; done) | (go_simp; rfl)); (case hp => exact (Reps.none _ _)); intro vlb wlb ho_ hb_ hg_ hnew_; have HOb := Aside0.mk ho_; have HLb := Aside0.mk hb_; have HCb := Aside0.mk (Kd.C_below (Kd.C_below CM.out Bb.out) hb_); clear ho_ hb_ hg_ hnew_)))
        have RA2 : Aside0 (RowAt wqb ga la) := ⟨RA.out.keep (BWb.out.block ga RA.out.lt)⟩
        have xb := (RWb.out.cell hkl).2
        have fb := RWb.out.frozen (k * 5 + 2)
        have HTb : Aside0 (Bx wqb T mo) := ⟨((BWb.out.block T (Nat.lt_of_lt_of_le (blk_lt T5.out) HBA.out.size)).trans ((HBA.out.block T (blk_lt T5.out)).trans T5.out))⟩
        have HBB : Aside0 (Below w.heap.size w wqb) := ⟨Bb.out.trans (BWb.out.mono Bb.out.size)⟩
        have NAB : Aside0 (gb ≠ ga) := ⟨fun e => by have := RA.out.lt; have := GWb.out; omega⟩
        have NTB : Aside0 (gb ≠ T) := ⟨fun e => by have := Nat.lt_of_lt_of_le (blk_lt T5.out) HBA.out.size; have := GWb.out; omega⟩
        have NTA : Aside0 (ga ≠ T) := ⟨fun e => by have := blk_lt T5.out; have := GWa.out; omega⟩
        have LGB : Aside0 (w.heap.size ≤ gb) := ⟨Nat.le_trans Bb.out.size GWb.out⟩
        clear RA BWb HOb HLb HCb HBA Bb Ba B5 T5 GWb
        go_cut [99] (fun v wx => ∃ t : Bool, v = .bool t ∧ Aside0 (t = decide ((sp l k).f2 ≠ -1 ∧ (sp l k).f2 < 1099511627776)) ∧ wx = wqb)
        case first =>
          by_cases h1 : (sp l k).f2 = -1
          · have q1 : ((sp l k).f2 != -1) = false := by rw [h1]; rfl
            have H1 := Aside0.mk h1
            clear h1
            go_wp2_with fail
            go_meet
            case rel => exact ⟨_, rfl, ⟨by rw [decide_eq_false (fun h => h.1 H1.out)]⟩, rfl⟩
          · have q1 : ((sp l k).f2 != -1) = true := by rw [bne_iff_ne]; exact h1
            have H1 := Aside0.mk h1
            clear h1
            by_cases h2 : (sp l k).f2 < 1099511627776
            · have q2 := eq_true h2
              have q3 := decide_eq_true h2
              have H2 := Aside0.mk h2
              clear h2
              go_wp2_with fail
              go_meet
              case rel => exact ⟨_, rfl, ⟨by rw [decide_eq_true ⟨H1.out, H2.out⟩]⟩, rfl⟩
            · have q2 := eq_false h2
              have q3 := decide_eq_false h2
              have H2 := Aside0.mk h2
              clear h2
              go_wp2_with fail
              go_meet
              case rel => exact ⟨_, rfl, ⟨by rw [decide_eq_false (fun h => absurd h.2 (by have := H2.out; omega))]⟩, rfl⟩
        case rest =>
          obtain ⟨t, rfl, HTT, hwx⟩ := hcut
          subst hwx
          go_upto_if 99 with fail
          go_cut [99] from 100 to 110 (fun s99 wx => ∃ lb : List S32, Aside0 (lb.length = l.length) ∧ Aside0 (∃ o', judgeF lb = (o', true, 0)) ∧ Aside0 (RowAt wx gb lb) ∧ Aside0 (RowAt wx ga la) ∧ Aside0 (Bx wx T mo) ∧ Aside0 (Below w.heap.size w wx))
          case first =>
            cases t
            case false =>
              go_wp2_with fail
              go_meet
              case rel => exact ⟨l, ⟨rfl⟩, ⟨o, HJ.out⟩, RWb, RA2, HTb, HBB⟩
            case true =>
              have hTT := of_decide_eq_true HTT.out.symm
              have hge : (sp l k).f1 ≤ (sp l k).f2 := by
                rcases Int.lt_or_le (sp l k).f2 (sp l k).f1 with h1 | h1
                · exact absurd (HSP.out.2.2 h1) hTT.1
                · exact h1
              have e1 : wrap64 ((sp l k).f2 + (b : Int)) = (sp l k).f2 + (b : Int) := by unfold wrap64; omega
              have e2 : IntKind.i64.wrap ((sp l k).f2 + (b : Int)) = (sp l k).f2 + (b : Int) := by rw [IntKind.wrap_i64]; omega
              have HNE := Aside0.mk hTT.1
              clear hTT hge
              go_wp2_with fail
              go_meet
              case rel => exact ⟨l.set k { sp l k with f2 := (sp l k).f2 + (b : Int) }, ⟨by simp⟩, ⟨loose_b HJ.out hkl (by omega) HNE.out⟩, ⟨RWb.out.put2 hkl _⟩, ⟨RA2.out.other NAB.out⟩, ⟨HTb.out.other NTB.out⟩, ⟨HBB.out.setCell LGB.out _⟩⟩
          case rest =>
            obtain ⟨lb, HLB, HJB, RB, RA, HT, HB⟩ := hcut
            clear RWb RA2 HTb HBB HTT xb fb
            go_upto_region 16 with (first
        | ((with_reducible refine gate_builtin (b := .append) (xs := #[.tmp 111, .tmp 112]) rfl ?_); at_builtin; go_must (refine Kd.R_append_rows k32 (w0 := wc) wc.heap.size rfl (.tmp 111) (.tmp 112) 22 32 _ 40 rfl Try.underlying22 info32 rfl (by decide) (by omega) vlc ([] : List S32) l _ _ _ (fun _ => True) (fun _ => False) rfl rfl HOc.out HCc.out kM (fun _ hk => hk.elim) (fun _ _ => trivial) HLc.out (below_size HLc.out) LX.out ?_; intro v7 wqc ho_ hb_ hg_ hat_; rw [List.nil_append] at ho_; obtain ⟨gc, cc, rfl, hgc, hrc⟩ := RowAt.of_R ho_ hne; have RWc := Aside0.mk hrc; have BWc := Aside0.mk hb_; have GWc := Aside0.mk hgc; clear ho_ hb_ hg_ hat_ hrc hgc))
        | ((with_reducible refine gate_dst (N := 111) rfl ?_); go_must (refine Kd.R_lit k32 wc.heap.size 32 ?hg (N := 111) ?hd (xs := ([] : List S32)) (inner := ([] : List Value)) (ok := fun _ => True) (okp := fun _ => True) ?hr ?hp (fun _ hk => hk) trivial (Below.refl wc.heap.size wc) (Nat.le_refl _) (by simp) ?_; (case hd => rfl); (case hg => rfl); (case hr => first | (go_simp; done) | (go_simp; rfl)); (case hp => exact (Reps.none _ _)); intro vlc wlc ho_ hb_ hg_ hnew_; have HOc := Aside0.mk ho_; have HLc := Aside0.mk hb_; have HCc := Aside0.mk (Kd.C_below (Kd.C_below CM.out HB.out) hb_); clear ho_ hb_ hg_ hnew_)))
            have HT1 : Aside0 (Bx wqc T mo) := ⟨HT.out.keep (BWc.out.block T HT.out.lt)⟩
            have RA1 : Aside0 (RowAt wqc ga la) := ⟨RA.out.keep (BWc.out.block ga RA.out.lt)⟩
            have RB1 : Aside0 (RowAt wqc gb lb) := ⟨RB.out.keep (BWc.out.block gb RB.out.lt)⟩
            have HB1 : Aside0 (Below w.heap.size w wqc) := ⟨HB.out.trans (BWc.out.mono HB.out.size)⟩
            have NAC : Aside0 (gc ≠ ga) := ⟨fun e => by have := RA.out.lt; have := GWc.out; omega⟩
            have NBC : Aside0 (gc ≠ gb) := ⟨fun e => by have := RB.out.lt; have := GWc.out; omega⟩
            have NTC : Aside0 (gc ≠ T) := ⟨fun e => by have := HT.out.lt; have := GWc.out; omega⟩
            have LGC : Aside0 (w.heap.size ≤ gc) := ⟨Nat.le_trans HB.out.size GWc.out⟩
            clear HT RA RB HB BWc HOc HLc HCc GWc
            have xc := (RWc.out.cell hkl).2
            have fc := RWc.out.frozen (k * 5 + 2)
            go_upto_region 17 with fail
            have RC : Aside0 (RowAt (wqc.setCell ⟨gc, k * 5 + 2, none⟩ (.int .i64 (-1))) gc (l.set k { sp l k with f2 := -1 })) := ⟨RWc.out.put2 hkl (-1)⟩
            have RA : Aside0 (RowAt (wqc.setCell ⟨gc, k * 5 + 2, none⟩ (.int .i64 (-1))) ga la) := ⟨RA1.out.other NAC.out⟩
            have RB : Aside0 (RowAt (wqc.setCell ⟨gc, k * 5 + 2, none⟩ (.int .i64 (-1))) gb lb) := ⟨RB1.out.other NBC.out⟩
            have HT : Aside0 (Bx (wqc.setCell ⟨gc, k * 5 + 2, none⟩ (.int .i64 (-1))) T mo) := ⟨HT1.out.other NTC.out⟩
            have HB : Aside0 (Below w.heap.size w (wqc.setCell ⟨gc, k * 5 + 2, none⟩ (.int .i64 (-1)))) := ⟨HB1.out.setCell LGC.out _⟩
            generalize wqc.setCell ⟨gc, k * 5 + 2, none⟩ (.int .i64 (-1)) = W16 at RC RA RB HT HB ⊢
            clear xc fc RWc RA1 RB1 HT1 HB1
            obtain ⟨kd, hkd, hkd1, hkd2⟩ := within14 mo.f0
            have HKD := Aside0.mk (show mintagekeep_Within.f mo.f0 1 4 = some kd from hkd)
            have NAT : Aside0 (T ≠ ga) := ⟨fun e => NTA.out e.symm⟩
            have NBT : Aside0 (T ≠ gb) := ⟨fun e => NTB.out e.symm⟩
            have NCT : Aside0 (T ≠ gc) := ⟨fun e => NTC.out e.symm⟩
            clear hkd
            have y2 := HT.out.c2
            have yf := HT.out.fr 2
            go_upto_region 18 with fail
            have RC1 : Aside0 (RowAt (W16.setCell ⟨T, 2, none⟩ (.int .i64 (-1))) gc (l.set k { sp l k with f2 := -1 })) := ⟨RC.out.other NCT.out⟩
            have RA1 : Aside0 (RowAt (W16.setCell ⟨T, 2, none⟩ (.int .i64 (-1))) ga la) := ⟨RA.out.other NAT.out⟩
            have RB1 : Aside0 (RowAt (W16.setCell ⟨T, 2, none⟩ (.int .i64 (-1))) gb lb) := ⟨RB.out.other NBT.out⟩
            have HT1 : Aside0 (Bx (W16.setCell ⟨T, 2, none⟩ (.int .i64 (-1))) T { mo with f2 := -1 }) := ⟨HT.out.put2 _⟩
            have HB1 : Aside0 (Below w.heap.size w (W16.setCell ⟨T, 2, none⟩ (.int .i64 (-1)))) := ⟨HB.out.setCell GT.out _⟩
            generalize W16.setCell ⟨T, 2, none⟩ (.int .i64 (-1)) = W17 at RC1 RA1 RB1 HT1 HB1 ⊢
            clear y2 yf RC RA RB HT HB
            have y0 := HT1.out.c0
            go_upto_region 19 with (go_at_call 20; (refine (mintagekeep_Within.calls mo.f0 1 4 kd W17 HKD.out).mono ?_; rintro e_ W18 ⟨rfl, hd_⟩; have RC2 : Aside0 (RowAt W18 gc (l.set k { sp l k with f2 := -1 })) := ⟨RC1.out.keep (hd_.below.block gc RC1.out.lt)⟩; have RA2 : Aside0 (RowAt W18 ga la) := ⟨RA1.out.keep (hd_.below.block ga RA1.out.lt)⟩; have RB2 : Aside0 (RowAt W18 gb lb) := ⟨RB1.out.keep (hd_.below.block gb RB1.out.lt)⟩; have HT2 : Aside0 (Bx W18 T { mo with f2 := -1 }) := ⟨HT1.out.keep (hd_.below.block T HT1.out.lt)⟩; have HB2 : Aside0 (Below w.heap.size w W18) := ⟨below_step HB1.out hd_.below⟩; have z0 := HT2.out.c0; have zf := HT2.out.fr 0; clear hd_))
            have RC : Aside0 (RowAt (W18.setCell ⟨T, 0, none⟩ (.int .i64 kd)) gc (l.set k { sp l k with f2 := -1 })) := ⟨RC2.out.other NCT.out⟩
            have RA : Aside0 (RowAt (W18.setCell ⟨T, 0, none⟩ (.int .i64 kd)) ga la) := ⟨RA2.out.other NAT.out⟩
            have RB : Aside0 (RowAt (W18.setCell ⟨T, 0, none⟩ (.int .i64 kd)) gb lb) := ⟨RB2.out.other NBT.out⟩
            have HT : Aside0 (Bx (W18.setCell ⟨T, 0, none⟩ (.int .i64 kd)) T { mo with f2 := -1, f0 := kd }) := ⟨HT2.out.put0 _⟩
            have HB : Aside0 (Below w.heap.size w (W18.setCell ⟨T, 0, none⟩ (.int .i64 kd))) := ⟨HB2.out.setCell GT.out _⟩
            generalize W18.setCell ⟨T, 0, none⟩ (.int .i64 kd) = W19 at RC RA RB HT HB ⊢
            clear y0 z0 zf RC1 RA1 RB1 HT1 HB1 RC2 RA2 RB2 HT2 HB2
            have y1 := HT.out.c1
            have yf := HT.out.fr 1
            have hmlo := (wf_hi hmo.2.1)
            go_upto_if 125 with fail
            go_cut [125] from 126 to 126 (fun s125 wx => ∃ y : S32, (1 ≤ y.f0 ∧ y.f0 ≤ 4) ∧ 0 ≤ y.f1 ∧ y.f2 = -1 ∧ Aside0 (Bx wx T y) ∧ Aside0 (RowAt wx gc (l.set k { sp l k with f2 := -1 })) ∧ Aside0 (RowAt wx gb lb) ∧ Aside0 (RowAt wx ga la) ∧ Aside0 (Below w.heap.size w wx))
            case first =>
              by_cases hneg : mo.f1 < 0
              · have q1 := eq_true hneg
                go_wp2_with fail
                go_meet
                case rel => exact ⟨{ mo with f2 := -1, f0 := kd, f1 := 0 }, ⟨hkd1, hkd2⟩, Int.le_refl 0, rfl, ⟨HT.out.put1 _⟩, ⟨RC.out.other NCT.out⟩, ⟨RB.out.other NBT.out⟩, ⟨RA.out.other NAT.out⟩, ⟨HB.out.setCell GT.out _⟩⟩
              · have q1 := eq_false hneg
                go_wp2_with fail
                go_meet
                case rel => exact ⟨{ mo with f2 := -1, f0 := kd }, ⟨hkd1, hkd2⟩, by show 0 ≤ mo.f1; omega, rfl, HT, RC, RB, RA, HB⟩
            case rest =>
              obtain ⟨y, hy0, hy1, hy2, HTy, RCy, RBy, RAy, HBy⟩ := hcut
              have HY2 := Aside0.mk hy2
              clear hy2
              clear RC RA RB HT HB y1 yf
              have HC : Aside0 (Kd.C k32 wc A l.length l) := ⟨Kd.C_below CM.out HBy.out⟩
              go_upto_region 21 with fail
              go_cut [15] from 127 to 132 (fun s15 wx => ∃ gd cd, s15 = .slice (some ⟨gd, 0, none⟩) (l.length + 1) cd ∧ Aside0 (RowAt wx gd (l ++ [y])) ∧ Aside0 (Below wc.heap.size wc wx))
              case first =>
                have y0 := HTy.out.c0
                have y1 := HTy.out.c1
                have y2 := HTy.out.c2
                have y3 := HTy.out.c3
                have y4 := HTy.out.c4
                have HTn : Aside0 (Bx (wc.alloc (Obj.cells #[] 32)) T y) := ⟨blk_alloc HTy.out _⟩
                have z0 := HTn.out.c0
                have z1 := HTn.out.c1
                have z2 := HTn.out.c2
                have z3 := HTn.out.c3
                have z4 := HTn.out.c4
                go_wp2_with fail
                go_region_law (first
                  | (refine Kd.R_append_rows_step k32 (w0 := wc) wc.heap.size rfl (.tmp 127) (.tmp 128) 22 32 _ 40 rfl Try.underlying22 info32 rfl (by decide) (by omega) (Value.slice (some ⟨_, 0, none⟩) 0 0) ([] : List S32) l _ _ _ (fun _ => True) (fun _ => False) rfl rfl ?HO (by show Kd.C k32 _ _ _ _; repeat (first | exact HC.out | (with_reducible refine Kd.C_alloc ?_ _) | (with_reducible refine Kd.C_drew ?_))) kM (fun _ hk => hk.elim) (fun _ _ => trivial) ?HB ?hbase LX.out ?_; (case HO => refine lit0R ?_ (by first | exact Nat.le_refl _ | (simp <;> omega)); (repeat (first | (refine new_sz ?_; (first | rfl | (simp; done)); done) | (with_reducible refine blk_alloc ?_ _) | (with_reducible refine old_drew ?_))));  (case HB => (repeat (first | exact HQ.out | exact Below.refl _ _ | (with_reducible first | apply below_alloc | apply below_drew)))); (case hbase => first | exact Nat.le_refl _ | (simp <;> omega)); intro v7 wq ho_ hb_ hg_ hat_; rw [List.nil_append] at ho_; have HOq := Aside0.mk ho_; have HQ := Aside0.mk hb_; have HGq := Aside0.mk hg_; have HTq : Aside0 (Bx wq T y) := ⟨HTy.out.keep (hb_.block T HTy.out.lt)⟩; have u0 := HTq.out.c0; have u1 := HTq.out.c1; have u2 := HTq.out.c2; have u3 := HTq.out.c3; have u4 := HTq.out.c4; clear ho_ hb_ hg_ hat_)
                  | (refine Kd.R_append_rows_step k32 (w0 := wc) wc.heap.size rfl (.tmp 129) (.tmp 131) 22 32 _ 40 rfl Try.underlying22 info32 rfl (by decide) (by omega) _ l [y] _ _ _ (fun _ => True) (fun _ => False) rfl rfl ?HO (by show Kd.C k32 _ _ _ _; refine lit1C ?_; unfold Bx; first | ((repeat (first | (refine new_sz ?_; (first | rfl | (simp; done)); done) | (with_reducible refine blk_alloc ?_ _) | (with_reducible refine old_drew ?_))); done) | ((repeat (first | (refine new_sz ?_; (first | rfl | (simp; done)); done) | (with_reducible refine blk_alloc ?_ _) | (with_reducible refine old_drew ?_))); refine (HGq.out.block _ (by simp <;> omega) (by simp [Value.ownBlock])).trans ?_; (repeat (first | (refine new_sz ?_; (first | rfl | (simp; done)); done) | (with_reducible refine blk_alloc ?_ _) | (with_reducible refine old_drew ?_))))) kM (fun _ hk => hk.elim) (fun _ _ => trivial) ?HB ?hbase ?hl ?_; (case HO => repeat (first | exact HOq.out | (with_reducible refine Kd.R_alloc ?_ _) | (with_reducible refine Kd.R_drew ?_))); (case HB => (repeat (first | exact HQ.out | exact Below.refl _ _ | (with_reducible first | apply below_alloc | apply below_drew)))); (case hbase => have hq_ := HQ.out.size; first | exact hq_ | (simp <;> omega)); (case hl => omega); intro v8 wd ho_ hb_ hg_ hat_; obtain ⟨gd, cd, rfl, hgd, hrd⟩ := RowAt.of_R ho_ (by simp); have HD := Aside0.mk hrd; have HBD := Aside0.mk hb_; clear ho_ hb_ hg_ hat_ hrd hgd))
                all_goals go_wp2_with fail
                all_goals go_meet
                all_goals exact ⟨gd, cd, rfl, HD, HBD⟩
              case rest =>
                obtain ⟨gd, cd, rfl, RDwc, HBD⟩ := hcut
                have RAwc := Aside0.mk (RAy.out.below HBD.out RAy.out.lt)
                have RBwc := Aside0.mk (RBy.out.below HBD.out RBy.out.lt)
                have RCwc := Aside0.mk (RCy.out.below HBD.out RCy.out.lt)
                have HBwc := Aside0.mk (below_step HBy.out HBD.out)
                clear RAy RBy RCy HTy HBy HBD HC
                go_upto_region 23 with (go_at_call 11; go_must (refine (judge_yes wc (some ⟨ga, 0, none⟩) ca l.length _ HLA.out (RAwc.out.C (by rw [HLA.out]; omega)) HJA.out).mono ?_; rintro e_ J1 ⟨vJ1, rfl, hb_⟩; have HBJ1 := Aside0.mk (below_step HBwc.out hb_); have RBJ1 := Aside0.mk (RBwc.out.below hb_ RBwc.out.lt); have RCJ1 := Aside0.mk (RCwc.out.below hb_ RCwc.out.lt); have RDJ1 := Aside0.mk (RDwc.out.below hb_ RDwc.out.lt); clear hb_))
                go_upto_region 24 with (go_at_call 11; go_must (refine (judge_yes J1 (some ⟨gb, 0, none⟩) cb l.length _ HLB.out (RBJ1.out.C (by rw [HLB.out]; omega)) HJB.out).mono ?_; rintro e_ J2 ⟨vJ2, rfl, hb_⟩; have HBJ2 := Aside0.mk (below_step HBJ1.out hb_); have RCJ2 := Aside0.mk (RCJ1.out.below hb_ RCJ1.out.lt); have RDJ2 := Aside0.mk (RDJ1.out.below hb_ RDJ1.out.lt); clear hb_))
                go_upto_region 25 with (go_at_call 11; go_must (refine (judge_yes J2 (some ⟨gc, 0, none⟩) cc l.length _ (by simp) (RCJ2.out.C (by simp; omega)) (loose_c HJ.out hkl)).mono ?_; rintro e_ J3 ⟨vJ3, rfl, hb_⟩; have HBJ3 := Aside0.mk (below_step HBJ2.out hb_); have RDJ3 := Aside0.mk (RDJ2.out.below hb_ RDJ2.out.lt); clear hb_))
                go_upto_region 26 with (go_at_call 11; go_must (refine (judge_yes J3 (some ⟨gd, 0, none⟩) cd (l.length + 1) _ (by simp) (RDJ3.out.C (by simp; omega)) (loose_d HJ.out (by omega) hy0 hy1 HY2.out)).mono ?_; rintro e_ J4 ⟨vJ4, rfl, hb_⟩; have HBJ4 := Aside0.mk (below_step HBJ3.out hb_); clear hb_))
                go_wp2_with (go_at_call 17; go_must (refine (wakes_calls J4).mono ?_; rintro e_ J5 ⟨rfl, hd_⟩; have HBJ5 := Aside0.mk (below_step HBJ4.out hd_); clear hd_))
                go_ret
                exact ⟨rfl, HBJ5.out⟩
    · rcases judge_cases l with ⟨o, hj⟩ | ⟨er, hj⟩
      · have h0 : l = [] := Classical.byContradiction fun h => hgood ⟨o, hj, h⟩
        have HJ := Aside0.mk hj
        have hlz : ((l.length : Int) == 0) = true := by subst h0; rfl
        clear hj hgood h0
        go_wp2_with (first
          | (go_at_call 17; go_must (refine (wakes_calls _).mono ?_; rintro e_ w9 ⟨rfl, hd_⟩; have B9 := Aside0.mk (below_step B2.out hd_); clear hd_))
          | (go_at_call 14; go_must (refine (num_calls 0 w2).mono ?_; rintro e_ w3 ⟨rfl, hd_⟩; have B2 := Aside0.mk (below_step BJ.out hd_.below); clear hd_))
          | (go_at_call 11; go_must (refine (judge_calls wc A c l CM1.out).mono ?_; rintro e_ w2 ⟨v1, rfl, ho_, hd_⟩; rw [HJ.out] at ho_; rw [HJ.out]; obtain ⟨A1, c1, rfl⟩ := Kd.R_slice ho_; have BJ := Aside0.mk (below_step B1.out hd_); clear ho_ hd_)))
        go_ret
        exact ⟨rfl, B9.out⟩
      · have HJ := Aside0.mk hj
        clear hj hgood
        by_cases he : er = 0
        · subst he
          go_wp2_with (first
            | (go_at_call 17; go_must (refine (wakes_calls _).mono ?_; rintro e_ w9 ⟨rfl, hd_⟩; have B9 := Aside0.mk (below_step B2.out hd_); clear hd_))
            | (go_at_call 14; go_must (refine (num_calls 0 w2).mono ?_; rintro e_ w3 ⟨rfl, hd_⟩; have B2 := Aside0.mk (below_step BJ.out hd_.below); clear hd_))
            | (go_at_call 11; go_must (refine (judge_calls wc A c l CM1.out).mono ?_; rintro e_ w2 ⟨v1, rfl, ho_, hd_⟩; rw [HJ.out] at ho_; rw [HJ.out]; obtain ⟨A1, c1, rfl⟩ := Kd.R_slice ho_; have BJ := Aside0.mk (below_step B1.out hd_); clear ho_ hd_)))
          go_ret
          exact ⟨rfl, B9.out⟩
        · have he' : (er != 0) = true := by simpa using he
          clear he
          go_wp2_with (first
            | (go_at_call 17; go_must (refine (wakes_calls _).mono ?_; rintro e_ w9 ⟨rfl, hd_⟩; have B9 := Aside0.mk (below_step B2.out hd_); clear hd_))
            | (go_at_call 14; go_must (refine (num_calls er w2).mono ?_; rintro e_ w3 ⟨rfl, hd_⟩; have B2 := Aside0.mk (below_step BJ.out hd_.below); clear hd_))
            | (go_at_call 11; go_must (refine (judge_calls wc A c l CM1.out).mono ?_; rintro e_ w2 ⟨v1, rfl, ho_, hd_⟩; rw [HJ.out] at ho_; rw [HJ.out]; obtain ⟨A1, c1, rfl⟩ := Kd.R_slice ho_; have BJ := Aside0.mk (below_step B1.out hd_); clear ho_ hd_)))
          go_ret
          exact ⟨rfl, B9.out⟩
end Go.Proofs.Ytbjoinocajobhaa.Ju
