/- The document's Div, walked. -/
import Derived.Test.YtfdcanemmaemmaaTdZWideTimes
import Derived.Test.YtfdcanemmaemmaaKeep0ZWideTimes
import Derived.Deep.RegionLaw
import Derived.BigRegion
namespace Go.Proofs.Ytfdcanemmaemmaa.Td
set_option linter.unusedVariables false
set_option linter.unusedSimpArgs false
open Go.RowKit Go.Proofs.Ytfdcanemmaemmaa.Q Go.Proofs.Ytfdcanemmaemmaa.Wid Go.Proofs.Ytfdcanemmaemmaa.Big Go.Proofs.YtfdcanemmaemmaaW.PrintWords Go.Proofs.YtfdcanemmaemmaaW.PrintLast Go.Proofs.Ytfdcanemmaemmaa.Keep

theorem new_sz {W : World} {o : Obj} {g : Nat} (h : g = W.heap.size) : (W.alloc o).heap[g]? = some o := by subst h; exact blk_new W o
theorem old_drew {W : World} {o : Obj} {g : Nat} (h : W.heap[g]? = some o) : W.drew.heap[g]? = some o := h
theorem boxU {W : World} {a : Nat} {x : Int} (h : W.heap[a]? = some (.cells #[.int .u64 x] 22 (0, 0))) : Kd.C (Kd.int .u64) W (some ⟨a, 0, none⟩) 1 [x] := by
  refine Kd.C_of_reads (d := (0 : Int)) (h1 := fun _ => rfl) (readsInt_of.1 ⟨rfl, by omega, fun _ => ⟨_, rfl, fun j hj => ?_⟩⟩)
  obtain rfl : j = 0 := by simpa using hj
  rw [add_plain, blk_cell h 0]; rfl
/-- What stays through the last statement. -/
structure KR (w : World) (r4 g : Nat) (q1 q0 : Int) (W : World) : Prop where
  box : W.heap[g]? = some (.cells #[.int .u64 q1, .int .u64 q0] 24 (0, 0))
  res : W.heap[r4]? = some (.cells #[.int .u64 0, .int .u64 0] 24 (0, 0))
  bel : Below w.heap.size w W
  lo : w.heap.size ≤ r4
  lt : r4 < g
theorem KR.below {w : World} {r4 g : Nat} {q1 q0 : Int} {W W' : World} (h : KR w r4 g q1 q0 W) (hb : Below W.heap.size W W') : KR w r4 g q1 q0 W' :=
  ⟨(hb.block g (blk_lt h.box)).trans h.box, (hb.block r4 (blk_lt h.res)).trans h.res, below_step h.bel hb, h.lo, h.lt⟩
theorem KR.cells {w : World} {r4 g : Nat} {q1 q0 : Int} {W : World} (h : KR w r4 g q1 q0 W) : W.cell? ⟨g, 0, none⟩ = some (.int .u64 q1) ∧ W.cell? ⟨g, 1, none⟩ = some (.int .u64 q0) ∧ W.cell? ⟨r4, 0, none⟩ = some (.int .u64 0) ∧ W.cell? ⟨r4, 1, none⟩ = some (.int .u64 0) ∧ W.frozen? ⟨r4, 0, none⟩ = false ∧ W.frozen? ⟨r4, 1, none⟩ = false :=
  ⟨(blk_cell h.box 0).trans rfl, (blk_cell h.box 1).trans rfl, (blk_cell h.res 0).trans rfl, (blk_cell h.res 1).trans rfl, blk_frozen h.res 0, blk_frozen h.res 1⟩
theorem far_ad {w W6 w9 : World} {r4 g : Nat} {q1 q0 : Int} (h : KR w r4 g q1 q0 W6) {ad : Addr} {n c : Nat} (hb : ∀ k, (Value.slice (some ad) n c).ownBlock = some k → W6.heap.size ≤ k) {x : Value} (hx : w9.cell? ad = some x) {u v : Value} : ((w9.setCell ⟨r4, 0, none⟩ u).setCell ⟨r4, 1, none⟩ v).cell? ad = some x := by
  have h1 := hb ad.block (by simp [Value.ownBlock])
  have h2 := blk_lt h.res
  have hne : r4 ≠ ad.block := by omega
  exact (World.cell?_setCell_far _ _ _ _ hne).trans ((World.cell?_setCell_far _ _ _ _ hne).trans hx)
set_option maxHeartbeats 1000000 in
set_option maxRecDepth 100000 in
theorem rdiv_zero (a1 a0 : Int) (w : World) : Calls Try.prog 28 #[.agg #[.int .u64 a1, .int .u64 a0], .int .u64 0] w fun e w' => e = .returned (.tuple #[.agg #[.int .u64 0, .int .u64 0], .int .u64 0, .bool false]) ∧ Below w.heap.size w w' := by
  go_enter Try.func28, Try.ntmps28
  go_wp2
  exact bodyPost_ret (v := .tuple #[.agg #[.int .u64 0, .int .u64 0], .int .u64 0, .bool false]) (by simp [results, Try.results28, go_sem]) rfl ⟨rfl, by repeat (first | exact Below.refl _ _ | apply below_alloc | apply below_drew | refine below_set ?_ (Nat.le_succ _) | refine below_set ?_ (by simp))⟩
set_option maxHeartbeats 4000000 in
set_option maxRecDepth 100000 in
theorem rdiv_pos (K : Nat) (a1 a0 d q1 q0 r : Int) (da dd dq dr wr : List Int) (o : Bool) (h : Dv K a1 a0 d q1 q0 r da dd dq dr wr o) (hd : d ≠ 0) (w : World) : Calls Try.prog 28 #[.agg #[.int .u64 a1, .int .u64 a0], .int .u64 d] w fun e w' => e = .returned (.tuple #[.agg #[.int .u64 q1, .int .u64 q0], .int .u64 r, .bool true]) ∧ Below w.heap.size w w' := by
  have H := Aside0.mk h
  clear h
  go_enter Try.func28, Try.ntmps28
  go_upto_region 3 with fail
  have B0 : Aside0 (Below w.heap.size w ((w.alloc (.cells #[.int .u64 a1, .int .u64 a0] 24)).alloc (.cells #[.int .u64 0, .int .u64 0] 24))) := ⟨by repeat (first | exact Below.refl _ _ | apply below_alloc)⟩
  have hg : ((w.alloc (.cells #[.int .u64 a1, .int .u64 a0] 24)).alloc (.cells #[.int .u64 0, .int .u64 0] 24)).heap[w.heap.size + 1]? = some (.cells #[.int .u64 0, .int .u64 0] 24 (0, 0)) := by
    have := blk_new (w.alloc (.cells #[.int .u64 a1, .int .u64 a0] 24)) (.cells #[.int .u64 0, .int .u64 0] 24)
    simpa using this
  have Hg := Aside0.mk hg
  clear hg
  have hbx : ((w.alloc (.cells #[.int .u64 a1, .int .u64 a0] 24)).alloc (.cells #[.int .u64 0, .int .u64 0] 24)).heap[w.heap.size]? = some (.cells #[.int .u64 a1, .int .u64 a0] 24 (0, 0)) := by
    have h1 := blk_new w (.cells #[.int .u64 a1, .int .u64 a0] 24)
    exact blk_alloc h1 _
  have c0 := blk_cell hbx 0
  have c1 := blk_cell hbx 1
  have hsz : ((w.alloc (.cells #[.int .u64 a1, .int .u64 a0] 24)).alloc (.cells #[.int .u64 0, .int .u64 0] 24)).heap.size = w.heap.size + 2 := by simp
  have HSZ := Aside0.mk hsz
  clear hbx hsz
  generalize (w.alloc (.cells #[.int .u64 a1, .int .u64 a0] 24)).alloc (.cells #[.int .u64 0, .int .u64 0] 24) = W1 at B0 Hg c0 c1 HSZ ⊢
  go_upto_region 4 with (first
    | ((with_reducible refine gate_dst (N := 18) rfl ?_); refine Kd.R_lit (Kd.int .u64) w2.heap.size 22 ?hg (N := 18) ?hd (xs := ([d] : List Int)) (inner := [.int .u64 d]) (ok := fun _ => True) (okp := fun _ => True) ?hr ?hp (fun _ hk => hk) trivial (Below.refl w2.heap.size w2) (Nat.le_refl _) (by simp) ?_; (case hd => rfl); (case hg => rfl); (case hr => first | (go_simp; done) | (go_simp; rfl)); (case hp => exact (Reps.one (show Kd.M (Kd.int .u64) _ _ _ d [.int .u64 d] from rfl) (Reps.none _ _))); intro v3 w3 ho3 hb hg_ hnew_; obtain ⟨A3, c3, e3⟩ := Kd.R_slice ho3; subst e3; have HC3 := Aside0.mk (Kd.R_reads' ho3).2.2; have HL3 := Aside0.mk (Kd.R_reads' ho3).2.1; have HB3 := Aside0.mk (below_step HB2.out hb); have HC2b := Aside0.mk (Kd.C_below HC2.out hb); clear hg_ hnew_ ho3 hb)
    | (go_at_call 22; go_loud (refine (mintageref01_Of.calls K a1 a0 da W1 H.out.of_).mono ?_; rintro e_ w2 ⟨v2, rfl, hR_, hd_⟩; obtain ⟨A2, c2, e2⟩ := Kd.R_slice hR_; subst e2; have HC2 := Aside0.mk (Kd.R_reads' hR_).2.2; have HL2 := Aside0.mk (Kd.R_reads' hR_).2.1; have HB2 := Aside0.mk hd_; clear hR_ hd_))
    | (go_at_call 34; go_loud (refine (mintageref01_Num.calls K A3 c3 [d] dd w3 HC3.out HL3.out H.out.num).mono ?_; rintro e_ w4 ⟨v4, rfl, hR_, hd_⟩; obtain ⟨A4, c4, e4⟩ := Kd.R_slice hR_; subst e4; have HC4 := Aside0.mk (Kd.R_reads' hR_).2.2; have HL4 := Aside0.mk (Kd.R_reads' hR_).2.1; have HB4 := Aside0.mk (below_step HB3.out hd_); have HC2c := Aside0.mk (Kd.C_below HC2b.out hd_); clear hR_ hd_))
    | (go_at_call 37; go_loud (refine (mintageref01_Over.calls K A2 c2 da A4 c4 dd dq dr w4 HC2c.out HL2.out HC4.out HL4.out H.out.over).mono ?_; rintro e_ w5 ⟨v5, v6, rfl, hR_, hR2_, hd_⟩; obtain ⟨A5, c5, e5⟩ := Kd.R_slice hR_; subst e5; obtain ⟨A6, c6, e6⟩ := Kd.R_slice hR2_; subst e6; have HC5 := Aside0.mk (Kd.R_reads' hR_).2.2; have HL5 := Aside0.mk (Kd.R_reads' hR_).2.1; have HC6 := Aside0.mk (Kd.R_reads' hR2_).2.2; have HL6 := Aside0.mk (Kd.R_reads' hR2_).2.1; have HB5 := Aside0.mk (below_step HB4.out hd_); clear hR_ hR2_ hd_)))
  clear c0 c1
  go_upto_region 5 with (first
    | (go_at_call 29; go_loud (refine (mintageref01_Wide.calls K A5 c5 dq q1 q0 o w5 HC5.out HL5.out H.out.wide).mono ?_; rintro e_ w6 ⟨rfl, hd_⟩; have HB6 := Aside0.mk (below_step HB5.out hd_); have HC6b := Aside0.mk (Kd.C_below HC6.out hd_); clear hd_)))
  have hsz6 : W1.heap.size ≤ w6.heap.size := HB6.out.size
  have hs1 := HSZ.out
  have KR0 : KR w (w.heap.size + 1) w6.heap.size q1 q0 (w6.alloc (.cells #[.int .u64 q1, .int .u64 q0] 24)) :=
    ⟨blk_new w6 _, blk_alloc ((HB6.out.block _ (by omega)).trans Hg.out) _, below_alloc (B0.out.trans (HB6.out.mono B0.out.size)) _, by omega, by omega⟩
  have C0 : Kd.C (Kd.int .i64) (w6.alloc (.cells #[.int .u64 q1, .int .u64 q0] 24)) A6 dr.length dr := Kd.C_below HC6b.out (below_alloc (Below.refl _ _) _)
  have hA : (⟨w6.heap.size, 0, none⟩ : Addr) = ⟨w6.heap.size, 0, none⟩ := rfl
  have KRA := Aside0.mk KR0
  have CA := Aside0.mk C0
  clear KR0 C0 hsz6 hs1 hA HC2 HL2 HB2 HC3 HL3 HB3 HC2b HC4 HL4 HB4 HC2c HC5 HL5 HC6 HB5 HB6 HC6b B0 Hg HSZ
  generalize w6.alloc (.cells #[.int .u64 q1, .int .u64 q0] 24) = W6 at KRA CA ⊢
  generalize w6.heap.size = g at KRA ⊢
  generalize w.heap.size + 1 = r4 at KRA ⊢
  obtain ⟨x0, x1, -, -, -, -⟩ := KRA.out.cells
  obtain ⟨y0, y1, -, -, -, -⟩ := (KRA.out.below (below_alloc (Below.refl _ _) (.cells #[.int .u64 0] 22))).cells
  have LL : Aside0 ((wr.length + 1) * 8 ≤ 140737488355328) := ⟨by have := H.out.len; omega⟩
  have HAT := Aside0.mk H.out.at_
  go_region_law (first
    | (go_simp; go_at_call 36; go_loud (refine (mintageref01_Words.calls K A6 c6 dr wr _ (Kd.C_below CA.out (by repeat (first | exact Below.refl _ _ | (with_reducible first | apply below_alloc | apply below_drew)))) HL6.out H.out.words).mono ?_; rintro e_ w8 ⟨v8, rfl, hR_, hd_⟩; have HD8 := Aside0.mk hd_; have HB8 := Aside0.mk (below_step (show Below W6.heap.size W6 _ by repeat (first | exact Below.refl _ _ | (with_reducible first | apply below_alloc | apply below_drew))) hd_); have HR8 := Aside0.mk (Kd.R_lower hR_ (below_size (show Below W6.heap.size W6 _ by repeat (first | exact Below.refl _ _ | (with_reducible first | apply below_alloc | apply below_drew))))); clear hR_ hd_; obtain ⟨x0_, x1_, -, -, -, -⟩ := (KRA.out.below HB8.out).cells; obtain ⟨y0_, y1_, -, -, -, -⟩ := (KRA.out.below (below_alloc HB8.out (.cells #[.int .u64 0] 22))).cells))
    | (refine Kd.R_append_rows_step (Kd.int .u64) W6.heap.size rfl (.tmp 30) (.tmp 31) 53 22 (.int .u64 0) 8 rfl Try.underlying53 info22 rfl (by decide) (by omega) v8 wr [0] _ _ _ (fun _ => True) (fun _ => False) rfl rfl ?HO ?HC (fun _ _ h => h) (fun _ hk => hk.elim) (fun _ _ => trivial) (w0 := W6) ?HB ?hb LL.out ?_; (case HO => (with_reducible repeat (first | apply Kd.R_alloc | apply Kd.R_drewN | apply Kd.R_drew)); exact HR8.out); (case HB => repeat (first | (with_reducible first | exact HB8.out | apply below_alloc | apply pw_below_drewN | apply below_drew1) | exact HB8.out)); (case hb => exact below_size (by repeat (first | (with_reducible first | exact HB8.out | apply below_alloc | apply pw_below_drewN | apply below_drew1) | exact HB8.out))); (case HC => show Kd.C (Kd.int .u64) _ _ _ _; refine boxU ?_; first | ((repeat (first | (refine new_sz ?_; (first | rfl | (simp; done)); done) | (with_reducible refine blk_alloc ?_ _) | (with_reducible refine old_drew ?_))); done) | (refine (HD8.out.block _ (by simp)).trans ?_; (repeat (first | (refine new_sz ?_; (first | rfl | (simp; done)); done) | (with_reducible refine blk_alloc ?_ _) | (with_reducible refine old_drew ?_))); done)); intro v9 w9 ho hb hg hat; go_loud (have hbase_ := Kd.R_base ho; obtain ⟨A9, c9, e9⟩ := Kd.R_slice ho; subst e9; have HC9 := Aside0.mk (Kd.R_reads' ho).2.2; have KR9 := Aside0.mk (KRA.out.below hb); clear ho hb hg hat; obtain ⟨x0_, x1_, x2_, x3_, x4_, x5_⟩ := KR9.out.cells; obtain ⟨ad, ea, hx0⟩ := Kd.at_int HC9.out 0 (Int.le_refl 0) (by simp <;> omega); cases ea; rw [HAT.out] at hx0; rw [show ((0 : Int)).toNat = 0 from rfl, Addr.add_zero'] at hx0; have hx1 := far_ad KRA.out hbase_ hx0 (u := .int .u64 q1) (v := .int .u64 q0); clear hbase_)))
  all_goals
    obtain ⟨-, -, z0_, z1_, -, -⟩ := KR9.out.cells
    have c0 : ((w9.setCell ⟨r4, 0, none⟩ (Value.int IntKind.u64 q1)).setCell ⟨r4, 1, none⟩ (Value.int IntKind.u64 q0)).cell? ⟨r4, 0, none⟩ = some (Value.int IntKind.u64 q1) := by
      rw [World.cell?_setCell_other _ _ _ _ (by simp)]; exact World.cell?_setCell_same _ _ _ z0_
    have c1 : ((w9.setCell ⟨r4, 0, none⟩ (Value.int IntKind.u64 q1)).setCell ⟨r4, 1, none⟩ (Value.int IntKind.u64 q0)).cell? ⟨r4, 1, none⟩ = some (Value.int IntKind.u64 q0) :=
      World.cell?_setCell_same _ _ _ ((World.cell?_setCell_other _ _ _ _ (by simp)).trans z1_)
    go_wp2
    exact bodyPost_ret (v := .tuple #[.agg #[.int .u64 q1, .int .u64 q0], .int .u64 r, .bool true]) (by simp [results, Try.results28, go_sem, c0, c1]) rfl ⟨rfl, by repeat (first | exact KR9.out.bel | apply below_drew | refine below_set ?_ KR9.out.lo)⟩
end Go.Proofs.Ytfdcanemmaemmaa.Td
