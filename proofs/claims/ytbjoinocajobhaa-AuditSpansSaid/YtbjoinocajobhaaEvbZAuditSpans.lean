/- audit.Spans, walked. -/
import Derived.Test.YtbjoinocajobhaaEvaZAuditSpans
namespace Go.Proofs.Ytbjoinocajobhaa.Evs
set_option linter.unusedVariables false
set_option linter.unusedSimpArgs false
open Go.RowKit Go.Proofs.Ytbjoinocajobhaa.Q Go.Proofs.YtbjoinocajobhaaW.PrintWords Go.Proofs.YtbjoinocajobhaaW.PrintLast Go.Proofs.Ytbjoinocajobhaa.Ju Go.Proofs.Ytbjoinocajobhaa.Keep Go.Maps
theorem AS.look2 {w W : World} {bm n : Nat} {g : Go_} {out : List S32} {v : Value} (h : AS w W bm n g out v) {c : Int} (hc : (Lit.int .i64 c).wf = true) :
    (Instr.lookup 81 (.map (some bm)) (.int .i64 c) true).run Try.prog W = .ok (.tuple #[ov ((g c).getD (zE, 0)).1 ((g c).getD (zE, 0)).2, .bool (g c).isSome]) W := by
  obtain ⟨h1, h2⟩ := h.look hc
  cases hg : g c with
  | none => exact h2 hg
  | some p => exact h1 p hg
theorem badA_is (was : Option (E6 × Nat)) (e : E6) : badA was e = (!kindB e.f2 || ((was.isSome != e.f3) || (was.isSome && (((was.getD (zE, 0)).1.f1 != e.f1) || ((was.getD (zE, 0)).1.f2 != e.f2))))) := by
  unfold badA
  cases was with
  | none => simp
  | some p => simp [Bool.or_assoc]
theorem laid6 {w0 W : World} {gb : Nat} (hb : Below w0.heap.size w0 W) (hx : W.heap[gb]? = some (.cells #[.int .i64 0, .int .i64 0, .int .i64 0, .bool false, .int .i64 0, .int .i64 0] 83 (0, 0))) (ge : w0.heap.size ≤ gb) (x : E6) :
    ∃ W', (((((W.setCell ⟨gb, 0, none⟩ (.int .i64 x.f0)).setCell ⟨gb, 1, none⟩ (.int .i64 x.f1)).setCell ⟨gb, 2, none⟩ (.int .i64 x.f2)).setCell ⟨gb, 3, none⟩ (.bool x.f3)).setCell ⟨gb, 4, none⟩ (.int .i64 x.f4)).setCell ⟨gb, 5, none⟩ (.int .i64 x.f5) = W' ∧
      Below w0.heap.size w0 W' ∧ W'.heap[gb]? = some (.cells #[.int .i64 x.f0, .int .i64 x.f1, .int .i64 x.f2, .bool x.f3, .int .i64 x.f4, .int .i64 x.f5] 83 (0, 0)) := by
  refine ⟨_, rfl, ?_, ?_⟩
  · exact (((((hb.setCell ge _).setCell ge _).setCell ge _).setCell ge _).setCell ge _).setCell ge _
  · exact blk_put (blk_put (blk_put (blk_put (blk_put (blk_put hx 0 _ rfl) 1 _ rfl) 2 _ rfl) 3 _ rfl) 4 _ rfl) 5 _ rfl
theorem laid7 {w0 W : World} {gb : Nat} (hb : Below w0.heap.size w0 W) (hx : W.heap[gb]? = some (.cells #[.int .i64 0, .int .i64 0, .int .i64 0, .bool false, .int .i64 0, .int .i64 0, .int .i64 0] 85 (0, 0))) (ge : w0.heap.size ≤ gb) (x : E6) (n : Nat) :
    ∃ W', ((((((W.setCell ⟨gb, 0, none⟩ (.int .i64 x.f0)).setCell ⟨gb, 1, none⟩ (.int .i64 x.f1)).setCell ⟨gb, 2, none⟩ (.int .i64 x.f2)).setCell ⟨gb, 3, none⟩ (.bool x.f3)).setCell ⟨gb, 4, none⟩ (.int .i64 x.f4)).setCell ⟨gb, 5, none⟩ (.int .i64 x.f5)).setCell ⟨gb, 6, none⟩ (.int .i64 (n : Int)) = W' ∧
      Below w0.heap.size w0 W' ∧ W'.heap[gb]? = some (.cells #[.int .i64 x.f0, .int .i64 x.f1, .int .i64 x.f2, .bool x.f3, .int .i64 x.f4, .int .i64 x.f5, .int .i64 (n : Int)] 85 (0, 0)) := by
  refine ⟨_, rfl, ?_, ?_⟩
  · exact ((((((hb.setCell ge _).setCell ge _).setCell ge _).setCell ge _).setCell ge _).setCell ge _).setCell ge _
  · exact blk_put (blk_put (blk_put (blk_put (blk_put (blk_put (blk_put hx 0 _ rfl) 1 _ rfl) 2 _ rfl) 3 _ rfl) 4 _ rfl) 5 _ rfl) 6 _ rfl
theorem row_own {e base : Nat} {W : World} {ok : Nat → Prop} {ad : Addr} {n c : Nat} {out : List S32} (h : Kd.R k32 e W base ok (.slice (some ad) n c) out) (hn : 0 < n) : ∃ gb, ad = ⟨gb, 0, none⟩ ∧ base ≤ gb ∧ ok gb ∧ ∃ cur, W.heap[gb]? = some (.cells cur e (0, 0)) := by
  obtain ⟨hok, inner, hown, hr⟩ := h
  rcases hown.2 with ⟨hv, _⟩ | ⟨g', cap', cur, hv, hb, hh, _⟩
  · cases hv
  · injection hv with ha _ _
    injection ha with ha
    subst ha
    exact ⟨g', rfl, hb, hok g' (by simp [Value.ownBlock]), cur, hh⟩
/-- Three fields of a span are written. -/
theorem row_end {base : Nat} {W : World} {ok : Nat → Prop} {gb n c : Nat} {out : List S32} (h : Kd.R k32 32 W base ok (.slice (some ⟨gb, 0, none⟩) n c) out) {k : Nat} (hk : k < n) (i : Nat) (e : E6) :
    Kd.R k32 32 (((W.setCell ⟨gb, k * 5 + 2, none⟩ (.int .i64 (i : Int))).setCell ⟨gb, k * 5 + 3, none⟩ (.int .i64 e.f4)).setCell ⟨gb, k * 5 + 4, none⟩ (.int .i64 e.f5)) base ok (.slice (some ⟨gb, 0, none⟩) n c) (out.set k (endS (sp out k) i e)) ∧
      W.grownBy (((W.setCell ⟨gb, k * 5 + 2, none⟩ (.int .i64 (i : Int))).setCell ⟨gb, k * 5 + 3, none⟩ (.int .i64 e.f4)).setCell ⟨gb, k * 5 + 4, none⟩ (.int .i64 e.f5)) (some gb) := by
  have hn : n = out.length := (Kd.R_reads' h).1
  have hC := (Kd.R_reads' h).2.2
  obtain ⟨ad, ea, h0, h1, h2, h3, h4⟩ := span_at hC (Below.refl _ _) (j := k) (by omega)
  obtain rfl := (Option.some.inj ea).symm
  have ead : (Addr.add ⟨gb, 0, none⟩ (k * 5)) = ⟨gb, k * 5, none⟩ := by simp [Addr.add]; intro q; omega
  rw [ead] at h0 h1 h2 h3 h4
  have hs := Kd.R_seg h (k : Int) (by omega) (by omega) (c := [.int .i64 (sp out k).f0, .int .i64 (sp out k).f1, .int .i64 (sp out k).f2, .int .i64 (sp out k).f3, .int .i64 (sp out k).f4]) (seg := [.int .i64 (i : Int), .int .i64 e.f4, .int .i64 e.f5]) (j := 2) rfl (fun j u hu => by
    rw [Int.toNat_natCast]
    match j, hu with
    | 0, hu => obtain rfl := Option.some.inj hu; exact h0
    | 1, hu => obtain rfl := Option.some.inj hu; exact h1
    | 2, hu => obtain rfl := Option.some.inj hu; exact h2
    | 3, hu => obtain rfl := Option.some.inj hu; exact h3
    | 4, hu => obtain rfl := Option.some.inj hu; exact h4) (Nat.le_refl 5) (x' := endS (sp out k) i e) (okp := fun _ => False) (k32_mkM _ _ _ (endS (sp out k) i e)) (fun _ hk => hk.elim)
  rw [Int.toNat_natCast] at hs
  exact hs
theorem cell_far {w : World} {p a : Addr} {v u : Value} (h : w.cell? a = some u) (hne : p.block ≠ a.block) : (w.setCell p v).cell? a = some u := (World.cell?_setCell_far w p a v hne).trans h
theorem cell_off {w : World} {g i j : Nat} {v u : Value} (h : w.cell? ⟨g, j, none⟩ = some u) (hne : i ≠ j) : (w.setCell ⟨g, i, none⟩ v).cell? ⟨g, j, none⟩ = some u := by
  have hq : (⟨g, i, none⟩ : Addr) ≠ ⟨g, j, none⟩ := fun e => hne (by injection e)
  rw [World.cell?_setCell_other]
  · exact h
  · exact hq
theorem AS.bmlt {w W : World} {bm n : Nat} {g : Go_} {out : List S32} {v : Value} (h : AS w W bm n g out v) : bm < W.heap.size := by
  obtain ⟨D, h1, _⟩ := h.map
  exact h1.lt
theorem go_lt {l : List E6} {se : Int} {i : Nat} {g : Go_} {out : List S32} {P : List (Nat × Int)} (h : Rel l se i g out P) {c : Int} {x : E6 × Nat} (hx : g c = some x) (hs : x.1.f1 = se) : x.2 < out.length := by
  rcases h.go c with ⟨h1, _⟩ | ⟨k, p, hk, h1, h2, h3, _⟩
  · rw [hx] at h1; cases h1
  · rw [hx] at h3
    injection h3 with h3
    subst h3
    obtain ⟨hsp, htl⟩ := split_k hk
    rw [h.out]
    conv => rhs; rw [hsp]
    rw [outF_app]
    have : outF l se (p :: P.drop (k + 1)) = spanO l p :: outF l se (P.drop (k + 1)) := by
      unfold outF
      rw [List.filterMap_cons, if_pos hs]
    rw [this, List.length_append, List.length_cons]
    dsimp only
    omega
def ans : Option (Go_ × List S32) → List S32 × Int
  | some s => (s.2, 0)
  | none => ([], 310)
def spansF (se : Int) (l : List E6) : List S32 × Int := ans (runA se l l.length 0 (fun _ => none, []))
set_option maxHeartbeats 4000000 in
set_option maxRecDepth 100000 in
theorem spans_calls (w : World) (A : Option Addr) (c : Nat) (l : List E6) (se : Int) (hr : ER w A l) (hl : l.length ≤ 300) (hw : ∀ j, j < l.length → (Lit.int .i64 (ev l j).f0).wf = true) :
    Calls Try.prog 23 #[.slice A l.length c, .int .i64 se] w fun e w' => ∃ v, e = .returned (.tuple #[v, .int .i64 (spansF se l).2]) ∧ Kd.R k32 32 w' w.heap.size (fun _ => True) v (spansF se l).1 ∧ Below w.heap.size w w' := by
  have CR := Aside0.mk hr
  have HW := Aside0.mk hw
  have hmm := @run_makeMap Try.prog
  obtain ⟨RA, hRA⟩ : ∃ R, runA se l l.length 0 (fun _ => none, []) = R := ⟨_, rfl⟩
  have hSF : spansF se l = ans RA := by unfold spansF; rw [hRA]
  have HSF := Aside0.mk hSF
  have HRA := Aside0.mk hRA
  clear hr hw hRA hSF
  go_enter Try.func23, Try.ntmps23
  go_upto_region 3 with fail
  clear hmm
  have A0 : Aside0 (AS w (w.alloc (.map #[] 0)) w.heap.size 0 (fun _ => none) [] (.slice none 0 0)) := ⟨⟨⟨_, World.ownsMap_made (H := Unit) w Try.prog 3 openR, HoldE.empty⟩, Kd.R_nil _ _ _ _ _, below_alloc (Below.refl _ _) _, Nat.le_refl _⟩⟩
  generalize w.alloc (.map #[] 0) = W0 at A0 ⊢
  obtain ⟨bm, hbm⟩ : ∃ b, b = w.heap.size := ⟨_, rfl⟩
  rw [← hbm] at A0 ⊢
  have HBM := Aside0.mk hbm
  clear hbm
  go_upto_region 4 with fail
  go_loopw [6, 16] (fun s6 s16 wr => ∃ (i n : Nat) (g : Go_) (out : List S32) (P : List (Nat × Int)), i ≤ l.length ∧ s16 = .int .i64 (i : Int) ∧ n ≤ i ∧ out.length ≤ i ∧ (∃ AX cx, s6 = .slice AX out.length cx ∧ Aside0 (AS w wr bm n g out (.slice AX out.length cx))) ∧ Aside0 (Rel l se i g out P) ∧ Aside0 (runA se l (l.length - i) i (g, out) = RA)) (fun _ s16 _ => l.length - (intOf s16).toNat)
  case atStart => exact ⟨0, 0, fun _ => none, [], [], Nat.zero_le _, rfl, Nat.le_refl _, Nat.le_refl _, ⟨none, 0, rfl, A0⟩, ⟨Rel.start l se⟩, HRA⟩
  case round =>
    obtain ⟨i, n, g, out, P, hi, rfl, hni, hoi, ⟨AX, cx, rfl, AR⟩, HR, HRU⟩ := hrel
    clear A0 HRA
    by_cases hlt : i < l.length
    · obtain ⟨ad, e, h0, h1, h2, h3, h4, h5⟩ := CR.out.at_ AR.out.bel hlt
      subst e
      have p1 := eq_true (show (0 : Int) ≤ (i : Int) by omega)
      have p2 := eq_true (show (i : Int) < (l.length : Int) by omega)
      have hst := step_rel HR.out
      have hru : runA se l (l.length - i) i (g, out) = (stA se i (ev l i) (g, out)).bind fun s' => runA se l (l.length - (i + 1)) (i + 1) s' := by
        rw [show l.length - i = (l.length - (i + 1)) + 1 by omega]; rfl
      have HRU2 : Aside0 ((stA se i (ev l i) (g, out)).bind (fun s' => runA se l (l.length - (i + 1)) (i + 1) s') = RA) := ⟨hru ▸ HRU.out⟩
      have HST := Aside0.mk hst
      have hwf := HW.out i hlt
      have HWF := Aside0.mk hwf
      clear hst hru HRU
      generalize hev : ev l i = e at h0 h1 h2 h3 h4 h5 HRU2 HST HWF hwf
      go_upto_region 6 with (first
        | ((with_reducible refine gate_dst (N := 9) rfl ?_); refine box_event ?hg (N := 9) ?hd (cs := #[.int .i64 0, .int .i64 0, .int .i64 0, .bool false, .int .i64 0, .int .i64 0]) (t := 83) ?hr ?_; (case hd => rfl); (case hg => rfl); (case hr => first | (go_simp; done) | (go_simp; rfl)); intro tb hg w11 hbox hb; have HB1 := Aside0.mk hb; have BX := Aside0.mk hbox; have GE := Aside0.mk (show wr.heap.size ≤ tb by rw [hg]; exact Nat.le_refl _); clear hb hbox hg; have z0 := (blk_cell BX.out 0); have z1 := (blk_cell BX.out 1); have z2 := (blk_cell BX.out 2); have z3 := (blk_cell BX.out 3); have z4 := (blk_cell BX.out 4); have z5 := (blk_cell BX.out 5); have f0 := blk_frozen BX.out 0; have f1 := blk_frozen BX.out 1; have f2 := blk_frozen BX.out 2; have f3 := blk_frozen BX.out 3; have f4 := blk_frozen BX.out 4; have f5 := blk_frozen BX.out 5))
      obtain ⟨W5, hW5, B5, X5⟩ := laid6 HB1.out BX.out GE.out e
      rw [hW5]
      have NB : Aside0 (tb ≠ bm) := ⟨by have := GE.out; have := AR.out.bmlt; omega⟩
      clear hW5 z0 z1 z2 z3 z4 z5 f0 f1 f2 f3 f4 f5 h0 h1 h2 h3 h4 h5 BX HB1 GE
      have S5 := Aside0.mk (AR.out.below B5)
      have T5 := Aside0.mk X5
      clear B5 X5 AR
      have c0 : W5.cell? ⟨tb, 0, none⟩ = some (.int .i64 e.f0) := (blk_cell T5.out 0).trans rfl
      have lk := S5.out.look2 hwf
      clear hwf
      unfold ov at lk
      obtain ⟨x, hx⟩ : ∃ x, (g e.f0).getD (zE, 0) = x := ⟨_, rfl⟩
      rw [hx] at lk
      obtain ⟨b, hb⟩ : ∃ b, (g e.f0).isSome = b := ⟨_, rfl⟩
      rw [hb] at lk
      have HX := Aside0.mk hx
      have HBB := Aside0.mk hb
      have HBA : Aside0 (badA (g e.f0) e = (!kindB e.f2 || ((b != e.f3) || (b && ((x.1.f1 != e.f1) || (x.1.f2 != e.f2)))))) := ⟨by rw [badA_is, hb, hx]⟩
      clear hx hb
      go_upto_region 7 with (first
        | ((with_reducible refine gate_dst (N := 10) rfl ?_); refine box_event ?hg (N := 10) ?hd (cs := #[.int .i64 0, .int .i64 0, .int .i64 0, .bool false, .int .i64 0, .int .i64 0, .int .i64 0]) (t := 85) ?hr ?_; (case hd => rfl); (case hg => rfl); (case hr => first | (go_simp; done) | (go_simp; rfl)); intro tc hg w12 hbox hb; have HB1 := Aside0.mk hb; have BX := Aside0.mk hbox; have GE := Aside0.mk (show W5.heap.size ≤ tc by rw [hg]; exact Nat.le_refl _); clear hb hbox hg; have z0 := (blk_cell BX.out 0); have z1 := (blk_cell BX.out 1); have z2 := (blk_cell BX.out 2); have z3 := (blk_cell BX.out 3); have z4 := (blk_cell BX.out 4); have z5 := (blk_cell BX.out 5); have z6 := (blk_cell BX.out 6); have f0 := blk_frozen BX.out 0; have f1 := blk_frozen BX.out 1; have f2 := blk_frozen BX.out 2; have f3 := blk_frozen BX.out 3; have f4 := blk_frozen BX.out 4; have f5 := blk_frozen BX.out 5; have f6 := blk_frozen BX.out 6))
      obtain ⟨W7, hW7, B7, X7⟩ := laid7 HB1.out BX.out GE.out x.1 x.2
      rw [hW7]
      have NC : Aside0 (tc ≠ bm) := ⟨by have := GE.out; have := S5.out.bmlt; omega⟩
      clear hW7 z0 z1 z2 z3 z4 z5 z6 f0 f1 f2 f3 f4 f5 f6 c0 lk BX HB1 GE
      have S7 := Aside0.mk (S5.out.below B7)
      have T7 := Aside0.mk ((B7.block tb (blk_lt T5.out)).trans T5.out)
      have U7 := Aside0.mk X7
      clear B7 X7 S5 T5
      have a1 : W7.cell? ⟨tb, 1, none⟩ = some (.int .i64 e.f1) := (blk_cell T7.out 1).trans rfl
      have a2 : W7.cell? ⟨tb, 2, none⟩ = some (.int .i64 e.f2) := (blk_cell T7.out 2).trans rfl
      have a3 : W7.cell? ⟨tb, 3, none⟩ = some (.bool e.f3) := (blk_cell T7.out 3).trans rfl
      have b1 : W7.cell? ⟨tc, 1, none⟩ = some (.int .i64 x.1.f1) := (blk_cell U7.out 1).trans rfl
      have b2 : W7.cell? ⟨tc, 2, none⟩ = some (.int .i64 x.1.f2) := (blk_cell U7.out 2).trans rfl
      go_cut [11, 56] from 17 to 56 (fun s11 s56 wx => s11 = .bool b ∧ s56 = .bool (badA (g e.f0) e) ∧ Aside0 (Below W7.heap.size W7 wx))
      case first =>
        cases hK : kindB e.f2
        case false =>
          go_wp2_with (go_at_call 25; (with_reducible refine (kind_calls e.f2 W7).mono ?_); rintro e_ w5 ⟨rfl, hd_⟩; rw [hK]; have HD_ := Aside0.mk hd_.below; clear hd_)
          go_meet
          case rel => exact ⟨rfl, by rw [HBA.out, hK]; rfl, HD_⟩
        case true =>
          cases hbb : b
          case false =>
            cases hf3 : e.f3
            case false =>
              rw [hf3] at a3
              go_wp2_with (go_at_call 25; (with_reducible refine (kind_calls e.f2 W7).mono ?_); rintro e_ w5 ⟨rfl, hd_⟩; rw [hK]; have HD_ := Aside0.mk hd_.below; obtain ⟨nd, rfl⟩ := hd_.out; clear hd_)
              go_meet
              case rel => exact ⟨by rw [hbb], by rw [HBA.out, hK, hbb, hf3]; rfl, HD_⟩
            case true =>
              rw [hf3] at a3
              go_wp2_with (go_at_call 25; (with_reducible refine (kind_calls e.f2 W7).mono ?_); rintro e_ w5 ⟨rfl, hd_⟩; rw [hK]; have HD_ := Aside0.mk hd_.below; obtain ⟨nd, rfl⟩ := hd_.out; clear hd_)
              go_meet
              case rel => exact ⟨by rw [hbb], by rw [HBA.out, hK, hbb, hf3]; rfl, HD_⟩
          case true =>
            cases hf3 : e.f3
            case false =>
              rw [hf3] at a3
              go_wp2_with (go_at_call 25; (with_reducible refine (kind_calls e.f2 W7).mono ?_); rintro e_ w5 ⟨rfl, hd_⟩; rw [hK]; have HD_ := Aside0.mk hd_.below; obtain ⟨nd, rfl⟩ := hd_.out; clear hd_)
              go_meet
              case rel => exact ⟨by rw [hbb], by rw [HBA.out, hK, hbb, hf3]; rfl, HD_⟩
            case true =>
              rw [hf3] at a3
              cases h1 : (x.1.f1 != e.f1)
              case true =>
                go_wp2_with (go_at_call 25; (with_reducible refine (kind_calls e.f2 W7).mono ?_); rintro e_ w5 ⟨rfl, hd_⟩; rw [hK]; have HD_ := Aside0.mk hd_.below; obtain ⟨nd, rfl⟩ := hd_.out; clear hd_)
                go_meet
                case rel => exact ⟨by rw [hbb], by rw [HBA.out, hK, hbb, hf3, h1]; rfl, HD_⟩
              case false =>
                go_wp2_with (go_at_call 25; (with_reducible refine (kind_calls e.f2 W7).mono ?_); rintro e_ w5 ⟨rfl, hd_⟩; rw [hK]; have HD_ := Aside0.mk hd_.below; obtain ⟨nd, rfl⟩ := hd_.out; clear hd_)
                go_meet
                case rel => exact ⟨by rw [hbb], by rw [HBA.out, hK, hbb, hf3, h1]; cases (x.1.f2 != e.f2) <;> rfl, HD_⟩
      case rest =>
        obtain ⟨rfl, rfl, BD⟩ := hcut
        have S8 := Aside0.mk (S7.out.below BD.out)
        have T8 := Aside0.mk ((BD.out.block tb (blk_lt T7.out)).trans T7.out)
        have U8 := Aside0.mk ((BD.out.block tc (blk_lt U7.out)).trans U7.out)
        clear a1 a2 a3 b1 b2 S7 T7 U7 BD HBA
        cases hB : badA (g e.f0) e
        case true =>
          have hsn : stA se i e (g, out) = none := by unfold stA; rw [if_pos hB]
          have hRN : RA = none := by rw [← HRU2.out, hsn]; rfl
          have HS2 : Aside0 (spansF se l = ([], 310)) := ⟨by rw [HSF.out, hRN]; rfl⟩
          clear hsn hRN
          go_wp2_with fail
          go_ret2
          rw [HS2.out]
          exact ⟨_, rfl, Kd.R_nil _ _ _ _ _, S8.out.bel⟩
        case false =>
          obtain ⟨D, hD, hH⟩ := S8.out.map
          have HD := Aside0.mk hD
          have HH := Aside0.mk hH
          have HK := Aside0.mk (keyOf_int_mk (P := Try.prog) Try.underlying3 HWF.out)
          have hmx : n < maxLen := by unfold maxLen; omega
          clear hD hH
          have c0 : wc.cell? ⟨tb, 0, none⟩ = some (.int .i64 e.f0) := (blk_cell T8.out 0).trans rfl
          have c1 : wc.cell? ⟨tb, 1, none⟩ = some (.int .i64 e.f1) := (blk_cell T8.out 1).trans rfl
          have c2 : wc.cell? ⟨tb, 2, none⟩ = some (.int .i64 e.f2) := (blk_cell T8.out 2).trans rfl
          have c3 : wc.cell? ⟨tb, 3, none⟩ = some (.bool e.f3) := (blk_cell T8.out 3).trans rfl
          have c4 : wc.cell? ⟨tb, 4, none⟩ = some (.int .i64 e.f4) := (blk_cell T8.out 4).trans rfl
          have c5 : wc.cell? ⟨tb, 5, none⟩ = some (.int .i64 e.f5) := (blk_cell T8.out 5).trans rfl
          go_upto_if 59 with fail
          cases hf3 : e.f3
          case false =>
            have hst : stA se i e (g, out) = some (upd g e.f0 (some (e, out.length)), if e.f1 = se then out ++ [⟨e.f2, (i : Int), -1, 0, 0⟩] else out) := by
              unfold stA; rw [if_neg (by rw [hB]; decide), if_pos hf3]
            have HRU3 : Aside0 (runA se l (l.length - (i + 1)) (i + 1) (upd g e.f0 (some (e, out.length)), if e.f1 = se then out ++ [⟨e.f2, (i : Int), -1, 0, 0⟩] else out) = RA) := ⟨by have := HRU2.out; rw [hst] at this; exact this⟩
            have HST3 : Aside0 (∃ P', Rel l se (i + 1) (upd g e.f0 (some (e, out.length))) (if e.f1 = se then out ++ [⟨e.f2, (i : Int), -1, 0, 0⟩] else out) P') := ⟨by
              rcases HST.out with ⟨h1, _⟩ | ⟨g', o', P', h1, _, h3⟩
              · rw [hst] at h1; cases h1
              · rw [hst] at h1; injection h1 with h1; injection h1 with h1 h2; subst h1 h2; exact ⟨P', h3⟩⟩
            clear hst hf3
            go_upto_region 11 with (first | (at_mapUpdate; refine wpList_mapUpdate_in _ rfl _ _ _ 81 rfl 3 85 klawI Try.underlying81 _ bm n D rfl HD.out hmx _ _ _ rfl rfl HK.out _ [] (openR_mk e out.length) ?_; intro w3 hown1 hturn1; have O3 := Aside0.mk hown1; have T3 := Aside0.mk hturn1; clear hown1 hturn1))
            have S9 := Aside0.mk (S8.out.put (D := D) O3.out (HH.out.put (e, out.length)) T3.out)
            have T9 := Aside0.mk ((T3.out.grown.block tb (blk_lt T8.out) (fun q => NB.out (Option.some.inj q))).trans T8.out)
            clear c0 c1 c2 c3 c4 c5 hmx HD HH HK O3 T3 S8 T8 U8
            have c1 : w3.cell? ⟨tb, 1, none⟩ = some (.int .i64 e.f1) := (blk_cell T9.out 1).trans rfl
            have c2 : w3.cell? ⟨tb, 2, none⟩ = some (.int .i64 e.f2) := (blk_cell T9.out 2).trans rfl
            go_upto_if 70 with fail
            cases hs : (e.f1 == se)
            case true =>
              have hs' : e.f1 = se := by simpa using hs
              rw [if_pos hs'] at HRU3 HST3
              clear hs hs'
              have RR := Aside0.mk S9.out.row
              have BW := Aside0.mk S9.out.bel
              have LGB : Aside0 (bm < w3.heap.size ∧ w.heap.size ≤ w3.heap.size) := ⟨S9.out.bmlt, S9.out.bel.size⟩
              go_wp2_with (first
                | (at_builtin; go_must (refine Kd.R_append k32 (w0 := w) w.heap.size rfl (.tmp 71) (.tmp 76) 22 32 _ 40 rfl Try.underlying22 info32 rfl (by decide) (by omega) (.slice AX out.length cx) out ⟨e.f2, (i : Int), -1, 0, 0⟩ [.int .i64 e.f2, .int .i64 (i : Int), .int .i64 (-1), .int .i64 0, .int .i64 0] (fun k => k ≠ bm) (fun _ => False) rfl rfl (k32_mkM _ _ _ ⟨e.f2, (i : Int), -1, 0, 0⟩) (fun _ hk => hk.elim) (fun k hk => by have := LGB.out.1; omega) RR.out BW.out LGB.out.2 (by omega) ?_; intro v7 w9 ho_ hb_ hg_ hat; obtain ⟨A7, c7, rfl⟩ := Kd.R_slice ho_; have K7 := Aside0.mk ho_; have HB9 := Aside0.mk hb_; have Q9 := Aside0.mk hg_; clear ho_ hb_ hg_ hat)))
              go_roundw
              case rel =>
                obtain ⟨P', hP'⟩ := HST3.out
                have hl : (out ++ [(⟨e.f2, (i : Int), -1, 0, 0⟩ : S32)]).length = out.length + 1 := by simp
                obtain ⟨D9, hD9, hH9⟩ := S9.out.map
                have hne : some bm ≠ (Value.slice AX out.length cx).ownBlock := fun q => RR.out.1 bm q.symm rfl
                rw [hl] at K7
                refine ⟨i + 1, n + 1, _, _, P', by omega, by go_num, by omega, by rw [hl]; omega, ⟨A7, c7, by rw [hl], ⟨?_⟩⟩, ⟨hP'⟩, HRU3⟩
                rw [hl]
                exact ⟨⟨D9, hD9.kept Q9.out hne, hH9⟩, K7.out, HB9.out, S9.out.hbm⟩
              case measure => simp [intOf]; omega
            case false =>
              have hs' : ¬ e.f1 = se := by simpa using hs
              rw [if_neg hs'] at HRU3 HST3
              clear hs hs'
              go_wp2_with fail
              go_roundw
              case rel =>
                obtain ⟨P', hP'⟩ := HST3.out
                exact ⟨i + 1, n + 1, _, out, P', by omega, by go_num, by omega, by omega, ⟨AX, cx, rfl, S9⟩, ⟨hP'⟩, HRU3⟩
              case measure => simp [intOf]; omega
          case true =>
            obtain ⟨hgx, hxf, hst⟩ : g e.f0 = some x ∧ x.1.f1 = e.f1 ∧ stA se i e (g, out) = some (upd g e.f0 none, if e.f1 = se then out.set x.2 (endS (sp out x.2) i e) else out) := by
              have hx := HX.out
              cases hg : g e.f0 with
              | none => exact absurd hB (by rw [hg]; unfold badA; rw [hf3]; simp)
              | some y =>
                rw [hg] at hx
                refine ⟨congrArg some hx, ?_, ?_⟩
                · have hq := hB
                  rw [hg, show y = x from hx] at hq
                  unfold badA at hq
                  simp at hq
                  exact hq.2.1
                unfold stA
                rw [if_neg (by rw [hB]; decide), if_neg (by rw [hf3]; decide)]
                dsimp only
                rw [hg, show y = x from hx]
            have HGX := Aside0.mk hgx
            have HXF := Aside0.mk hxf
            have HRU3 : Aside0 (runA se l (l.length - (i + 1)) (i + 1) (upd g e.f0 none, if e.f1 = se then out.set x.2 (endS (sp out x.2) i e) else out) = RA) := ⟨by have := HRU2.out; rw [hst] at this; exact this⟩
            have HST3 : Aside0 (∃ P', Rel l se (i + 1) (upd g e.f0 none) (if e.f1 = se then out.set x.2 (endS (sp out x.2) i e) else out) P') := ⟨by
              rcases HST.out with ⟨h1, _⟩ | ⟨g', o', P', h1, _, h3⟩
              · rw [hst] at h1; cases h1
              · rw [hst] at h1; injection h1 with h1; injection h1 with h1 h2; subst h1 h2; exact ⟨P', h3⟩⟩
            clear hst hf3 hgx hxf
            go_upto_region 14 with (first | (at_delete; go_must (refine wpList_delete_own _ rfl (.tmp 78) (.tmp 80) 81 3 rfl 85 klawI Try.underlying81 _ bm n D rfl HD.out _ _ rfl HK.out ?_); intro w3 hown1 hturn1; have O3 := Aside0.mk hown1; have T3 := Aside0.mk hturn1; clear hown1 hturn1))
            have S9 := Aside0.mk (S8.out.put (D := D) O3.out (HH.out.del e.f0) T3.out)
            have T9 := Aside0.mk ((T3.out.grown.block tb (blk_lt T8.out) (fun q => NB.out (Option.some.inj q))).trans T8.out)
            have U9 := Aside0.mk ((T3.out.grown.block tc (blk_lt U8.out) (fun q => NC.out (Option.some.inj q))).trans U8.out)
            clear c0 c1 c2 c3 c4 c5 hmx HD HH HK O3 T3 S8 T8 U8
            have c1 : w3.cell? ⟨tb, 1, none⟩ = some (.int .i64 e.f1) := (blk_cell T9.out 1).trans rfl
            have d6 : w3.cell? ⟨tc, 6, none⟩ = some (.int .i64 (x.2 : Int)) := (blk_cell U9.out 6).trans rfl
            go_upto_if 84 with fail
            cases hs : (e.f1 == se)
            case true =>
              have hs' : e.f1 = se := by simpa using hs
              rw [if_pos hs'] at HRU3 HST3
              clear hs
              have hlt2 : x.2 < out.length := by
                exact go_lt HR.out HGX.out (HXF.out.trans hs')
              clear hs'
              obtain ⟨gb, hgb, hgbm, e4, e5, z2, z3, z4, hAX⟩ : ∃ gb, gb ≠ tb ∧ gb ≠ bm ∧ w3.cell? ⟨tb, 4, none⟩ = some (.int .i64 e.f4) ∧ w3.cell? ⟨tb, 5, none⟩ = some (.int .i64 e.f5) ∧ w3.cell? ⟨gb, x.2 * 5 + 2, none⟩ = some (.int .i64 (sp out x.2).f2) ∧ w3.cell? ⟨gb, x.2 * 5 + 3, none⟩ = some (.int .i64 (sp out x.2).f3) ∧ w3.cell? ⟨gb, x.2 * 5 + 4, none⟩ = some (.int .i64 (sp out x.2).f4) ∧ AX = some ⟨gb, 0, none⟩ := by
                have hr9 := S9.out.row
                obtain ⟨ad9, ea, h0, h1, h2, h3, h4⟩ := span_at (Kd.R_reads' hr9).2.2 (Below.refl _ _) (j := x.2) hlt2
                subst ea
                obtain ⟨gb, rfl, hge, hok, cur, hcur⟩ := row_own hr9 (by omega)
                have ead : (Addr.add ⟨gb, 0, none⟩ (x.2 * 5)) = ⟨gb, x.2 * 5, none⟩ := by simp [Addr.add]; intro q; omega
                rw [ead] at h2 h3 h4
                refine ⟨gb, fun q => ?_, hok, (blk_cell T9.out 4).trans rfl, (blk_cell T9.out 5).trans rfl, h2, h3, h4, rfl⟩
                rw [q, T9.out] at hcur
                simp at hcur
              subst hAX
              have p1 := eq_true (show (0 : Int) ≤ (x.2 : Int) by omega)
              have p2 := eq_true (show (x.2 : Int) < (out.length : Int) by omega)
              go_upto_region 16 with fail
              clear p1 p2 c1 d6
              have RE := Aside0.mk (row_end S9.out.row hlt2 i e)
              have q1 : (⟨gb, x.2 * 5 + 2, none⟩ : Addr).block ≠ (⟨tb, 4, none⟩ : Addr).block := hgb
              have e41 := cell_far (v := .int .i64 (i : Int)) (p := ⟨gb, x.2 * 5 + 2, none⟩) e4 hgb
              have e51 := cell_far (v := .int .i64 (i : Int)) (p := ⟨gb, x.2 * 5 + 2, none⟩) e5 hgb
              have z31 := cell_off (i := x.2 * 5 + 2) (v := .int .i64 (i : Int)) z3 (by omega)
              have z41 := cell_off (i := x.2 * 5 + 2) (v := .int .i64 (i : Int)) z4 (by omega)
              have e52 := cell_far (v := .int .i64 e.f4) (p := ⟨gb, x.2 * 5 + 3, none⟩) e51 hgb
              have z42 := cell_off (i := x.2 * 5 + 3) (v := .int .i64 e.f4) z41 (by omega)
              have fr : ∀ j, w3.frozen? ⟨gb, j, none⟩ = false := fun j => by
                obtain ⟨gb', ea, _, _, cur, hcur⟩ := row_own S9.out.row (by omega)
                injection ea with ea
                rw [← ea] at hcur
                exact frozen_of_row _ _ _ _ _ hcur
              have fr2 := fr (x.2 * 5 + 2)
              have fr3 := fr (x.2 * 5 + 3)
              have fr4 := fr (x.2 * 5 + 4)
              clear fr q1
              have HLT := Aside0.mk hlt2
              have HGN := Aside0.mk hgbm
              clear hlt2 hgbm
              go_region
              clear fr2 fr3 fr4 e4 e5 z2 z3 z4 e41 e51 z31 z41 e52 z42
              obtain ⟨W9, hW9⟩ : ∃ X, (((w3.setCell ⟨gb, x.2 * 5 + 2, none⟩ (.int .i64 (i : Int))).setCell ⟨gb, x.2 * 5 + 3, none⟩ (.int .i64 e.f4)).setCell ⟨gb, x.2 * 5 + 4, none⟩ (.int .i64 e.f5)) = X := ⟨_, rfl⟩
              obtain ⟨re1, re2⟩ := RE.out
              rw [hW9] at re1 re2
              have RE1 := Aside0.mk re1
              have RE2 := Aside0.mk re2
              clear re1 re2 RE
              rw [hW9]
              clear hW9
              go_wp2_with fail
              go_roundw
              case rel =>
                obtain ⟨P', hP'⟩ := HST3.out
                have hl : (out.set x.2 (endS (sp out x.2) i e)).length = out.length := by simp
                obtain ⟨D9, hD9, hH9⟩ := S9.out.map
                have hB9 : Below w.heap.size w w3 := S9.out.bel
                have hgb : w.heap.size ≤ gb := by
                  obtain ⟨gb', ea, h1, _⟩ := row_own S9.out.row (by have := HLT.out; omega)
                  injection ea with ea
                  omega
                have hB10 : Below w.heap.size w W9 := ⟨RE2.out.os.trans hB9.os, RE2.out.tape.trans hB9.tape, RE2.out.output.trans hB9.output, Nat.le_trans hB9.size RE2.out.size, fun k hk => (RE2.out.block k (Nat.lt_of_lt_of_le hk hB9.size) (fun q => by have := Option.some.inj q; omega)).trans (hB9.block k hk)⟩
                refine ⟨i + 1, n, _, _, P', by omega, by go_num, by omega, by rw [hl]; omega, ⟨some ⟨gb, 0, none⟩, cx, by rw [hl], ⟨?_⟩⟩, ⟨hP'⟩, HRU3⟩
                rw [hl]
                exact ⟨⟨D9, (hD9.kept RE2.out (fun q => HGN.out (Option.some.inj q).symm)).drew, hH9⟩, Kd.R_drew RE1.out, below_drew hB10, S9.out.hbm⟩
              case measure => simp [intOf]; omega
            case false =>
              have hs' : ¬ e.f1 = se := by simpa using hs
              rw [if_neg hs'] at HRU3 HST3
              clear hs hs'
              go_wp2_with fail
              go_roundw
              case rel =>
                obtain ⟨P', hP'⟩ := HST3.out
                exact ⟨i + 1, n, _, out, P', by omega, by go_num, by omega, by omega, ⟨AX, cx, rfl, S9⟩, ⟨hP'⟩, HRU3⟩
              case measure => simp [intOf]; omega
    · have hil : i = l.length := by omega
      have hRA : RA = some (g, out) := by rw [← HRU.out, hil, Nat.sub_self]; rfl
      have HS2 : Aside0 (spansF se l = (out, 0)) := ⟨by rw [HSF.out, hRA]; rfl⟩
      clear hRA
      have p2 := eq_false (show ¬ (i : Int) < (l.length : Int) by omega)
      go_wp2_with fail
      go_ret2
      rw [HS2.out]
      exact ⟨_, rfl, Kd.R_mono AR.out.row (fun _ _ => trivial), AR.out.bel⟩
end Go.Proofs.Ytbjoinocajobhaa.Evs
