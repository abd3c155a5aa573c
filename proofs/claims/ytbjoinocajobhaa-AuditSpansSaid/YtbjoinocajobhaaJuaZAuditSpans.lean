/- audit.Judge: over, walked. -/
import Derived.Test.YtbjoinocajobhaaWLast
import Derived.Test.YtbjoinocajobhaaWMore
import Derived.Test.YtbjoinocajobhaaJuZAuditSpans
import Derived.Outline
import Derived.WalkSpells
import Derived.KernelRfl
import Derived.Deep.QuietTactic
import Derived.BigQuiet
import Derived.StillTailTactics
namespace Go.Proofs.Ytbjoinocajobhaa.Ju
set_option linter.unusedVariables false
set_option linter.unusedSimpArgs false
open Go.RowKit Go.Proofs.Ytbjoinocajobhaa.Q Go.Proofs.YtbjoinocajobhaaW.PrintWords Go.Proofs.YtbjoinocajobhaaW.PrintLast
def vals (x : S32) : Array Value := #[.int .i64 x.f0, .int .i64 x.f1, .int .i64 x.f2, .int .i64 x.f3, .int .i64 x.f4]
theorem span_at {w W : World} {A : Option Addr} {l : List S32} (h : Kd.C k32 w A l.length l) (hb : Below w.heap.size w W) {j : Nat} (hj : j < l.length) :
    ∃ ad : Addr, A = some ad ∧ W.cell? (ad.add (j * 5)) = some (.int .i64 (sp l j).f0) ∧ W.cell? ⟨(ad.add (j * 5)).block, (ad.add (j * 5)).off + 1, none⟩ = some (.int .i64 (sp l j).f1) ∧
      W.cell? ⟨(ad.add (j * 5)).block, (ad.add (j * 5)).off + 2, none⟩ = some (.int .i64 (sp l j).f2) ∧ W.cell? ⟨(ad.add (j * 5)).block, (ad.add (j * 5)).off + 3, none⟩ = some (.int .i64 (sp l j).f3) ∧
      W.cell? ⟨(ad.add (j * 5)).block, (ad.add (j * 5)).off + 4, none⟩ = some (.int .i64 (sp l j).f4) := by
  obtain ⟨ad, e, h0, h1, h2, h3, h4⟩ := at_T32 h (j : Int) (by omega) (by omega)
  simp only [Int.toNat_natCast] at h0 h1 h2 h3 h4
  exact ⟨ad, e, (hb.cell (World.block_lt_of_cell? w _ h0)).trans h0, (hb.cell (World.block_lt_of_cell? w _ h1)).trans h1, (hb.cell (World.block_lt_of_cell? w _ h2)).trans h2, (hb.cell (World.block_lt_of_cell? w _ h3)).trans h3, (hb.cell (World.block_lt_of_cell? w _ h4)).trans h4⟩
theorem ended_calls (x : S32) (w : World) : Calls Try.prog 26 #[.agg #[.int .i64 x.f0, .int .i64 x.f1, .int .i64 x.f2, .int .i64 x.f3, .int .i64 x.f4]] w fun e w' => e = .returned (.bool (ended x)) ∧ Below w.heap.size w w' :=
  audit_ended.calls x.f0 x.f1 x.f2 x.f3 x.f4 (ended x) w rfl
theorem ahead_calls (x y : S32) (w : World) : Calls Try.prog 40 #[.agg #[.int .i64 x.f0, .int .i64 x.f1, .int .i64 x.f2, .int .i64 x.f3, .int .i64 x.f4], .agg #[.int .i64 y.f0, .int .i64 y.f1, .int .i64 y.f2, .int .i64 y.f3, .int .i64 y.f4]] w fun e w' => e = .returned (.bool (ahead x y)) ∧ Below w.heap.size w w' := by
  refine audit_ahead.calls x.f0 x.f1 x.f2 x.f3 x.f4 y.f0 y.f1 y.f2 y.f3 y.f4 (ahead x y) w ?_
  unfold audit_ahead.f audit_ended.f ahead ended
  simp only [Option.bind_some]
  cases (x.f2 != -1) <;> simp
/-- A copy of a span, laid. -/
theorem laid5 {w0 W : World} {gb : Nat} (hb : Below w0.heap.size w0 W) (hx : W.heap[gb]? = some (.cells #[.int .i64 0, .int .i64 0, .int .i64 0, .int .i64 0, .int .i64 0] 32 (0, 0))) (ge : w0.heap.size ≤ gb) (x : S32) :
    ∃ W', ((((W.setCell ⟨gb, 0, none⟩ (.int .i64 x.f0)).setCell ⟨gb, 1, none⟩ (.int .i64 x.f1)).setCell ⟨gb, 2, none⟩ (.int .i64 x.f2)).setCell ⟨gb, 3, none⟩ (.int .i64 x.f3)).setCell ⟨gb, 4, none⟩ (.int .i64 x.f4) = W' ∧
      Below w0.heap.size w0 W' ∧ W'.heap[gb]? = some (.cells #[.int .i64 x.f0, .int .i64 x.f1, .int .i64 x.f2, .int .i64 x.f3, .int .i64 x.f4] 32 (0, 0)) ∧ (∀ k, k ≠ gb → W'.heap[k]? = W.heap[k]?) ∧ W'.heap.size = W.heap.size := by
  refine ⟨_, rfl, ?_, ?_, ?_, ?_⟩
  · exact ((((hb.setCell ge _).setCell ge _).setCell ge _).setCell ge _).setCell ge _
  · exact blk_put (blk_put (blk_put (blk_put (blk_put hx 0 _ rfl) 1 _ rfl) 2 _ rfl) 3 _ rfl) 4 _ rfl
  · intro k hk
    rw [Below.heap_setCell _ _ _ _ hk, Below.heap_setCell _ _ _ _ hk, Below.heap_setCell _ _ _ _ hk, Below.heap_setCell _ _ _ _ hk, Below.heap_setCell _ _ _ _ hk]
  · simp
theorem upto {P : Nat → Prop} {j : Nat} (h : ∀ i, i < j → P i) (hj : P j) : ∀ i, i < j + 1 → P i := fun i hi => by
  by_cases e : i = j
  · rw [e]; exact hj
  · exact h i (by omega)
theorem over_false {l : List S32} {m j : Nat} (hj : j < l.length) (h : (!(ended (sp l j) && !m.testBit j)) = false) : over l m = false := by
  unfold over
  rw [List.all_eq_false]
  exact ⟨j, List.mem_range.2 hj, by rw [h]; simp⟩
theorem over_true {l : List S32} {m : Nat} (h : ∀ i, i < l.length → (!(ended (sp l i) && !m.testBit i)) = true) : over l m = true := by
  unfold over
  rw [List.all_eq_true]
  exact fun i hi => h i (List.mem_range.1 hi)
theorem may_false {l : List S32} {m i j : Nat} (hj : j < l.length) (h : (!(!m.testBit j && ahead (sp l j) (sp l i))) = false) : may l m i = false := by
  unfold may
  rw [List.all_eq_false.2 ⟨j, List.mem_range.2 hj, by rw [h]; simp⟩]; rfl
theorem may_end {l : List S32} {m i : Nat} (h : ∀ k, k < l.length → (!(!m.testBit k && ahead (sp l k) (sp l i))) = true) : may l m i = !m.testBit i := by
  unfold may
  rw [List.all_eq_true.2 (fun k hk => h k (List.mem_range.1 hk))]; rfl
set_option maxHeartbeats 2000000 in
set_option maxRecDepth 100000 in
theorem over_calls (w : World) (g : Nat) (A : Option Addr) (c : Nat) (l : List S32) (m : Nat) (k0 : w.cell? ⟨g, 0, none⟩ = some (.slice A l.length c)) (hr : Kd.C k32 w A l.length l) (hm : m < 4294967296) (hl : l.length ≤ 14) :
    Calls Try.prog 34 #[.pointer (some ⟨g, 0, none⟩), .int .u32 (m : Int)] w fun e w' => e = .returned (.bool (over l m)) ∧ Below w.heap.size w w' := by
  have CR := Aside0.mk hr
  have hu32 := Try.underlying32
  clear hr
  go_enter Try.func34, Try.ntmps34
  go_wp2_with fail
  clear k0
  go_loopw [12] (fun v wr => ∃ j : Nat, j ≤ l.length ∧ v = .int .i64 j ∧ Aside0 (Below w.heap.size w wr) ∧ Aside0 (∀ i, i < j → (!(ended (sp l i) && !m.testBit i)) = true)) (fun v _ => l.length - (intOf v).toNat)
  case atStart => exact ⟨0, Nat.zero_le _, rfl, ⟨Below.refl _ _⟩, ⟨fun i hi => by omega⟩⟩
  case round =>
    obtain ⟨j, hj, rfl, HB, HT⟩ := hrel
    by_cases hlt : j < l.length
    · obtain ⟨ad, e, h0, h1, h2, h3, h4⟩ := span_at CR.out HB.out hlt
      subst e
      have p1 := eq_true (show (0 : Int) ≤ (j : Int) by omega)
      have p2 := eq_true (show (j : Int) < (l.length : Int) by omega)
      have p3 := eq_true (show (j : Int) ≤ 32 by omega)
      go_upto_region 4 with (first | ((with_reducible refine gate_dst (N := 6) rfl ?_); refine box_event ?hg (N := 6) ?hd (cs := #[.int .i64 0, .int .i64 0, .int .i64 0, .int .i64 0, .int .i64 0]) (t := 32) ?hr ?_; (case hd => rfl); (case hg => rfl); (case hr => first | (go_simp; done) | (go_simp; rfl)); intro gb hg w11 hbox hb; have HB1 := Aside0.mk (below_step HB.out hb); have BX := Aside0.mk hbox; have GE := Aside0.mk (show w.heap.size ≤ gb by rw [hg]; exact HB.out.size); clear hb hbox hg; have z0 := (blk_cell BX.out 0); have z1 := (blk_cell BX.out 1); have z2 := (blk_cell BX.out 2); have z3 := (blk_cell BX.out 3); have z4 := (blk_cell BX.out 4); have f0 := blk_frozen BX.out 0; have f1 := blk_frozen BX.out 1; have f2 := blk_frozen BX.out 2; have f3 := blk_frozen BX.out 3; have f4 := blk_frozen BX.out 4))
      obtain ⟨W4, hW4, B4, X4, -, -⟩ := laid5 HB1.out BX.out GE.out (sp l j)
      rw [hW4]
      clear hW4 z0 z1 z2 z3 z4 f0 f1 f2 f3 f4 h0 h1 h2 h3 h4 BX HB1
      have HB4 := Aside0.mk B4
      clear B4
      have z0 : W4.cell? ⟨gb, 0, none⟩ = some (.int .i64 (sp l j).f0) := (blk_cell X4 0).trans rfl
      have z1 : W4.cell? ⟨gb, 1, none⟩ = some (.int .i64 (sp l j).f1) := (blk_cell X4 1).trans rfl
      have z2 : W4.cell? ⟨gb, 2, none⟩ = some (.int .i64 (sp l j).f2) := (blk_cell X4 2).trans rfl
      have z3 : W4.cell? ⟨gb, 3, none⟩ = some (.int .i64 (sp l j).f3) := (blk_cell X4 3).trans rfl
      have z4 : W4.cell? ⟨gb, 4, none⟩ = some (.int .i64 (sp l j).f4) := (blk_cell X4 4).trans rfl
      clear X4
      have hz := bitz (i := j) hm
      by_cases hE : ended (sp l j) = true
      · by_cases hb : m.testBit j = true
        · rw [hb] at hz
          simp only [Bool.not_true] at hz
          go_wp2_with (first | (go_at_call 26; (with_reducible refine (ended_calls (sp l j) W4).mono ?_); rintro e_ w5 ⟨rfl, hd_⟩; rw [hE]; have HB5 := Aside0.mk (below_step HB4.out hd_); clear hd_))
          go_roundw
          case rel => exact ⟨j + 1, by omega, by go_num, HB5, ⟨upto HT.out (by rw [hE, hb]; rfl)⟩⟩
          case measure => simp [intOf]; omega
        · rw [Bool.not_eq_true] at hb
          rw [hb] at hz
          simp only [Bool.not_false] at hz
          go_wp2_with (first | (go_at_call 26; (with_reducible refine (ended_calls (sp l j) W4).mono ?_); rintro e_ w5 ⟨rfl, hd_⟩; rw [hE]; have HB5 := Aside0.mk (below_step HB4.out hd_); clear hd_))
          go_ret
          exact ⟨by rw [over_false hlt (by rw [hE, hb]; rfl)]; rfl, HB5.out⟩
      · rw [Bool.not_eq_true] at hE
        go_wp2_with (first | (go_at_call 26; (with_reducible refine (ended_calls (sp l j) W4).mono ?_); rintro e_ w5 ⟨rfl, hd_⟩; rw [hE]; have HB5 := Aside0.mk (below_step HB4.out hd_); clear hd_))
        go_roundw
        case rel => exact ⟨j + 1, by omega, by go_num, HB5, ⟨upto HT.out (by rw [hE]; rfl)⟩⟩
        case measure => simp [intOf]; omega
    · obtain rfl : j = l.length := by omega
      have p2 := eq_false (show ¬ ((l.length : Int) < (l.length : Int)) by omega)
      go_wp2_with fail
      go_ret
      exact ⟨by rw [over_true HT.out]; rfl, HB.out⟩
set_option maxHeartbeats 2000000 in
set_option maxRecDepth 100000 in
theorem may_calls (w : World) (g : Nat) (A : Option Addr) (c : Nat) (l : List S32) (m i : Nat) (k0 : w.cell? ⟨g, 0, none⟩ = some (.slice A l.length c)) (hr : Kd.C k32 w A l.length l) (hm : m < 4294967296) (hl : l.length ≤ 14) (hi : i < l.length) :
    Calls Try.prog 35 #[.pointer (some ⟨g, 0, none⟩), .int .u32 (m : Int), .int .i64 (i : Int)] w fun e w' => e = .returned (.bool (may l m i)) ∧ Below w.heap.size w w' := by
  have CR := Aside0.mk hr
  have hu32 := Try.underlying32
  have K0 := Aside0.mk k0
  clear hr
  go_enter Try.func35, Try.ntmps35
  go_wp2_with fail
  clear k0
  go_loopw [14] (fun v wr => ∃ j : Nat, j ≤ l.length ∧ v = .int .i64 j ∧ Aside0 (Below w.heap.size w wr) ∧ Aside0 (∀ k, k < j → (!(!m.testBit k && ahead (sp l k) (sp l i))) = true)) (fun v _ => l.length - (intOf v).toNat)
  case atStart => exact ⟨0, Nat.zero_le _, rfl, ⟨Below.refl _ _⟩, ⟨fun i hi => by omega⟩⟩
  case round =>
    obtain ⟨j, hj, rfl, HB, HT⟩ := hrel
    by_cases hlt : j < l.length
    · obtain ⟨ad, e, h0, h1, h2, h3, h4⟩ := span_at CR.out HB.out hlt
      subst e
      have p1 := eq_true (show (0 : Int) ≤ (j : Int) by omega)
      have p2 := eq_true (show (j : Int) < (l.length : Int) by omega)
      have p3 := eq_true (show (j : Int) ≤ 32 by omega)
      go_upto_region 4 with (first | ((with_reducible refine gate_dst (N := 8) rfl ?_); refine box_event ?hg (N := 8) ?hd (cs := #[.int .i64 0, .int .i64 0, .int .i64 0, .int .i64 0, .int .i64 0]) (t := 32) ?hr ?_; (case hd => rfl); (case hg => rfl); (case hr => first | (go_simp; done) | (go_simp; rfl)); intro gb hg w11 hbox hb; have HB1 := Aside0.mk (below_step HB.out hb); have BX := Aside0.mk hbox; have GE := Aside0.mk (show w.heap.size ≤ gb by rw [hg]; exact HB.out.size); clear hb hbox hg; have z0 := (blk_cell BX.out 0); have z1 := (blk_cell BX.out 1); have z2 := (blk_cell BX.out 2); have z3 := (blk_cell BX.out 3); have z4 := (blk_cell BX.out 4); have f0 := blk_frozen BX.out 0; have f1 := blk_frozen BX.out 1; have f2 := blk_frozen BX.out 2; have f3 := blk_frozen BX.out 3; have f4 := blk_frozen BX.out 4))
      obtain ⟨W4, hW4, B4, X4, -, -⟩ := laid5 HB1.out BX.out GE.out (sp l j)
      rw [hW4]
      clear hW4 z0 z1 z2 z3 z4 f0 f1 f2 f3 f4 h0 h1 h2 h3 h4 BX HB1
      have HB4 := Aside0.mk B4
      obtain ⟨ad', e', h0, h1, h2, h3, h4⟩ := span_at CR.out B4 hi
      obtain rfl := Option.some.inj e'
      have k4 : W4.cell? ⟨g, 0, none⟩ = some (.slice (some ad) l.length c) := (B4.cell (World.block_lt_of_cell? w _ K0.out)).trans K0.out
      clear B4 e'
      have z0 : W4.cell? ⟨gb, 0, none⟩ = some (.int .i64 (sp l j).f0) := (blk_cell X4 0).trans rfl
      have z1 : W4.cell? ⟨gb, 1, none⟩ = some (.int .i64 (sp l j).f1) := (blk_cell X4 1).trans rfl
      have z2 : W4.cell? ⟨gb, 2, none⟩ = some (.int .i64 (sp l j).f2) := (blk_cell X4 2).trans rfl
      have z3 : W4.cell? ⟨gb, 3, none⟩ = some (.int .i64 (sp l j).f3) := (blk_cell X4 3).trans rfl
      have z4 : W4.cell? ⟨gb, 4, none⟩ = some (.int .i64 (sp l j).f4) := (blk_cell X4 4).trans rfl
      clear X4
      have q1 := eq_true (show (0 : Int) ≤ (i : Int) by omega)
      have q2 := eq_true (show (i : Int) < (l.length : Int) by omega)
      have hz := bitz (i := j) hm
      by_cases hb : m.testBit j = true
      · rw [hb] at hz
        simp only [Bool.not_true] at hz
        go_quiet (fail)
        go_wp2_with fail
        go_roundw
        case rel => exact ⟨j + 1, by omega, by go_num, ⟨by first | exact HB4.out | (exact pw_below_drewN HB4.out _)⟩, ⟨upto HT.out (by rw [hb]; rfl)⟩⟩
        case measure => simp [intOf]; omega
      · rw [Bool.not_eq_true] at hb
        rw [hb] at hz
        simp only [Bool.not_false] at hz
        go_still_tail 14, (by kernel_rfl)
        have HB5 := Aside0.mk (below_drew HB4.out)
        clear z0 z1 z2 z3 z4 h0 h1 h2 h3 h4 hz k4 HB4
        change wpList _ _ _ _ _ W4.drew
        generalize W4.drew = W5 at HB5 ⊢
        cases hA : ahead (sp l j) (sp l i)
        · go_wp2_with (first | (go_at_call 40; (with_reducible refine (ahead_calls (sp l j) (sp l i) W5).mono ?_); rintro e_ w6 ⟨rfl, hd_⟩; rw [hA]; have HB6 := Aside0.mk (below_step HB5.out hd_); clear hd_))
          go_roundw
          case rel => exact ⟨j + 1, by omega, by go_num, HB6, ⟨upto HT.out (by rw [hA, hb]; rfl)⟩⟩
          case measure => simp [intOf]; omega
        · go_wp2_with (first | (go_at_call 40; (with_reducible refine (ahead_calls (sp l j) (sp l i) W5).mono ?_); rintro e_ w6 ⟨rfl, hd_⟩; rw [hA]; have HB6 := Aside0.mk (below_step HB5.out hd_); clear hd_))
          go_ret
          exact ⟨by rw [may_false hlt (by rw [hA, hb]; rfl)]; rfl, HB6.out⟩
    · obtain rfl : j = l.length := by omega
      have p2 := eq_false (show ¬ ((l.length : Int) < (l.length : Int)) by omega)
      have q1 := eq_true (show (0 : Int) ≤ (i : Int) by omega)
      have q2 := eq_true (show (i : Int) ≤ 32 by omega)
      have hz := bitz (i := i) hm
      go_wp2_with fail
      go_ret
      exact ⟨by rw [may_end HT.out, ← hz]; rfl, HB.out⟩
end Go.Proofs.Ytbjoinocajobhaa.Ju
