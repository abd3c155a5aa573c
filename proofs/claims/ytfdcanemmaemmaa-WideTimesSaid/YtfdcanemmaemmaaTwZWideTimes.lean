/- WideTimes, walked. -/
import Derived.Test.YtfdcanemmaemmaaTeZWideTimes
import Derived.Test.YtfdcanemmaemmaaQ2ZWideTimes
import Derived.Test.YtfdcanemmaemmaaQ1ZWideTimes
namespace Go.Proofs.Ytfdcanemmaemmaa.Td
set_option linter.unusedVariables false
set_option linter.unusedSimpArgs false
open Go.RowKit Go.Proofs.Ytfdcanemmaemmaa.Q Go.Proofs.Ytfdcanemmaemmaa.Wid Go.Proofs.Ytfdcanemmaemmaa.Big Go.Proofs.YtfdcanemmaemmaaW.PrintWords Go.Proofs.YtfdcanemmaemmaaW.PrintLast Go.Proofs.Ytfdcanemmaemmaa.Keep

theorem rdiv_same {a1 a0 d : Int} (h1 : U a1) (h0 : U a0) (hd : U d) : ∃ K q1 q0 r ok, wide_Div.f K a1 a0 d = some (q1, q0, r, ok) ∧ ∀ w : World, Calls Try.prog 28 #[.agg #[.int .u64 a1, .int .u64 a0], .int .u64 d] w fun e w' => e = .returned (.tuple #[.agg #[.int .u64 q1, .int .u64 q0], .int .u64 r, .bool ok]) ∧ Below w.heap.size w w' := by
  by_cases h : d = 0
  · subst h
    obtain ⟨K, hK⟩ := (divf_ev a1 a0 0 h1 h0 hd).1 rfl
    exact ⟨K, 0, 0, 0, false, hK K (Nat.le_refl _), rdiv_zero a1 a0⟩
  · obtain ⟨K, q1, q0, r, da, dd, dq, dr, wr, o, e, D⟩ := div_both h1 h0 hd (by unfold U at hd; omega)
    exact ⟨K, q1, q0, r, true, e, rdiv_pos K a1 a0 d q1 q0 r da dd dq dr wr o D h⟩
/-- A box that holds a wide number. -/
def Bw (W : World) (g : Nat) (x y : Int) : Prop := W.heap[g]? = some (.cells #[.int .u64 x, .int .u64 y] 24 (0, 0))
theorem Bw.below {W W' : World} {g : Nat} {x y : Int} (h : Bw W g x y) (hb : Below W.heap.size W W') : Bw W' g x y := (hb.block g (blk_lt h)).trans h
theorem Bw.alloc {W : World} {g : Nat} {x y : Int} (h : Bw W g x y) (o : Obj) : Bw (W.alloc o) g x y := blk_alloc h o
theorem Bw.new (W : World) (x y : Int) : Bw (W.alloc (.cells #[.int .u64 x, .int .u64 y] 24)) W.heap.size x y := blk_new W _
theorem Bw.c0 {W : World} {g : Nat} {x y : Int} (h : Bw W g x y) : W.cell? ⟨g, 0, none⟩ = some (.int .u64 x) := (blk_cell h 0).trans rfl
theorem Bw.c1 {W : World} {g : Nat} {x y : Int} (h : Bw W g x y) : W.cell? ⟨g, 1, none⟩ = some (.int .u64 y) := (blk_cell h 1).trans rfl
set_option maxHeartbeats 4000000 in
set_option maxRecDepth 100000 in
theorem times_walk (a1 a0 b : Int) (w : World) (h1 : (Lit.int .u64 a1).wf = true) (h0 : (Lit.int .u64 a0).wf = true) (hb : (Lit.int .u64 b).wf = true) :
    Calls Try.prog 7 #[.agg #[.int .u64 a1, .int .u64 a0], .int .u64 b] w fun e w' => e = .returned (.bool true) ∧ Below w.heap.size w w' := by
  obtain ⟨x, y, z, e1, ⟨K1, k1⟩⟩ := times_both (wf_u64 h1) (wf_u64 h0) (wf_u64 hb)
  obtain ⟨K, q1, q0, r, ok, e2, RD⟩ := rdiv_same (wf_u64 h1) (wf_u64 h0) (wf_u64 hb)
  have H1 := Aside0.mk e1
  have H2 : Aside0 (mintageref01_Times.f K1 a1 a0 b = some (x, y, z)) := ⟨k1 K1 (Nat.le_refl _)⟩
  have H3 := Aside0.mk e2
  have H4 := Aside0.mk RD
  obtain ⟨Kw, kw⟩ := wakes_ev
  have H5 : Aside0 (mintagelaw01_wakes.f Kw = some true) := ⟨kw Kw (Nat.le_refl _)⟩
  clear h1 h0 hb e1 k1 e2 RD kw
  have hu := Try.underlying24
  go_enter Try.func7, Try.ntmps7
  go_upto_region 1 with fail
  have B1 : Aside0 (Below w.heap.size w (w.alloc (.cells #[.int .u64 a1, .int .u64 a0] 24))) := ⟨below_alloc (Below.refl _ _) _⟩
  have X2 := Aside0.mk (Bw.new w a1 a0)
  obtain ⟨g2, hg2⟩ : ∃ g, g = w.heap.size := ⟨_, rfl⟩
  rw [← hg2] at X2
  have hgg := Aside0.mk hg2
  generalize w.alloc (.cells #[.int .u64 a1, .int .u64 a0] 24) = W1 at B1 X2 ⊢
  have c0 := X2.out.c0
  have c1 := X2.out.c1
  rw [← hg2]
  clear hg2
  go_upto_region 2 with (first
    | (go_at_call 10; go_loud (refine (wide_Times.calls a1 a0 b x y z W1 H1.out).mono ?_; rintro e_ w2 ⟨rfl, hd_⟩; have B2 := Aside0.mk (below_step B1.out hd_); have X2b := Aside0.mk (X2.out.below hd_); clear hd_)))
  clear c0 c1
  have B3 : Aside0 (Below w.heap.size w (w2.alloc (.cells #[.int .u64 x, .int .u64 y] 24))) := ⟨below_alloc B2.out _⟩
  have X2c := Aside0.mk (X2b.out.alloc (.cells #[.int .u64 x, .int .u64 y] 24))
  have X5 := Aside0.mk (Bw.new w2 x y)
  generalize w2.alloc (.cells #[.int .u64 x, .int .u64 y] 24) = W3 at B3 X2c X5 ⊢
  generalize w2.heap.size = g5 at X5 ⊢
  have c0 := X2c.out.c0
  have c1 := X2c.out.c1
  go_upto_region 3 with (first
    | (go_at_call 26; go_loud (refine (mintageref01_Times.calls K1 a1 a0 b x y z W3 H2.out).mono ?_; rintro e_ w4 ⟨rfl, hd_⟩; have B4 := Aside0.mk (below_step B3.out hd_); have X2d := Aside0.mk (X2c.out.below hd_); have X5b := Aside0.mk (X5.out.below hd_); clear hd_)))
  clear c0 c1
  have B5 : Aside0 (Below w.heap.size w (w4.alloc (.cells #[.int .u64 x, .int .u64 y] 24))) := ⟨below_alloc B4.out _⟩
  have X2e := Aside0.mk (X2d.out.alloc (.cells #[.int .u64 x, .int .u64 y] 24))
  have X5c := Aside0.mk (X5b.out.alloc (.cells #[.int .u64 x, .int .u64 y] 24))
  have X7 := Aside0.mk (Bw.new w4 x y)
  generalize w4.alloc (.cells #[.int .u64 x, .int .u64 y] 24) = W5 at B5 X2e X5c X7 ⊢
  generalize w4.heap.size = g7 at X7 ⊢
  have c0 := X2e.out.c0
  have c1 := X2e.out.c1
  go_upto_region 4 with (first
    | (go_at_call 27; go_loud (refine (wide_Div.calls K a1 a0 b q1 q0 r ok W5 H3.out).mono ?_; rintro e_ w6 ⟨rfl, hd_⟩; have B6 := Aside0.mk (below_step B5.out hd_); have X2f := Aside0.mk (X2e.out.below hd_); have X5d := Aside0.mk (X5c.out.below hd_); have X7b := Aside0.mk (X7.out.below hd_); clear hd_)))
  clear c0 c1
  have B7 : Aside0 (Below w.heap.size w (w6.alloc (.cells #[.int .u64 q1, .int .u64 q0] 24))) := ⟨below_alloc B6.out _⟩
  have X2g := Aside0.mk (X2f.out.alloc (.cells #[.int .u64 q1, .int .u64 q0] 24))
  have X5e := Aside0.mk (X5d.out.alloc (.cells #[.int .u64 q1, .int .u64 q0] 24))
  have X7c := Aside0.mk (X7b.out.alloc (.cells #[.int .u64 q1, .int .u64 q0] 24))
  have X9 := Aside0.mk (Bw.new w6 q1 q0)
  generalize w6.alloc (.cells #[.int .u64 q1, .int .u64 q0] 24) = W7 at B7 X2g X5e X7c X9 ⊢
  generalize w6.heap.size = g9 at X9 ⊢
  have c0 := X2g.out.c0
  have c1 := X2g.out.c1
  go_upto_region 5 with (first
    | (go_at_call 28; go_loud (refine (H4.out W7).mono ?_; rintro e_ w8 ⟨rfl, hd_⟩; have B8 := Aside0.mk (below_step B7.out hd_); have X5f := Aside0.mk (X5e.out.below hd_); have X7d := Aside0.mk (X7c.out.below hd_); have X9b := Aside0.mk (X9.out.below hd_); clear hd_)))
  clear c0 c1
  have B9 : Aside0 (Below w.heap.size w (w8.alloc (.cells #[.int .u64 q1, .int .u64 q0] 24))) := ⟨below_alloc B8.out _⟩
  have X5g := Aside0.mk (X5f.out.alloc (.cells #[.int .u64 q1, .int .u64 q0] 24))
  have X7e := Aside0.mk (X7d.out.alloc (.cells #[.int .u64 q1, .int .u64 q0] 24))
  have X9c := Aside0.mk (X9b.out.alloc (.cells #[.int .u64 q1, .int .u64 q0] 24))
  have X12 := Aside0.mk (Bw.new w8 q1 q0)
  generalize w8.alloc (.cells #[.int .u64 q1, .int .u64 q0] 24) = W9 at B9 X5g X7e X9c X12 ⊢
  generalize w8.heap.size = g12 at X12 ⊢
  have d0 := X5g.out.c0
  have d1 := X5g.out.c1
  have e0 := X7e.out.c0
  have e1 := X7e.out.c1
  have f0 := X9c.out.c0
  have f1 := X9c.out.c1
  have h0 := X12.out.c0
  have h1 := X12.out.c1
  go_wp2_with (first
    | (go_at_call 12; go_loud (refine (mintagelaw01_wakes.calls Kw true _ H5.out).mono ?_; rintro e_ w10 ⟨rfl, hd_⟩; have B10 := Aside0.mk (below_step B9.out hd_); clear hd_)))
  go_ret
  exact ⟨rfl, B10.out⟩
end Go.Proofs.Ytfdcanemmaemmaa.Td
