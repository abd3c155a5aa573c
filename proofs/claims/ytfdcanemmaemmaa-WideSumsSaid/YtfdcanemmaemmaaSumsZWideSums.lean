/- WideSums: the printed function answers true. -/
import Derived.Test.YtfdcanemmaemmaaBigcZWideSums
import Derived.Test.YtfdcanemmaemmaaQ2ZWideSums
namespace Go.Proofs.Ytfdcanemmaemmaa.Sums
set_option linter.unusedVariables false
open Go.RowKit Go.Proofs.Ytfdcanemmaemmaa.Q Go.Proofs.Ytfdcanemmaemmaa.Wid Go.Proofs.Ytfdcanemmaemmaa.Big Go.Proofs.YtfdcanemmaemmaaW.PrintWords Go.Proofs.YtfdcanemmaemmaaW.PrintLast

theorem sums_ev {a1 a0 b1 b0 : Int} (h1 : U a1) (h0 : U a0) (g1 : U b1) (g0 : U b0) : ∃ k, mintagelaw01_WideSums.f k a1 a0 b1 b0 = some true := by
  obtain ⟨s1, s0, o, es, vs, -, -⟩ := add_both h1 h0 g1 g0
  obtain ⟨d1, d0, u, ed, vd, -, -⟩ := sub_both h1 h0 g1 g0
  obtain ⟨m1, m0, em, vm, -, -⟩ := mul_both h0 g0
  obtain ⟨n1, n0, en, vn, -, -⟩ := mul_both h1 g0
  refine Ev.rounds ?_
  unfold mintagelaw01_WideSums.f
  simp only [es, ed, em, en, Option.bind_some]
  refine Ev.bind vs ?_
  refine Ev.bind vd ?_
  simp only [beq_self_eq_true, Bool.and_self, if_true]
  refine Ev.bind vm ?_
  simp only [beq_self_eq_true, Bool.and_self, if_true]
  refine Ev.bind vn ?_
  simp only [beq_self_eq_true, Bool.and_self, if_true]
  exact Ev.bind wakes_ev (Ev.now _)

theorem sums_walk (a1 a0 b1 b0 : Int) (w : World) (h1 : (Lit.int .u64 a1).wf = true) (h0 : (Lit.int .u64 a0).wf = true) (g1 : (Lit.int .u64 b1).wf = true) (g0 : (Lit.int .u64 b0).wf = true) :
    Calls Try.prog 5 #[.agg #[.int .u64 a1, .int .u64 a0], .agg #[.int .u64 b1, .int .u64 b0]] w fun e w' => e = .returned (.bool true) ∧ Below w.heap.size w w' := by
  obtain ⟨k, h⟩ := sums_ev (wf_u64 h1) (wf_u64 h0) (wf_u64 g1) (wf_u64 g0)
  exact mintagelaw01_WideSums.calls k a1 a0 b1 b0 true w h rfl
end Go.Proofs.Ytfdcanemmaemmaa.Sums
