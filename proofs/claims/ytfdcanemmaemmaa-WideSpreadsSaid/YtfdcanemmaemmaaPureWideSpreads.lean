/- The pure statement of WideSpreads: products spread over sums. -/
import Derived.Test.YtfdcanemmaemmaaWidb
import Derived.Test.YtfdcanemmaemmaaQx3
namespace Go.Proofs.Ytfdcanemmaemmaa.Pure
open Go.RowKit Go.Proofs.Ytfdcanemmaemmaa.Q Go.Proofs.Ytfdcanemmaemmaa.Wid Go.Proofs.YtfdcanemmaemmaaW.PrintWords Go.Proofs.YtfdcanemmaemmaaW.PrintLast

theorem W3_inj {a b c a' b' c' : Int} (h2 : U b) (h3 : U c) (h2' : U b') (h3' : U c') (h : W a b * 18446744073709551616 + c = W a' b' * 18446744073709551616 + c') : a = a' ∧ b = b' ∧ c = c' := by
  unfold W U at *; omega
theorem carry_inj {h l h' l' : Int} {o o' : Bool} (u1 : U h) (u2 : U l) (u1' : U h') (u2' : U l')
    (e : W h l + (if o = true then 340282366920938463463374607431768211456 else 0) = W h' l' + (if o' = true then 340282366920938463463374607431768211456 else 0)) : h = h' ∧ l = l' ∧ o = o' := by
  unfold W U at *
  cases o <;> cases o' <;> simp at e ⊢ <;> omega

theorem WideSpreads : mintagelaw01_WideSpreads.Pure := by
  intro a b c ha hb hc
  have ua : U a := wf_u64 ha
  have ub : U b := wf_u64 hb
  have uc : U c := wf_u64 hc
  obtain ⟨x1, x0, ex, u1, u0, vx⟩ := mul_spec a b ua ub
  obtain ⟨y1, y0, ey, w1, w0, vy⟩ := mul_spec a c ua uc
  obtain ⟨z1, z0, ez, t1, t0, vz⟩ := mul_spec c b uc ub
  obtain ⟨p2, p1, p0, ep, -, up1, up0, vp⟩ := times_spec x1 x0 c u1 u0 uc
  obtain ⟨q2, q1, q0, eq, -, uq1, uq0, vq⟩ := times_spec z1 z0 a t1 t0 ua
  have same : W p2 p1 * 18446744073709551616 + p0 = W q2 q1 * 18446744073709551616 + q0 := by
    rw [vp, vq, vx, vz]; grind
  obtain ⟨rfl, rfl, rfl⟩ := W3_inj up1 up0 uq1 uq0 same
  refine Ev.rounds ?_
  unfold mintagelaw01_WideSpreads.f
  simp only [ex, ey, ez, ep, eq, Option.bind_some, beq_self_eq_true, Bool.not_true, Bool.or_self, bne_self_eq_false]
  simp only [Bool.false_eq_true, if_false]
  refine Ev.step (fun k => by simp only [mintagelaw01_WideSpreads.j0]; rfl) ?_
  simp only [Bool.false_eq_true, if_false]
  obtain ⟨s1, s0, o, es, us1, us0, vs⟩ := add_spec x1 x0 y1 y0 u1 u0 w1 w0
  simp only [es, Option.bind_some]
  rw [IntKind.wrap_u64]
  have um : U ((b + c) % 18446744073709551616) := by unfold U; omega
  obtain ⟨m1, m0, em, um1, um0, vm⟩ := mul_spec a ((b + c) % 18446744073709551616) ua um
  simp only [em, Option.bind_some]
  by_cases hge : (b + c) % 18446744073709551616 ≥ b
  · simp only [if_pos hge]
    have hsum : (b + c) % 18446744073709551616 = b + c := by unfold U at *; omega
    rw [hsum] at vm
    have e1 : W s1 s0 + (if o = true then 340282366920938463463374607431768211456 else 0) = W m1 m0 + (if false = true then 340282366920938463463374607431768211456 else 0) := by
      rw [vs, vm, vx, vy]; simp; grind
    obtain ⟨rfl, rfl, rfl⟩ := carry_inj us1 us0 um1 um0 e1
    simp only [beq_self_eq_true, Bool.and_self, if_true, Bool.false_eq_true, if_false]
    exact Ev.bind wakes_ev (Ev.now _)
  · simp only [if_neg hge]
    have hsum : (b + c) % 18446744073709551616 + 18446744073709551616 = b + c := by unfold U at *; omega
    obtain ⟨n1, n0, o', en, un1, un0, vn⟩ := add_spec m1 m0 a 0 um1 um0 ua (by unfold U; omega)
    simp only [en, Option.bind_some]
    have e1 : W s1 s0 + (if o = true then 340282366920938463463374607431768211456 else 0) = W n1 n0 + (if o' = true then 340282366920938463463374607431768211456 else 0) := by
      rw [vs, vn, vm, vx, vy]
      have h1 : a * b + a * c = a * (b + c) := by grind
      have h2 : W a 0 = a * 18446744073709551616 := by unfold W; omega
      rw [h1, ← hsum, h2]; grind
    obtain ⟨rfl, rfl, rfl⟩ := carry_inj us1 us0 un1 un0 e1
    simp only [beq_self_eq_true, Bool.and_self, if_true]
    exact Ev.bind wakes_ev (Ev.now _)
end Go.Proofs.Ytfdcanemmaemmaa.Pure
