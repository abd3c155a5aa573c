/- The pure statement of DateOrder: of two days, and two moments, the texts stand in the order of the numbers. -/
import Derived.Test.YtobgpdmiiipmmaaCaloZDateOrder
import Derived.Test.YtobgpdmiiipmmaaQ1ZDateOrder
namespace Go.Proofs.Ytobgpdmiiipmmaa.Pure
set_option linter.unusedVariables false
open Go.RowKit Go.Proofs.Ytobgpdmiiipmmaa.Q Go.Proofs.Ytobgpdmiiipmmaa.Dig Go.Proofs.Ytobgpdmiiipmmaa.Cal Go.Proofs.YtobgpdmiiipmmaaW.PrintWords Go.Proofs.YtobgpdmiiipmmaaW.PrintLast

theorem wfu {a : Int} (h : (Lit.int .u64 a).wf = true) : 0 ≤ a ∧ a < 18446744073709551616 := by
  have h1 : (decide (IntKind.u64.min ≤ a) && decide (a ≤ IntKind.u64.max)) = true := h
  have e1 : IntKind.u64.min = 0 := by rfl
  have e2 : IntKind.u64.max = 18446744073709551615 := by rfl
  rw [e1, e2] at h1
  simp at h1
  omega
theorem same_text {t u : List Int} (h : t = u ∨ Less t u = true ∨ Less u t = true) (hi : ∀ v, Less v v = true → False) : ((strOfNums t).toList == (strOfNums u).toList) = decide (t = u) := by
  by_cases e : t = u
  · subst e; simp
  · rw [decide_eq_false e, beq_eq_false_iff_ne]
    intro hs
    rcases h with h | h | h
    · exact e h
    · have : Less t t = true := by unfold Less at h ⊢; rw [← hs] at h; exact h
      exact hi _ this
    · have : Less t t = true := by unfold Less at h ⊢; rw [hs] at h; rw [hs]; exact h
      exact hi _ this
theorem less_irr (v : List Int) : Less v v = true → False := by
  unfold Less
  generalize (strOfNums v).toList = l
  induction l with
  | nil => intro h; cases h
  | cons a l ih =>
    intro h
    simp only [Op.bytesLess] at h
    have : ¬ a < a := UInt8.lt_irrefl a
    simp [this] at h
    exact ih h
theorem DateOrder : mintagelaw13_DateOrder.Pure := by
  intro a0 a1 a2 a3 h0 h1 h2 h3
  have u0 := wfu h0
  have u1 := wfu h1
  have u2 := wfu h2
  have u3 := wfu h3
  refine Ev.rounds ?_
  unfold mintagelaw13_DateOrder.f
  rw [Int.tmod_eq_emod_of_nonneg u0.1, Int.tmod_eq_emod_of_nonneg u1.1, wrap64_id (x := a0 % 3652425) (by omega) (by omega), wrap64_id (x := a1 % 3652425) (by omega) (by omega),
    wrap64_id (x := -719528 + a0 % 3652425) (by omega) (by omega), wrap64_id (x := -719528 + a1 % 3652425) (by omega) (by omega)]
  have r0 : -719528 ≤ -719528 + a0 % 3652425 ∧ -719528 + a0 % 3652425 ≤ 2932896 := by omega
  have r1 : -719528 ≤ -719528 + a1 % 3652425 ∧ -719528 + a1 % 3652425 ≤ 2932896 := by omega
  generalize -719528 + a0 % 3652425 = a at *
  generalize -719528 + a1 % 3652425 = b at *
  obtain ⟨y, m, d, e1, k1, n1⟩ := date_ev r0.1 r0.2
  obtain ⟨z, k, e, e2, k2, n2⟩ := date_ev r1.1 r1.2
  refine Ev.bind (printday_ev r0.1 r0.2 e1 k1) ?_
  refine Ev.bind (printday_ev r1.1 r1.2 e2 k2) ?_
  have hl := less_day k1 k2 [] []
  rw [List.append_nil, List.append_nil, n1, n2, less_nilnil] at hl
  have hlt : Less (day y ((m : Int) + 1) d) (day z ((k : Int) + 1) e) = decide (a < b) := by
    rw [hl, Bool.and_false, Bool.or_false]; exact decide_eq_decide.2 (by omega)
  have hl' := less_day k2 k1 [] []
  rw [List.append_nil, List.append_nil, n1, n2, less_nilnil] at hl'
  have hgt : Less (day z ((k : Int) + 1) e) (day y ((m : Int) + 1) d) = decide (b < a) := by
    rw [hl', Bool.and_false, Bool.or_false]; exact decide_eq_decide.2 (by omega)
  have hday : (day y ((m : Int) + 1) d = day z ((k : Int) + 1) e) ↔ a = b := by
    constructor
    · intro h
      rcases Int.lt_trichotomy a b with c | c | c
      · rw [decide_eq_true c, h] at hlt; exact absurd hlt (fun q => less_irr _ q)
      · exact c
      · rw [decide_eq_true c, h] at hgt; exact absurd hgt (fun q => less_irr _ q)
    · intro h
      subst h
      have := num_inj k1 k2 (by rw [n1, n2])
      obtain ⟨rfl, rfl, rfl⟩ := this
      rfl
  have heq : ((strOfNums (day y ((m : Int) + 1) d)).toList == (strOfNums (day z ((k : Int) + 1) e)).toList) = (a == b) := by
    rw [same_text ?_ less_irr]
    · by_cases c : a = b
      · rw [decide_eq_true (hday.2 c)]; simp [c]
      · rw [decide_eq_false (fun q => c (hday.1 q))]; simp [c]
    · rcases Int.lt_trichotomy a b with c | c | c
      · exact .inr (.inl (by rw [hlt]; exact decide_eq_true c))
      · exact .inl (hday.2 c)
      · exact .inr (.inr (by rw [hgt]; exact decide_eq_true c))
  have hb1 : Op.bytesLess (strOfNums (day y ((m : Int) + 1) d)).toList (strOfNums (day z ((k : Int) + 1) e)).toList = decide (a < b) := hlt
  have el : ((day y ((m : Int) + 1) d).length : Int) = 10 := by rw [day_len]; rfl
  simp only [if_pos el, hb1, heq, bne_self_eq_false, Bool.false_eq_true, if_false]
  refine Ev.step (fun k => by simp only [mintagelaw13_DateOrder.j0]; rw [if_neg (by decide)]) ?_
  rw [Int.tmod_eq_emod_of_nonneg u2.1, Int.tmod_eq_emod_of_nonneg u3.1, wrap64_id (x := a2 % 86400) (by omega) (by omega), wrap64_id (x := a3 % 86400) (by omega) (by omega),
    wrap64_id (x := a * 86400) (by omega) (by omega), wrap64_id (x := b * 86400) (by omega) (by omega), wrap64_id (x := a * 86400 + a2 % 86400) (by omega) (by omega), wrap64_id (x := b * 86400 + a3 % 86400) (by omega) (by omega),
    wrap64_id (x := (a * 86400 + a2 % 86400) * 1000000) (by omega) (by omega), wrap64_id (x := (b * 86400 + a3 % 86400) * 1000000) (by omega) (by omega)]
  have f0 : 0 ≤ a2 % 86400 ∧ a2 % 86400 < 86400 := by omega
  have f1 : 0 ≤ a3 % 86400 ∧ a3 % 86400 < 86400 := by omega
  generalize a2 % 86400 = f at *
  generalize a3 % 86400 = g at *
  obtain ⟨t, ht, p1⟩ := printmoment_ev (x := (a * 86400 + f) * 1000000) (n := a) (by omega) (by omega) (by omega) e1 k1
  obtain ⟨u, hu, p2⟩ := printmoment_ev (x := (b * 86400 + g) * 1000000) (n := b) (by omega) (by omega) (by omega) e2 k2
  have s1 : (a * 86400 + f) * 1000000 % 86400000000 / 1000000 = f := by omega
  have s2 : (b * 86400 + g) * 1000000 % 86400000000 / 1000000 = g := by omega
  have z1 : t = [] := by
    rcases ht with ⟨_, h⟩ | ⟨_, _, h, _⟩
    · exact h
    · omega
  have z2 : u = [] := by
    rcases hu with ⟨_, h⟩ | ⟨_, _, h, _⟩
    · exact h
    · omega
  rw [s1, z1, List.append_nil] at p1
  rw [s2, z2, List.append_nil] at p2
  refine Ev.bind p1 ?_
  refine Ev.bind p2 ?_
  have el2 : ((tim y ((m : Int) + 1) d (f / 3600) (f / 60 % 60) (f % 60)).length : Int) = 19 := by rw [tim_len]; rfl
  have c2 : (10 : Int) ^ 2 = 100 := by decide
  have hb2 : Op.bytesLess (strOfNums (tim y ((m : Int) + 1) d (f / 3600) (f / 60 % 60) (f % 60))).toList (strOfNums (tim z ((k : Int) + 1) e (g / 3600) (g / 60 % 60) (g % 60))).toList = decide (a * 86400 + f < b * 86400 + g) := by
    have hh : Less (tim y ((m : Int) + 1) d (f / 3600) (f / 60 % 60) (f % 60)) (tim z ((k : Int) + 1) e (g / 3600) (g / 60 % 60) (g % 60)) = decide (a * 86400 + f < b * 86400 + g) := by
      unfold tim
      rw [← List.append_nil (digit_Pad.D 2 (f % 60)), ← List.append_nil (digit_Pad.D 2 (g % 60))]
      simp only [List.append_assoc, List.cons_append, List.nil_append]
      rw [less_day k1 k2, less_same 84 (by omega), less_D 2 (by omega) (by omega) (by omega) (by omega) (by decide), less_same 58 (by omega), less_D 2 (by omega) (by omega) (by omega) (by omega) (by decide), less_same 58 (by omega), less_D 2 (by omega) (by omega) (by omega) (by omega) (by decide), less_nilnil, n1, n2]
      rw [Bool.eq_iff_iff]
      simp only [Bool.or_eq_true, Bool.and_eq_true, decide_eq_true_iff, Bool.false_eq_true, and_false, or_false]
      omega
    exact hh
  simp only [if_pos el2, hb2, beq_self_eq_true, if_true]
  simp only [mintagelaw13_wakes.f, Option.bind_some]
  exact Ev.now _
end Go.Proofs.Ytobgpdmiiipmmaa.Pure
