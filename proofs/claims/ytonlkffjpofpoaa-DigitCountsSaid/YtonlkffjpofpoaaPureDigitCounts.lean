/- DigitCounts: the printed law function answers true. -/
import Derived.Test.YtonlkffjpofpoaaQx10
import Derived.Test.YtonlkffjpofpoaaQx5
import Derived.Test.YtonlkffjpofpoaaQx9
import Derived.Test.YtonlkffjpofpoaaTen
namespace Go.Proofs.Ytonlkffjpofpoaa.Dig
open Go.RowKit Go.Proofs.Ytonlkffjpofpoaa.Q Go.Proofs.YtonlkffjpofpoaaW.PrintWords Go.Proofs.YtonlkffjpofpoaaW.PrintLast
theorem wf_u64' {a : Int} (h : (Lit.int .u64 a).wf = true) : 0 ≤ a ∧ a < 18446744073709551616 := by
  have h1 : (decide (IntKind.u64.min ≤ a) && decide (a ≤ IntKind.u64.max)) = true := h
  have e1 : IntKind.u64.min = 0 := by rfl
  have e2 : IntKind.u64.max = 18446744073709551615 := by rfl
  rw [e1, e2] at h1
  simp at h1
  omega
theorem counted {x : Int} {d : Nat} (h : 0 ≤ x) (h' : x < 18446744073709551616) (h3 : x < 10 ^ (d + 1)) (h4 : d = 0 ∨ 10 ^ d ≤ x) :
    Ev (fun k => digit_Count.f k x) ((d : Int) + 1) := by
  obtain ⟨c, ec, hc, c3, c4⟩ := count_ev h h'
  rw [← count_unique c3 c4 h3 h4]; exact ec
theorem wakes_ev : Ev (fun _ => mintagelaw04_wakes.f) true := Ev.now _
theorem counts_tail {m : Nat} (hm : m ≤ 19) : Ev (fun k => (digit_Count.f k (10 ^ m)).bind fun t170 => (if t170 = (wrap64 ((m : Int) + 1)) then (if (m : Int) = 0 then ((mintagelaw04_wakes.f).bind fun t171 => (some t171)) else ((digit_Count.f k (IntKind.u64.wrap (10 ^ m - 1))).bind fun t172 => (if t172 = (m : Int) then ((mintagelaw04_wakes.f).bind fun t173 => (some t173)) else (some false)))) else (some false))) true := by
  have b := ten_le hm
  refine Ev.bind (counted (d := m) (by omega) (by omega) (by rw [Int.pow_succ]; omega) (.inr (Int.le_refl _))) ?_
  rw [wrap64_id (by omega) (by omega)]
  simp only [if_true]
  by_cases h0 : (m : Int) = 0
  · simp only [if_pos h0]
    exact Ev.bind wakes_ev (Ev.now _)
  · simp only [if_neg h0]
    obtain ⟨d, rfl⟩ : ∃ d, m = d + 1 := ⟨m - 1, by omega⟩
    have p : (1 : Int) ≤ 10 ^ d := Int.pow_pos (by decide)
    rw [w64, Int.emod_eq_of_lt (by omega) (by omega)]
    refine Ev.bind (counted (d := d) (by omega) (by omega) (by omega) (.inr (by rw [Int.pow_succ]; omega))) ?_
    rw [if_pos (by omega)]
    exact Ev.bind wakes_ev (Ev.now _)
theorem PureDigitCounts : mintagelaw04_DigitCounts.Pure := by
  intro x n hx hn
  have bx := wf_u64' hx
  obtain ⟨m, em, hm⟩ := within_ev n 19 (by omega)
  obtain ⟨c, ec, hc, c3, c4⟩ := count_ev bx.1 bx.2
  have b := ten_le hm
  refine Ev.rounds ?_
  unfold mintagelaw04_DigitCounts.f
  rw [show ((19 : Nat) : Int) = 19 from rfl] at em
  simp only [em, Option.bind_some]
  refine Ev.bind (ten_ev hm) ?_
  simp only [show ∀ e, mintagelaw04_num.f e = some e from fun _ => rfl, Option.bind_some, if_true]
  refine Ev.bind ec ?_
  by_cases hge : x ≥ 10 ^ m
  · have := pow10_lt hge c3
    simp only [if_pos hge, decide_eq_true (show (c : Int) + 1 > m by omega), beq_self_eq_true, if_true]
    exact counts_tail hm
  · have key : (decide ((c : Int) + 1 > m) == ((m : Int) == 0)) = true := by
      by_cases h0 : m = 0
      · subst h0
        simp
      · have hn : ¬ (c : Int) + 1 > m := by
          rcases c4 with rfl | c4
          · omega
          · have := pow10_lt (a := c) (b := m) c4 (by omega)
            omega
        rw [decide_eq_false hn, beq_eq_false_iff_ne.2 (show (m : Int) ≠ 0 by omega)]; rfl
    simp only [if_neg hge, key, if_true]
    exact counts_tail hm
end Go.Proofs.Ytonlkffjpofpoaa.Dig
namespace Go.Proofs.Ytonlkffjpofpoaa.Pure
theorem DigitCounts : Q.mintagelaw04_DigitCounts.Pure := Dig.PureDigitCounts
end Go.Proofs.Ytonlkffjpofpoaa.Pure
