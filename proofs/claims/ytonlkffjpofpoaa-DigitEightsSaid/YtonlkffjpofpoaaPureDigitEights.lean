/- DigitEights: the printed law function answers true. -/
import Derived.Test.YtonlkffjpofpoaaQx25
import Derived.Test.YtonlkffjpofpoaaQx5
import Derived.Test.YtonlkffjpofpoaaQx9
import Derived.Test.YtonlkffjpofpoaaTen
import Derived.Test.YtonlkffjpofpoaaDigb
namespace Go.Proofs.Ytonlkffjpofpoaa.Dig
open Go.RowKit Go.Proofs.Ytonlkffjpofpoaa.Q Go.Proofs.YtonlkffjpofpoaaW.PrintWords Go.Proofs.YtonlkffjpofpoaaW.PrintLast
theorem wf_u64e {a : Int} (h : (Lit.int .u64 a).wf = true) : 0 ≤ a ∧ a < 18446744073709551616 := by
  have h1 : (decide (IntKind.u64.min ≤ a) && decide (a ≤ IntKind.u64.max)) = true := h
  have e1 : IntKind.u64.min = 0 := by rfl
  have e2 : IntKind.u64.max = 18446744073709551615 := by rfl
  rw [e1, e2] at h1
  simp at h1
  omega
theorem D_lene : ∀ (n : Nat) (x : Int), (digit_Pad.D n x).length = n
  | 0, _ => rfl
  | n + 1, x => by simp [digit_Pad.D, D_lene n]
theorem wakes_eve : Ev (fun _ => mintagelaw04_wakes.f) true := Ev.now _
theorem eight_set {l : List Int} (h : AllD l) (hl : l.length = 16) {m : Nat} (hm : m ≤ 7) (c : Int) : ∃ x, digit_Eight.f (l.set m c) = some (x, decide (IsD c)) := by
  by_cases hc : IsD c
  · rw [decide_eq_true hc]
    refine ⟨_, eight_all (by rw [List.length_set]; omega) (fun z hz => ?_)⟩
    have hz := List.mem_of_mem_take hz
    rcases List.mem_or_eq_of_mem_set hz with hz | rfl
    · exact h z hz
    · exact hc
  · rw [decide_eq_false hc]
    refine ⟨_, eight_not fun hz => hc (hz c ?_)⟩
    have e : (l.set m c).take 8 = (l.take 8).set m c := List.take_set
    rw [e]
    rw [List.mem_iff_getElem]
    exact ⟨m, by rw [List.length_set, List.length_take]; omega, by simp⟩
theorem eights_tail {l : List Int} (h : AllD l) (hl : l.length = 16) (at_ c : Int) : Ev (fun k => mintagelaw04_DigitEights.j1 k at_ c l false) true := by
  obtain ⟨m, em, hm⟩ := within_ev at_ 7 (by omega)
  rw [show ((7 : Nat) : Int) = 7 from rfl] at em
  obtain ⟨x, ex⟩ := eight_set h hl hm c
  refine Ev.step (fun k => by simp only [mintagelaw04_DigitEights.j1]; rfl) ?_
  simp only [Bool.false_eq_true, if_false, em, Option.bind_some, if_pos (show (0 : Int) ≤ m by omega), hl, if_pos (show (m : Int) < ((16 : Nat) : Int) by omega), Int.toNat_natCast, ex, isd_eq, beq_self_eq_true, if_true]
  exact Ev.bind wakes_eve (Ev.now _)
theorem PureDigitEights : mintagelaw04_DigitEights.Pure := by
  intro x n b hx hn hb
  have bx := wf_u64e hx
  obtain ⟨y, hy⟩ : ∃ y, Int.tmod x 10000000000000000 = y := ⟨_, rfl⟩
  have by_ : 0 ≤ y ∧ y < 10000000000000000 := by
    rw [Int.tmod_eq_emod_of_nonneg bx.1] at hy; omega
  obtain ⟨c, ec, hc, c3, c4⟩ := count_ev (x := y) by_.1 (by omega)
  have e16 : (10 : Int) ^ 16 = 10000000000000000 := by rfl
  have c16 : c < 16 := by
    rcases c4 with rfl | c4
    · omega
    · exact pow10_lt c4 (by omega)
  have hv := D_val 16 (x := y) by_.1 (by omega)
  rw [Int.emod_eq_of_lt by_.1 (by omega)] at hv
  have hl := D_lene 16 y
  have ha := D_all 16 (x := y) by_.1 (by omega)
  have pe := pad_ev ec (wd := 16) (by omega) (by omega) (by omega)
  revert hv hl ha pe
  generalize digit_Pad.D 16 y = p
  intro hv hl ha pe
  have e1 := eight_all (l := p) (by omega) (allD_take ha 8)
  have e2 := eight_all (l := p.drop 8) (by rw [List.length_drop]; omega) (allD_take (allD_drop ha 8) 8)
  rw [List.take_of_length_le (show (p.drop 8).length ≤ 8 by rw [List.length_drop]; omega)] at e2
  have sum : dval (p.take 8) * 100000000 + dval (p.drop 8) = y := by
    rw [← hv]
    conv => rhs; rw [← List.take_append_drop 8 p, dval_append, List.length_drop, hl]
    rfl
  have b1 := dval_bounds (allD_take ha 8)
  have b2 := dval_bounds (allD_drop ha 8)
  refine Ev.rounds ?_
  unfold mintagelaw04_DigitEights.f
  rw [hy]
  refine Ev.bind pe ?_
  simp only [show ∀ e, mintagelaw04_num.f e = some e from fun _ => rfl, Option.bind_some, if_true, hl, show (((16 : Nat) : Int) != 16) = false from rfl]
  refine Ev.step (fun k => by simp only [mintagelaw04_DigitEights.j0]; rfl) ?_
  simp only [Bool.false_eq_true, if_false, e1, e2, Option.bind_some, if_true, hl, if_pos (show (8 : Int) ≤ ((16 : Nat) : Int) by omega)]
  have v := val_ev ha (by intro h; rw [h] at hl; simp at hl) (by omega) (by rw [hv]; omega)
  rw [hv] at v
  refine Ev.bind v ?_
  have sw : IntKind.u64.wrap (IntKind.u64.wrap (dval (p.take 8) * 100000000) + dval (p.drop 8)) = y := by
    rw [w64, w64]; omega
  simp only [show ∀ e, mintagelaw04_num.f e = some e from fun _ => rfl, Option.bind_some, if_true, sw, hy, bne_self_eq_false]
  exact eights_tail ha hl n b
end Go.Proofs.Ytonlkffjpofpoaa.Dig
namespace Go.Proofs.Ytonlkffjpofpoaa.Pure
theorem DigitEights : Q.mintagelaw04_DigitEights.Pure := Dig.PureDigitEights
end Go.Proofs.Ytonlkffjpofpoaa.Pure
