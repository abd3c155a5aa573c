/- Plain facts: value, size, Cmp. -/
import Derived.Test.YtjefmcfkhalagaaDigZScaledWrites
import Derived.Test.YtjefmcfkhalagaaQ0ZScaledWrites
import Derived.Test.YtjefmcfkhalagaaQ3ZScaledWrites
namespace Go.Proofs.Ytjefmcfkhalagaa.Dig
open Go.RowKit Go.Proofs.Ytjefmcfkhalagaa.Q Go.Proofs.YtjefmcfkhalagaaW.PrintWords Go.Proofs.YtjefmcfkhalagaaW.PrintLast Go.Proofs.YtjefmcfkhalagaaW.PrintMore
theorem wf_u64b {a : Int} (h : (Lit.int .u64 a).wf = true) : 0 ≤ a ∧ a < 18446744073709551616 := by
  have h1 : (decide (IntKind.u64.min ≤ a) && decide (a ≤ IntKind.u64.max)) = true := h
  have e1 : IntKind.u64.min = 0 := by rfl
  have e2 : IntKind.u64.max = 18446744073709551615 := by rfl
  rw [e1, e2] at h1
  simp at h1
  omega
theorem wf_i64b {a : Int} (h : (Lit.int .i64 a).wf = true) : -9223372036854775808 ≤ a ∧ a < 9223372036854775808 := by
  have h1 : (decide (IntKind.i64.min ≤ a) && decide (a ≤ IntKind.i64.max)) = true := h
  have e1 : IntKind.i64.min = -9223372036854775808 := by rfl
  have e2 : IntKind.i64.max = 9223372036854775807 := by rfl
  rw [e1, e2] at h1
  simp at h1
  omega
theorem num12 (e : Int) : mintagelaw12_num.f e = some e := rfl
theorem wakes_ev12 : Ev (fun _ => mintagelaw12_wakes.f) true := Ev.now _
/-- The bits of a number. -/
def bt (x : Int) : Int := x % 18446744073709551616
def Sz (x : Int) : Prop := -1000000000000000000 < x ∧ x < 1000000000000000000
theorem bt_range (x : Int) : 0 ≤ bt x ∧ bt x < 18446744073709551616 := by unfold bt; omega
theorem bt_wrap {x : Int} (h : -9223372036854775808 ≤ x ∧ x < 9223372036854775808) : wrap64 (bt x) = x := by unfold wrap64 bt; omega
theorem bt_inj {x y : Int} (h : Sz x) (h' : Sz y) : bt x = bt y ↔ x = y := by
  unfold Sz at *; unfold bt
  constructor
  · intro e; omega
  · rintro rfl; rfl
theorem value_of {a : Int} (h : 0 ≤ a ∧ a < 18446744073709551616) : ∃ x, Sz x ∧ mintagelaw12_value.f a = some (bt x) := by
  have e : Int.tmod (a / 2) 1000000000000000000 = a / 2 % 1000000000000000000 := Int.tmod_eq_emod_of_nonneg (by omega)
  unfold mintagelaw12_value.f
  rw [e]
  split
  · refine ⟨-(a / 2 % 1000000000000000000), by unfold Sz; omega, ?_⟩
    rw [w64]; rfl
  · refine ⟨a / 2 % 1000000000000000000, by unfold Sz; omega, ?_⟩
    unfold bt; congr 1; omega
def ab (x : Int) : Int := if x < 0 then -x else x
theorem size_of {x : Int} (h : Sz x) : scaled_size.f (bt x) = some (ab x, decide (x < 0), true) := by
  unfold Sz at h
  unfold scaled_size.f
  rw [bt_wrap (by omega), w64]
  unfold ab bt
  by_cases hx : x < 0
  · rw [if_pos hx, if_pos hx]
    have e : -(x % 18446744073709551616) % 18446744073709551616 = -x := by omega
    rw [e, decide_eq_true hx, decide_eq_true (show -x ≤ 999999999999999999 by omega)]
  · rw [if_neg hx, if_neg hx]
    have e : x % 18446744073709551616 = x := by omega
    rw [e, decide_eq_false hx, decide_eq_true (show x ≤ 999999999999999999 by omega)]
theorem cmp_ev {x y : Int} (h : Sz x) (h' : Sz y) : Ev (fun k => scaled_Cmp.f k (bt x) (bt y)) (if x < y then -1 else if x > y then 1 else 0, 0) := by
  have h2 := h; have h3 := h'
  unfold Sz at h2 h3
  unfold scaled_Cmp.f
  simp only [size_of h, size_of h', Option.bind_some, if_true, Bool.not_true]
  refine Ev.step (fun k => by simp only [scaled_Cmp.j0]; rfl) ?_
  simp only [Bool.false_eq_true, if_false, bt_wrap (show -9223372036854775808 ≤ x ∧ x < 9223372036854775808 by omega), bt_wrap (show -9223372036854775808 ≤ y ∧ y < 9223372036854775808 by omega), bt_inj h h']
  by_cases h4 : x < y
  · simp only [if_pos h4]; exact Ev.now _
  · by_cases h5 : x = y
    · simp only [if_neg h4, if_pos h5, if_neg (show ¬ x > y by omega)]; exact Ev.now _
    · simp only [if_neg h4, if_neg h5, if_pos (show x > y by omega)]; exact Ev.now _
end Go.Proofs.Ytjefmcfkhalagaa.Dig
