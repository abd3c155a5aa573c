/- ScaledOrder: the printed law function answers true. -/
import Derived.Test.YtjefmcfkhalagaaValZScaledOrder
import Derived.Test.YtjefmcfkhalagaaQ1ZScaledOrder
namespace Go.Proofs.Ytjefmcfkhalagaa.Dig
open Go.RowKit Go.Proofs.Ytjefmcfkhalagaa.Q Go.Proofs.YtjefmcfkhalagaaW.PrintWords Go.Proofs.YtjefmcfkhalagaaW.PrintLast Go.Proofs.YtjefmcfkhalagaaW.PrintMore
theorem big1 : scaled_size.f 1000000000000000000 = some (1000000000000000000, false, false) := by decide +kernel
theorem big0 : scaled_size.f 0 = some (0, false, true) := by decide +kernel
theorem big2 : scaled_size.f 9223372036854775808 = some (9223372036854775808, true, false) := by decide +kernel
theorem cmp_big1 : Ev (fun k => scaled_Cmp.f k 1000000000000000000 0) (0, 123) := by
  unfold scaled_Cmp.f
  simp only [big1, big0, Option.bind_some, Bool.false_eq_true, if_false]
  refine Ev.step (fun k => by simp only [scaled_Cmp.j0]; rfl) ?_
  exact Ev.now _
theorem cmp_big2 : Ev (fun k => scaled_Cmp.f k 0 9223372036854775808) (0, 123) := by
  unfold scaled_Cmp.f
  simp only [big2, big0, Option.bind_some, if_true, Bool.not_false]
  refine Ev.step (fun k => by simp only [scaled_Cmp.j0]; rfl) ?_
  exact Ev.now _
theorem order_tail (c : Int) : Ev (fun k => mintagelaw12_ScaledOrder.j0 k c 0 c) true := by
  refine Ev.step (fun k => by simp only [mintagelaw12_ScaledOrder.j0]; rfl) ?_
  refine Ev.bind cmp_big1 ?_
  refine Ev.bind cmp_big2 ?_
  simp only [num12, Option.bind_some, if_true]
  exact Ev.bind wakes_ev12 (Ev.now _)
theorem PureScaledOrder : mintagelaw12_ScaledOrder.Pure := by
  intro a b ha hb
  obtain ⟨x, hx, ex⟩ := value_of (wf_u64b ha)
  obtain ⟨y, hy, ey⟩ := value_of (wf_u64b hb)
  have hx' := hx; have hy' := hy
  unfold Sz at hx' hy'
  suffices Ev (fun k => mintagelaw12_ScaledOrder.f k a b) true from this.rounds
  unfold mintagelaw12_ScaledOrder.f
  rw [ex, ey]
  simp only [Option.bind_some, bt_wrap (show -9223372036854775808 ≤ x ∧ x < 9223372036854775808 by omega), bt_wrap (show -9223372036854775808 ≤ y ∧ y < 9223372036854775808 by omega)]
  rw [show IntKind.u64.wrap x = bt x from w64 x, show IntKind.u64.wrap y = bt y from w64 y]
  refine Ev.bind (cmp_ev hx hy) ?_
  by_cases h1 : x < y
  · simp only [if_pos h1]; exact order_tail _
  · by_cases h2 : x > y
    · simp only [if_neg h1, if_pos h2]; exact order_tail _
    · simp only [if_neg h1, if_neg h2]; exact order_tail _
end Go.Proofs.Ytjefmcfkhalagaa.Dig
namespace Go.Proofs.Ytjefmcfkhalagaa.Pure
theorem ScaledOrder : Q.mintagelaw12_ScaledOrder.Pure := Dig.PureScaledOrder
end Go.Proofs.Ytjefmcfkhalagaa.Pure
