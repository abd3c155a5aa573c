/- Plain facts: Within, Ten. -/
import Derived.Test.YtjefmcfkhalagaaDigZScaledWrites
import Derived.Test.YtjefmcfkhalagaaQ0ZScaledWrites
namespace Go.Proofs.Ytjefmcfkhalagaa.Dig
open Go.RowKit Go.Proofs.Ytjefmcfkhalagaa.Q Go.Proofs.YtjefmcfkhalagaaW.PrintWords Go.Proofs.YtjefmcfkhalagaaW.PrintLast
theorem within_ev (a : Int) (n : Nat) (hn : n < 1000000) : ∃ m : Nat, mintagekeep_Within.f a 0 (n : Int) = some (m : Int) ∧ m ≤ n := by
  unfold mintagekeep_Within.f
  have e1 : wrap64 (wrap64 ((n : Int) - 0) + 1) = (n : Int) + 1 := by unfold wrap64; omega
  rw [e1, if_neg (by omega)]
  have b1 := Int.tmod_lt_of_pos a (show (0 : Int) < (n : Int) + 1 by omega)
  have b2 := Int.lt_tmod_of_pos a (show (0 : Int) < (n : Int) + 1 by omega)
  by_cases h : Int.tmod a ((n : Int) + 1) < 0
  · rw [if_pos h]
    refine ⟨(Int.tmod a ((n : Int) + 1) + (n + 1)).toNat, ?_, by omega⟩
    congr 1
    unfold wrap64; omega
  · rw [if_neg h]
    refine ⟨(Int.tmod a ((n : Int) + 1)).toNat, ?_, by omega⟩
    congr 1
    unfold wrap64; omega
theorem ten_le {i : Nat} (h : i ≤ 19) : (1 : Int) ≤ 10 ^ i ∧ (10 : Int) ^ i ≤ 10000000000000000000 := by
  refine ⟨Int.pow_pos (by decide), ?_⟩
  have e : (10 : Int) ^ 19 = 10 ^ i * 10 ^ (19 - i) := by rw [← Int.pow_add]; congr 1; omega
  have e2 : (10 : Int) ^ 19 = 10000000000000000000 := by rfl
  have p : (1 : Int) ≤ 10 ^ (19 - i) := Int.pow_pos (by decide)
  have q : (0 : Int) ≤ 10 ^ i := Int.le_of_lt (Int.pow_pos (by decide))
  have := Int.mul_le_mul_of_nonneg_left p q
  omega
theorem ten_loop (m : Nat) (hm : m ≤ 19) : ∀ (d i : Nat), i + d = m → Ev (fun k => digit_Ten.l0 k (10 ^ i) m i) (10 ^ m, 0) := by
  intro d
  induction d with
  | zero =>
    intro i hi
    refine Ev.step (fun k => by simp only [digit_Ten.l0]; rfl) ?_
    simp only [if_neg (show ¬ (i : Int) < m by omega)]
    have : i = m := by omega
    rw [this]; exact Ev.now _
  | succ d ih =>
    intro i hi
    refine Ev.step (fun k => by simp only [digit_Ten.l0]; rfl) ?_
    simp only [if_pos (show (i : Int) < m by omega)]
    have b := ten_le (i := i + 1) (by omega)
    rw [wrap64_id (by omega) (by omega), w64, Int.emod_eq_of_lt (by rw [← Int.pow_succ]; omega) (by rw [← Int.pow_succ]; omega), ← Int.pow_succ]
    exact_mod_cast ih (i + 1) (by omega)
theorem ten_ev {m : Nat} (hm : m ≤ 19) : Ev (fun k => digit_Ten.f k (m : Int)) (10 ^ m, 0) := by
  unfold digit_Ten.f
  simp only [if_neg (show ¬ (m : Int) < 0 by omega), decide_eq_false (show ¬ (m : Int) > 19 by omega)]
  refine Ev.step (fun k => by simp only [digit_Ten.j0]; rfl) ?_
  simp only [Bool.false_eq_true, if_false]
  exact ten_loop m hm m 0 (by omega)
end Go.Proofs.Ytjefmcfkhalagaa.Dig
