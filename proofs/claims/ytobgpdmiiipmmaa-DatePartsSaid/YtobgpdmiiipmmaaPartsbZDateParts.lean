/- DateParts: what is told of a text that is written out of any numbers. -/
import Derived.Test.YtobgpdmiiipmmaaPartsZDateParts
import Derived.Test.YtobgpdmiiipmmaaReadwZDateParts
namespace Go.Proofs.Ytobgpdmiiipmmaa.Cal
set_option linter.unusedVariables false
set_option linter.unusedSimpArgs false
open Go.RowKit Go.Proofs.Ytobgpdmiiipmmaa.Q Go.Proofs.Ytobgpdmiiipmmaa.Dig Go.Proofs.YtobgpdmiiipmmaaW.PrintWords Go.Proofs.YtobgpdmiiipmmaaW.PrintLast

structure Says (Y M D H I S Ln V1 P1 E1 V2 P2 E2 : Int) : Prop where
  day : dayF (day Y M D) = (V1, P1, E1)
  mom : momentF (tim Y M D H I S) = (V2, P2, E2)
  len : date_Length.f Y M = some Ln
  p5 : M < 1 ∨ M > 12 → P1 = 5
  p8 : ¬ (M < 1 ∨ M > 12) → (D < 1 ∨ D > Ln) → P1 = 8
  p0 : ¬ (M < 1 ∨ M > 12) → ¬ (D < 1 ∨ D > Ln) → P1 = 0
  e0 : P1 = 0 → E1 = 0
  e1 : P1 ≠ 0 → E1 = 131 ∧ 0 < P1
  q : P1 ≠ 0 → P2 = P1
  q11 : P1 = 0 → H > 23 → P2 = 11
  q14 : P1 = 0 → ¬ H > 23 → I > 59 → P2 = 14
  q17 : P1 = 0 → ¬ H > 23 → ¬ I > 59 → S > 59 → P2 = 17
  q0 : P1 = 0 → ¬ H > 23 → ¬ I > 59 → ¬ S > 59 → P2 = 0
  f0 : P2 = 0 → E2 = 0
  f1 : P2 ≠ 0 → E2 = 131 ∧ 0 < P2
  more : ∀ p : List Int, p ≠ [] → AllD p → p.length ≤ 6 → ∃ V3, momentF (tim Y M D H I S ++ 46 :: p) = (V3, P2, E2) ∧ (P2 = 0 → IntKind.u64.wrap (V2 + dval p * 10 ^ (6 - p.length)) = V3)
theorem says {Y M D H I S : Int} (N : Nums Y M D H I S) : ∃ Ln V1 P1 E1 V2 P2 E2, Says Y M D H I S Ln V1 P1 E1 V2 P2 E2 := by
  have h1 := dayF_of N
  have h2 := mom0 N
  have h3 := fun p a b c => mom2 N (p := p) a b c
  obtain ⟨n, hn, -⟩ := length_any Y M
  unfold momV at h2 h3
  have key : ((M < 1 ∨ M > 12) ∧ dayV Y M D = (0, 5, 131)) ∨ (¬ (M < 1 ∨ M > 12) ∧ (D < 1 ∨ D > n) ∧ dayV Y M D = (0, 8, 131)) ∨ (¬ (M < 1 ∨ M > 12) ∧ ¬ (D < 1 ∨ D > n) ∧ ∃ v, dayV Y M D = (v, 0, 0)) := by
    unfold dayV
    by_cases c1 : M < 1 ∨ M > 12
    · left; exact ⟨c1, by rw [if_pos c1]⟩
    · have e : n = Cal.len (leap Y) (M - 1).toNat := by
        have := length_ok (y := Y) (m := (M - 1).toNat) N.y0 (by have := N.y1; omega) (by omega)
        rw [show (((M - 1).toNat : Nat) : Int) + 1 = M by omega, hn] at this
        exact Option.some.inj this
      rw [← e]
      by_cases c2 : D < 1 ∨ D > n
      · right; left; exact ⟨c1, c2, by rw [if_neg c1, if_pos c2]⟩
      · right; right; exact ⟨c1, c2, _, by rw [if_neg c1, if_neg c2]⟩
  rcases key with ⟨c1, hv⟩ | ⟨c1, c2, hv⟩ | ⟨c1, c2, v, hv⟩
  · rw [hv] at h1 h2 h3
    simp only [ne_eq, if_pos (show ¬ (131 : Int) = 0 by omega)] at h2 h3
    exact ⟨n, _, 5, 131, 0, 5, 131, h1, h2, hn, fun _ => rfl, fun q => absurd c1 q, fun q => absurd c1 q, fun q => absurd q (by decide), fun _ => ⟨rfl, by decide⟩, fun _ => rfl, fun q => absurd q (by decide), fun q => absurd q (by decide), fun q => absurd q (by decide), fun q => absurd q (by decide), fun q => absurd q (by decide), fun _ => ⟨rfl, by decide⟩, fun p a b c => ⟨_, h3 p a b c, fun q => absurd q (by decide)⟩⟩
  · rw [hv] at h1 h2 h3
    simp only [ne_eq, if_pos (show ¬ (131 : Int) = 0 by omega)] at h2 h3
    exact ⟨n, _, 8, 131, 0, 8, 131, h1, h2, hn, fun q => absurd q c1, fun _ _ => rfl, fun _ q => absurd c2 q, fun q => absurd q (by decide), fun _ => ⟨rfl, by decide⟩, fun _ => rfl, fun q => absurd q (by decide), fun q => absurd q (by decide), fun q => absurd q (by decide), fun q => absurd q (by decide), fun q => absurd q (by decide), fun _ => ⟨rfl, by decide⟩, fun p a b c => ⟨_, h3 p a b c, fun q => absurd q (by decide)⟩⟩
  · rw [hv] at h1 h2 h3
    simp only [ne_eq, not_true_eq_false, if_false] at h2 h3
    by_cases g1 : H > 23
    · simp only [if_pos g1] at h2 h3
      exact ⟨n, _, 0, 0, 0, 11, 131, h1, h2, hn, fun q => absurd q c1, fun _ q => absurd q c2, fun _ _ => rfl, fun _ => rfl, fun q => absurd rfl q, fun q => absurd rfl q, fun _ _ => rfl, fun _ q => absurd g1 q, fun _ q => absurd g1 q, fun _ q => absurd g1 q, fun q => absurd q (by decide), fun _ => ⟨rfl, by decide⟩, fun p a b c => ⟨_, h3 p a b c, fun q => absurd q (by decide)⟩⟩
    simp only [if_neg g1] at h2 h3
    by_cases g2 : I > 59
    · simp only [if_pos g2] at h2 h3
      exact ⟨n, _, 0, 0, 0, 14, 131, h1, h2, hn, fun q => absurd q c1, fun _ q => absurd q c2, fun _ _ => rfl, fun _ => rfl, fun q => absurd rfl q, fun q => absurd rfl q, fun _ q => absurd q g1, fun _ _ _ => rfl, fun _ _ q => absurd g2 q, fun _ _ q => absurd g2 q, fun q => absurd q (by decide), fun _ => ⟨rfl, by decide⟩, fun p a b c => ⟨_, h3 p a b c, fun q => absurd q (by decide)⟩⟩
    simp only [if_neg g2] at h2 h3
    by_cases g3 : S > 59
    · simp only [if_pos g3] at h2 h3
      exact ⟨n, _, 0, 0, 0, 17, 131, h1, h2, hn, fun q => absurd q c1, fun _ q => absurd q c2, fun _ _ => rfl, fun _ => rfl, fun q => absurd rfl q, fun q => absurd rfl q, fun _ q => absurd q g1, fun _ _ q => absurd q g2, fun _ _ _ _ => rfl, fun _ _ _ q => absurd g3 q, fun q => absurd q (by decide), fun _ => ⟨rfl, by decide⟩, fun p a b c => ⟨_, h3 p a b c, fun q => absurd q (by decide)⟩⟩
    simp only [if_neg g3] at h2 h3
    exact ⟨n, _, 0, 0, _, 0, 0, h1, h2, hn, fun q => absurd q c1, fun _ q => absurd q c2, fun _ _ => rfl, fun _ => rfl, fun q => absurd rfl q, fun q => absurd rfl q, fun _ q => absurd q g1, fun _ _ q => absurd q g2, fun _ _ _ q => absurd q g3, fun _ _ _ _ => rfl, fun _ => rfl, fun q => absurd rfl q, fun p a b c => ⟨_, h3 p a b c, fun _ => by rw [w64, w64, w64]; omega⟩⟩
/-! ### the fraction -/
def fd (l : List Int) (j : Nat) : List Int := (l.take j).map fun c => 48 + c % 10
theorem fd_all (l : List Int) (j : Nat) : AllD (fd l j) := by
  intro c hc
  obtain ⟨x, -, rfl⟩ := List.mem_map.1 hc
  unfold IsD; omega
theorem fd_len {l : List Int} {j : Nat} (h : j ≤ l.length) : (fd l j).length = j := by simp [fd]; omega
theorem fd_succ {l : List Int} {j : Nat} (h : j < l.length) : fd l (j + 1) = fd l j ++ [48 + rd l (j : Int) % 10] := by
  unfold fd
  rw [List.take_succ_eq_append_getElem h, List.map_append]
  unfold rd
  rw [Int.toNat_natCast, List.getD_eq_getElem?_getD, List.getElem?_eq_getElem h]; rfl
def vv (l : List Int) (n j : Nat) : Int := dval (fd l (min j n)) * 10 ^ (j - n)
theorem vv_lo {l : List Int} {n j : Nat} (hn : n ≤ l.length) (h : j < n) : vv l n (j + 1) = 10 * vv l n j + rd l (j : Int) % 10 := by
  unfold vv
  rw [show min (j + 1) n = j + 1 by omega, show min j n = j by omega, show j + 1 - n = 0 by omega, show j - n = 0 by omega, fd_succ (by omega)]
  unfold dval
  rw [dv_snoc]
  simp only [Int.pow_zero, Int.mul_one]
  omega
theorem vv_hi {l : List Int} {n j : Nat} (h : n ≤ j) : vv l n (j + 1) = 10 * vv l n j := by
  unfold vv
  rw [show min (j + 1) n = n by omega, show min j n = n by omega, show j + 1 - n = (j - n) + 1 by omega, Int.pow_succ, ← Int.mul_assoc, Int.mul_comm]
theorem vv_bd {l : List Int} {n j : Nat} (hn : n ≤ l.length) (hn6 : n ≤ 6) (hj : j ≤ 6) : 0 ≤ vv l n j ∧ vv l n j < 1000000 := by
  have hb := dval_bounds (fd_all l (min j n))
  rw [fd_len (by omega)] at hb
  have hp : (0 : Int) < 10 ^ (j - n) := by exact_mod_cast Nat.pow_pos (by decide)
  unfold vv
  refine ⟨Int.mul_nonneg hb.1 (by omega), ?_⟩
  have h1 : dval (fd l (min j n)) * 10 ^ (j - n) < 10 ^ (min j n) * 10 ^ (j - n) := Int.mul_lt_mul_of_pos_right hb.2 hp
  rw [← Int.pow_add] at h1
  have h2 : (10 : Int) ^ (min j n + (j - n)) ≤ 10 ^ 6 := by exact_mod_cast Nat.pow_le_pow_right (by decide) (by omega)
  have h3 : (10 : Int) ^ 6 = 1000000 := by decide
  omega
theorem fd_bts (l : List Int) (j : Nat) : Go.Proofs.Ytobgpdmiiipmmaa.Keep.Bts (fd l j) := fun c hc => by have := fd_all l j c hc; unfold IsD at this; omega
end Go.Proofs.Ytobgpdmiiipmmaa.Cal
