/- Cmp of package whole: by the numbers. -/
import Derived.Test.YtlcglnnmcgpnpaaWhobZWholeReads
import Derived.Test.YtlcglnnmcgpnpaaOrdZWholeReads
import Derived.Test.YtlcglnnmcgpnpaaQ0ZWholeReads
namespace Go.Proofs.Ytlcglnnmcgpnpaa.Whw
set_option linter.unusedVariables false
open Go.RowKit Go.Proofs.Ytlcglnnmcgpnpaa.Q Go.Proofs.YtlcglnnmcgpnpaaW.PrintWords Go.Proofs.YtlcglnnmcgpnpaaW.PrintLast Go.Proofs.YtlcglnnmcgpnpaaW.PrintMore Go.Proofs.Ytlcglnnmcgpnpaa.Dig

/-- A number's value with its sign. -/
def sval (w : Nat) (s : Bool) (x : Int) : Int := if (sz w s x).2 = true then -(sz w s x).1 else (sz w s x).1
theorem shl_val {w : Nat} (hw : Wd w) {x : Int} (h : 0 ≤ x) (h' : x ≤ 2 ^ w - 1) :
    0 ≤ wrap64 (64 - (w : Int)) ∧ wrap64 (shl .u64 x (wrap64 (64 - (w : Int)))) = sval w true x * 2 ^ (64 - w) := by
  unfold sval sz shl
  simp only [true_and]
  unfold Wd at hw
  rcases hw with rfl | rfl | rfl | rfl
  · rw [show (2 : Int) ^ 8 = 256 from rfl] at h' ⊢
    rw [show (2 : Int) ^ (8 - 1) = 128 from rfl, show (2 : Int) ^ (64 - 8) = 72057594037927936 from rfl, show (2 : Int) ^ min (wrap64 (64 - ((8 : Nat) : Int))).toNat IntKind.u64.bits = 72057594037927936 by decide +kernel, w64]
    refine ⟨by decide +kernel, ?_⟩
    unfold wrap64
    by_cases q : 128 ≤ x
    · simp only [if_pos q, if_true]; omega
    · simp only [if_neg q, Bool.false_eq_true, if_false]; omega
  · rw [show (2 : Int) ^ 16 = 65536 from rfl] at h' ⊢
    rw [show (2 : Int) ^ (16 - 1) = 32768 from rfl, show (2 : Int) ^ (64 - 16) = 281474976710656 from rfl, show (2 : Int) ^ min (wrap64 (64 - ((16 : Nat) : Int))).toNat IntKind.u64.bits = 281474976710656 by decide +kernel, w64]
    refine ⟨by decide +kernel, ?_⟩
    unfold wrap64
    by_cases q : 32768 ≤ x
    · simp only [if_pos q, if_true]; omega
    · simp only [if_neg q, Bool.false_eq_true, if_false]; omega
  · rw [show (2 : Int) ^ 32 = 4294967296 from rfl] at h' ⊢
    rw [show (2 : Int) ^ (32 - 1) = 2147483648 from rfl, show (2 : Int) ^ min (wrap64 (64 - ((32 : Nat) : Int))).toNat IntKind.u64.bits = 4294967296 by decide +kernel, w64]
    refine ⟨by decide +kernel, ?_⟩
    unfold wrap64
    by_cases q : 2147483648 ≤ x
    · simp only [if_pos q, if_true]; omega
    · simp only [if_neg q, Bool.false_eq_true, if_false]; omega
  · rw [show (2 : Int) ^ 64 = 18446744073709551616 from rfl] at h' ⊢
    rw [show (2 : Int) ^ (64 - 1) = 9223372036854775808 from rfl, show (2 : Int) ^ (64 - 64) = 1 from rfl, show (2 : Int) ^ min (wrap64 (64 - ((64 : Nat) : Int))).toNat IntKind.u64.bits = 1 by decide +kernel, w64]
    refine ⟨by decide +kernel, ?_⟩
    unfold wrap64
    by_cases q : 9223372036854775808 ≤ x
    · simp only [if_pos q, if_true]; omega
    · simp only [if_neg q, Bool.false_eq_true, if_false]; omega
theorem cmp3_mul (x y : Int) {m : Int} (hm : 0 < m) : cmp3 (x * m) (y * m) = cmp3 x y := by
  unfold cmp3
  have a : x * m < y * m ↔ x < y := Int.mul_lt_mul_right hm
  have b : x * m > y * m ↔ x > y := Int.mul_lt_mul_right hm
  simp only [a, b]
theorem ord_i (x y : Int) : whole_order_int64.f x y = some (cmp3 x y) := by
  unfold whole_order_int64.f cmp3
  by_cases a : x < y
  · rw [if_pos a, if_pos a]
  · rw [if_neg a, if_neg a]
    by_cases b : x > y
    · rw [if_pos b, if_pos b]
    · rw [if_neg b, if_neg b]
theorem ord_u (x y : Int) : whole_order_uint64.f x y = some (cmp3 x y) := by
  unfold whole_order_uint64.f cmp3
  by_cases a : x < y
  · rw [if_pos a, if_pos a]
  · rw [if_neg a, if_neg a]
    by_cases b : x > y
    · rw [if_pos b, if_pos b]
    · rw [if_neg b, if_neg b]
theorem cmp_ev {k : Int} {w : Nat} {s : Bool} (hk : whole_width.f k = some ((w : Int), s, true)) (hw : Wd w) {x y : Int} (hx : 0 ≤ x) (hx' : x ≤ 2 ^ w - 1) (hy : 0 ≤ y) (hy' : y ≤ 2 ^ w - 1) :
    Ev (fun n => whole_Cmp.f n k x y) (cmp3 (sval w s x) (sval w s y), 0) := by
  unfold whole_Cmp.f
  simp only [hk, Option.bind_some, if_true, fits_ev hk hw, decide_eq_true hx', decide_eq_true hy', Bool.not_true]
  refine Ev.step (fun k => by simp only [whole_Cmp.j0]; rfl) ?_
  simp only [Bool.false_eq_true, if_false]
  cases s with
  | false =>
    simp only [Bool.false_eq_true, if_false, ord_u, Option.bind_some]
    have e : ∀ z, sval w false z = z := fun z => by simp [sval, sz]
    rw [e, e]
    exact Ev.now _
  | true =>
    obtain ⟨a1, a2⟩ := shl_val hw hx hx'
    obtain ⟨_, b2⟩ := shl_val hw hy hy'
    simp only [if_true, if_pos a1, a2, b2, ord_i, Option.bind_some]
    rw [cmp3_mul _ _ (Int.pow_pos (by decide))]
    exact Ev.now _
theorem cmp_not {k : Int} {w : Nat} {s : Bool} (hk : whole_width.f k = some ((w : Int), s, true)) (hw : Wd w) {x y : Int} (h : ¬ x ≤ 2 ^ w - 1 ∨ ¬ y ≤ 2 ^ w - 1) :
    Ev (fun n => whole_Cmp.f n k x y) (0, 53) := by
  unfold whole_Cmp.f
  simp only [hk, Option.bind_some, if_true, fits_ev hk hw]
  by_cases hx : x ≤ 2 ^ w - 1
  · have hy : ¬ y ≤ 2 ^ w - 1 := h.resolve_left (fun q => q hx)
    simp only [decide_eq_true hx, decide_eq_false hy, if_true, Bool.not_false]
    refine Ev.step (fun k => by simp only [whole_Cmp.j0]; rfl) ?_
    simp only [if_true]
    exact Ev.now _
  · simp only [decide_eq_false hx, Bool.false_eq_true, if_false]
    refine Ev.step (fun k => by simp only [whole_Cmp.j0]; rfl) ?_
    simp only [if_true]
    exact Ev.now _
end Go.Proofs.Ytlcglnnmcgpnpaa.Whw
