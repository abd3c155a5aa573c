/- Plain facts: texts of digits stand in the order of their numbers. -/
import Derived.Test.YtlcglnnmcgpnpaaDigZWholeReads
import Derived.Lib.Bytes
namespace Go.Proofs.Ytlcglnnmcgpnpaa.Dig
open Go.RowKit Go.Proofs.Ytlcglnnmcgpnpaa.Q Go.Proofs.YtlcglnnmcgpnpaaW.PrintWords Go.Proofs.YtlcglnnmcgpnpaaW.PrintLast
theorem less_cons (a b : Int) (ha : 0 ≤ a ∧ a < 256) (hb : 0 ≤ b ∧ b < 256) (l m : List Int) :
    Op.bytesLess (strOfNums (a :: l)).toList (strOfNums (b :: m)).toList = (decide (a < b) || (decide (a = b) && Op.bytesLess (strOfNums l).toList (strOfNums m).toList)) := by
  rw [Lib.strOfNums_toList, Lib.strOfNums_toList, Lib.strOfNums_toList, Lib.strOfNums_toList]
  unfold Lib.bytesOf
  simp only [List.map_cons, Op.bytesLess]
  have e1 : decide (UInt8.ofNat a.toNat < UInt8.ofNat b.toNat) = decide (a < b) := by
    apply decide_eq_decide.2
    rw [UInt8.lt_iff_toNat_lt, UInt8.toNat_ofNat', UInt8.toNat_ofNat']; omega
  have e2 : (UInt8.ofNat a.toNat == UInt8.ofNat b.toNat) = decide (a = b) := by
    rw [Bool.eq_iff_iff, beq_iff_eq, decide_eq_true_iff, ← UInt8.toNat_inj, UInt8.toNat_ofNat', UInt8.toNat_ofNat']; omega
  rw [e1, e2]
theorem less_nil : Op.bytesLess (strOfNums []).toList (strOfNums []).toList = false := by
  rw [Lib.strOfNums_toList]; rfl
theorem less_digits : ∀ (l m : List Int), l.length = m.length → AllD l → AllD m → Op.bytesLess (strOfNums l).toList (strOfNums m).toList = decide (dval l < dval m)
  | [], [], _, _, _ => by rw [less_nil]; rfl
  | a :: l, b :: m, hl, h, h' => by
    have ha := h a List.mem_cons_self
    have hb := h' b List.mem_cons_self
    have hl' : l.length = m.length := by simpa using hl
    have hal : AllD l := fun z hz => h z (List.mem_cons_of_mem _ hz)
    have hbm : AllD m := fun z hz => h' z (List.mem_cons_of_mem _ hz)
    have ih := less_digits l m hl' hal hbm
    have b1 := dval_bounds hal
    have b2 := dval_bounds hbm
    unfold IsD at ha hb
    rw [less_cons a b (by omega) (by omega), ih, dval_cons, dval_cons, hl']
    rw [hl'] at b1
    rw [Bool.eq_iff_iff, Bool.or_eq_true, Bool.and_eq_true, decide_eq_true_iff, decide_eq_true_iff, decide_eq_true_iff, decide_eq_true_iff]
    rcases Int.lt_trichotomy a b with q | q | q
    · have : (a - 48) * 10 ^ m.length + 10 ^ m.length ≤ (b - 48) * 10 ^ m.length := by
        have := Int.mul_le_mul_of_nonneg_right (show (a - 48) + 1 ≤ b - 48 by omega) (show (0 : Int) ≤ 10 ^ m.length by omega)
        rw [Int.add_mul, Int.one_mul] at this; exact this
      constructor
      · intro _; omega
      · intro _; exact .inl q
    · subst q
      constructor
      · rintro (x | ⟨_, x⟩) <;> omega
      · intro x; exact .inr ⟨rfl, by omega⟩
    · have : (b - 48) * 10 ^ m.length + 10 ^ m.length ≤ (a - 48) * 10 ^ m.length := by
        have := Int.mul_le_mul_of_nonneg_right (show (b - 48) + 1 ≤ a - 48 by omega) (show (0 : Int) ≤ 10 ^ m.length by omega)
        rw [Int.add_mul, Int.one_mul] at this; exact this
      constructor
      · rintro (x | ⟨x, _⟩) <;> omega
      · intro x; omega
  | [], _ :: _, hl, _, _ => by simp at hl
  | _ :: _, [], hl, _, _ => by simp at hl
theorem pow_le {a b : Nat} (h : a ≤ b) : (10 : Int) ^ a ≤ 10 ^ b := by
  obtain ⟨j, rfl⟩ : ∃ j, b = a + j := ⟨b - a, by omega⟩
  rw [Int.pow_add]
  have p : (0 : Int) ≤ 10 ^ a := Int.le_of_lt (Int.pow_pos (by decide))
  have q : (1 : Int) ≤ 10 ^ j := Int.pow_pos (by decide)
  have := Int.mul_le_mul_of_nonneg_left q p
  omega
def cmp3 (x y : Int) : Int := if x < y then -1 else if x > y then 1 else 0
end Go.Proofs.Ytlcglnnmcgpnpaa.Dig
