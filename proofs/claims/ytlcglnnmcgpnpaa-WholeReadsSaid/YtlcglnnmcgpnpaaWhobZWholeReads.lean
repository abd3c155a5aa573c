/- Plain facts: Print, Fits; texts with a sign; bits of whole numbers. -/
import Derived.Test.YtlcglnnmcgpnpaaWhoZWholeReads
import Derived.Test.YtlcglnnmcgpnpaaQ0ZWholeReads
namespace Go.Proofs.Ytlcglnnmcgpnpaa.Dig
open Go.RowKit Go.Proofs.Ytlcglnnmcgpnpaa.Q Go.Proofs.YtlcglnnmcgpnpaaW.PrintWords Go.Proofs.YtlcglnnmcgpnpaaW.PrintLast Go.Proofs.YtlcglnnmcgpnpaaW.PrintMore

theorem i64_low (j : Nat) (hj : j < 60) (m : Int) (hm : m = 2 ^ j - 1) (n : Int) : Go.bits .and .i64 n m = n % 2 ^ j := by
  have pj : (2 : Int) ^ j ≤ 576460752303423488 := by
    have e : (2 : Int) ^ 59 = 2 ^ j * 2 ^ (59 - j) := by rw [← Int.pow_add]; congr 1; omega
    have e2 : (2 : Int) ^ 59 = 576460752303423488 := by rfl
    have q : (1 : Int) ≤ 2 ^ (59 - j) := Int.pow_pos (by decide)
    have pw : (0 : Int) < 2 ^ j := Int.pow_pos (by decide)
    have := Int.mul_le_mul_of_nonneg_left q (Int.le_of_lt pw)
    omega
  have p1 : (1 : Int) ≤ 2 ^ j := Int.pow_pos (by decide)
  have cst : (2 : Int) ^ j = ((2 ^ j : Nat) : Int) := by simp
  have hmn : (BitVec.ofInt 64 m).toNat = 2 ^ j - 1 := by
    rw [BitVec.toNat_ofInt, hm, cst]
    rw [Int.emod_eq_of_lt (by omega) (by omega)]; omega
  have key : (BitVec.ofInt 64 n &&& BitVec.ofInt 64 m).toNat = (n % ((2 ^ 64 : Nat) : Int)).toNat % 2 ^ j := by
    rw [BitVec.toNat_and, BitVec.toNat_ofInt, hmn, Nat.and_two_pow_sub_one_eq_mod]
  show IntKind.i64.wrap ((BitVec.ofInt 64 n &&& BitVec.ofInt 64 m).toNat : Nat) = n % 2 ^ j
  rw [key, IntKind.wrap_i64]
  have b : ((n % ((2 ^ 64 : Nat) : Int)).toNat % 2 ^ j) < 2 ^ j := Nat.mod_lt _ (by omega)
  have e : (((n % ((2 ^ 64 : Nat) : Int)).toNat % 2 ^ j : Nat) : Int) = n % 2 ^ j := by
    rw [Int.natCast_emod, Int.toNat_of_nonneg (Int.emod_nonneg _ (by decide)), ← cst]
    apply Int.emod_emod_of_dvd
    exact ⟨2 ^ (64 - j), by rw [← Int.pow_add]; rw [show j + (64 - j) = 64 by omega]; rfl⟩
  rw [e]
  have b2 := Int.emod_nonneg n (show (2 : Int) ^ j ≠ 0 by omega)
  have b3 := Int.emod_lt_of_pos n (show (0 : Int) < 2 ^ j by omega)
  omega
theorem kind_ev (n : Int) : ∃ k, wrap64 (1 + Go.bits .and .i64 n 7) = k ∧ 1 ≤ k ∧ k ≤ 8 := by
  rw [i64_low 3 (by omega) 7 rfl]
  refine ⟨1 + n % 8, ?_, by omega, by omega⟩
  rw [show (2 : Int) ^ 3 = 8 from rfl, wrap64_id (by omega) (by omega)]
theorem shr_bounds {x : Int} (h : 0 ≤ x ∧ x < 18446744073709551616) (y : Int) : 0 ≤ shr .u64 x y ∧ shr .u64 x y < 18446744073709551616 := by
  unfold shr
  have p : (1 : Int) ≤ 2 ^ min y.toNat IntKind.u64.bits := Int.pow_pos (by decide)
  have a := Int.ediv_nonneg h.1 (show (0 : Int) ≤ 2 ^ min y.toNat IntKind.u64.bits by omega)
  have b := Int.ediv_le_self (2 ^ min y.toNat IntKind.u64.bits) h.1
  omega
theorem u64_nonneg (x : Int) : 0 ≤ IntKind.u64.wrap x := by rw [w64]; omega

theorem fits_ev {k : Int} {w : Nat} {s : Bool} (hk : whole_width.f k = some ((w : Int), s, true)) (hw : Wd w) (x : Int) : whole_Fits.f k x = some (decide (x ≤ 2 ^ w - 1)) := by
  unfold whole_Fits.f
  simp only [hk, Option.bind_some, if_true, most_ev hw]
  rfl
/-- Size and sign. -/
def sz (w : Nat) (s : Bool) (x : Int) : Int × Bool := if s = true ∧ 2 ^ (w - 1) ≤ x then (2 ^ w - x, true) else (x, false)
theorem size_ev {k : Int} {w : Nat} {s : Bool} (hk : whole_width.f k = some ((w : Int), s, true)) (hw : Wd w) {x : Int} (h : 0 ≤ x) (h' : x ≤ 2 ^ w - 1) : whole_size.f k x = some (sz w s x) := by
  unfold whole_size.f
  simp only [hk, Option.bind_some]
  have hx64 : x < 18446744073709551616 := by
    unfold Wd at hw
    rcases hw with rfl | rfl | rfl | rfl <;> simp only [show (2 : Int) ^ 8 = 256 from rfl, show (2 : Int) ^ 16 = 65536 from rfl, show (2 : Int) ^ 32 = 4294967296 from rfl, show (2 : Int) ^ 64 = 18446744073709551616 from rfl] at h' <;> omega
  have h0 : (0 : Int) ≤ wrap64 ((w : Int) - 1) := by unfold Wd at hw; rcases hw with rfl | rfl | rfl | rfl <;> decide +kernel
  have sh : (shr .u64 x (wrap64 ((w : Int) - 1)) = 1) ↔ 2 ^ (w - 1) ≤ x := by
    unfold Wd at hw
    unfold shr
    rcases hw with rfl | rfl | rfl | rfl
    · rw [show (2 : Int) ^ min (wrap64 (((8 : Nat) : Int) - 1)).toNat IntKind.u64.bits = 128 by decide +kernel, show (2 : Int) ^ (8 - 1) = 128 from rfl]
      rw [show (2 : Int) ^ 8 = 256 from rfl] at h'; omega
    · rw [show (2 : Int) ^ min (wrap64 (((16 : Nat) : Int) - 1)).toNat IntKind.u64.bits = 32768 by decide +kernel, show (2 : Int) ^ (16 - 1) = 32768 from rfl]
      rw [show (2 : Int) ^ 16 = 65536 from rfl] at h'; omega
    · rw [show (2 : Int) ^ min (wrap64 (((32 : Nat) : Int) - 1)).toNat IntKind.u64.bits = 2147483648 by decide +kernel, show (2 : Int) ^ (32 - 1) = 2147483648 from rfl]
      rw [show (2 : Int) ^ 32 = 4294967296 from rfl] at h'; omega
    · rw [show (2 : Int) ^ min (wrap64 (((64 : Nat) : Int) - 1)).toNat IntKind.u64.bits = 9223372036854775808 by decide +kernel, show (2 : Int) ^ (64 - 1) = 9223372036854775808 from rfl]
      rw [show (2 : Int) ^ 64 = 18446744073709551616 from rfl] at h'; omega
  unfold sz
  cases s with
  | false => simp
  | true =>
    simp only [if_true, if_pos h0, true_and]
    by_cases hge : 2 ^ (w - 1) ≤ x
    · rw [if_pos (sh.2 hge), if_pos hge, neg_mask hw h hx64]
      have pw : (1 : Int) ≤ 2 ^ (w - 1) := Int.pow_pos (by decide)
      congr 2
      rw [← Int.add_emod_right, Int.emod_eq_of_lt (by omega) (by omega)]; omega
    · rw [if_neg (fun q => hge (sh.1 q)), if_neg hge]
theorem sz_bounds {w : Nat} (hw : Wd w) (s : Bool) {x : Int} (h : 0 ≤ x) (h' : x ≤ 2 ^ w - 1) : 0 ≤ (sz w s x).1 ∧ (sz w s x).1 ≤ lim w s (sz w s x).2 ∧ (if (sz w s x).2 = true then (-(sz w s x).1) % 2 ^ w else (sz w s x).1) = x ∧ ((sz w s x).2 = true → s = true) := by
  have tw : (2 : Int) ^ w = 2 * 2 ^ (w - 1) := by
    unfold Wd at hw
    rw [show w = (w - 1) + 1 by omega, Int.pow_succ, Nat.add_sub_cancel]; omega
  have pw : (1 : Int) ≤ 2 ^ (w - 1) := Int.pow_pos (by decide)
  unfold sz lim
  by_cases hc : s = true ∧ 2 ^ (w - 1) ≤ x
  · rw [if_pos hc]
    simp only [hc.1, if_true]
    refine ⟨by omega, by omega, ?_, fun _ => trivial⟩
    rw [show -(2 ^ w - x) = x - 2 ^ w by omega, Int.sub_emod_right]
    exact Int.emod_eq_of_lt h (by omega)
  · rw [if_neg hc]
    simp only [Bool.false_eq_true, if_false]
    refine ⟨h, ?_, trivial, fun q => by cases q⟩
    cases s with
    | false => simp; omega
    | true => simp at hc ⊢; omega
/-- A sign, or none. -/
def Pre (s neg : Bool) (p : List Int) : Prop := (p = [] ∧ neg = false) ∨ (p = [43] ∧ neg = false) ∨ (p = [45] ∧ neg = true ∧ s = true)
theorem pre_facts {s neg : Bool} {p ds : List Int} (h : Pre s neg p) (ha : AllD ds) (h0 : ds ≠ []) : frm s (p ++ ds) = p.length ∧ ng (p ++ ds) = neg ∧ (p ++ ds).drop p.length = ds := by
  match ds, ha, h0 with
  | c :: m, ha, _ =>
    have hc := ha c List.mem_cons_self
    unfold IsD at hc
    rcases h with ⟨rfl, rfl⟩ | ⟨rfl, rfl⟩ | ⟨rfl, rfl, rfl⟩
    · refine ⟨?_, ?_, by simp⟩
      · simp only [List.nil_append, frm, List.length_nil]; rw [if_neg (by omega)]
      · simp only [List.nil_append, ng, show rd (c :: m) 0 = c from rfl, beq_eq_false_iff_ne]; omega
    · exact ⟨by simp [frm], rfl, by simp⟩
    · exact ⟨by simp [frm], rfl, by simp⟩
theorem pre_len {s neg : Bool} {p : List Int} (h : Pre s neg p) : p.length ≤ 1 := by
  rcases h with ⟨rfl, _⟩ | ⟨rfl, _⟩ | ⟨rfl, _⟩ <;> simp
theorem parse_pre {k : Int} {w : Nat} {s neg : Bool} (hk : whole_width.f k = some ((w : Int), s, true)) (hw : Wd w) {p ds : List Int} (h : Pre s neg p) (ha : AllD ds) (h0 : ds ≠ []) (hl : ds.length < 9223372036854774000) :
    Ev (fun n => whole_Parse.f n k (p ++ ds)) (fin w neg p.length (dval ds) (over (lim w s neg) 0 ds 0)) := by
  obtain ⟨f1, f2, f3⟩ := pre_facts h ha h0
  have := pre_len h
  have hp : 0 < ds.length := List.length_pos_iff.2 h0
  have := parse_digits (l := p ++ ds) hk hw (by rw [List.length_append]; omega) (by rw [f1, List.length_append]; omega) (by rw [f1, f3]; exact ha)
  rw [f1, f2, f3] at this
  exact this
/-- A number's digits are read as the number. -/
theorem parse_back {k : Int} {w : Nat} {s : Bool} (hk : whole_width.f k = some ((w : Int), s, true)) (hw : Wd w) {x : Int} (h : 0 ≤ x) (h' : x ≤ 2 ^ w - 1) {p ds : List Int} (hp : Pre s (sz w s x).2 p) (ha : AllD ds) (h0 : ds ≠ []) (hl : ds.length < 9223372036854774000) (hv : dval ds = (sz w s x).1) :
    Ev (fun n => whole_Parse.f n k (p ++ ds)) (x, 0, 0) := by
  obtain ⟨b1, b2, b3, _⟩ := sz_bounds hw s h h'
  have := parse_pre hk hw hp ha h0 hl
  rw [over_none ds 0 0 ha (by omega) (by rw [show dv 0 ds = dval ds from rfl, hv]; exact b2), hv] at this
  simpa only [fin, b3] using this
/-- What Print writes. -/
theorem print_ev {k : Int} {w : Nat} {s : Bool} (hk : whole_width.f k = some ((w : Int), s, true)) (hw : Wd w) {x : Int} (h : 0 ≤ x) (h' : x ≤ 2 ^ w - 1) :
    ∃ c : Nat, c ≤ 19 ∧ (sz w s x).1 < 10 ^ (c + 1) ∧ (c = 0 ∨ 10 ^ c ≤ (sz w s x).1) ∧
      Ev (fun n => whole_Print.f n k x) ((if (sz w s x).2 = true then [45] else []) ++ digit_Pad.D (c + 1) (sz w s x).1, 0) := by
  obtain ⟨b1, b2, b3, _⟩ := sz_bounds hw s h h'
  have L := lim_bounds hw s (sz w s x).2
  obtain ⟨c, ec, hc, c3, c4⟩ := count_ev (x := (sz w s x).1) b1 (by omega)
  refine ⟨c, hc, c3, c4, ?_⟩
  have te := text_ev ec hc
  unfold whole_Print.f
  simp only [hk, Option.bind_some, if_true, fits_ev hk hw, decide_eq_true h', size_ev hk hw h h']
  by_cases hs : (sz w s x).2 = true
  · simp only [if_pos hs]
    refine Ev.bind te ?_
    have hl : (digit_Pad.D (c + 1) (sz w s x).1).length = c + 1 := by
      have : ∀ (n : Nat) (y : Int), (digit_Pad.D n y).length = n := by
        intro n
        induction n with
        | zero => intro y; rfl
        | succ n ih => intro y; simp [digit_Pad.D, ih]
      exact this _ _
    rw [hl]
    simp only [List.length_cons, List.length_nil, if_pos (show 0 + 1 + (c + 1) < 140737488355328 by omega)]
    exact Ev.now _
  · simp only [if_neg hs, List.nil_append]
    refine Ev.bind te ?_
    exact Ev.now _
theorem print_not {k : Int} {w : Nat} {s : Bool} (hk : whole_width.f k = some ((w : Int), s, true)) (hw : Wd w) {x : Int} (h' : ¬ x ≤ 2 ^ w - 1) :
    Ev (fun n => whole_Print.f n k x) ([], 53) := by
  unfold whole_Print.f
  simp only [hk, Option.bind_some, if_true, fits_ev hk hw, decide_eq_false h', Bool.false_eq_true, if_false]
  exact Ev.now _
end Go.Proofs.Ytlcglnnmcgpnpaa.Dig
