/- WholeOrder: the printed law function answers true. -/
import Derived.Test.YtlcglnnmcgpnpaaWhob
import Derived.Test.YtlcglnnmcgpnpaaOrd
import Derived.Test.YtlcglnnmcgpnpaaQx17
import Derived.Test.YtlcglnnmcgpnpaaQx19
import Derived.Test.YtlcglnnmcgpnpaaQx27
import Derived.Test.YtlcglnnmcgpnpaaQx31
import Derived.Test.YtlcglnnmcgpnpaaQx32
namespace Go.Proofs.Ytlcglnnmcgpnpaa.Dig
open Go.RowKit Go.Proofs.Ytlcglnnmcgpnpaa.Q Go.Proofs.YtlcglnnmcgpnpaaW.PrintWords Go.Proofs.YtlcglnnmcgpnpaaW.PrintLast Go.Proofs.YtlcglnnmcgpnpaaW.PrintMore
theorem wf_u64o {a : Int} (h : (Lit.int .u64 a).wf = true) : 0 ≤ a ∧ a < 18446744073709551616 := by
  have h1 : (decide (IntKind.u64.min ≤ a) && decide (a ≤ IntKind.u64.max)) = true := h
  have e1 : IntKind.u64.min = 0 := by rfl
  have e2 : IntKind.u64.max = 18446744073709551615 := by rfl
  rw [e1, e2] at h1
  simp at h1
  omega
theorem numo (e : Int) : mintagelaw05_num.f e = some e := rfl
theorem wakes_evo : Ev (fun _ => mintagelaw05_wakes.f) true := Ev.now _
theorem D_leno : ∀ (n : Nat) (x : Int), (digit_Pad.D n x).length = n
  | 0, _ => rfl
  | n + 1, x => by simp [digit_Pad.D, D_leno n]
/-- A number's value with its sign. -/
def sval (w : Nat) (s : Bool) (x : Int) : Int := if (sz w s x).2 = true then -(sz w s x).1 else (sz w s x).1
theorem shl_val {w : Nat} (hw : Wd w) {x : Int} (h : 0 ≤ x) (h' : x ≤ 2 ^ w - 1) :
    0 ≤ wrap64 (64 - (w : Int)) ∧ wrap64 (shl .u64 x (wrap64 (64 - (w : Int)))) = sval w true x * 2 ^ (64 - w) := by
  unfold sval sz shl
  simp only [true_and]
  unfold Wd at hw
  rcases hw with rfl | rfl | rfl | rfl
  · rw [show (2 : Int) ^ 8 = 256 from rfl] at h' ⊢
    rw [show (2 : Int) ^ (8 - 1) = 128 from rfl, show (2 : Int) ^ (64 - 8) = 72057594037927936 from rfl, show (2 : Int) ^ min (wrap64 (64 - ((8 : Nat) : Int))).toNat IntKind.u64.bits = 72057594037927936 by decide +kernel, w64]
    refine ⟨by decide +kernel, ?_⟩
    unfold wrap64
    by_cases q : 128 ≤ x
    · simp only [if_pos q, if_true]; omega
    · simp only [if_neg q, Bool.false_eq_true, if_false]; omega
  · rw [show (2 : Int) ^ 16 = 65536 from rfl] at h' ⊢
    rw [show (2 : Int) ^ (16 - 1) = 32768 from rfl, show (2 : Int) ^ (64 - 16) = 281474976710656 from rfl, show (2 : Int) ^ min (wrap64 (64 - ((16 : Nat) : Int))).toNat IntKind.u64.bits = 281474976710656 by decide +kernel, w64]
    refine ⟨by decide +kernel, ?_⟩
    unfold wrap64
    by_cases q : 32768 ≤ x
    · simp only [if_pos q, if_true]; omega
    · simp only [if_neg q, Bool.false_eq_true, if_false]; omega
  · rw [show (2 : Int) ^ 32 = 4294967296 from rfl] at h' ⊢
    rw [show (2 : Int) ^ (32 - 1) = 2147483648 from rfl, show (2 : Int) ^ min (wrap64 (64 - ((32 : Nat) : Int))).toNat IntKind.u64.bits = 4294967296 by decide +kernel, w64]
    refine ⟨by decide +kernel, ?_⟩
    unfold wrap64
    by_cases q : 2147483648 ≤ x
    · simp only [if_pos q, if_true]; omega
    · simp only [if_neg q, Bool.false_eq_true, if_false]; omega
  · rw [show (2 : Int) ^ 64 = 18446744073709551616 from rfl] at h' ⊢
    rw [show (2 : Int) ^ (64 - 1) = 9223372036854775808 from rfl, show (2 : Int) ^ (64 - 64) = 1 from rfl, show (2 : Int) ^ min (wrap64 (64 - ((64 : Nat) : Int))).toNat IntKind.u64.bits = 1 by decide +kernel, w64]
    refine ⟨by decide +kernel, ?_⟩
    unfold wrap64
    by_cases q : 9223372036854775808 ≤ x
    · simp only [if_pos q, if_true]; omega
    · simp only [if_neg q, Bool.false_eq_true, if_false]; omega
theorem cmp3_mul (x y : Int) {m : Int} (hm : 0 < m) : cmp3 (x * m) (y * m) = cmp3 x y := by
  unfold cmp3
  have a : x * m < y * m ↔ x < y := Int.mul_lt_mul_right hm
  have b : x * m > y * m ↔ x > y := Int.mul_lt_mul_right hm
  simp only [a, b]
theorem ord_i (x y : Int) : whole_order_int64.f x y = some (cmp3 x y) := by
  unfold whole_order_int64.f cmp3
  by_cases a : x < y
  · rw [if_pos a, if_pos a]
  · rw [if_neg a, if_neg a]
    by_cases b : x > y
    · rw [if_pos b, if_pos b]
    · rw [if_neg b, if_neg b]
theorem ord_u (x y : Int) : whole_order_uint64.f x y = some (cmp3 x y) := by
  unfold whole_order_uint64.f cmp3
  by_cases a : x < y
  · rw [if_pos a, if_pos a]
  · rw [if_neg a, if_neg a]
    by_cases b : x > y
    · rw [if_pos b, if_pos b]
    · rw [if_neg b, if_neg b]
theorem cmp_ev {k : Int} {w : Nat} {s : Bool} (hk : whole_width.f k = some ((w : Int), s, true)) (hw : Wd w) {x y : Int} (hx : 0 ≤ x) (hx' : x ≤ 2 ^ w - 1) (hy : 0 ≤ y) (hy' : y ≤ 2 ^ w - 1) :
    Ev (fun n => whole_Cmp.f n k x y) (cmp3 (sval w s x) (sval w s y), 0) := by
  unfold whole_Cmp.f
  simp only [hk, Option.bind_some, if_true, fits_ev hk hw, decide_eq_true hx', decide_eq_true hy', Bool.not_true]
  refine Ev.step (fun k => by simp only [whole_Cmp.j0]; rfl) ?_
  simp only [Bool.false_eq_true, if_false]
  cases s with
  | false =>
    simp only [Bool.false_eq_true, if_false, ord_u, Option.bind_some]
    have e : ∀ z, sval w false z = z := fun z => by simp [sval, sz]
    rw [e, e]
    exact Ev.now _
  | true =>
    obtain ⟨a1, a2⟩ := shl_val hw hx hx'
    obtain ⟨_, b2⟩ := shl_val hw hy hy'
    simp only [if_true, if_pos a1, a2, b2, ord_i, Option.bind_some]
    rw [cmp3_mul _ _ (Int.pow_pos (by decide))]
    exact Ev.now _
theorem cmp_not {k : Int} {w : Nat} {s : Bool} (hk : whole_width.f k = some ((w : Int), s, true)) (hw : Wd w) {x y : Int} (h : ¬ x ≤ 2 ^ w - 1 ∨ ¬ y ≤ 2 ^ w - 1) :
    Ev (fun n => whole_Cmp.f n k x y) (0, 53) := by
  unfold whole_Cmp.f
  simp only [hk, Option.bind_some, if_true, fits_ev hk hw]
  by_cases hx : x ≤ 2 ^ w - 1
  · have hy : ¬ y ≤ 2 ^ w - 1 := h.resolve_left (fun q => q hx)
    simp only [decide_eq_true hx, decide_eq_false hy, if_true, Bool.not_false]
    refine Ev.step (fun k => by simp only [whole_Cmp.j0]; rfl) ?_
    simp only [if_true]
    exact Ev.now _
  · simp only [decide_eq_false hx, Bool.false_eq_true, if_false]
    refine Ev.step (fun k => by simp only [whole_Cmp.j0]; rfl) ?_
    simp only [if_true]
    exact Ev.now _
/-- Two texts of digits, without noughts ahead. -/
structure Tx (x : Int) (l : List Int) : Prop where
  c : ∃ c, l.length = c + 1 ∧ x < 10 ^ (c + 1) ∧ (c = 0 ∨ 10 ^ c ≤ x)
  all : AllD l
  val : dval l = x
theorem tx_head {x : Int} {l : List Int} (h : Tx x l) : IsD (rd l 0) ∧ 0 < l.length := by
  obtain ⟨c, hl, _⟩ := h.c
  match l, hl, h with
  | d :: m, _, h => exact ⟨h.all d List.mem_cons_self, by simp⟩
theorem order_digits {x y : Int} {l m : List Int} (hl : Tx x l) (hm : Tx y m) : Ev (fun k => mintagelaw05_order.f k l m) (cmp3 x y) := by
  obtain ⟨c, cl, cx, cx'⟩ := hl.c
  obtain ⟨d, dl, dx, dx'⟩ := hm.c
  have a1 := (tx_head hl).1
  have a2 := (tx_head hm).1
  unfold IsD at a1 a2
  refine Ev.step (fun k => by simp only [mintagelaw05_order.f]; rfl) ?_
  simp only [if_neg (show ¬ (l.length : Int) = 0 by omega), beq_eq_false_iff_ne.2 (show ¬ (m.length : Int) = 0 by omega)]
  refine Ev.step (fun k => by simp only [mintagelaw05_order.j0]; rfl) ?_
  simp only [Bool.false_eq_true, if_false, if_pos (show (0 : Int) < (l.length : Int) by omega), if_neg (show ¬ rd l 0 = 45 by omega)]
  refine Ev.step (fun k => by simp only [mintagelaw05_order.j1]; rfl) ?_
  simp only [Bool.false_eq_true, if_false, if_pos (show (0 : Int) < (l.length : Int) by omega), if_pos (show (0 : Int) < (m.length : Int) by omega), if_neg (show ¬ rd l 0 = 45 by omega), if_neg (show ¬ rd m 0 = 45 by omega)]
  have bx := (dval_bounds hl.all).1
  have by_ := (dval_bounds hm.all).1
  rw [hl.val] at bx
  rw [hm.val] at by_
  by_cases hlt : (l.length : Int) < m.length
  · simp only [if_pos hlt]
    refine Ev.step (fun k => by simp only [mintagelaw05_order.j2]; rfl) ?_
    simp only [if_true]
    have : x < y := by
      have hcd : c + 1 ≤ d := by omega
      rcases dx' with rfl | dx'
      · omega
      · have := pow_le hcd
        omega
    rw [show cmp3 x y = -1 by unfold cmp3; rw [if_pos this]]
    exact Ev.now _
  · simp only [if_neg hlt]
    by_cases heq : (l.length : Int) = m.length
    · have hlm : l.length = m.length := by omega
      simp only [if_pos heq, less_digits l m hlm hl.all hm.all, hl.val, hm.val]
      refine Ev.step (fun k => by simp only [mintagelaw05_order.j2]; rfl) ?_
      simp only [less_digits m l hlm.symm hm.all hl.all, hl.val, hm.val, if_neg (show ¬ (l.length : Int) > m.length by omega)]
      unfold cmp3
      by_cases q : x < y
      · simp only [decide_eq_true q, if_true, if_pos q]
        exact Ev.now _
      · simp only [decide_eq_false q, Bool.false_eq_true, if_false, if_neg q]
        by_cases q2 : y < x
        · simp only [decide_eq_true q2, if_true, if_pos (show x > y from q2)]
          exact Ev.now _
        · simp only [decide_eq_false q2, Bool.false_eq_true, if_false, if_neg (show ¬ x > y from q2)]
          exact Ev.now _
    · simp only [if_neg heq]
      refine Ev.step (fun k => by simp only [mintagelaw05_order.j2]; rfl) ?_
      simp only [Bool.false_eq_true, if_false, if_pos (show (l.length : Int) > m.length by omega)]
      have : y < x := by
        have hcd : d + 1 ≤ c := by omega
        rcases cx' with rfl | cx'
        · omega
        · have := pow_le hcd
          omega
      rw [show cmp3 x y = 1 by unfold cmp3; rw [if_neg (by omega), if_pos this]]
      exact Ev.now _
theorem order_ev {w : Nat} (hw : Wd w) (s : Bool) {x y : Int} {l m : List Int} (hx : 0 ≤ x) (hx' : x ≤ 2 ^ w - 1) (hy : 0 ≤ y) (hy' : y ≤ 2 ^ w - 1) (hl : Tx (sz w s x).1 l) (hm : Tx (sz w s y).1 m) :
    Ev (fun k => mintagelaw05_order.f k ((if (sz w s x).2 = true then [45] else []) ++ l) ((if (sz w s y).2 = true then [45] else []) ++ m)) (cmp3 (sval w s x) (sval w s y)) := by
  obtain ⟨bx1, -, -, -⟩ := sz_bounds hw s hx hx'
  obtain ⟨by1, -, -, -⟩ := sz_bounds hw s hy hy'
  have zx : (sz w s x).2 = true → 0 < (sz w s x).1 := by unfold sz; split <;> intro h <;> simp at h ⊢; omega
  have zy : (sz w s y).2 = true → 0 < (sz w s y).1 := by unfold sz; split <;> intro h <;> simp at h ⊢; omega
  have a1 := tx_head hl
  have a2 := tx_head hm
  unfold sval
  by_cases nx : (sz w s x).2 = true
  · by_cases ny : (sz w s y).2 = true
    · simp only [if_pos nx, if_pos ny, List.cons_append, List.nil_append]
      refine Ev.step (fun k => by simp only [mintagelaw05_order.f]; rfl) ?_
      simp only [List.length_cons, if_neg (show ¬ ((l.length + 1 : Nat) : Int) = 0 by omega), beq_eq_false_iff_ne.2 (show ¬ ((m.length + 1 : Nat) : Int) = 0 by omega)]
      refine Ev.step (fun k => by simp only [mintagelaw05_order.j0]; rfl) ?_
      simp only [Bool.false_eq_true, if_false, List.length_cons, if_pos (show (0 : Int) < ((l.length + 1 : Nat) : Int) by omega), if_pos (show (0 : Int) < ((m.length + 1 : Nat) : Int) by omega), show ∀ q : List Int, rd (45 :: q) 0 = 45 from fun _ => rfl, if_true, beq_self_eq_true]
      refine Ev.step (fun k => by simp only [mintagelaw05_order.j1]; rfl) ?_
      simp only [if_true, List.length_cons, if_pos (show (1 : Int) ≤ ((l.length + 1 : Nat) : Int) by omega), if_pos (show (1 : Int) ≤ ((m.length + 1 : Nat) : Int) by omega), List.drop_one, List.tail_cons]
      refine Ev.bind (order_digits hm hl) ?_
      have e : cmp3 (sz w s y).1 (sz w s x).1 = cmp3 (-(sz w s x).1) (-(sz w s y).1) := by
        unfold cmp3
        simp only [show (-(sz w s x).1 < -(sz w s y).1) ↔ ((sz w s y).1 < (sz w s x).1) by omega, show (-(sz w s x).1 > -(sz w s y).1) ↔ ((sz w s y).1 > (sz w s x).1) by omega]
      rw [e]; exact Ev.now _
    · have p := zx nx
      unfold IsD at a2
      simp only [if_pos nx, if_neg ny, List.cons_append, List.nil_append]
      refine Ev.step (fun k => by simp only [mintagelaw05_order.f]; rfl) ?_
      simp only [List.length_cons, if_neg (show ¬ ((l.length + 1 : Nat) : Int) = 0 by omega), beq_eq_false_iff_ne.2 (show ¬ (m.length : Int) = 0 by omega)]
      refine Ev.step (fun k => by simp only [mintagelaw05_order.j0]; rfl) ?_
      simp only [Bool.false_eq_true, if_false, List.length_cons, if_pos (show (0 : Int) < ((l.length + 1 : Nat) : Int) by omega), if_pos (show (0 : Int) < (m.length : Int) by omega), show ∀ q : List Int, rd (45 :: q) 0 = 45 from fun _ => rfl, if_true, beq_eq_false_iff_ne.2 (show ¬ rd m 0 = 45 by omega)]
      refine Ev.step (fun k => by simp only [mintagelaw05_order.j1]; rfl) ?_
      simp only [Bool.false_eq_true, if_false, List.length_cons, if_pos (show (0 : Int) < ((l.length + 1 : Nat) : Int) by omega), show ∀ q : List Int, rd (45 :: q) 0 = 45 from fun _ => rfl, if_true]
      rw [show cmp3 (-(sz w s x).1) (sz w s y).1 = -1 by unfold cmp3; rw [if_pos (by omega)]]
      exact Ev.now _
  · unfold IsD at a1
    by_cases ny : (sz w s y).2 = true
    · have p := zy ny
      simp only [if_neg nx, if_pos ny, List.cons_append, List.nil_append]
      refine Ev.step (fun k => by simp only [mintagelaw05_order.f]; rfl) ?_
      simp only [List.length_cons, if_neg (show ¬ (l.length : Int) = 0 by omega), beq_eq_false_iff_ne.2 (show ¬ ((m.length + 1 : Nat) : Int) = 0 by omega)]
      refine Ev.step (fun k => by simp only [mintagelaw05_order.j0]; rfl) ?_
      simp only [Bool.false_eq_true, if_false, if_pos (show (0 : Int) < (l.length : Int) by omega), if_neg (show ¬ rd l 0 = 45 by omega)]
      refine Ev.step (fun k => by simp only [mintagelaw05_order.j1]; rfl) ?_
      simp only [Bool.false_eq_true, if_false, List.length_cons, if_pos (show (0 : Int) < (l.length : Int) by omega), if_neg (show ¬ rd l 0 = 45 by omega), if_pos (show (0 : Int) < ((m.length + 1 : Nat) : Int) by omega), show ∀ q : List Int, rd (45 :: q) 0 = 45 from fun _ => rfl, if_true]
      rw [show cmp3 (sz w s x).1 (-(sz w s y).1) = 1 by unfold cmp3; rw [if_neg (by omega), if_pos (by omega)]]
      exact Ev.now _
    · simp only [if_neg nx, if_neg ny, List.nil_append]
      exact order_digits hl hm
theorem print_tx {k : Int} {w : Nat} {s : Bool} (hk : whole_width.f k = some ((w : Int), s, true)) (hw : Wd w) {x : Int} (h : 0 ≤ x) (h' : x ≤ 2 ^ w - 1) :
    ∃ l, Tx (sz w s x).1 l ∧ Ev (fun n => whole_Print.f n k x) ((if (sz w s x).2 = true then [45] else []) ++ l, 0) := by
  obtain ⟨c, hc, c3, c4, pe⟩ := print_ev hk hw h h'
  obtain ⟨b1, b2, b3, b4⟩ := sz_bounds hw s h h'
  have L := lim_bounds hw s (sz w s x).2
  have hv := D_val (c + 1) (x := (sz w s x).1) b1 (by omega)
  rw [Int.emod_eq_of_lt b1 c3] at hv
  exact ⟨_, ⟨⟨c, D_leno _ _, c3, c4⟩, D_all (c + 1) b1 (by omega), hv⟩, pe⟩
theorem PureWholeOrder : mintagelaw05_WholeOrder.Pure := by
  intro n a b hn ha hb
  have ba := wf_u64o ha
  have bb := wf_u64o hb
  obtain ⟨k, ek, k1, k8⟩ := kind_ev n
  obtain ⟨w, s, hk, hw, _⟩ := width_ev ⟨k1, k8⟩
  refine Ev.rounds ?_
  unfold mintagelaw05_WholeOrder.f
  simp only [ek, if_pos (u64_nonneg _)]
  have bx := shr_bounds ba (IntKind.u64.wrap (Go.bits .and .i64 (n / 8) 63))
  have by_ := shr_bounds bb (IntKind.u64.wrap (Go.bits .and .i64 (n / 8) 63))
  revert bx by_
  generalize shr .u64 a (IntKind.u64.wrap (Go.bits .and .i64 (n / 8) 63)) = x
  generalize shr .u64 b (IntKind.u64.wrap (Go.bits .and .i64 (n / 8) 63)) = y
  intro bx by_
  have bad : ∀ l m : List Int, Ev (fun q => mintagelaw05_WholeOrder.j0 q 0 53 l m true) true := by
    intro l m
    refine Ev.step (fun k => by simp only [mintagelaw05_WholeOrder.j0]; rfl) ?_
    simp only [if_true, numo, Option.bind_some]
    exact Ev.bind wakes_evo (Ev.now _)
  by_cases fx : x ≤ 2 ^ w - 1
  · obtain ⟨l, tl, pl⟩ := print_tx hk hw bx.1 fx
    by_cases fy : y ≤ 2 ^ w - 1
    · obtain ⟨m, tm, pm⟩ := print_tx hk hw by_.1 fy
      refine Ev.bind (cmp_ev hk hw bx.1 fx by_.1 fy) ?_
      refine Ev.bind pl ?_
      refine Ev.bind pm ?_
      simp only [numo, Option.bind_some, if_true, bne_self_eq_false]
      refine Ev.step (fun k => by simp only [mintagelaw05_WholeOrder.j0]; rfl) ?_
      simp only [Bool.false_eq_true, if_false, numo, Option.bind_some, if_true]
      refine Ev.bind (order_ev hw s bx.1 fx by_.1 fy tl tm) ?_
      simp only [if_true]
      exact Ev.bind wakes_evo (Ev.now _)
    · refine Ev.bind (cmp_not hk hw (.inr fy)) ?_
      refine Ev.bind pl ?_
      refine Ev.bind (print_not hk hw fy) ?_
      simp only [numo, Option.bind_some, if_true, show ((53 : Int) != 0) = true from rfl]
      exact bad _ _
  · refine Ev.bind (cmp_not hk hw (.inl fx)) ?_
    refine Ev.bind (print_not hk hw fx) ?_
    have : ∃ v, Ev (fun n => whole_Print.f n k y) v := by
      by_cases fy : y ≤ 2 ^ w - 1
      · obtain ⟨m, tm, pm⟩ := print_tx hk hw by_.1 fy
        exact ⟨_, pm⟩
      · exact ⟨_, print_not hk hw fy⟩
    obtain ⟨v, hv⟩ := this
    refine Ev.bind hv ?_
    simp only [numo, Option.bind_some, if_neg (show ¬ (53 : Int) = 0 by omega)]
    exact bad _ _
end Go.Proofs.Ytlcglnnmcgpnpaa.Dig
namespace Go.Proofs.Ytlcglnnmcgpnpaa.Pure
theorem WholeOrder : Q.mintagelaw05_WholeOrder.Pure := Dig.PureWholeOrder
end Go.Proofs.Ytlcglnnmcgpnpaa.Pure
