/- The document's judge: the state of its search. -/
import Derived.Test.YtbjoinocajobhaaRkZAuditJudges
import Derived.Deep.OwnRows
import Derived.Test.YtbjoinocajobhaaQ0ZAuditJudges
namespace Go.Proofs.Ytbjoinocajobhaa.Ju
set_option linter.unusedVariables false
set_option linter.unusedSimpArgs false
open Go.RowKit Go.Proofs.Ytbjoinocajobhaa.Q Go.Proofs.YtbjoinocajobhaaW.PrintWords Go.Proofs.YtbjoinocajobhaaW.PrintLast Go.Proofs.Ytbjoinocajobhaa.Keep Go.Maps
def NN (l : List S32) : Nat := ((l.length + 1) * 2 ^ l.length) * (l.length + 1)
structure RS (B0 : Nat) (W : World) (g bm : Nat) (A : Option Addr) (c : Nat) (l : List S32) (v : Value) (ord : List Int) (F : Nat → Bool) : Prop where
  blk : W.heap[g]? = some (.cells #[.slice A l.length c, .slice (some ⟨bm, 0, none⟩) (NN l) (NN l), v] 74 (0, 0))
  row : ∀ W' : World, (∀ k, k < B0 → W'.heap[k]? = W.heap[k]?) → Kd.C k32 W' A l.length l
  fl : W.rowIs bm 4 (NN l) (fun k => .bool (F k))
  ord : Kd.R (Kd.int .i64) 3 W B0 (fun k => k ≠ g ∧ k ≠ bm) v ord
  hg : B0 ≤ g
  hbm : B0 ≤ bm
  ne : g ≠ bm
  snd : ∀ m q, m < 2 ^ l.length → RQ l m q → F (keyN l m q) = true → C l m q = none
section
variable {B0 : Nat} {W W1 : World} {g bm : Nat} {A : Option Addr} {c : Nat} {l : List S32} {v : Value} {ord : List Int} {F : Nat → Bool}
theorem RS.below (h : RS B0 W g bm A c l v ord F) (hb : Below W.heap.size W W1) : RS B0 W1 g bm A c l v ord F :=
  ⟨(hb.block g (blk_lt h.blk)).trans h.blk, fun W' hW => h.row W' fun k hk => (hW k hk).trans (hb.block k (Nat.lt_trans (Nat.lt_of_lt_of_le hk h.hg) (blk_lt h.blk))),
    h.fl.of_block (hb.block bm h.fl.lt), Kd.R_below h.ord hb, h.hg, h.hbm, h.ne, h.snd⟩
theorem RS.C (h : RS B0 W g bm A c l v ord F) : Kd.C k32 W A l.length l := h.row W fun _ _ => rfl
theorem RS.put {w9 : World} {v9 : Value} {ord9 : List Int} (S : RS B0 W g bm A c l v ord F)
    (hb : ∀ k, k < W.heap.size → some k ≠ v.ownBlock → w9.heap[k]? = W.heap[k]?) (ho : Kd.R (Kd.int .i64) 3 w9 B0 (fun k => k ≠ g ∧ k ≠ bm) v9 ord9) : RS B0 (w9.setCell ⟨g, 2, none⟩ v9) g bm A c l v9 ord9 F := by
  have hgW := blk_lt S.blk
  have hg9 : w9.heap[g]? = some (.cells #[.slice A l.length c, .slice (some ⟨bm, 0, none⟩) (NN l) (NN l), v] 74 (0, 0)) := (hb g hgW (fun e => (S.ord.1 g e.symm).1 rfl)).trans S.blk
  refine ⟨blk_put hg9 2 _ rfl, fun W' hW => S.row W' fun k hk => ?_, ?_, ?_, S.hg, S.hbm, S.ne, S.snd⟩
  · have hk2 : k < W.heap.size := Nat.lt_trans (Nat.lt_of_lt_of_le hk S.hg) hgW
    rw [hW k hk, Below.heap_setCell _ _ _ _ (by have := S.hg; show k ≠ g; omega), hb k hk2 (fun e => by have := own_ge S.ord k e.symm; omega)]
  · refine S.fl.of_block ?_
    rw [Below.heap_setCell _ _ _ _ (show bm ≠ g from S.ne.symm), hb bm S.fl.lt (fun e => (S.ord.1 bm e.symm).2 rfl)]
  · exact Kd.R_move ho fun k hk => Below.heap_setCell _ _ _ _ hk.1
theorem RS.mark {m : Nat} {q : Qs} (S : RS B0 W g bm A c l v ord F) (hm : m < 2 ^ l.length) (hq : RQ l m q) (hc : Ju.C l m q = none) : RS B0 (W.setCell ⟨bm, keyN l m q, none⟩ (.bool true)) g bm A c l v ord (fun k => if k = keyN l m q then true else F k) := by
  refine ⟨(Below.heap_setCell _ _ _ _ (show g ≠ bm from S.ne)).trans S.blk, fun W' hW => S.row W' fun k hk => ?_, (S.fl.set _ _).congr (fun i hi => by split <;> rfl), Kd.R_move S.ord fun k hk => Below.heap_setCell _ _ _ _ hk.2, S.hg, S.hbm, S.ne, fun m2 q2 h1 h2 h3 => ?_⟩
  · rw [hW k hk, Below.heap_setCell _ _ _ _ (by have := S.hbm; show k ≠ bm; omega)]
  · by_cases e : keyN l m2 q2 = keyN l m q
    · obtain ⟨rfl, rfl⟩ := keyN_inj h2 hq e
      exact hc
    · rw [if_neg e] at h3
      exact S.snd m2 q2 h1 h2 h3
end
theorem laid4q {w0 W : World} {gb : Nat} (hb : Below w0.heap.size w0 W) (hx : W.heap[gb]? = some (.cells #[.int .i64 0, .int .i64 0, .bool false, .bool false] 44 (0, 0))) (ge : w0.heap.size ≤ gb) (x y : Int) (b d : Bool) :
    ∃ W', (((W.setCell ⟨gb, 0, none⟩ (.int .i64 x)).setCell ⟨gb, 1, none⟩ (.int .i64 y)).setCell ⟨gb, 2, none⟩ (.bool b)).setCell ⟨gb, 3, none⟩ (.bool d) = W' ∧
      Below w0.heap.size w0 W' ∧ W'.heap[gb]? = some (.cells #[.int .i64 x, .int .i64 y, .bool b, .bool d] 44 (0, 0)) ∧ (∀ k, k ≠ gb → W'.heap[k]? = W.heap[k]?) := by
  refine ⟨_, rfl, ?_, ?_, ?_⟩
  · exact (((hb.setCell ge _).setCell ge _).setCell ge _).setCell ge _
  · exact blk_put (blk_put (blk_put (blk_put hx 0 _ rfl) 1 _ rfl) 2 _ rfl) 3 _ rfl
  · intro k hk
    rw [Below.heap_setCell _ _ _ _ hk, Below.heap_setCell _ _ _ _ hk, Below.heap_setCell _ _ _ _ hk, Below.heap_setCell _ _ _ _ hk]
theorem w_idL {x y : Int} (h : x = y) (h2 : -1000000000000 ≤ y ∧ y ≤ 1000000000000) : wrap64 x = y ∧ IntKind.i64.wrap x = y := by
  subst h
  exact ⟨by unfold wrap64; omega, by rw [IntKind.wrap_i64]; omega⟩
/-- The key, as it is reckoned. -/
theorem key_steps {l : List S32} {m : Nat} {q : Qs} (hl : l.length ≤ 14) (hm : m < 16384) (hq : RQ l m q) :
    (wrap64 ((m : Int) * ((l.length : Int) + 1)) = (m : Int) * ((l.length : Int) + 1) ∧ IntKind.i64.wrap ((m : Int) * ((l.length : Int) + 1)) = (m : Int) * ((l.length : Int) + 1)) ∧
    (wrap64 ((m : Int) * ((l.length : Int) + 1) + q.i) = (m : Int) * ((l.length : Int) + 1) + q.i ∧ IntKind.i64.wrap ((m : Int) * ((l.length : Int) + 1) + q.i) = (m : Int) * ((l.length : Int) + 1) + q.i) ∧
    (wrap64 (((m : Int) * ((l.length : Int) + 1) + q.i) * ((l.length : Int) + 1)) = ((m : Int) * ((l.length : Int) + 1) + q.i) * ((l.length : Int) + 1) ∧ IntKind.i64.wrap (((m : Int) * ((l.length : Int) + 1) + q.i) * ((l.length : Int) + 1)) = ((m : Int) * ((l.length : Int) + 1) + q.i) * ((l.length : Int) + 1)) ∧
    (wrap64 (((m : Int) * ((l.length : Int) + 1) + q.i) * ((l.length : Int) + 1) + q.o) = (keyN l m q : Int) ∧ IntKind.i64.wrap (((m : Int) * ((l.length : Int) + 1) + q.i) * ((l.length : Int) + 1) + q.o) = (keyN l m q : Int)) := by
  have b1 := hq.i1; have b2 := hq.oi; have b3 := hq.o0
  have hi : 0 ≤ q.i ∧ q.i ≤ 14 := by omega
  have ho : 0 ≤ q.o ∧ q.o ≤ 14 := by omega
  have e : (keyN l m q : Int) = ((m : Int) * ((l.length : Int) + 1) + q.i) * ((l.length : Int) + 1) + q.o := by
    unfold keyN
    push_cast
    rw [Int.toNat_of_nonneg hi.1, Int.toNat_of_nonneg ho.1]
  rw [e]
  clear e
  have n1 : 1 ≤ (l.length : Int) + 1 ∧ (l.length : Int) + 1 ≤ 15 := by omega
  generalize (l.length : Int) + 1 = n at n1 ⊢
  have x1 : 0 ≤ (m : Int) * n ∧ (m : Int) * n ≤ 16384 * 15 := ⟨Int.mul_nonneg (by omega) (by omega), Int.mul_le_mul (by omega) n1.2 (by omega) (by omega)⟩
  generalize (m : Int) * n = y at x1 ⊢
  have x2 : 0 ≤ (y + q.i) * n ∧ (y + q.i) * n ≤ 1000000 * 15 := ⟨Int.mul_nonneg (by omega) (by omega), Int.mul_le_mul (by omega) n1.2 (by omega) (by omega)⟩
  generalize (y + q.i) * n = z at x2 ⊢
  exact ⟨w_idL rfl (by omega), w_idL rfl (by omega), w_idL rfl (by omega), w_idL rfl (by omega)⟩
theorem add_or {m j : Nat} (h : m.testBit j = false) : m + 2 ^ j = m ||| 2 ^ j := by
  have hp : 0 < 2 ^ j := Nat.pow_pos (by decide)
  have h0 := Nat.div_add_mod m (2 ^ j)
  have hb : m % 2 ^ j < 2 ^ j := Nat.mod_lt _ hp
  have he : m / 2 ^ j % 2 = 0 := by
    rw [Nat.testBit_eq_decide_div_mod_eq] at h
    have := of_decide_eq_false h
    omega
  have e1 : (m / 2 ^ j) ||| 1 = m / 2 ^ j + 1 := by
    have := Nat.two_pow_add_eq_or_of_lt (i := 1) (b := 1) (by decide) (m / 2 ^ j / 2)
    have e2 : 2 ^ 1 * (m / 2 ^ j / 2) = m / 2 ^ j := by omega
    rw [e2] at this
    exact this.symm
  have e3 : m + 2 ^ j = 2 ^ j * (m / 2 ^ j + 1) + m % 2 ^ j := by rw [Nat.mul_add]; omega
  have e4 : m = 2 ^ j * (m / 2 ^ j) ||| m % 2 ^ j := by rw [← Nat.two_pow_add_eq_or_of_lt hb]; exact h0.symm
  rw [e3, Nat.two_pow_add_eq_or_of_lt hb, ← e1]
  conv => rhs; rw [e4]
  have e5 : ∀ a b : Nat, 2 ^ j * (a ||| b) = 2 ^ j * a ||| 2 ^ j * b := fun a b => by
    have := Nat.shiftLeft_or_distrib (a := a) (b := b) (i := j)
    simp only [Nat.shiftLeft_eq] at this
    rw [Nat.mul_comm, this, Nat.mul_comm a, Nat.mul_comm b]
  rw [e5, Nat.mul_one, Nat.or_assoc, Nat.or_assoc, Nat.or_comm (2 ^ j)]
theorem set_steps {m j : Nat} (hm : m < 16384) (hj : j < 14) (h : m.testBit j = false) : (wrap64 ((2 : Int) ^ j) = 2 ^ j ∧ IntKind.i64.wrap ((2 : Int) ^ j) = 2 ^ j) ∧
    (wrap64 ((m : Int) + 2 ^ j) = ((m ||| 2 ^ j : Nat) : Int) ∧ IntKind.i64.wrap ((m : Int) + 2 ^ j) = ((m ||| 2 ^ j : Nat) : Int)) := by
  have e2 : ((2 ^ j : Nat) : Int) = 2 ^ j := by simp
  have h1 : (2 : Nat) ^ j ≤ 2 ^ 14 := Nat.pow_le_pow_right (by decide) (by omega)
  have h2 : (2 : Nat) ^ 14 = 16384 := rfl
  rw [← add_or h]
  rw [← e2]
  generalize (2 : Nat) ^ j = p at h1 ⊢
  exact ⟨w_idL rfl (by omega), w_idL (by omega) (by omega)⟩
structure TryPost (B0 : Nat) (W : World) (g bm : Nat) (A : Option Addr) (c : Nat) (l : List S32) (v : Value) (ord : List Int) (m : Nat) (q : Qs) (e : Ending) (W' : World) : Prop where
  out : e = .returned (.bool (Ju.C l m q).isSome)
  chg : Chg (Wr g bm v) W W'
  ss : ∃ v' F', RS B0 W' g bm A c l v' (ord ++ (Ju.C l m q).getD []) F' ∧ ∀ k, v'.ownBlock = some k → v.ownBlock = some k ∨ W.heap.size ≤ k
end Go.Proofs.Ytbjoinocajobhaa.Ju
