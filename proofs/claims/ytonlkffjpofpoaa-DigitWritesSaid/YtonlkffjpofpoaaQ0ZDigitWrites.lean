-- Printed functions, merged (wip/tools/pack.py).
import Derived.Test.YtonlkffjpofpoaaProg
import Derived.Below
import Derived.Deep.Draws
import Derived.Deep.AppendLies
import Derived.Maps.AppendAt
import Derived.OwnWalk
import Derived.Laws.BytesArg
import Derived.Laws.MakeOwn
import Derived.Laws.OwnMore
import Derived.Deep.OwnRows
import Derived.Tactics
import Derived.Lib.ConvBytes
import Derived.Laws.Slices
import Derived.WalkKit
import Derived.KernelRfl
import Derived.RowKit3
import Derived.Deep.LoopGhost
import Derived.Deep.QuietTactic
import Derived.BigQuiet
import Derived.WideLaws
import Derived.Deep.DeepCutAuto
import Derived.Deep.CutBlock
import Derived.Deep.RegionHeld3
import Derived.Laws.Rows
import Derived.Lib.AppendStr
import Derived.ArgAppend
import Derived.Laws.IdiomCopy
import Derived.OrdersHeld
import Derived.Laws.BitsLemmas
import Derived.RowKit
import Derived.RegionTactic
import Derived.ChangeAlike
import Derived.IntWalk
import Derived.Outline
import Derived.Laws.BitsAllLaws
import Derived.WalkSpells
import Derived.Lib.SlBytesConst
import Derived.Test.YtonlkffjpofpoaaWWords
import Derived.Test.YtonlkffjpofpoaaWLast
import Derived.Test.YtonlkffjpofpoaaWTab
import Derived.Test.YtonlkffjpofpoaaWFour
import Derived.Test.YtonlkffjpofpoaaWQPut
import Derived.Test.YtonlkffjpofpoaaWApart
import Derived.Test.YtonlkffjpofpoaaWArr
import Derived.Test.YtonlkffjpofpoaaWZeros
import Derived.Test.YtonlkffjpofpoaaWFoot
import Derived.Test.YtonlkffjpofpoaaWKept
import Derived.Test.YtonlkffjpofpoaaWShare
import Derived.Test.YtonlkffjpofpoaaWN
import Derived.Test.YtonlkffjpofpoaaWFootNe
import Derived.Test.YtonlkffjpofpoaaWAt
import Derived.Test.YtonlkffjpofpoaaWEqStruct
import Derived.Test.YtonlkffjpofpoaaWRepsOne
import Derived.Test.YtonlkffjpofpoaaWInv
import Derived.Test.YtonlkffjpofpoaaWInvWords
import Derived.Test.YtonlkffjpofpoaaWGuard
import Derived.Test.YtonlkffjpofpoaaWNEv
import Derived.Test.YtonlkffjpofpoaaWMore
namespace Go.Proofs.Ytonlkffjpofpoaa.Q
open Go.RowKit Go.Proofs.YtonlkffjpofpoaaW.PrintWords Go.Proofs.YtonlkffjpofpoaaW.PrintLast Go.Proofs.YtonlkffjpofpoaaW.PrintMore
attribute [local go_sem] max2_int min2_int max_two min_two max_three min_three max_four min_four   -- for this text's walks alone
set_option linter.unusedVariables false
set_option linter.unusedSimpArgs false

theorem bytesLess_flip : ∀ x y : List UInt8, (!(Op.bytesLess x y || x == y)) = Op.bytesLess y x
  | [], [] => rfl
  | [], _ :: _ => rfl
  | _ :: _, [] => rfl
  | a :: x, b :: y => by
    have ih := bytesLess_flip x y
    simp only [Op.bytesLess, List.cons_beq_cons]
    rw [← ih]
    rcases Nat.lt_trichotomy a.toNat b.toNat with h | h | h
    · have h1 : a < b := UInt8.lt_iff_toNat_lt.2 h
      have h2 : ¬ b < a := fun q => by have := UInt8.lt_iff_toNat_lt.1 q; omega
      have h3 : ¬ b = a := fun q => by rw [q] at h; omega
      simp [h1, h2, h3]
    · have h0 : a = b := UInt8.toNat_inj.1 h
      subst h0
      simp
    · have h1 : b < a := UInt8.lt_iff_toNat_lt.2 h
      have h2 : ¬ a < b := fun q => by have := UInt8.lt_iff_toNat_lt.1 q; omega
      have h3 : ¬ a = b := fun q => by rw [q] at h; omega
      simp [h1, h2, h3]
@[go_sem] theorem binOp_string_gtr2 (t : TypeId) (a b : ByteArray) : binOp .gtr t (.string a) (.string b) = pure (.bool (Op.bytesLess b.toList a.toList)) := by
  rw [← bytesLess_flip]; simp [binOp, Op.stringOp]
theorem R_make0 (k : IntKind) {P : Program} {ops : Array Oper} {rest : List Oper} {o : Oper} {a : Act} {Q : Exit → Act → World → Prop} {w0 W : World} (base e : Nat) (hgd : o.guard = none) {N : Tmp} (_hd : o.dst = some N) (t : TypeId) (x y : Operand) (ho : o.op = .makeSlice t x y) (c : Int)
    (hx : a.eval x = .int .i64 0) (hy : a.eval y = .int .i64 c) (ht : P.underlying t = some (.slice e)) (bytes : Nat) (hinfo : (P.info? e).map (fun i => (i.zero, i.size, i.bytes)) = some (some (.int k 0), 1, bytes)) (hb0 : 0 < bytes)
    {ok : Nat → Prop} (hfresh : ok W.heap.size) (h0 : 0 ≤ c) (hl : c.toNat * bytes ≤ 281474976710656) (HB : Below base w0 W) (hbase : base ≤ W.heap.size)
    (h : ∀ v1 w1, (Kd.int k).R e w1 base ok v1 [] → Below base w0 w1 → W.grownBy w1 none → (∃ b, v1.ownBlock = some b ∧ W.heap.size ≤ b) → wpList P ops Q rest (a.put o.dst v1) w1) : wpList P ops Q (o :: rest) a W := by
  obtain ⟨m, rfl⟩ := Int.eq_ofNat_of_zero_le h0
  simp only [Int.toNat_natCast] at hl
  obtain ⟨i0, hi, hzz⟩ := Option.map_eq_some_iff.1 hinfo
  simp only [Prod.mk.injEq] at hzz
  obtain ⟨hz0, hz1, hz2⟩ := hzz
  have hm : m ≤ 281474976710656 := Nat.le_trans (Nat.le_mul_of_pos_right _ hb0) hl
  have hr := run_make (P := P) W t e i0 _ ht hi hz0 .i64 .i64 0 (m : Int) (by omega) (by omega)
    (by
      have h3 : ((i0.bytes * m : Nat) : Int) ≤ 281474976710656 := by rw [hz2, Nat.mul_comm]; omega
      rwa [Int.natCast_mul] at h3) (by omega)
  simp only [Int.toNat_natCast, hz1, Nat.mul_one] at hr
  refine Kd.event_run hgd (v := .slice (some ⟨W.heap.size, 0, none⟩) 0 m) (w1 := W.alloc (.cells (madeCells (Value.int k 0).cells m) e)) (by simp [execOp, ho, hx, hy]; rw [hr]; rfl) (h _ _ ?_ (HB.alloc hbase _) (World.grownBy_alloc W _ none) ⟨W.heap.size, by simp [Value.ownBlock], Nat.le_refl _⟩)
  refine Kd.R_of_own (xs := ([] : List Int)) (enc := Value.int k) (h1 := fun _ => rfl) ⟨rfl, .inr ⟨W.heap.size, m, madeCells (Value.int k 0).cells m, rfl, hbase, heap_alloc_new _ _, Nat.zero_le _, by simp only [maxLen]; omega, ?_, by simp [encs]⟩⟩ ?_
  · rw [size_madeCells]; simp
  · intro q hq
    have : W.heap.size = q := by simpa [Value.ownBlock] using hq
    rw [← this]; exact hfresh
theorem u64_of_u8 (x : Int) : IntKind.u64.wrap (IntKind.u8.wrap x) = x % 256 := by rw [IntKind.wrap_u8]; simp only [IntKind.wrap, IntKind.bits, IntKind.signed]; simp; omega
theorem i64_of_u8 (x : Int) : IntKind.i64.wrap (IntKind.u8.wrap x) = x % 256 := by rw [IntKind.wrap_u8, IntKind.wrap_i64]; omega
theorem cell_at2 {W W' : World} {n : Nat} {a : Addr} {v : Value} (hq : W.drewN n = W') (h : W.cell? a = some v) : W'.cell? a = some v := by rw [← hq]; exact h
theorem froz_at2 {W W' : World} {n : Nat} {a : Addr} {b : Bool} (hq : W.drewN n = W') (h : W.frozen? a = b) : W'.frozen? a = b := by rw [← hq]; exact h



def errW : Option Int → Value
  | none => .nilIface
  | some c => .iface 0 (.int .i64 c)
theorem errW_none : errW none = .nilIface := rfl
theorem errW_some (c : Int) : errW (some c) = .iface 0 (.int .i64 c) := rfl

theorem info3 : (Try.prog.info? 3).map (fun i => (i.zero, i.size, i.bytes)) = some (some (.int .i64 0), 1, 8) := by kernel_rfl
theorem info5 : (Try.prog.info? 5).map (fun i => (i.zero, i.size, i.bytes)) = some (some (.int .u8 0), 1, 1) := by kernel_rfl
theorem info22 : (Try.prog.info? 22).map (fun i => (i.zero, i.size, i.bytes)) = some (some (.int .u64 0), 1, 8) := by kernel_rfl
-- the values' own types
def rd_L3 (xs : List (List Int)) (i : Int) : (List Int) := xs.getD i.toNat ([] : List Int)
theorem at_L3 {w : World} {A : Option Addr} {n : Nat} {xs : List (List Int)} (h : Kd.C (Kd.slice 5 (Kd.int .u8)) w A n xs) (i : Int) (h0 : 0 ≤ i) (h1 : i < n) : ∃ ad A0 c0, A = some ad ∧ w.cell? (ad.add i.toNat) = some (.slice A0 (rd_L3 xs i).length c0) ∧ (rd_L3 xs i).length ≤ c0 ∧ (Kd.int .u8).C w A0 (rd_L3 xs i).length (rd_L3 xs i) := by
  obtain ⟨ad, c, e, _, hK, hc0⟩ := Kd.C_get h ([] : List Int) i h0 h1
  have hc : ∀ j u, c[j]? = some u → w.cell? (ad.add (i.toNat * 1 + j)) = some u := hc0
  obtain ⟨A0, c0, rfl, l0, g0⟩ := hK
  exact ⟨ad, A0, c0, e, by have hq := hc 0 _ rfl; rwa [Nat.mul_one, Nat.add_zero] at hq, l0, g0⟩

def rd_L4 (xs : List (List Int)) (i : Int) : (List Int) := xs.getD i.toNat ([] : List Int)
theorem at_L4 {w : World} {A : Option Addr} {n : Nat} {xs : List (List Int)} (h : Kd.C (Kd.slice 22 (Kd.int .u64)) w A n xs) (i : Int) (h0 : 0 ≤ i) (h1 : i < n) : ∃ ad A0 c0, A = some ad ∧ w.cell? (ad.add i.toNat) = some (.slice A0 (rd_L4 xs i).length c0) ∧ (rd_L4 xs i).length ≤ c0 ∧ (Kd.int .u64).C w A0 (rd_L4 xs i).length (rd_L4 xs i) := by
  obtain ⟨ad, c, e, _, hK, hc0⟩ := Kd.C_get h ([] : List Int) i h0 h1
  have hc : ∀ j u, c[j]? = some u → w.cell? (ad.add (i.toNat * 1 + j)) = some u := hc0
  obtain ⟨A0, c0, rfl, l0, g0⟩ := hK
  exact ⟨ad, A0, c0, e, by have hq := hc 0 _ rfl; rwa [Nat.mul_one, Nat.add_zero] at hq, l0, g0⟩

def rd_L5 (xs : List (List Int)) (i : Int) : (List Int) := xs.getD i.toNat ([] : List Int)
theorem at_L5 {w : World} {A : Option Addr} {n : Nat} {xs : List (List Int)} (h : Kd.C (Kd.slice 3 (Kd.int .i64)) w A n xs) (i : Int) (h0 : 0 ≤ i) (h1 : i < n) : ∃ ad A0 c0, A = some ad ∧ w.cell? (ad.add i.toNat) = some (.slice A0 (rd_L5 xs i).length c0) ∧ (rd_L5 xs i).length ≤ c0 ∧ (Kd.int .i64).C w A0 (rd_L5 xs i).length (rd_L5 xs i) := by
  obtain ⟨ad, c, e, _, hK, hc0⟩ := Kd.C_get h ([] : List Int) i h0 h1
  have hc : ∀ j u, c[j]? = some u → w.cell? (ad.add (i.toNat * 1 + j)) = some u := hc0
  obtain ⟨A0, c0, rfl, l0, g0⟩ := hK
  exact ⟨ad, A0, c0, e, by have hq := hc 0 _ rfl; rwa [Nat.mul_one, Nat.add_zero] at hq, l0, g0⟩

end Go.Proofs.Ytonlkffjpofpoaa.Q

namespace Go.Proofs.Ytonlkffjpofpoaa.Q
open Go.RowKit Go.Proofs.YtonlkffjpofpoaaW.PrintWords Go.Proofs.YtonlkffjpofpoaaW.PrintLast Go.Proofs.YtonlkffjpofpoaaW.PrintMore
attribute [local go_sem] max2_int min2_int max_two min_two max_three min_three max_four min_four   -- for this text's walks alone
set_option linter.unusedVariables false
set_option linter.unusedSimpArgs false

/-! ### mintagelaw04_num: function 16 -/
def mintagelaw04_num.f (a0 : Int) : Option (Int) := some a0
set_option maxHeartbeats 8000000 in
set_option maxRecDepth 100000 in
theorem mintagelaw04_num.calls (a0 : Int) (r : Int) (w : World) (h : mintagelaw04_num.f a0 = some r) :
    Calls Try.prog 16 #[.int .i64 a0] w fun e w' => e = .returned (.int .i64 r) ∧ Drawn0 w w' := by
  have H : (some a0) = some r := h
  clear h
  obtain rfl := Option.some.inj H
  go_enter Try.func16, Try.ntmps16
  go_wp2
  go_ret
  exact ⟨by first | rfl | (simp; done) | (simp [*]; done), by repeat (first | exact Drawn0.refl _ | apply Drawn0.step)⟩

end Go.Proofs.Ytonlkffjpofpoaa.Q

namespace Go.Proofs.Ytonlkffjpofpoaa.Q
open Go.RowKit Go.Proofs.YtonlkffjpofpoaaW.PrintWords Go.Proofs.YtonlkffjpofpoaaW.PrintLast Go.Proofs.YtonlkffjpofpoaaW.PrintMore
attribute [local go_sem] max2_int min2_int max_two min_two max_three min_three max_four min_four   -- for this text's walks alone
set_option linter.unusedVariables false
set_option linter.unusedSimpArgs false

/-! ### mintageref04_Text: function 15 -/
def mintageref04_Text.l0 : Nat → Int → List Int → Option (List Int)
  | 0, _, _ => none
  | k + 1, x0, x3 => (some (([(IntKind.u64.wrap (48 + (Int.tmod x0 10))) % 256] : List Int) : List Int)).bind fun y106 => (if y106.length + x3.length < 140737488355328 then ((some (y106 ++ x3 : List Int)).bind fun y109 => (if (IntKind.u64.wrap (Int.tdiv x0 10)) = 0 then (some y109) else (mintageref04_Text.l0 k (IntKind.u64.wrap (Int.tdiv x0 10)) y109))) else (none))
def mintageref04_Text.f (k : Nat) (a0 : Int) : Option (List Int) := mintageref04_Text.l0 k a0 ([] : List Int)
theorem mintageref04_Text.mono_l : ∀ k, (∀ y0 y1, LeO (mintageref04_Text.l0 k y0 y1) (mintageref04_Text.l0 (k + 1) y0 y1))
  | 0 => fun _ _ r h => by simp [mintageref04_Text.l0] at h
  | k + 1 => by
    have ih0 := mintageref04_Text.mono_l k
    · intro y0 y1
      unfold mintageref04_Text.l0
      repeat' first
      | (with_reducible exact ih0 _ _)
      | (with_reducible exact LeO.refl _)
      | (with_reducible exact LeO.none _)
      | (with_reducible refine LeO.ite ?_ ?_)
      | (with_reducible refine LeO.bind ?_ (fun _ => ?_))
      | exact ih0 _ _
      | exact LeO.none _
      | refine LeO.ite ?_ ?_
      | refine LeO.bind ?_ (fun _ => ?_)
theorem mintageref04_Text.mono : ∀ a0 k, LeO (mintageref04_Text.f k a0) (mintageref04_Text.f (k + 1) a0) := by
  intro a0 k
  have ih0 := mintageref04_Text.mono_l k
  unfold mintageref04_Text.f
  repeat' first
      | (with_reducible exact ih0 _ _)
      | (with_reducible exact LeO.refl _)
      | (with_reducible exact LeO.none _)
      | (with_reducible refine LeO.ite ?_ ?_)
      | (with_reducible refine LeO.bind ?_ (fun _ => ?_))
      | exact ih0 _ _
      | exact LeO.none _
      | refine LeO.ite ?_ ?_
      | refine LeO.bind ?_ (fun _ => ?_)
set_option maxHeartbeats 8000000 in
set_option maxRecDepth 100000 in
theorem mintageref04_Text.calls (k : Nat) (a0 : Int) (r : List Int) (w : World) (h : mintageref04_Text.f k a0 = some r) :
    Calls Try.prog 15 #[.int .u64 a0] w fun e w' => ∃ v0_ : Value, e = .returned (v0_) ∧ Kd.R (Kd.int .u8) 5 w' w.heap.size (fun _ => True) v0_ r ∧ Below w.heap.size w w' := by
  have HB := Aside0.mk (Below.refl w.heap.size w)
  have H : (mintageref04_Text.l0 k a0 ([] : List Int)) = some r := h
  clear h
  have H' := Aside0.mk H
  clear H
  go_enter Try.func15, Try.ntmps15
  go_wp2
  go_loopg [0, 3] k (fun kq v0 v3 w' => ∃ (x0_1 : Int) (x3_1 : List Int), v0 = .int .u64 x0_1 ∧ Aside0 (mintageref04_Text.l0 kq x0_1 x3_1 = some r) ∧ Aside0 (kq ≤ k) ∧ Aside0 (Kd.R (Kd.int .u8) 5 w' w.heap.size (fun _ => True) v3 x3_1) ∧ Aside0 (Below w.heap.size w w'))
  case atStart => exact ⟨(a0), (([] : List Int)), (by first | rfl | (simp; done) | (simp [*]; done)), H', ⟨Nat.le_refl _⟩, ⟨by first | exact Kd.R_nil _ _ _ _ _ | exact Kd.N_nil _ _ _ _ _ | exact Kd.V_nil _ _ _ _ _ | exact Kd.Q_nil _ _ _ _ _ | exact Kd.S_nil _ _ _ _ _⟩, ⟨by repeat (first | (with_reducible first | exact HB.out | apply below_alloc | apply pw_below_drewN | apply below_drew1) | exact HB.out)⟩⟩
  case round =>
    clear H'
    try clear c1
    obtain ⟨x0_1, x3_1, rfl, HA, HK1, HO_3, HB⟩ := hrel
    cases gk with
    | zero => exact absurd HA.out (by simp [mintageref04_Text.l0])
    | succ k1 =>
      have H := HA.out
      clear HA
      simp only [mintageref04_Text.l0] at H
      obtain ⟨y106, hy106⟩ : ∃ y_ : List Int, y_ = (([(IntKind.u64.wrap (48 + (Int.tmod x0_1 10))) % 256] : List Int)) := ⟨_, rfl⟩
      replace H : (if y106.length + x3_1.length < 140737488355328 then ((some (y106 ++ x3_1 : List Int)).bind fun y109 => (if (IntKind.u64.wrap (Int.tdiv x0_1 10)) = 0 then (some y109) else (mintageref04_Text.l0 k1 (IntKind.u64.wrap (Int.tdiv x0_1 10)) y109))) else (none)) = some r := by first | (rw [hy106]; with_reducible exact H) | (have H2_ := (Option.bind_some _ _).symm.trans H; rw [hy106]; with_reducible exact H2_) | (have H2_ := (Option.bind_some _ _).symm.trans H; with_reducible exact H2_) | with_reducible exact H | (rw [hy106]; exact H) | exact H
      have Ny106 := Aside0.mk hy106
      clear hy106
      by_cases c2 : y106.length + x3_1.length < 140737488355328
      · rw [if_pos c2] at H
        have LMc2 := Aside0.mk c2
        clear c2
        obtain ⟨y109, hy109⟩ : ∃ y_ : List Int, y_ = (y106 ++ x3_1) := ⟨_, rfl⟩
        replace H : (if (IntKind.u64.wrap (Int.tdiv x0_1 10)) = 0 then (some y109) else (mintageref04_Text.l0 k1 (IntKind.u64.wrap (Int.tdiv x0_1 10)) y109)) = some r := by first | (rw [hy109]; with_reducible exact H) | (have H2_ := (Option.bind_some _ _).symm.trans H; rw [hy109]; with_reducible exact H2_) | (have H2_ := (Option.bind_some _ _).symm.trans H; with_reducible exact H2_) | with_reducible exact H | (rw [hy109]; exact H) | exact H
        have Ny109 := Aside0.mk hy109
        clear hy109
        by_cases c3 : (IntKind.u64.wrap (Int.tdiv x0_1 10)) = 0
        · rw [if_pos c3] at H
          have c3b0 : ((IntKind.u64.wrap (Int.tdiv x0_1 10)) == 0) = true := beq_iff_eq.mpr c3
          have c3b1 : ((IntKind.u64.wrap (Int.tdiv x0_1 10)) != 0) = false := bne_eq_false_iff_eq.mpr c3
          clear c3
          obtain rfl := Option.some.inj H
          go_wp2_with (first | ((with_reducible refine gate_dst (N := 8) rfl ?_); refine Kd.R_lit (Kd.int .u8) _ 5 ?hg (N := 8) ?hd (xs := ([(IntKind.u64.wrap (48 + (Int.tmod x0_1 10))) % 256] : List Int)) (inner := [.int .u8 ((IntKind.u64.wrap (48 + (Int.tmod x0_1 10))) % 256)]) (ok := fun _ => True) (okp := fun _ => True) ?hr ?hp (fun _ hk => hk) trivial (Below.refl _ _) (Nat.le_refl _) (by simp) ?_; (case hd => rfl); (case hg => rfl); (case hr => first | (go_simp; done) | (go_simp; rfl) | (go_simp; simp only [u64_of_u8, i64_of_u8]; done) | (go_simp; simp only [u64_of_u8, i64_of_u8]; rfl)); (case hp => exact (Reps.one (show Kd.M (Kd.int .u8) _ _ _ ((IntKind.u64.wrap (48 + (Int.tmod x0_1 10))) % 256) [.int .u8 ((IntKind.u64.wrap (48 + (Int.tmod x0_1 10))) % 256)] from rfl) (Reps.none _ _))); intro v107 w4 ho5 hb hg_ hnew_; clear hg_ hnew_; (first | rw [← Ny106.out] at ho5 | (simp only [Int.reduceToNat] at ho5; rw [← Ny106.out] at ho5)); have n0_ := Aside0.mk (Kd.R_elder' (by (with_reducible repeat (first | apply Kd.R_alloc | apply Kd.R_drewN | apply Kd.R_drew)); exact HO_3.out) (Kd.R_base ho5) hb); have n1_ := Aside0.mk (Kd.R_lower (Kd.R_new' ho5 (Kd.R_lt (by (with_reducible repeat (first | apply Kd.R_alloc | apply Kd.R_drewN | apply Kd.R_drew)); exact HO_3.out))) (below_size (by repeat (first | (with_reducible first | exact HB.out | apply below_alloc | apply pw_below_drewN | apply below_drew1) | exact HB.out)))); have n2_ := Aside0.mk (below_step (by repeat (first | (with_reducible first | exact HB.out | apply below_alloc | apply pw_below_drewN | apply below_drew1) | exact HB.out)) hb); clear HO_3; clear HB; have HO_3 := n0_; have HO108 := n1_; have HB := n2_; clear n0_ n1_ n2_; clear hb ho5; obtain ⟨Ao7, co7, eo7⟩ := Kd.R_slice HO_3.out; subst eo7) | ((with_reducible refine gate_builtin (b := .append) (xs := #[.tmp 8, .tmp 9]) rfl ?_); at_builtin; refine Kd.R_append_rows (Kd.int .u8) (w0 := w) w.heap.size rfl (.tmp 8) (.tmp 9) 29 5 (.int .u8 0) 1 rfl Try.underlying29 info5 rfl (by decide) (by omega) v107 y106 x3_1 _ _ _ (fun k_ => some k_ ≠ (.slice Ao7 x3_1.length co7 : Value).ownBlock) (fun _ => False) rfl rfl ?aO ?aR (fun _ _ h => h) (fun _ h => h.elim) ?aF ?aB ?aS ?aL ?_; (case aR => repeat (first | exact (Kd.R_reads' HO_3.out).2.2 | (with_reducible refine Kd.C_alloc ?_ _) | (with_reducible refine Kd.C_drewN ?_ _) | (with_reducible refine Kd.C_drew ?_))); (case aB => exact (by repeat (first | (with_reducible first | exact HB.out | apply below_alloc | apply pw_below_drewN | apply below_drew1) | exact HB.out))); (case aF => exact (fun k_ hk => Kd.fresh' (Kd.R_lt (by (with_reducible repeat (first | apply Kd.R_alloc | apply Kd.R_drewN | apply Kd.R_drew)); exact HO_3.out)) k_ hk)); (case aO => exact (by (with_reducible repeat (first | apply Kd.R_alloc | apply Kd.R_drewN | apply Kd.R_drew)); exact Kd.R_mono HO108.out (fun _ hk => hk.2))); (case aS => exact (below_size (by repeat (first | (with_reducible first | exact HB.out | apply below_alloc | apply pw_below_drewN | apply below_drew1) | exact HB.out)))); (case aL => have := LMc2.out; omega); intro v110 w6 ho hb hg hat; rw [← Ny109.out] at ho; have n0_ := Aside0.mk (Kd.R_after (ok := (fun _ => True)) (by (with_reducible repeat (first | apply Kd.R_alloc | apply Kd.R_drewN | apply Kd.R_drew)); exact HO_3.out) hg hat); have n1_ := Aside0.mk (hb); have n2_ := Aside0.mk (ho); clear HO_3; clear HB; clear HO108; have HO_3 := n0_; have HB := n1_; have HO111 := n2_; clear n0_ n1_ n2_; clear ho hb hg hat))
          go_ret
          exact ⟨_, by first | rfl | (simp [errW_none, errW_some] <;> rfl) | (simp [*, errW_none, errW_some] <;> rfl), by (with_reducible repeat (first | apply Kd.R_alloc | apply Kd.R_drewN | apply Kd.R_drew)); exact Kd.R_mono HO111.out (fun _ hk => trivial), by repeat (first | (with_reducible first | exact HB.out | apply below_alloc | apply pw_below_drewN | apply below_drew1) | exact HB.out)⟩
        · rw [if_neg c3] at H
          have c3b0 : ((IntKind.u64.wrap (Int.tdiv x0_1 10)) == 0) = false := beq_eq_false_iff_ne.mpr c3
          have c3b1 : ((IntKind.u64.wrap (Int.tdiv x0_1 10)) != 0) = true := bne_iff_ne.mpr c3
          have H' := Aside0.mk H
          clear H
          go_wp2_with (first | ((with_reducible refine gate_dst (N := 8) rfl ?_); refine Kd.R_lit (Kd.int .u8) _ 5 ?hg (N := 8) ?hd (xs := ([(IntKind.u64.wrap (48 + (Int.tmod x0_1 10))) % 256] : List Int)) (inner := [.int .u8 ((IntKind.u64.wrap (48 + (Int.tmod x0_1 10))) % 256)]) (ok := fun _ => True) (okp := fun _ => True) ?hr ?hp (fun _ hk => hk) trivial (Below.refl _ _) (Nat.le_refl _) (by simp) ?_; (case hd => rfl); (case hg => rfl); (case hr => first | (go_simp; done) | (go_simp; rfl) | (go_simp; simp only [u64_of_u8, i64_of_u8]; done) | (go_simp; simp only [u64_of_u8, i64_of_u8]; rfl)); (case hp => exact (Reps.one (show Kd.M (Kd.int .u8) _ _ _ ((IntKind.u64.wrap (48 + (Int.tmod x0_1 10))) % 256) [.int .u8 ((IntKind.u64.wrap (48 + (Int.tmod x0_1 10))) % 256)] from rfl) (Reps.none _ _))); intro v107 w8 ho9 hb hg_ hnew_; clear hg_ hnew_; (first | rw [← Ny106.out] at ho9 | (simp only [Int.reduceToNat] at ho9; rw [← Ny106.out] at ho9)); have n0_ := Aside0.mk (Kd.R_elder' (by (with_reducible repeat (first | apply Kd.R_alloc | apply Kd.R_drewN | apply Kd.R_drew)); exact HO_3.out) (Kd.R_base ho9) hb); have n1_ := Aside0.mk (Kd.R_lower (Kd.R_new' ho9 (Kd.R_lt (by (with_reducible repeat (first | apply Kd.R_alloc | apply Kd.R_drewN | apply Kd.R_drew)); exact HO_3.out))) (below_size (by repeat (first | (with_reducible first | exact HB.out | apply below_alloc | apply pw_below_drewN | apply below_drew1) | exact HB.out)))); have n2_ := Aside0.mk (below_step (by repeat (first | (with_reducible first | exact HB.out | apply below_alloc | apply pw_below_drewN | apply below_drew1) | exact HB.out)) hb); clear HO_3; clear HB; have HO_3 := n0_; have HO108 := n1_; have HB := n2_; clear n0_ n1_ n2_; clear hb ho9; obtain ⟨Ao11, co11, eo11⟩ := Kd.R_slice HO_3.out; subst eo11) | ((with_reducible refine gate_builtin (b := .append) (xs := #[.tmp 8, .tmp 9]) rfl ?_); at_builtin; refine Kd.R_append_rows (Kd.int .u8) (w0 := w) w.heap.size rfl (.tmp 8) (.tmp 9) 29 5 (.int .u8 0) 1 rfl Try.underlying29 info5 rfl (by decide) (by omega) v107 y106 x3_1 _ _ _ (fun k_ => some k_ ≠ (.slice Ao11 x3_1.length co11 : Value).ownBlock) (fun _ => False) rfl rfl ?aO ?aR (fun _ _ h => h) (fun _ h => h.elim) ?aF ?aB ?aS ?aL ?_; (case aR => repeat (first | exact (Kd.R_reads' HO_3.out).2.2 | (with_reducible refine Kd.C_alloc ?_ _) | (with_reducible refine Kd.C_drewN ?_ _) | (with_reducible refine Kd.C_drew ?_))); (case aB => exact (by repeat (first | (with_reducible first | exact HB.out | apply below_alloc | apply pw_below_drewN | apply below_drew1) | exact HB.out))); (case aF => exact (fun k_ hk => Kd.fresh' (Kd.R_lt (by (with_reducible repeat (first | apply Kd.R_alloc | apply Kd.R_drewN | apply Kd.R_drew)); exact HO_3.out)) k_ hk)); (case aO => exact (by (with_reducible repeat (first | apply Kd.R_alloc | apply Kd.R_drewN | apply Kd.R_drew)); exact Kd.R_mono HO108.out (fun _ hk => hk.2))); (case aS => exact (below_size (by repeat (first | (with_reducible first | exact HB.out | apply below_alloc | apply pw_below_drewN | apply below_drew1) | exact HB.out)))); (case aL => have := LMc2.out; omega); intro v110 w10 ho hb hg hat; rw [← Ny109.out] at ho; have n0_ := Aside0.mk (Kd.R_after (ok := (fun _ => True)) (by (with_reducible repeat (first | apply Kd.R_alloc | apply Kd.R_drewN | apply Kd.R_drew)); exact HO_3.out) hg hat); have n1_ := Aside0.mk (hb); have n2_ := Aside0.mk (ho); clear HO_3; clear HB; clear HO108; have HO_3 := n0_; have HB := n1_; have HO111 := n2_; clear n0_ n1_ n2_; clear ho hb hg hat))
          go_roundg k1
          case measure => have := HK1.out; omega
          case rel => exact ⟨(IntKind.u64.wrap (Int.tdiv x0_1 10)), (y109), (by first | rfl | (simp; done) | (simp [*]; done)), H', ⟨by have := HK1.out; omega⟩, ⟨by (with_reducible repeat (first | apply Kd.R_alloc | apply Kd.R_drewN | apply Kd.R_drew)); exact Kd.R_mono HO111.out (fun _ hk => trivial)⟩, ⟨by repeat (first | (with_reducible first | exact HB.out | apply below_alloc | apply pw_below_drewN | apply below_drew1) | exact HB.out)⟩⟩
      · rw [if_neg c2] at H
        exact absurd H (by simp)

end Go.Proofs.Ytonlkffjpofpoaa.Q

namespace Go.Proofs.Ytonlkffjpofpoaa.Q
open Go.RowKit Go.Proofs.YtonlkffjpofpoaaW.PrintWords Go.Proofs.YtonlkffjpofpoaaW.PrintLast Go.Proofs.YtonlkffjpofpoaaW.PrintMore
attribute [local go_sem] max2_int min2_int max_two min_two max_three min_three max_four min_four   -- for this text's walks alone
set_option linter.unusedVariables false
set_option linter.unusedSimpArgs false

/-! ### mintageref04_Count: function 18 -/
def mintageref04_Count.f (k : Nat) (a0 : Int) : Option (Int) := (mintageref04_Text.f k a0).bind fun t124 => (some (t124.length : Int))
theorem mintageref04_Count.mono : ∀ a0 k, LeO (mintageref04_Count.f k a0) (mintageref04_Count.f (k + 1) a0) := by
  intro a0 k
  unfold mintageref04_Count.f
  repeat' first
      | (with_reducible exact mintageref04_Text.mono _ _)
      | (with_reducible exact LeO.refl _)
      | (with_reducible exact LeO.none _)
      | (with_reducible refine LeO.ite ?_ ?_)
      | (with_reducible refine LeO.bind ?_ (fun _ => ?_))
      | exact mintageref04_Text.mono _ _
      | exact LeO.none _
      | refine LeO.ite ?_ ?_
      | refine LeO.bind ?_ (fun _ => ?_)
set_option maxHeartbeats 8000000 in
set_option maxRecDepth 100000 in
theorem mintageref04_Count.calls (k : Nat) (a0 : Int) (r : Int) (w : World) (h : mintageref04_Count.f k a0 = some r) :
    Calls Try.prog 18 #[.int .u64 a0] w fun e w' => e = .returned (.int .i64 r) ∧ Below w.heap.size w w' := by
  have HB := Aside0.mk (Below.refl w.heap.size w)
  have H : ((mintageref04_Text.f k a0).bind fun t124 => (some (t124.length : Int))) = some r := h
  clear h
  replace H := Option.bind_eq_some_iff.mp H
  obtain ⟨t124, A20, H⟩ := H
  replace H : (some (t124.length : Int)) = some r := H
  have A2 := Aside0.mk A20
  clear A20
  obtain rfl := Option.some.inj H
  go_enter Try.func18, Try.ntmps18
  go_wp2_with (first | ((with_reducible refine gate_callee (f := 15) rfl ?_); refine goesL_ (some 4) rfl rfl Try.func15 (by kernel_rfl) rfl #[.int .u64 a0] rfl (by (try simp only [List.map_toArray, List.map_cons, List.map_nil]); first | done | rfl | (simp only [List.length_drop, List.length_take]; rfl)) ?_; (with_reducible refine (mintageref04_Text.calls k a0 t124 _ A2.out).mono ?_); rintro e w3 ⟨v125, rfl, ho0, hb⟩; refine ⟨_, rfl, ?_⟩; have n0_ := Aside0.mk (Kd.R_lower ho0 (below_size (by repeat (first | (with_reducible first | exact HB.out | apply below_alloc | apply pw_below_drewN | apply below_drew1) | exact HB.out)))); have n1_ := Aside0.mk (below_step (by repeat (first | (with_reducible first | exact HB.out | apply below_alloc | apply pw_below_drewN | apply below_drew1) | exact HB.out)) hb); clear HB; have HO126 := n0_; have HB := n1_; clear n0_ n1_; (try clear hb); (try clear hb2); (try clear hk); (try clear hi); (try clear ho0); obtain ⟨Ao4, co4, eo4⟩ := Kd.R_slice HO126.out; subst eo4))
  go_ret
  exact ⟨by first | rfl | (simp [errW_none, errW_some] <;> rfl) | (simp [*, errW_none, errW_some] <;> rfl), by repeat (first | (with_reducible first | exact HB.out | apply below_alloc | apply pw_below_drewN | apply below_drew1) | exact HB.out)⟩

end Go.Proofs.Ytonlkffjpofpoaa.Q

namespace Go.Proofs.Ytonlkffjpofpoaa.Q
open Go.RowKit Go.Proofs.YtonlkffjpofpoaaW.PrintWords Go.Proofs.YtonlkffjpofpoaaW.PrintLast Go.Proofs.YtonlkffjpofpoaaW.PrintMore
attribute [local go_sem] max2_int min2_int max_two min_two max_three min_three max_four min_four   -- for this text's walks alone
set_option linter.unusedVariables false
set_option linter.unusedSimpArgs false

/-! ### mintageref04_Pad: function 10 -/
mutual
def mintageref04_Pad.j0 : Nat → Int → Int → Bool → Option (List Int × Int)
  | 0, _, _, _ => none
  | k + 1, x0, x1, x12 => if x12 = true then (some (([] : List Int), 42)) else ((mintageref04_Text.f k x0).bind fun t112 => (if (t112.length : Int) > x1 then (some (([] : List Int), 40)) else (mintageref04_Pad.l0 k x1 t112)))
def mintageref04_Pad.l0 : Nat → Int → List Int → Option (List Int × Int)
  | 0, _, _ => none
  | k + 1, x1, x6 => if (x6.length : Int) < x1 then ((some (([48] : List Int) : List Int)).bind fun y115 => (if y115.length + x6.length < 140737488355328 then (mintageref04_Pad.l0 k x1 (y115 ++ x6)) else (none))) else (some (x6, 0))
end
def mintageref04_Pad.f (k : Nat) (a0 : Int) (a1 : Int) : Option (List Int × Int) := if a1 < 1 then (mintageref04_Pad.j0 k a0 a1 true) else (mintageref04_Pad.j0 k a0 a1 (decide (a1 > 20)))
theorem mintageref04_Pad.mono_l : ∀ k, (∀ y0 y1 y2, LeO (mintageref04_Pad.j0 k y0 y1 y2) (mintageref04_Pad.j0 (k + 1) y0 y1 y2)) ∧ (∀ y0 y1, LeO (mintageref04_Pad.l0 k y0 y1) (mintageref04_Pad.l0 (k + 1) y0 y1))
  | 0 => ⟨fun _ _ _ r h => by simp [mintageref04_Pad.j0] at h, fun _ _ r h => by simp [mintageref04_Pad.l0] at h⟩
  | k + 1 => by
    obtain ⟨ih0, ih1⟩ := mintageref04_Pad.mono_l k
    refine ⟨?_, ?_⟩
    · intro y0 y1 y2
      unfold mintageref04_Pad.j0
      repeat' first
      | (with_reducible exact ih0 _ _ _)
      | (with_reducible exact ih1 _ _)
      | (with_reducible exact mintageref04_Text.mono _ _)
      | (with_reducible exact LeO.refl _)
      | (with_reducible exact LeO.none _)
      | (with_reducible refine LeO.ite ?_ ?_)
      | (with_reducible refine LeO.bind ?_ (fun _ => ?_))
      | exact ih0 _ _ _
      | exact ih1 _ _
      | exact mintageref04_Text.mono _ _
      | exact LeO.none _
      | refine LeO.ite ?_ ?_
      | refine LeO.bind ?_ (fun _ => ?_)
    · intro y0 y1
      unfold mintageref04_Pad.l0
      repeat' first
      | (with_reducible exact ih0 _ _ _)
      | (with_reducible exact ih1 _ _)
      | (with_reducible exact mintageref04_Text.mono _ _)
      | (with_reducible exact LeO.refl _)
      | (with_reducible exact LeO.none _)
      | (with_reducible refine LeO.ite ?_ ?_)
      | (with_reducible refine LeO.bind ?_ (fun _ => ?_))
      | exact ih0 _ _ _
      | exact ih1 _ _
      | exact mintageref04_Text.mono _ _
      | exact LeO.none _
      | refine LeO.ite ?_ ?_
      | refine LeO.bind ?_ (fun _ => ?_)
theorem mintageref04_Pad.mono : ∀ a0 a1 k, LeO (mintageref04_Pad.f k a0 a1) (mintageref04_Pad.f (k + 1) a0 a1) := by
  intro a0 a1 k
  obtain ⟨ih0, ih1⟩ := mintageref04_Pad.mono_l k
  unfold mintageref04_Pad.f
  repeat' first
      | (with_reducible exact ih0 _ _ _)
      | (with_reducible exact ih1 _ _)
      | (with_reducible exact mintageref04_Text.mono _ _)
      | (with_reducible exact LeO.refl _)
      | (with_reducible exact LeO.none _)
      | (with_reducible refine LeO.ite ?_ ?_)
      | (with_reducible refine LeO.bind ?_ (fun _ => ?_))
      | exact ih0 _ _ _
      | exact ih1 _ _
      | exact mintageref04_Text.mono _ _
      | exact LeO.none _
      | refine LeO.ite ?_ ?_
      | refine LeO.bind ?_ (fun _ => ?_)
set_option maxHeartbeats 8000000 in
set_option maxRecDepth 100000 in
theorem mintageref04_Pad.calls (k : Nat) (a0 : Int) (a1 : Int) (r1 : List Int) (r2 : Int) (w : World) (h : mintageref04_Pad.f k a0 a1 = some (r1, r2)) :
    Calls Try.prog 10 #[.int .u64 a0, .int .i64 a1] w fun e w' => ∃ v0_ : Value, e = .returned (.tuple #[v0_, .int .i64 r2]) ∧ Kd.R (Kd.int .u8) 5 w' w.heap.size (fun _ => True) v0_ r1 ∧ Below w.heap.size w w' := by
  have HB := Aside0.mk (Below.refl w.heap.size w)
  have H : (if a1 < 1 then (mintageref04_Pad.j0 k a0 a1 true) else (mintageref04_Pad.j0 k a0 a1 (decide (a1 > 20)))) = some (r1, r2) := h
  clear h
  have HC3 := Aside0.mk H
  clear H
  go_enter Try.func10, Try.ntmps10
  go_upto_region 1 with (fail)
  go_cut [12] (fun v12 wc => ∃ (kq : Nat) (x12_2 : Bool), v12 = .bool x12_2 ∧ Aside0 (mintageref04_Pad.j0 kq a0 a1 x12_2 = some (r1, r2)) ∧ Aside0 (kq ≤ k) ∧ Aside0 (Below w.heap.size w wc))
  case first =>
    have H := HC3.out
    clear HC3
    by_cases c4 : a1 < 1
    · rw [if_pos c4] at H
      have c4b0 : decide (a1 < 1) = true := decide_eq_true c4
      clear c4
      (first | rw [c4b0] | (simp only [i64_w, i32_w]; rw [c4b0]) | skip)
      have H' := Aside0.mk H
      clear H
      go_wp2
      go_meet
      case rel => exact ⟨_, (true), (by first | rfl | (simp; done) | (simp [*]; done)), H', ⟨by first | omega | exact Nat.le_refl _⟩, ⟨by repeat (first | (with_reducible first | exact HB.out | apply below_alloc | apply pw_below_drewN | apply below_drew1) | exact HB.out)⟩⟩
    · rw [if_neg c4] at H
      have c4b0 : decide (a1 < 1) = false := decide_eq_false c4
      clear c4
      (first | rw [c4b0] | (simp only [i64_w, i32_w]; rw [c4b0]) | skip)
      have H' := Aside0.mk H
      clear H
      go_wp2
      go_meet
      case rel => exact ⟨_, (decide (a1 > 20)), (by first | rfl | (simp; done) | (simp [*]; done)), H', ⟨by first | omega | exact Nat.le_refl _⟩, ⟨by repeat (first | (with_reducible first | exact HB.out | apply below_alloc | apply pw_below_drewN | apply below_drew1) | exact HB.out)⟩⟩
  case rest =>
    clear HC3
    try clear c1
    try clear p2
    try clear c4
    try clear c4b0
    obtain ⟨kq, x12_2, rfl, HA, HJ2, HB⟩ := hcut
    cases kq with
    | zero => exact absurd HA.out (by simp [mintageref04_Pad.j0])
    | succ kj2 =>
      have H := HA.out
      clear HA
      simp only [mintageref04_Pad.j0] at H
      by_cases c5 : x12_2 = true
      · subst c5
        have H1 : (some (([] : List Int), 42)) = some (r1, r2) := by rw [if_pos rfl] at H; exact H
        clear H
        have H := H1
        clear H1
        simp only [Option.some.injEq, Prod.mk.injEq] at H
        obtain ⟨rfl, rfl⟩ := H
        go_wp2
        go_ret2
        exact ⟨_, by first | rfl | (simp [errW_none, errW_some] <;> rfl) | (simp [*, errW_none, errW_some] <;> rfl), by first | exact Kd.R_nil _ _ _ _ _ | exact Kd.N_nil _ _ _ _ _ | exact Kd.V_nil _ _ _ _ _ | exact Kd.Q_nil _ _ _ _ _ | exact Kd.S_nil _ _ _ _ _, by repeat (first | (with_reducible first | exact HB.out | apply below_alloc | apply pw_below_drewN | apply below_drew1) | exact HB.out)⟩
      · replace c5 := Bool.eq_false_iff.mpr c5
        subst c5
        have H1 : ((mintageref04_Text.f kj2 a0).bind fun t112 => (if (t112.length : Int) > a1 then (some (([] : List Int), 40)) else (mintageref04_Pad.l0 kj2 a1 t112))) = some (r1, r2) := by rw [if_neg (show ¬ (false = true) by decide)] at H; exact H
        clear H
        have H := H1
        clear H1
        replace H := Option.bind_eq_some_iff.mp H
        obtain ⟨t112, A60, H⟩ := H
        replace H : (if (t112.length : Int) > a1 then (some (([] : List Int), 40)) else (mintageref04_Pad.l0 kj2 a1 t112)) = some (r1, r2) := H
        have A6 := Aside0.mk A60
        clear A60
        by_cases c7 : (t112.length : Int) > a1
        · rw [if_pos c7] at H
          have c7b0 : decide (a1 < (t112.length : Int)) = true := decide_eq_true c7
          clear c7
          simp only [Option.some.injEq, Prod.mk.injEq] at H
          obtain ⟨rfl, rfl⟩ := H
          go_wp2_with (first | ((with_reducible refine gate_callee (f := 15) rfl ?_); refine goesL_ (some 14) rfl rfl Try.func15 (by kernel_rfl) rfl #[.int .u64 a0] rfl (by (try simp only [List.map_toArray, List.map_cons, List.map_nil]); first | done | rfl | (simp only [List.length_drop, List.length_take]; rfl)) ?_; (with_reducible refine (mintageref04_Text.calls kj2 a0 t112 _ A6.out).mono ?_); rintro e w8 ⟨v113, rfl, ho0, hb⟩; refine ⟨_, rfl, ?_⟩; have n0_ := Aside0.mk (Kd.R_lower ho0 (below_size (by repeat (first | (with_reducible first | exact HB.out | apply below_alloc | apply pw_below_drewN | apply below_drew1) | exact HB.out)))); have n1_ := Aside0.mk (below_step (by repeat (first | (with_reducible first | exact HB.out | apply below_alloc | apply pw_below_drewN | apply below_drew1) | exact HB.out)) hb); clear HB; have HO114 := n0_; have HB := n1_; clear n0_ n1_; (try clear hb); (try clear hb2); (try clear hk); (try clear hi); (try clear ho0); obtain ⟨Ao9, co9, eo9⟩ := Kd.R_slice HO114.out; subst eo9))
          go_ret2
          exact ⟨_, by first | rfl | (simp [errW_none, errW_some] <;> rfl) | (simp [*, errW_none, errW_some] <;> rfl), by first | exact Kd.R_nil _ _ _ _ _ | exact Kd.N_nil _ _ _ _ _ | exact Kd.V_nil _ _ _ _ _ | exact Kd.Q_nil _ _ _ _ _ | exact Kd.S_nil _ _ _ _ _, by repeat (first | (with_reducible first | exact HB.out | apply below_alloc | apply pw_below_drewN | apply below_drew1) | exact HB.out)⟩
        · rw [if_neg c7] at H
          have c7b0 : decide (a1 < (t112.length : Int)) = false := decide_eq_false c7
          clear c7
          have H' := Aside0.mk H
          clear H
          go_wp2_with (first | ((with_reducible refine gate_callee (f := 15) rfl ?_); refine goesL_ (some 14) rfl rfl Try.func15 (by kernel_rfl) rfl #[.int .u64 a0] rfl (by (try simp only [List.map_toArray, List.map_cons, List.map_nil]); first | done | rfl | (simp only [List.length_drop, List.length_take]; rfl)) ?_; (with_reducible refine (mintageref04_Text.calls kj2 a0 t112 _ A6.out).mono ?_); rintro e w10 ⟨v113, rfl, ho0, hb⟩; refine ⟨_, rfl, ?_⟩; have n0_ := Aside0.mk (Kd.R_lower ho0 (below_size (by repeat (first | (with_reducible first | exact HB.out | apply below_alloc | apply pw_below_drewN | apply below_drew1) | exact HB.out)))); have n1_ := Aside0.mk (below_step (by repeat (first | (with_reducible first | exact HB.out | apply below_alloc | apply pw_below_drewN | apply below_drew1) | exact HB.out)) hb); clear HB; have HO114 := n0_; have HB := n1_; clear n0_ n1_; (try clear hb); (try clear hb2); (try clear hk); (try clear hi); (try clear ho0); obtain ⟨Ao11, co11, eo11⟩ := Kd.R_slice HO114.out; subst eo11))
          go_loopg [6] kj2 (fun kq v6 w' => ∃ (x6_2 : List Int), Aside0 (mintageref04_Pad.l0 kq a1 x6_2 = some (r1, r2)) ∧ Aside0 (kq ≤ kj2) ∧ Aside0 (Kd.R (Kd.int .u8) 5 w' w.heap.size (fun _ => True) v6 x6_2) ∧ Aside0 (Below w.heap.size w w'))
          case atStart => exact ⟨(t112), H', ⟨Nat.le_refl _⟩, ⟨by (with_reducible repeat (first | apply Kd.R_alloc | apply Kd.R_drewN | apply Kd.R_drew)); exact HO114.out⟩, ⟨by repeat (first | (with_reducible first | exact HB.out | apply below_alloc | apply pw_below_drewN | apply below_drew1) | exact HB.out)⟩⟩
          case round =>
            clear H'
            try clear c1
            try clear p2
            try clear c4
            try clear c4b0
            try clear c5
            try clear c7
            try clear c7b0
            try clear c10
            try clear p2
            obtain ⟨x6_2, HA, HK2, HO_6, HB⟩ := hrel
            cases gk with
            | zero => exact absurd HA.out (by simp [mintageref04_Pad.l0])
            | succ k2 =>
              have H := HA.out
              clear HA
              simp only [mintageref04_Pad.l0] at H
              by_cases c12 : (x6_2.length : Int) < a1
              · rw [if_pos c12] at H
                have c12b0 : decide ((x6_2.length : Int) < a1) = true := decide_eq_true c12
                clear c12
                obtain ⟨y115, hy115⟩ : ∃ y_ : List Int, y_ = (([48] : List Int)) := ⟨_, rfl⟩
                replace H : (if y115.length + x6_2.length < 140737488355328 then (mintageref04_Pad.l0 k2 a1 (y115 ++ x6_2)) else (none)) = some (r1, r2) := by first | (rw [hy115]; with_reducible exact H) | (have H2_ := (Option.bind_some _ _).symm.trans H; rw [hy115]; with_reducible exact H2_) | (have H2_ := (Option.bind_some _ _).symm.trans H; with_reducible exact H2_) | with_reducible exact H | (rw [hy115]; exact H) | exact H
                have Ny115 := Aside0.mk hy115
                clear hy115
                by_cases c13 : y115.length + x6_2.length < 140737488355328
                · rw [if_pos c13] at H
                  have LMc13 := Aside0.mk c13
                  clear c13
                  obtain ⟨y118, hy118⟩ : ∃ y_ : List Int, y_ = (y115 ++ x6_2) := ⟨_, rfl⟩
                  replace H : (mintageref04_Pad.l0 k2 a1 y118) = some (r1, r2) := by first | (rw [hy118]; with_reducible exact H) | (have H2_ := (Option.bind_some _ _).symm.trans H; rw [hy118]; with_reducible exact H2_) | (have H2_ := (Option.bind_some _ _).symm.trans H; with_reducible exact H2_) | with_reducible exact H | (rw [hy118]; exact H) | exact H
                  have Ny118 := Aside0.mk hy118
                  clear hy118
                  have H' := Aside0.mk H
                  clear H
                  obtain ⟨Ao14, co14, eo14⟩ := Kd.R_slice HO_6.out
                  subst eo14
                  go_wp2_with (first | ((with_reducible refine gate_dst (N := 23) rfl ?_); refine Kd.R_lit (Kd.int .u8) _ 5 ?hg (N := 23) ?hd (xs := ([48] : List Int)) (inner := [.int .u8 48]) (ok := fun _ => True) (okp := fun _ => True) ?hr ?hp (fun _ hk => hk) trivial (Below.refl _ _) (Nat.le_refl _) (by simp) ?_; (case hd => rfl); (case hg => rfl); (case hr => first | (go_simp; done) | (go_simp; rfl) | (go_simp; simp only [u64_of_u8, i64_of_u8]; done) | (go_simp; simp only [u64_of_u8, i64_of_u8]; rfl)); (case hp => exact (Reps.one (show Kd.M (Kd.int .u8) _ _ _ 48 [.int .u8 48] from rfl) (Reps.none _ _))); intro v116 w15 ho16 hb hg_ hnew_; clear hg_ hnew_; (first | rw [← Ny115.out] at ho16 | (simp only [Int.reduceToNat] at ho16; rw [← Ny115.out] at ho16)); have n0_ := Aside0.mk (Kd.R_elder' (by (with_reducible repeat (first | apply Kd.R_alloc | apply Kd.R_drewN | apply Kd.R_drew)); exact HO_6.out) (Kd.R_base ho16) hb); have n1_ := Aside0.mk (Kd.R_lower (Kd.R_new' ho16 (Kd.R_lt (by (with_reducible repeat (first | apply Kd.R_alloc | apply Kd.R_drewN | apply Kd.R_drew)); exact HO_6.out))) (below_size (by repeat (first | (with_reducible first | exact HB.out | apply below_alloc | apply pw_below_drewN | apply below_drew1) | exact HB.out)))); have n2_ := Aside0.mk (below_step (by repeat (first | (with_reducible first | exact HB.out | apply below_alloc | apply pw_below_drewN | apply below_drew1) | exact HB.out)) hb); clear HO_6; clear HB; have HO_6 := n0_; have HO117 := n1_; have HB := n2_; clear n0_ n1_ n2_; clear hb ho16) | ((with_reducible refine gate_builtin (b := .append) (xs := #[.tmp 23, .tmp 24]) rfl ?_); at_builtin; refine Kd.R_append_rows (Kd.int .u8) (w0 := w) w.heap.size rfl (.tmp 23) (.tmp 24) 29 5 (.int .u8 0) 1 rfl Try.underlying29 info5 rfl (by decide) (by omega) v116 y115 x6_2 _ _ _ (fun k_ => some k_ ≠ (.slice Ao14 x6_2.length co14 : Value).ownBlock) (fun _ => False) rfl rfl ?aO ?aR (fun _ _ h => h) (fun _ h => h.elim) ?aF ?aB ?aS ?aL ?_; (case aR => repeat (first | exact (Kd.R_reads' HO_6.out).2.2 | (with_reducible refine Kd.C_alloc ?_ _) | (with_reducible refine Kd.C_drewN ?_ _) | (with_reducible refine Kd.C_drew ?_))); (case aB => exact (by repeat (first | (with_reducible first | exact HB.out | apply below_alloc | apply pw_below_drewN | apply below_drew1) | exact HB.out))); (case aF => exact (fun k_ hk => Kd.fresh' (Kd.R_lt (by (with_reducible repeat (first | apply Kd.R_alloc | apply Kd.R_drewN | apply Kd.R_drew)); exact HO_6.out)) k_ hk)); (case aO => exact (by (with_reducible repeat (first | apply Kd.R_alloc | apply Kd.R_drewN | apply Kd.R_drew)); exact Kd.R_mono HO117.out (fun _ hk => hk.2))); (case aS => exact (below_size (by repeat (first | (with_reducible first | exact HB.out | apply below_alloc | apply pw_below_drewN | apply below_drew1) | exact HB.out)))); (case aL => have := LMc13.out; omega); intro v119 w17 ho hb hg hat; rw [← Ny118.out] at ho; have n0_ := Aside0.mk (Kd.R_after (ok := (fun _ => True)) (by (with_reducible repeat (first | apply Kd.R_alloc | apply Kd.R_drewN | apply Kd.R_drew)); exact HO_6.out) hg hat); have n1_ := Aside0.mk (hb); have n2_ := Aside0.mk (ho); clear HO_6; clear HB; clear HO117; have HO_6 := n0_; have HB := n1_; have HO120 := n2_; clear n0_ n1_ n2_; clear ho hb hg hat))
                  go_roundg k2
                  case measure => have := HJ2.out; have := HK2.out; omega
                  case rel => exact ⟨(y118), H', ⟨by have := HJ2.out; have := HK2.out; omega⟩, ⟨by (with_reducible repeat (first | apply Kd.R_alloc | apply Kd.R_drewN | apply Kd.R_drew)); exact Kd.R_mono HO120.out (fun _ hk => trivial)⟩, ⟨by repeat (first | (with_reducible first | exact HB.out | apply below_alloc | apply pw_below_drewN | apply below_drew1) | exact HB.out)⟩⟩
                · rw [if_neg c13] at H
                  exact absurd H (by simp)
              · rw [if_neg c12] at H
                have c12b0 : decide ((x6_2.length : Int) < a1) = false := decide_eq_false c12
                clear c12
                simp only [Option.some.injEq, Prod.mk.injEq] at H
                obtain ⟨rfl, rfl⟩ := H
                obtain ⟨Ao18, co18, eo18⟩ := Kd.R_slice HO_6.out
                subst eo18
                go_wp2
                go_ret2
                exact ⟨_, by first | rfl | (simp [errW_none, errW_some] <;> rfl) | (simp [*, errW_none, errW_some] <;> rfl), by (with_reducible repeat (first | apply Kd.R_alloc | apply Kd.R_drewN | apply Kd.R_drew)); exact HO_6.out, by repeat (first | (with_reducible first | exact HB.out | apply below_alloc | apply pw_below_drewN | apply below_drew1) | exact HB.out)⟩

end Go.Proofs.Ytonlkffjpofpoaa.Q

namespace Go.Proofs.Ytonlkffjpofpoaa.Q
open Go.RowKit Go.Proofs.YtonlkffjpofpoaaW.PrintWords Go.Proofs.YtonlkffjpofpoaaW.PrintLast Go.Proofs.YtonlkffjpofpoaaW.PrintMore
attribute [local go_sem] max2_int min2_int max_two min_two max_three min_three max_four min_four   -- for this text's walks alone
set_option linter.unusedVariables false
set_option linter.unusedSimpArgs false

/-! ### mintageref04_Ten: function 12 -/
mutual
def mintageref04_Ten.j0 : Nat → Int → Bool → Option (Int × Int)
  | 0, _, _ => none
  | k + 1, x0, x11 => if x11 = true then (some (0, 42)) else (mintageref04_Ten.l0 k x0 1 0)
def mintageref04_Ten.l0 : Nat → Int → Int → Int → Option (Int × Int)
  | 0, _, _, _ => none
  | k + 1, x0, x4, x5 => if x5 < x0 then (mintageref04_Ten.l0 k x0 (IntKind.u64.wrap (10 * x4)) (wrap64 (x5 + 1))) else (some (x4, 0))
end
def mintageref04_Ten.f (k : Nat) (a0 : Int) : Option (Int × Int) := if a0 < 0 then (mintageref04_Ten.j0 k a0 true) else (mintageref04_Ten.j0 k a0 (decide (a0 > 19)))
theorem mintageref04_Ten.mono_l : ∀ k, (∀ y0 y1, LeO (mintageref04_Ten.j0 k y0 y1) (mintageref04_Ten.j0 (k + 1) y0 y1)) ∧ (∀ y0 y1 y2, LeO (mintageref04_Ten.l0 k y0 y1 y2) (mintageref04_Ten.l0 (k + 1) y0 y1 y2))
  | 0 => ⟨fun _ _ r h => by simp [mintageref04_Ten.j0] at h, fun _ _ _ r h => by simp [mintageref04_Ten.l0] at h⟩
  | k + 1 => by
    obtain ⟨ih0, ih1⟩ := mintageref04_Ten.mono_l k
    refine ⟨?_, ?_⟩
    · intro y0 y1
      unfold mintageref04_Ten.j0
      repeat' first
      | (with_reducible exact ih0 _ _)
      | (with_reducible exact ih1 _ _ _)
      | (with_reducible exact LeO.refl _)
      | (with_reducible exact LeO.none _)
      | (with_reducible refine LeO.ite ?_ ?_)
      | (with_reducible refine LeO.bind ?_ (fun _ => ?_))
      | exact ih0 _ _
      | exact ih1 _ _ _
      | exact LeO.none _
      | refine LeO.ite ?_ ?_
      | refine LeO.bind ?_ (fun _ => ?_)
    · intro y0 y1 y2
      unfold mintageref04_Ten.l0
      repeat' first
      | (with_reducible exact ih0 _ _)
      | (with_reducible exact ih1 _ _ _)
      | (with_reducible exact LeO.refl _)
      | (with_reducible exact LeO.none _)
      | (with_reducible refine LeO.ite ?_ ?_)
      | (with_reducible refine LeO.bind ?_ (fun _ => ?_))
      | exact ih0 _ _
      | exact ih1 _ _ _
      | exact LeO.none _
      | refine LeO.ite ?_ ?_
      | refine LeO.bind ?_ (fun _ => ?_)
theorem mintageref04_Ten.mono : ∀ a0 k, LeO (mintageref04_Ten.f k a0) (mintageref04_Ten.f (k + 1) a0) := by
  intro a0 k
  obtain ⟨ih0, ih1⟩ := mintageref04_Ten.mono_l k
  unfold mintageref04_Ten.f
  repeat' first
      | (with_reducible exact ih0 _ _)
      | (with_reducible exact ih1 _ _ _)
      | (with_reducible exact LeO.refl _)
      | (with_reducible exact LeO.none _)
      | (with_reducible refine LeO.ite ?_ ?_)
      | (with_reducible refine LeO.bind ?_ (fun _ => ?_))
      | exact ih0 _ _
      | exact ih1 _ _ _
      | exact LeO.none _
      | refine LeO.ite ?_ ?_
      | refine LeO.bind ?_ (fun _ => ?_)
set_option maxHeartbeats 8000000 in
set_option maxRecDepth 100000 in
theorem mintageref04_Ten.calls (k : Nat) (a0 : Int) (r1 : Int) (r2 : Int) (w : World) (h : mintageref04_Ten.f k a0 = some (r1, r2)) :
    Calls Try.prog 12 #[.int .i64 a0] w fun e w' => e = .returned (.tuple #[.int .u64 r1, .int .i64 r2]) ∧ Drawn0 w w' := by
  have H : (if a0 < 0 then (mintageref04_Ten.j0 k a0 true) else (mintageref04_Ten.j0 k a0 (decide (a0 > 19)))) = some (r1, r2) := h
  clear h
  have HC2 := Aside0.mk H
  clear H
  go_enter Try.func12, Try.ntmps12
  go_upto_region 1 with (fail)
  go_cut [11] (fun v11 wc => ∃ (kq : Nat) (x11_1 : Bool), v11 = .bool x11_1 ∧ Aside0 (mintageref04_Ten.j0 kq a0 x11_1 = some (r1, r2)) ∧ Aside0 (kq ≤ k) ∧ Drawn0 w wc)
  case first =>
    have H := HC2.out
    clear HC2
    by_cases c3 : a0 < 0
    · rw [if_pos c3] at H
      have c3b0 : decide (a0 < 0) = true := decide_eq_true c3
      clear c3
      (first | rw [c3b0] | (simp only [i64_w, i32_w]; rw [c3b0]) | skip)
      have H' := Aside0.mk H
      clear H
      go_wp2
      go_meet
      case rel => exact ⟨_, (true), (by first | rfl | (simp; done) | (simp [*]; done)), H', ⟨by first | omega | exact Nat.le_refl _⟩, by repeat (first | exact Drawn0.refl _ | apply Drawn0.step)⟩
    · rw [if_neg c3] at H
      have c3b0 : decide (a0 < 0) = false := decide_eq_false c3
      clear c3
      (first | rw [c3b0] | (simp only [i64_w, i32_w]; rw [c3b0]) | skip)
      have H' := Aside0.mk H
      clear H
      go_wp2
      go_meet
      case rel => exact ⟨_, (decide (a0 > 19)), (by first | rfl | (simp; done) | (simp [*]; done)), H', ⟨by first | omega | exact Nat.le_refl _⟩, by repeat (first | exact Drawn0.refl _ | apply Drawn0.step)⟩
  case rest =>
    clear HC2
    try clear c1
    try clear p2
    try clear c3
    try clear c3b0
    obtain ⟨kq, x11_1, rfl, HA, HJ1, ⟨mc1, rfl⟩⟩ := hcut
    cases kq with
    | zero => exact absurd HA.out (by simp [mintageref04_Ten.j0])
    | succ kj1 =>
      have H := HA.out
      clear HA
      simp only [mintageref04_Ten.j0] at H
      by_cases c4 : x11_1 = true
      · subst c4
        have H1 : (some (0, 42)) = some (r1, r2) := by rw [if_pos rfl] at H; exact H
        clear H
        have H := H1
        clear H1
        simp only [Option.some.injEq, Prod.mk.injEq] at H
        obtain ⟨rfl, rfl⟩ := H
        go_wp2
        go_ret2
        exact ⟨by first | rfl | (simp; done) | (simp [*]; done), by repeat (first | exact Drawn0.refl _ | apply Drawn0.step)⟩
      · replace c4 := Bool.eq_false_iff.mpr c4
        subst c4
        have H1 : (mintageref04_Ten.l0 kj1 a0 1 0) = some (r1, r2) := by rw [if_neg (show ¬ (false = true) by decide)] at H; exact H
        clear H
        have H := H1
        clear H1
        have H' := Aside0.mk H
        clear H
        go_wp2
        go_loopg [4, 5] kj1 (fun kq v4 v5 w' => ∃ (x4_2 : Int) (x5_2 : Int), v4 = .int .u64 x4_2 ∧ v5 = .int .i64 x5_2 ∧ Aside0 (mintageref04_Ten.l0 kq a0 x4_2 x5_2 = some (r1, r2)) ∧ Aside0 (kq ≤ kj1) ∧ Drawn0 w w')
        case atStart => exact ⟨(1), (0), (by first | rfl | (simp; done) | (simp [*]; done)), (by first | rfl | (simp; done) | (simp [*]; done)), H', ⟨Nat.le_refl _⟩, by repeat (first | exact Drawn0.refl _ | apply Drawn0.step)⟩
        case round =>
          clear H'
          try clear c1
          try clear p2
          try clear c3
          try clear c3b0
          try clear c4
          try clear p2
          obtain ⟨x4_2, x5_2, rfl, rfl, HA, HK2, ⟨m2, rfl⟩⟩ := hrel
          cases gk with
          | zero => exact absurd HA.out (by simp [mintageref04_Ten.l0])
          | succ k2 =>
            have H := HA.out
            clear HA
            simp only [mintageref04_Ten.l0] at H
            by_cases c5 : x5_2 < a0
            · rw [if_pos c5] at H
              have c5b0 : decide (x5_2 < a0) = true := decide_eq_true c5
              clear c5
              have H' := Aside0.mk H
              clear H
              go_wp2
              go_roundg k2
              case measure => have := HJ1.out; have := HK2.out; omega
              case rel => exact ⟨(IntKind.u64.wrap (10 * x4_2)), (wrap64 (x5_2 + 1)), (by first | rfl | (simp; done) | (simp [*]; done)), (by first | rfl | (simp; done) | (simp [*]; done)), H', ⟨by have := HJ1.out; have := HK2.out; omega⟩, by repeat (first | exact Drawn0.refl _ | apply Drawn0.step)⟩
            · rw [if_neg c5] at H
              have c5b0 : decide (x5_2 < a0) = false := decide_eq_false c5
              clear c5
              simp only [Option.some.injEq, Prod.mk.injEq] at H
              obtain ⟨rfl, rfl⟩ := H
              go_wp2
              go_ret2
              exact ⟨by first | rfl | (simp; done) | (simp [*]; done), by repeat (first | exact Drawn0.refl _ | apply Drawn0.step)⟩

end Go.Proofs.Ytonlkffjpofpoaa.Q

namespace Go.Proofs.Ytonlkffjpofpoaa.Q
open Go.RowKit Go.Proofs.YtonlkffjpofpoaaW.PrintWords Go.Proofs.YtonlkffjpofpoaaW.PrintLast Go.Proofs.YtonlkffjpofpoaaW.PrintMore
attribute [local go_sem] max2_int min2_int max_two min_two max_three min_three max_four min_four   -- for this text's walks alone
set_option linter.unusedVariables false
set_option linter.unusedSimpArgs false

/-! ### digit_Count: function 17 -/
def digit_Count.l0 : Nat → Int → Int → Option (Int)
  | 0, _, _ => none
  | k + 1, x0, x3 => if x0 > 9 then (digit_Count.l0 k (IntKind.u64.wrap (Int.tdiv x0 10)) (wrap64 (x3 + 1))) else (some x3)
def digit_Count.f (k : Nat) (a0 : Int) : Option (Int) := digit_Count.l0 k a0 1
theorem digit_Count.mono_l : ∀ k, (∀ y0 y1, LeO (digit_Count.l0 k y0 y1) (digit_Count.l0 (k + 1) y0 y1))
  | 0 => fun _ _ r h => by simp [digit_Count.l0] at h
  | k + 1 => by
    have ih0 := digit_Count.mono_l k
    · intro y0 y1
      unfold digit_Count.l0
      repeat' first
      | (with_reducible exact ih0 _ _)
      | (with_reducible exact LeO.refl _)
      | (with_reducible exact LeO.none _)
      | (with_reducible refine LeO.ite ?_ ?_)
      | (with_reducible refine LeO.bind ?_ (fun _ => ?_))
      | exact ih0 _ _
      | exact LeO.none _
      | refine LeO.ite ?_ ?_
      | refine LeO.bind ?_ (fun _ => ?_)
theorem digit_Count.mono : ∀ a0 k, LeO (digit_Count.f k a0) (digit_Count.f (k + 1) a0) := by
  intro a0 k
  have ih0 := digit_Count.mono_l k
  unfold digit_Count.f
  repeat' first
      | (with_reducible exact ih0 _ _)
      | (with_reducible exact LeO.refl _)
      | (with_reducible exact LeO.none _)
      | (with_reducible refine LeO.ite ?_ ?_)
      | (with_reducible refine LeO.bind ?_ (fun _ => ?_))
      | exact ih0 _ _
      | exact LeO.none _
      | refine LeO.ite ?_ ?_
      | refine LeO.bind ?_ (fun _ => ?_)
set_option maxHeartbeats 8000000 in
set_option maxRecDepth 100000 in
theorem digit_Count.calls (k : Nat) (a0 : Int) (r : Int) (w : World) (h : digit_Count.f k a0 = some r) :
    Calls Try.prog 17 #[.int .u64 a0] w fun e w' => e = .returned (.int .i64 r) ∧ Drawn0 w w' := by
  have H : (digit_Count.l0 k a0 1) = some r := h
  clear h
  have H' := Aside0.mk H
  clear H
  go_enter Try.func17, Try.ntmps17
  go_wp2
  go_loopg [0, 3] k (fun kq v0 v3 w' => ∃ (x0_1 : Int) (x3_1 : Int), v0 = .int .u64 x0_1 ∧ v3 = .int .i64 x3_1 ∧ Aside0 (digit_Count.l0 kq x0_1 x3_1 = some r) ∧ Aside0 (kq ≤ k) ∧ Drawn0 w w')
  case atStart => exact ⟨(a0), (1), (by first | rfl | (simp; done) | (simp [*]; done)), (by first | rfl | (simp; done) | (simp [*]; done)), H', ⟨Nat.le_refl _⟩, by repeat (first | exact Drawn0.refl _ | apply Drawn0.step)⟩
  case round =>
    clear H'
    try clear c1
    obtain ⟨x0_1, x3_1, rfl, rfl, HA, HK1, ⟨m1, rfl⟩⟩ := hrel
    cases gk with
    | zero => exact absurd HA.out (by simp [digit_Count.l0])
    | succ k1 =>
      have H := HA.out
      clear HA
      simp only [digit_Count.l0] at H
      by_cases c2 : x0_1 > 9
      · rw [if_pos c2] at H
        have c2b0 : decide (9 < x0_1) = true := decide_eq_true c2
        clear c2
        have H' := Aside0.mk H
        clear H
        go_wp2
        go_roundg k1
        case measure => have := HK1.out; omega
        case rel => exact ⟨(IntKind.u64.wrap (Int.tdiv x0_1 10)), (wrap64 (x3_1 + 1)), (by first | rfl | (simp; done) | (simp [*]; done)), (by first | rfl | (simp; done) | (simp [*]; done)), H', ⟨by have := HK1.out; omega⟩, by repeat (first | exact Drawn0.refl _ | apply Drawn0.step)⟩
      · rw [if_neg c2] at H
        have c2b0 : decide (9 < x0_1) = false := decide_eq_false c2
        clear c2
        obtain rfl := Option.some.inj H
        go_wp2
        go_ret
        exact ⟨by first | rfl | (simp; done) | (simp [*]; done), by repeat (first | exact Drawn0.refl _ | apply Drawn0.step)⟩

end Go.Proofs.Ytonlkffjpofpoaa.Q

namespace Go.Proofs.Ytonlkffjpofpoaa.Q
open Go.RowKit Go.Proofs.YtonlkffjpofpoaaW.PrintWords Go.Proofs.YtonlkffjpofpoaaW.PrintLast Go.Proofs.YtonlkffjpofpoaaW.PrintMore
attribute [local go_sem] max2_int min2_int max_two min_two max_three min_three max_four min_four   -- for this text's walks alone
set_option linter.unusedVariables false
set_option linter.unusedSimpArgs false

/-! ### digit_Pad: function 9 -/
section
/-- The last digit, as a byte, and what is left: as Go reckons it. -/
def digit_Pad.dg (x : Int) : Int := (IntKind.u64.wrap (48 + Int.tmod x 10)) % 256
def digit_Pad.nx (x : Int) : Int := IntKind.u64.wrap (Int.tdiv x 10)
/-- n digits of a number. -/
def digit_Pad.D : Nat → Int → List Int
  | 0, _ => []
  | n + 1, x => digit_Pad.D n (digit_Pad.nx x) ++ [digit_Pad.dg x]
theorem digit_Pad.D_length : ∀ (n : Nat) (x : Int), (digit_Pad.D n x).length = n
  | 0, _ => rfl
  | n + 1, x => by simp [digit_Pad.D, digit_Pad.D_length n]
def digit_Pad.f (k : Nat) (a0 : Int) (a1 : Int) : Option (List Int × Int) :=
  if a1 < 1 then some ([], 42) else if a1 > 20 then some ([], 42) else
    (digit_Count.f k a0).bind fun c => if c > a1 then some ([], 40) else some (digit_Pad.D a1.toNat a0, 0)
theorem digit_Pad.mono : ∀ a0 a1 k, LeO (digit_Pad.f k a0 a1) (digit_Pad.f (k + 1) a0 a1) := by
  intro a0 a1 k
  unfold digit_Pad.f
  refine LeO.ite (LeO.refl _) (LeO.ite (LeO.refl _) (LeO.bind (digit_Count.mono _ _) (fun _ => LeO.refl _)))
set_option maxHeartbeats 1000000 in
theorem digit_Pad.callsA (k : Nat) (a0 a1 : Int) (w : World) (h1 : a1 < 1) :
    Calls Try.prog 9 #[.int .u64 a0, .int .i64 a1] w fun e w' => ∃ v0_ : Value, e = .returned (.tuple #[v0_, .int .i64 42]) ∧ Kd.R (Kd.int .u8) 5 w' w.heap.size (fun _ => True) v0_ [] ∧ Below w.heap.size w w' := by
  go_enter Try.func9, Try.ntmps9
  go_wp2_with fail
  go_ret2
  exact ⟨_, rfl, Kd.R_nil _ _ _ _ _, Below.refl _ _⟩
set_option maxHeartbeats 1000000 in
theorem digit_Pad.callsB (k : Nat) (a0 a1 : Int) (w : World) (h1 : ¬ a1 < 1) (h2 : a1 > 20) :
    Calls Try.prog 9 #[.int .u64 a0, .int .i64 a1] w fun e w' => ∃ v0_ : Value, e = .returned (.tuple #[v0_, .int .i64 42]) ∧ Kd.R (Kd.int .u8) 5 w' w.heap.size (fun _ => True) v0_ [] ∧ Below w.heap.size w w' := by
  go_enter Try.func9, Try.ntmps9
  go_wp2_with fail
  go_ret2
  exact ⟨_, rfl, Kd.R_nil _ _ _ _ _, Below.refl _ _⟩
set_option maxHeartbeats 1000000 in
theorem digit_Pad.callsC (k : Nat) (a0 a1 c : Int) (w : World) (h1 : ¬ a1 < 1) (h2 : ¬ a1 > 20) (hc : digit_Count.f k a0 = some c) (h3 : c > a1) :
    Calls Try.prog 9 #[.int .u64 a0, .int .i64 a1] w fun e w' => ∃ v0_ : Value, e = .returned (.tuple #[v0_, .int .i64 40]) ∧ Kd.R (Kd.int .u8) 5 w' w.heap.size (fun _ => True) v0_ [] ∧ Below w.heap.size w w' := by
  have HC := Aside0.mk hc
  clear hc
  go_enter Try.func9, Try.ntmps9
  go_wp2_with (first | (go_at_call 17; refine (digit_Count.calls k a0 c _ HC.out).mono ?_; rintro e w1 ⟨rfl, hd⟩))
  go_ret2
  exact ⟨_, rfl, Kd.R_nil _ _ _ _ _, hd.below⟩
theorem digit_Pad.set_row (n m : Nat) (ds : List Int) (u : Int) (x : Value) :
    (nums .u8 (List.replicate (n + 1) 0 ++ ds ++ List.replicate m 0)).toArray.setIfInBounds n (.int .u8 u) = (nums .u8 (List.replicate n 0 ++ (u :: ds) ++ List.replicate m 0)).toArray := by
  have h : (nums .u8 (List.replicate (n + 1) 0 ++ ds ++ List.replicate m 0)) = nums .u8 (List.replicate n 0) ++ (.int .u8 0) :: nums .u8 (ds ++ List.replicate m 0) := by
    rw [List.replicate_succ']; simp [nums]
  have h' : (nums .u8 (List.replicate n 0 ++ (u :: ds) ++ List.replicate m 0)) = nums .u8 (List.replicate n 0) ++ (.int .u8 u) :: nums .u8 (ds ++ List.replicate m 0) := by simp [nums]
  rw [h, h', List.setIfInBounds_toArray]
  congr 1
  have hl : (nums IntKind.u8 (List.replicate n 0)).length = n := by simp [nums]
  rw [List.set_append_right _ _ (by omega)]
  rw [hl, Nat.sub_self]; rfl
set_option maxHeartbeats 4000000 in
set_option maxRecDepth 100000 in
theorem digit_Pad.callsD (k : Nat) (a0 : Int) (wd : Nat) (c : Int) (w : World) (h1 : 1 ≤ wd) (h2 : wd ≤ 20) (hc : digit_Count.f k a0 = some c) (h3 : ¬ c > (wd : Int)) :
    Calls Try.prog 9 #[.int .u64 a0, .int .i64 (wd : Int)] w fun e w' => ∃ v0_ : Value, e = .returned (.tuple #[v0_, .int .i64 0]) ∧ Kd.R (Kd.int .u8) 5 w' w.heap.size (fun _ => True) v0_ (digit_Pad.D wd a0) ∧ Below w.heap.size w w' := by
  have HC := Aside0.mk hc
  clear hc
  have g1 : ¬ (wd : Int) < 1 := by omega
  have g2 : ¬ (wd : Int) > 20 := by omega
  have g3 : IntKind.i64.wrap ((wd : Int) - 1) = (wd : Int) - 1 := by rw [IntKind.wrap_i64]; omega
  go_enter Try.func9, Try.ntmps9
  go_wp2_with (first | (go_at_call 17; refine (digit_Count.calls k a0 c _ HC.out).mono ?_; rintro e w1 ⟨rfl, hd⟩))
  have hB1 := Aside0.mk hd.below
  clear hd
  have hsz : w.heap.size ≤ w1.heap.size := hB1.out.size
  generalize hg : w1.heap.size = g at *
  have hstart : w1.heap.size = g := hg
  have Hg := Aside0.mk hstart
  clear hg hstart
  go_loopw [0, 7] (fun x i wr => ∃ (n : Nat) (y : Int) (ds : List Int), n ≤ wd ∧ Aside0 (ds.length = wd - n) ∧ x = .int .u64 y ∧ i = .int .i64 ((n : Int) - 1) ∧ Aside0 (digit_Pad.D wd a0 = digit_Pad.D n y ++ ds) ∧
      Aside0 (wr.heap[g]? = some (.cells (nums .u8 (List.replicate n 0 ++ ds ++ List.replicate (20 - wd) 0)).toArray 58 (0, 0))) ∧ Aside0 (Below w.heap.size w wr))
    (fun _ i _ => (intOf i + 1).toNat)
  case atStart =>
    refine ⟨wd, a0, [], Nat.le_refl _, ⟨by simp⟩, rfl, rfl, ⟨by simp⟩, ⟨?_⟩, ⟨?_⟩⟩
    · have hn := heap_alloc_new w1 (.cells (nums .u8 (List.replicate 20 0)).toArray 58)
      rw [Hg.out] at hn
      have hw : List.replicate wd (0 : Int) ++ [] ++ List.replicate (20 - wd) 0 = List.replicate 20 0 := by
        rw [List.append_nil, List.replicate_append_replicate]; congr 1; omega
      rw [hw]
      exact hn
    · exact hB1.out.alloc (by rw [Hg.out]; exact hsz) _
  case round =>
    obtain ⟨n, y, ds, hn, hds, rfl, rfl, hD, hh, hb⟩ := hrel
    rcases Nat.eq_zero_or_pos n with rfl | hpos
    · have hneg : ¬ ((0 : Nat) : Int) - 1 ≥ 0 := by omega
      have hcells : ReadsInt wr .u8 (some ⟨g, 0, none⟩) wd (digit_Pad.D wd a0) := by
        have hlen := hds.out
        have e := hD.out
        simp only [digit_Pad.D, List.nil_append] at e
        rw [e]
        refine ⟨by omega, by omega, fun _ => ⟨_, rfl, fun j hj => ?_⟩⟩
        rw [add_plain, blk_cell hh.out]
        simp [nums, List.getElem?_append, hlen, hj, List.getD_eq_getElem?_getD]
      go_wp2_with (first | (at_builtin; refine print_append_row (w0 := w) w.heap.size rfl _ _ 29 5 .u8 1 rfl Try.underlying29 info5 (by decide) (.slice none 0 0) [] (digit_Pad.D wd a0) _ _ _ rfl rfl (own_nil _ _ _ _) hcells hb.out hb.out.size (by simp; omega) ?_; intro v1 w2 ho hb2 hg2 hat))
      go_ret2
      refine ⟨v1, rfl, ?_, hb2⟩
      rw [List.nil_append] at ho
      exact Kd.R_of_own ho (fun _ _ => trivial)
    · obtain ⟨m, rfl⟩ : ∃ m, n = m + 1 := ⟨n - 1, by omega⟩
      have ei : (((m + 1 : Nat) : Int)) - 1 = (m : Int) := by omega
      rw [ei]
      have hm20 : (m : Int) < 20 := by omega
      have hm0 : (0 : Int) ≤ (m : Int) := by omega
      have hge : (m : Int) ≥ 0 := hm0
      have hcell : wr.cell? ⟨g, m, none⟩ = some (.int .u8 0) := by
        rw [blk_cell hh.out]
        simp [nums, List.getElem?_append, List.getElem?_replicate]
      have hfr : wr.frozen? ⟨g, m, none⟩ = false := blk_frozen hh.out m
      go_wp2_with fail
      go_roundw
      case rel =>
        refine ⟨m, digit_Pad.nx y, digit_Pad.dg y :: ds, by omega, ⟨by have := hds.out; simp; omega⟩, rfl, (by first | rfl | go_num), ⟨by rw [hD.out]; simp [digit_Pad.D]⟩, ⟨?_⟩, ⟨below_set hb.out (by have := hB1.out.size; have := Hg.out; omega)⟩⟩
        rw [← digit_Pad.set_row m _ ds (digit_Pad.dg y) (.int .u8 0)]
        exact blk_set hh.out m _
      case measure => (simp [intOf] <;> omega)
theorem digit_Pad.calls (k : Nat) (a0 : Int) (a1 : Int) (r1 : List Int) (r2 : Int) (w : World) (h : digit_Pad.f k a0 a1 = some (r1, r2)) :
    Calls Try.prog 9 #[.int .u64 a0, .int .i64 a1] w fun e w' => ∃ v0_ : Value, e = .returned (.tuple #[v0_, .int .i64 r2]) ∧ Kd.R (Kd.int .u8) 5 w' w.heap.size (fun _ => True) v0_ r1 ∧ Below w.heap.size w w' := by
  unfold digit_Pad.f at h
  by_cases h1 : a1 < 1
  · rw [if_pos h1] at h; simp only [Option.some.injEq, Prod.mk.injEq] at h; obtain ⟨rfl, rfl⟩ := h
    exact digit_Pad.callsA k a0 a1 w h1
  · rw [if_neg h1] at h
    by_cases h2 : a1 > 20
    · rw [if_pos h2] at h; simp only [Option.some.injEq, Prod.mk.injEq] at h; obtain ⟨rfl, rfl⟩ := h
      exact digit_Pad.callsB k a0 a1 w h1 h2
    · rw [if_neg h2] at h
      obtain ⟨c, hc, h⟩ := Option.bind_eq_some_iff.1 h
      by_cases h3 : c > a1
      · rw [if_pos h3] at h; simp only [Option.some.injEq, Prod.mk.injEq] at h; obtain ⟨rfl, rfl⟩ := h
        exact digit_Pad.callsC k a0 a1 c w h1 h2 hc h3
      · rw [if_neg h3] at h; simp only [Option.some.injEq, Prod.mk.injEq] at h; obtain ⟨rfl, rfl⟩ := h
        obtain ⟨wd, rfl⟩ : ∃ wd : Nat, a1 = (wd : Int) := ⟨a1.toNat, by omega⟩
        rw [Int.toNat_natCast]
        exact digit_Pad.callsD k a0 wd c w (by omega) (by omega) hc h3

end

end Go.Proofs.Ytonlkffjpofpoaa.Q

namespace Go.Proofs.Ytonlkffjpofpoaa.Q
open Go.RowKit Go.Proofs.YtonlkffjpofpoaaW.PrintWords Go.Proofs.YtonlkffjpofpoaaW.PrintLast Go.Proofs.YtonlkffjpofpoaaW.PrintMore
attribute [local go_sem] max2_int min2_int max_two min_two max_three min_three max_four min_four   -- for this text's walks alone
set_option linter.unusedVariables false
set_option linter.unusedSimpArgs false

/-! ### digit_Text: function 8 -/
def digit_Text.f (k : Nat) (a0 : Int) : Option (List Int) := (digit_Count.f k a0).bind fun t101 => ((digit_Pad.f k a0 t101).bind fun bt102 => (some bt102.1))
theorem digit_Text.mono : ∀ a0 k, LeO (digit_Text.f k a0) (digit_Text.f (k + 1) a0) := by
  intro a0 k
  unfold digit_Text.f
  repeat' first
      | (with_reducible exact digit_Count.mono _ _)
      | (with_reducible exact digit_Pad.mono _ _ _)
      | (with_reducible exact LeO.refl _)
      | (with_reducible exact LeO.none _)
      | (with_reducible refine LeO.ite ?_ ?_)
      | (with_reducible refine LeO.bind ?_ (fun _ => ?_))
      | exact digit_Count.mono _ _
      | exact digit_Pad.mono _ _ _
      | exact LeO.none _
      | refine LeO.ite ?_ ?_
      | refine LeO.bind ?_ (fun _ => ?_)
set_option maxHeartbeats 8000000 in
set_option maxRecDepth 100000 in
theorem digit_Text.calls (k : Nat) (a0 : Int) (r : List Int) (w : World) (h : digit_Text.f k a0 = some r) :
    Calls Try.prog 8 #[.int .u64 a0] w fun e w' => ∃ v0_ : Value, e = .returned (v0_) ∧ Kd.R (Kd.int .u8) 5 w' w.heap.size (fun _ => True) v0_ r ∧ Below w.heap.size w w' := by
  have HB := Aside0.mk (Below.refl w.heap.size w)
  have H : ((digit_Count.f k a0).bind fun t101 => ((digit_Pad.f k a0 t101).bind fun bt102 => (some bt102.1))) = some r := h
  clear h
  replace H := Option.bind_eq_some_iff.mp H
  obtain ⟨t101, A20, H⟩ := H
  replace H : ((digit_Pad.f k a0 t101).bind fun bt102 => (some bt102.1)) = some r := H
  have A2 := Aside0.mk A20
  clear A20
  replace H := Option.bind_eq_some_iff.mp H
  obtain ⟨⟨t102, t103⟩, A30, H⟩ := H
  replace H : (some t102) = some r := H
  have A3 := Aside0.mk A30
  clear A30
  obtain rfl := Option.some.inj H
  go_enter Try.func8, Try.ntmps8
  go_wp2_with (first | ((with_reducible refine gate_callee (f := 17) rfl ?_); refine goesL_ (some 8) rfl rfl Try.func17 (by kernel_rfl) rfl #[.int .u64 a0] rfl (by (try simp only [List.map_toArray, List.map_cons, List.map_nil]); first | done | rfl | (simp only [List.length_drop, List.length_take]; rfl)) ?_; (with_reducible refine (digit_Count.calls k a0 t101 _ A2.out).mono ?_); rintro e w' ⟨rfl, ⟨nd, rfl⟩⟩; refine ⟨_, rfl, ?_⟩) | ((with_reducible refine gate_callee (f := 9) rfl ?_); refine goesL_ (some 9) rfl rfl Try.func9 (by kernel_rfl) rfl #[.int .u64 a0, .int .i64 t101] rfl (by (try simp only [List.map_toArray, List.map_cons, List.map_nil]); first | done | rfl | (simp only [List.length_drop, List.length_take]; rfl)) ?_; (with_reducible refine (digit_Pad.calls k a0 t101 t102 t103 _ A3.out).mono ?_); rintro e w4 ⟨v104, rfl, ho0, hb⟩; refine ⟨_, rfl, ?_⟩; have n0_ := Aside0.mk (Kd.R_lower ho0 (below_size (by repeat (first | (with_reducible first | exact HB.out | apply below_alloc | apply pw_below_drewN | apply below_drew1) | exact HB.out)))); have n1_ := Aside0.mk (below_step (by repeat (first | (with_reducible first | exact HB.out | apply below_alloc | apply pw_below_drewN | apply below_drew1) | exact HB.out)) hb); clear HB; have HO105 := n0_; have HB := n1_; clear n0_ n1_; (try clear hb); (try clear hb2); (try clear hk); (try clear hi); (try clear ho0)))
  go_ret
  exact ⟨_, by first | rfl | (simp [errW_none, errW_some] <;> rfl) | (simp [*, errW_none, errW_some] <;> rfl), by (with_reducible repeat (first | apply Kd.R_alloc | apply Kd.R_drewN | apply Kd.R_drew)); exact HO105.out, by repeat (first | (with_reducible first | exact HB.out | apply below_alloc | apply pw_below_drewN | apply below_drew1) | exact HB.out)⟩

end Go.Proofs.Ytonlkffjpofpoaa.Q

namespace Go.Proofs.Ytonlkffjpofpoaa.Q
open Go.RowKit Go.Proofs.YtonlkffjpofpoaaW.PrintWords Go.Proofs.YtonlkffjpofpoaaW.PrintLast Go.Proofs.YtonlkffjpofpoaaW.PrintMore
attribute [local go_sem] max2_int min2_int max_two min_two max_three min_three max_four min_four   -- for this text's walks alone
set_option linter.unusedVariables false
set_option linter.unusedSimpArgs false

/-! ### mintagekeep_Within: function 21 -/
def mintagekeep_Within.f (a0 : Int) (a1 : Int) (a2 : Int) : Option (Int) := if (wrap64 ((wrap64 (a2 - a1)) + 1)) = 0 then (none) else (if (Int.tmod a0 (wrap64 ((wrap64 (a2 - a1)) + 1))) < 0 then (some (wrap64 (a1 + (wrap64 ((Int.tmod a0 (wrap64 ((wrap64 (a2 - a1)) + 1))) + (wrap64 ((wrap64 (a2 - a1)) + 1))))))) else (some (wrap64 (a1 + (Int.tmod a0 (wrap64 ((wrap64 (a2 - a1)) + 1)))))))
set_option maxHeartbeats 8000000 in
set_option maxRecDepth 100000 in
theorem mintagekeep_Within.calls (a0 : Int) (a1 : Int) (a2 : Int) (r : Int) (w : World) (h : mintagekeep_Within.f a0 a1 a2 = some r) :
    Calls Try.prog 21 #[.int .i64 a0, .int .i64 a1, .int .i64 a2] w fun e w' => e = .returned (.int .i64 r) ∧ Drawn0 w w' := by
  have H : (if (wrap64 ((wrap64 (a2 - a1)) + 1)) = 0 then (none) else (if (Int.tmod a0 (wrap64 ((wrap64 (a2 - a1)) + 1))) < 0 then (some (wrap64 (a1 + (wrap64 ((Int.tmod a0 (wrap64 ((wrap64 (a2 - a1)) + 1))) + (wrap64 ((wrap64 (a2 - a1)) + 1))))))) else (some (wrap64 (a1 + (Int.tmod a0 (wrap64 ((wrap64 (a2 - a1)) + 1)))))))) = some r := h
  clear h
  by_cases c4 : (wrap64 ((wrap64 (a2 - a1)) + 1)) = 0
  · rw [if_pos c4] at H
    exact absurd H (by simp)
  · rw [if_neg c4] at H
    have c4b0 : ((wrap64 ((wrap64 (a2 - a1)) + 1)) == 0) = false := beq_eq_false_iff_ne.mpr c4
    have c4b1 : ((wrap64 ((wrap64 (a2 - a1)) + 1)) != 0) = true := bne_iff_ne.mpr c4
    by_cases c5 : (Int.tmod a0 (wrap64 ((wrap64 (a2 - a1)) + 1))) < 0
    · rw [if_pos c5] at H
      have c5b0 : decide ((Int.tmod a0 (wrap64 ((wrap64 (a2 - a1)) + 1))) < 0) = true := decide_eq_true c5
      clear c5
      obtain rfl := Option.some.inj H
      go_enter Try.func21, Try.ntmps21
      go_wp2
      go_ret
      exact ⟨by first | rfl | (simp; done) | (simp [*]; done), by repeat (first | exact Drawn0.refl _ | apply Drawn0.step)⟩
    · rw [if_neg c5] at H
      have c5b0 : decide ((Int.tmod a0 (wrap64 ((wrap64 (a2 - a1)) + 1))) < 0) = false := decide_eq_false c5
      clear c5
      obtain rfl := Option.some.inj H
      go_enter Try.func21, Try.ntmps21
      go_wp2
      go_ret
      exact ⟨by first | rfl | (simp; done) | (simp [*]; done), by repeat (first | exact Drawn0.refl _ | apply Drawn0.step)⟩

end Go.Proofs.Ytonlkffjpofpoaa.Q

namespace Go.Proofs.Ytonlkffjpofpoaa.Q
open Go.RowKit Go.Proofs.YtonlkffjpofpoaaW.PrintWords Go.Proofs.YtonlkffjpofpoaaW.PrintLast Go.Proofs.YtonlkffjpofpoaaW.PrintMore
attribute [local go_sem] max2_int min2_int max_two min_two max_three min_three max_four min_four   -- for this text's walks alone
set_option linter.unusedVariables false
set_option linter.unusedSimpArgs false

/-! ### digit_Ten: function 11 -/
mutual
def digit_Ten.j0 : Nat → Int → Bool → Option (Int × Int)
  | 0, _, _ => none
  | k + 1, x0, x10 => if x10 = true then (some (0, 42)) else (digit_Ten.l0 k 1 x0 0)
def digit_Ten.l0 : Nat → Int → Int → Int → Option (Int × Int)
  | 0, _, _, _ => none
  | k + 1, x4, x11, x12 => if x12 < x11 then (digit_Ten.l0 k (IntKind.u64.wrap (x4 * 10)) x11 (wrap64 (x12 + 1))) else (some (x4, 0))
end
def digit_Ten.f (k : Nat) (a0 : Int) : Option (Int × Int) := if a0 < 0 then (digit_Ten.j0 k a0 true) else (digit_Ten.j0 k a0 (decide (a0 > 19)))
theorem digit_Ten.mono_l : ∀ k, (∀ y0 y1, LeO (digit_Ten.j0 k y0 y1) (digit_Ten.j0 (k + 1) y0 y1)) ∧ (∀ y0 y1 y2, LeO (digit_Ten.l0 k y0 y1 y2) (digit_Ten.l0 (k + 1) y0 y1 y2))
  | 0 => ⟨fun _ _ r h => by simp [digit_Ten.j0] at h, fun _ _ _ r h => by simp [digit_Ten.l0] at h⟩
  | k + 1 => by
    obtain ⟨ih0, ih1⟩ := digit_Ten.mono_l k
    refine ⟨?_, ?_⟩
    · intro y0 y1
      unfold digit_Ten.j0
      repeat' first
      | (with_reducible exact ih0 _ _)
      | (with_reducible exact ih1 _ _ _)
      | (with_reducible exact LeO.refl _)
      | (with_reducible exact LeO.none _)
      | (with_reducible refine LeO.ite ?_ ?_)
      | (with_reducible refine LeO.bind ?_ (fun _ => ?_))
      | exact ih0 _ _
      | exact ih1 _ _ _
      | exact LeO.none _
      | refine LeO.ite ?_ ?_
      | refine LeO.bind ?_ (fun _ => ?_)
    · intro y0 y1 y2
      unfold digit_Ten.l0
      repeat' first
      | (with_reducible exact ih0 _ _)
      | (with_reducible exact ih1 _ _ _)
      | (with_reducible exact LeO.refl _)
      | (with_reducible exact LeO.none _)
      | (with_reducible refine LeO.ite ?_ ?_)
      | (with_reducible refine LeO.bind ?_ (fun _ => ?_))
      | exact ih0 _ _
      | exact ih1 _ _ _
      | exact LeO.none _
      | refine LeO.ite ?_ ?_
      | refine LeO.bind ?_ (fun _ => ?_)
theorem digit_Ten.mono : ∀ a0 k, LeO (digit_Ten.f k a0) (digit_Ten.f (k + 1) a0) := by
  intro a0 k
  obtain ⟨ih0, ih1⟩ := digit_Ten.mono_l k
  unfold digit_Ten.f
  repeat' first
      | (with_reducible exact ih0 _ _)
      | (with_reducible exact ih1 _ _ _)
      | (with_reducible exact LeO.refl _)
      | (with_reducible exact LeO.none _)
      | (with_reducible refine LeO.ite ?_ ?_)
      | (with_reducible refine LeO.bind ?_ (fun _ => ?_))
      | exact ih0 _ _
      | exact ih1 _ _ _
      | exact LeO.none _
      | refine LeO.ite ?_ ?_
      | refine LeO.bind ?_ (fun _ => ?_)
set_option maxHeartbeats 8000000 in
set_option maxRecDepth 100000 in
theorem digit_Ten.calls (k : Nat) (a0 : Int) (r1 : Int) (r2 : Int) (w : World) (h : digit_Ten.f k a0 = some (r1, r2)) :
    Calls Try.prog 11 #[.int .i64 a0] w fun e w' => e = .returned (.tuple #[.int .u64 r1, .int .i64 r2]) ∧ Drawn0 w w' := by
  have H : (if a0 < 0 then (digit_Ten.j0 k a0 true) else (digit_Ten.j0 k a0 (decide (a0 > 19)))) = some (r1, r2) := h
  clear h
  have HC2 := Aside0.mk H
  clear H
  go_enter Try.func11, Try.ntmps11
  go_upto_region 1 with (fail)
  go_cut [10] (fun v10 wc => ∃ (kq : Nat) (x10_1 : Bool), v10 = .bool x10_1 ∧ Aside0 (digit_Ten.j0 kq a0 x10_1 = some (r1, r2)) ∧ Aside0 (kq ≤ k) ∧ Drawn0 w wc)
  case first =>
    have H := HC2.out
    clear HC2
    by_cases c3 : a0 < 0
    · rw [if_pos c3] at H
      have c3b0 : decide (a0 < 0) = true := decide_eq_true c3
      clear c3
      (first | rw [c3b0] | (simp only [i64_w, i32_w]; rw [c3b0]) | skip)
      have H' := Aside0.mk H
      clear H
      go_wp2
      go_meet
      case rel => exact ⟨_, (true), (by first | rfl | (simp; done) | (simp [*]; done)), H', ⟨by first | omega | exact Nat.le_refl _⟩, by repeat (first | exact Drawn0.refl _ | apply Drawn0.step)⟩
    · rw [if_neg c3] at H
      have c3b0 : decide (a0 < 0) = false := decide_eq_false c3
      clear c3
      (first | rw [c3b0] | (simp only [i64_w, i32_w]; rw [c3b0]) | skip)
      have H' := Aside0.mk H
      clear H
      go_wp2
      go_meet
      case rel => exact ⟨_, (decide (a0 > 19)), (by first | rfl | (simp; done) | (simp [*]; done)), H', ⟨by first | omega | exact Nat.le_refl _⟩, by repeat (first | exact Drawn0.refl _ | apply Drawn0.step)⟩
  case rest =>
    clear HC2
    try clear c1
    try clear p2
    try clear c3
    try clear c3b0
    obtain ⟨kq, x10_1, rfl, HA, HJ1, ⟨mc1, rfl⟩⟩ := hcut
    cases kq with
    | zero => exact absurd HA.out (by simp [digit_Ten.j0])
    | succ kj1 =>
      have H := HA.out
      clear HA
      simp only [digit_Ten.j0] at H
      by_cases c4 : x10_1 = true
      · subst c4
        have H1 : (some (0, 42)) = some (r1, r2) := by rw [if_pos rfl] at H; exact H
        clear H
        have H := H1
        clear H1
        simp only [Option.some.injEq, Prod.mk.injEq] at H
        obtain ⟨rfl, rfl⟩ := H
        go_wp2
        go_ret2
        exact ⟨by first | rfl | (simp; done) | (simp [*]; done), by repeat (first | exact Drawn0.refl _ | apply Drawn0.step)⟩
      · replace c4 := Bool.eq_false_iff.mpr c4
        subst c4
        have H1 : (digit_Ten.l0 kj1 1 a0 0) = some (r1, r2) := by rw [if_neg (show ¬ (false = true) by decide)] at H; exact H
        clear H
        have H := H1
        clear H1
        have H' := Aside0.mk H
        clear H
        go_wp2
        go_loopg [4, 12] kj1 (fun kq v4 v12 w' => ∃ (x4_2 : Int) (x12_2 : Int), v4 = .int .u64 x4_2 ∧ v12 = .int .i64 x12_2 ∧ Aside0 (digit_Ten.l0 kq x4_2 a0 x12_2 = some (r1, r2)) ∧ Aside0 (kq ≤ kj1) ∧ Drawn0 w w')
        case atStart => exact ⟨(1), (0), (by first | rfl | (simp; done) | (simp [*]; done)), (by first | rfl | (simp; done) | (simp [*]; done)), H', ⟨Nat.le_refl _⟩, by repeat (first | exact Drawn0.refl _ | apply Drawn0.step)⟩
        case round =>
          clear H'
          try clear c1
          try clear p2
          try clear c3
          try clear c3b0
          try clear c4
          try clear p2
          obtain ⟨x4_2, x12_2, rfl, rfl, HA, HK2, ⟨m2, rfl⟩⟩ := hrel
          cases gk with
          | zero => exact absurd HA.out (by simp [digit_Ten.l0])
          | succ k2 =>
            have H := HA.out
            clear HA
            simp only [digit_Ten.l0] at H
            by_cases c5 : x12_2 < a0
            · rw [if_pos c5] at H
              have c5b0 : decide (x12_2 < a0) = true := decide_eq_true c5
              clear c5
              have H' := Aside0.mk H
              clear H
              go_wp2
              go_roundg k2
              case measure => have := HJ1.out; have := HK2.out; omega
              case rel => exact ⟨(IntKind.u64.wrap (x4_2 * 10)), (wrap64 (x12_2 + 1)), (by first | rfl | (simp; done) | (simp [*]; done)), (by first | rfl | (simp; done) | (simp [*]; done)), H', ⟨by have := HJ1.out; have := HK2.out; omega⟩, by repeat (first | exact Drawn0.refl _ | apply Drawn0.step)⟩
            · rw [if_neg c5] at H
              have c5b0 : decide (x12_2 < a0) = false := decide_eq_false c5
              clear c5
              simp only [Option.some.injEq, Prod.mk.injEq] at H
              obtain ⟨rfl, rfl⟩ := H
              go_wp2
              go_ret2
              exact ⟨by first | rfl | (simp; done) | (simp [*]; done), by repeat (first | exact Drawn0.refl _ | apply Drawn0.step)⟩

end Go.Proofs.Ytonlkffjpofpoaa.Q

namespace Go.Proofs.Ytonlkffjpofpoaa.Q
open Go.RowKit Go.Proofs.YtonlkffjpofpoaaW.PrintWords Go.Proofs.YtonlkffjpofpoaaW.PrintLast Go.Proofs.YtonlkffjpofpoaaW.PrintMore
attribute [local go_sem] max2_int min2_int max_two min_two max_three min_three max_four min_four   -- for this text's walks alone
set_option linter.unusedVariables false
set_option linter.unusedSimpArgs false

/-! ### mintagekeep_Same: function 14 -/
def mintagekeep_Same.f (l0 : List Int) (l1 : List Int) : Option (Bool) := some ((strOfNums l0).toList == (strOfNums l1).toList)
set_option maxHeartbeats 8000000 in
set_option maxRecDepth 100000 in
theorem mintagekeep_Same.calls (A0 : Option Addr) (c0 : Nat) (l0 : List Int) (A1 : Option Addr) (c1 : Nat) (l1 : List Int) (r : Bool) (w : World) (hr0 : Kd.C (Kd.int .u8) w A0 l0.length l0) (hc0 : l0.length ≤ c0) (hr1 : Kd.C (Kd.int .u8) w A1 l1.length l1) (hc1 : l1.length ≤ c1) (h : mintagekeep_Same.f l0 l1 = some r) :
    Calls Try.prog 14 #[.slice A0 l0.length c0, .slice A1 l1.length c1] w fun e w' => e = .returned (.bool r) ∧ Drawn0 w w' := by
  have HR0 := Aside0.mk hr0
  have HC0 := Aside0.mk hc0
  clear hr0 hc0
  have HR1 := Aside0.mk hr1
  have HC1 := Aside0.mk hc1
  clear hr1 hc1
  have H : (some ((strOfNums l0).toList == (strOfNums l1).toList)) = some r := h
  clear h
  obtain rfl := Option.some.inj H
  have hcv3 := Kd.C_string (P := Try.prog) (A := A0) (c := c0) Try.underlying29 Try.underlying5 Try.underlying9 HR0.out
  have hcv4 := Kd.C_string (P := Try.prog) (A := A1) (c := c1) Try.underlying29 Try.underlying5 Try.underlying9 HR1.out
  go_enter Try.func14, Try.ntmps14
  go_wp2
  go_ret
  exact ⟨by first | rfl | (simp; done) | (simp [*]; done), by repeat (first | exact Drawn0.refl _ | apply Drawn0.step)⟩

end Go.Proofs.Ytonlkffjpofpoaa.Q

namespace Go.Proofs.Ytonlkffjpofpoaa.Q
open Go.RowKit Go.Proofs.YtonlkffjpofpoaaW.PrintWords Go.Proofs.YtonlkffjpofpoaaW.PrintLast Go.Proofs.YtonlkffjpofpoaaW.PrintMore
attribute [local go_sem] max2_int min2_int max_two min_two max_three min_three max_four min_four   -- for this text's walks alone
set_option linter.unusedVariables false
set_option linter.unusedSimpArgs false

/-! ### mintagekeep_Words: function 41 -/
def mintagekeep_Words.l0 : Nat → List Int → List Int → Int → Option (Bool)
  | 0, _, _, _ => none
  | k + 1, x0, x1, x5 => if x5 < (x0.length : Int) then (if 0 ≤ x5 then (if x5 < (x1.length : Int) then (if (rd x0 x5) = (rd x1 x5) then (mintagekeep_Words.l0 k x0 x1 (wrap64 (x5 + 1))) else (some false)) else (none)) else (none)) else (some true)
def mintagekeep_Words.f (k : Nat) (l0 : List Int) (l1 : List Int) : Option (Bool) := if (l0.length : Int) = (l1.length : Int) then (mintagekeep_Words.l0 k l0 l1 0) else (some false)
theorem mintagekeep_Words.mono_l : ∀ k, (∀ y0 y1 y2, LeO (mintagekeep_Words.l0 k y0 y1 y2) (mintagekeep_Words.l0 (k + 1) y0 y1 y2))
  | 0 => fun _ _ _ r h => by simp [mintagekeep_Words.l0] at h
  | k + 1 => by
    have ih0 := mintagekeep_Words.mono_l k
    · intro y0 y1 y2
      unfold mintagekeep_Words.l0
      repeat' first
      | (with_reducible exact ih0 _ _ _)
      | (with_reducible exact LeO.refl _)
      | (with_reducible exact LeO.none _)
      | (with_reducible refine LeO.ite ?_ ?_)
      | (with_reducible refine LeO.bind ?_ (fun _ => ?_))
      | exact ih0 _ _ _
      | exact LeO.none _
      | refine LeO.ite ?_ ?_
      | refine LeO.bind ?_ (fun _ => ?_)
theorem mintagekeep_Words.mono : ∀ a0 a1 k, LeO (mintagekeep_Words.f k a0 a1) (mintagekeep_Words.f (k + 1) a0 a1) := by
  intro a0 a1 k
  have ih0 := mintagekeep_Words.mono_l k
  unfold mintagekeep_Words.f
  repeat' first
      | (with_reducible exact ih0 _ _ _)
      | (with_reducible exact LeO.refl _)
      | (with_reducible exact LeO.none _)
      | (with_reducible refine LeO.ite ?_ ?_)
      | (with_reducible refine LeO.bind ?_ (fun _ => ?_))
      | exact ih0 _ _ _
      | exact LeO.none _
      | refine LeO.ite ?_ ?_
      | refine LeO.bind ?_ (fun _ => ?_)
set_option maxHeartbeats 8000000 in
set_option maxRecDepth 100000 in
theorem mintagekeep_Words.calls (k : Nat) (A0 : Option Addr) (c0 : Nat) (l0 : List Int) (A1 : Option Addr) (c1 : Nat) (l1 : List Int) (r : Bool) (w : World) (hr0 : Kd.C (Kd.int .u64) w A0 l0.length l0) (hc0 : l0.length ≤ c0) (hr1 : Kd.C (Kd.int .u64) w A1 l1.length l1) (hc1 : l1.length ≤ c1) (h : mintagekeep_Words.f k l0 l1 = some r) :
    Calls Try.prog 41 #[.slice A0 l0.length c0, .slice A1 l1.length c1] w fun e w' => e = .returned (.bool r) ∧ Drawn0 w w' := by
  have HR0 := Aside0.mk hr0
  have HC0 := Aside0.mk hc0
  clear hr0 hc0
  have HR1 := Aside0.mk hr1
  have HC1 := Aside0.mk hc1
  clear hr1 hc1
  have H : (if (l0.length : Int) = (l1.length : Int) then (mintagekeep_Words.l0 k l0 l1 0) else (some false)) = some r := h
  clear h
  by_cases c3 : (l0.length : Int) = (l1.length : Int)
  · rw [if_pos c3] at H
    have c3b0 : ((l0.length : Int) == (l1.length : Int)) = true := beq_iff_eq.mpr c3
    have c3b1 : ((l0.length : Int) != (l1.length : Int)) = false := bne_eq_false_iff_eq.mpr c3
    have c3b2 : (l0.length == l1.length) = true := by first | simpa using c3 | (simp at c3 ⊢; omega)
    clear c3
    have H' := Aside0.mk H
    clear H
    go_enter Try.func41, Try.ntmps41
    go_wp2
    repeat (go_quiet (fail); try go_wp2)
    go_loopg [5] k (fun kq v5 w' => ∃ (x5_1 : Int), v5 = .int .i64 x5_1 ∧ Aside0 (mintagekeep_Words.l0 kq l0 l1 x5_1 = some r) ∧ Aside0 (kq ≤ k) ∧ Drawn0 w w')
    case atStart => exact ⟨(0), (by first | rfl | (simp; done) | (simp [*]; done)), H', ⟨Nat.le_refl _⟩, by repeat (first | exact Drawn0.refl _ | apply Drawn0.step)⟩
    case round =>
      clear H'
      try clear c1
      try clear p2
      try clear c3
      try clear c3b0
      try clear c3b1
      try clear c3b2
      obtain ⟨x5_1, rfl, HA, HK1, ⟨m1, rfl⟩⟩ := hrel
      cases gk with
      | zero => exact absurd HA.out (by simp [mintagekeep_Words.l0])
      | succ k1 =>
        have H := HA.out
        clear HA
        simp only [mintagekeep_Words.l0] at H
        by_cases c4 : x5_1 < (l0.length : Int)
        · rw [if_pos c4] at H
          have c4b0 : decide (x5_1 < (l0.length : Int)) = true := decide_eq_true c4
          clear c4
          by_cases c5 : 0 ≤ x5_1
          · rw [if_pos c5] at H
            have c5b0 : decide (0 ≤ x5_1) = true := decide_eq_true c5
            clear c5
            by_cases c6 : x5_1 < (l1.length : Int)
            · rw [if_pos c6] at H
              have c6b0 : decide (x5_1 < (l1.length : Int)) = true := decide_eq_true c6
              clear c6
              by_cases c7 : (rd l0 x5_1) = (rd l1 x5_1)
              · rw [if_pos c7] at H
                have c7b0 : ((rd l0 x5_1) == (rd l1 x5_1)) = true := beq_iff_eq.mpr c7
                have c7b1 : ((rd l0 x5_1) != (rd l1 x5_1)) = false := bne_eq_false_iff_eq.mpr c7
                clear c7
                have H' := Aside0.mk H
                clear H
                have p127 : 0 ≤ (x5_1 : Int) := of_decide_eq_true (by first | (with_reducible assumption) | assumption)
                have q127 : x5_1 < (l0.length : Int) := of_decide_eq_true (by first | (with_reducible assumption) | assumption)
                obtain ⟨ad127, e127, hx127_0⟩ := Kd.at_int HR0.out x5_1 p127 q127
                cases e127
                replace p127 := eq_true p127
                replace q127 := eq_true q127
                (try (have qd127 := q127; simp only [List.length_drop] at qd127))
                have p128 : 0 ≤ (x5_1 : Int) := of_decide_eq_true (by first | (with_reducible assumption) | assumption)
                have q128 : x5_1 < (l1.length : Int) := of_decide_eq_true (by first | (with_reducible assumption) | assumption)
                obtain ⟨ad128, e128, hx128_0⟩ := Kd.at_int HR1.out x5_1 p128 q128
                cases e128
                replace p128 := eq_true p128
                replace q128 := eq_true q128
                (try (have qd128 := q128; simp only [List.length_drop] at qd128))
                go_wp2
                repeat (go_quiet (fail); try go_wp2)
                go_roundg k1
                case measure => have := HK1.out; omega
                case rel => exact ⟨(wrap64 (x5_1 + 1)), (by first | rfl | (simp; done) | (simp [*]; done)), H', ⟨by have := HK1.out; omega⟩, by repeat (first | exact Drawn0.refl _ | apply Drawn0.step)⟩
              · rw [if_neg c7] at H
                have c7b0 : ((rd l0 x5_1) == (rd l1 x5_1)) = false := beq_eq_false_iff_ne.mpr c7
                have c7b1 : ((rd l0 x5_1) != (rd l1 x5_1)) = true := bne_iff_ne.mpr c7
                obtain rfl := Option.some.inj H
                have p127 : 0 ≤ (x5_1 : Int) := of_decide_eq_true (by first | (with_reducible assumption) | assumption)
                have q127 : x5_1 < (l0.length : Int) := of_decide_eq_true (by first | (with_reducible assumption) | assumption)
                obtain ⟨ad127, e127, hx127_0⟩ := Kd.at_int HR0.out x5_1 p127 q127
                cases e127
                replace p127 := eq_true p127
                replace q127 := eq_true q127
                (try (have qd127 := q127; simp only [List.length_drop] at qd127))
                have p128 : 0 ≤ (x5_1 : Int) := of_decide_eq_true (by first | (with_reducible assumption) | assumption)
                have q128 : x5_1 < (l1.length : Int) := of_decide_eq_true (by first | (with_reducible assumption) | assumption)
                obtain ⟨ad128, e128, hx128_0⟩ := Kd.at_int HR1.out x5_1 p128 q128
                cases e128
                replace p128 := eq_true p128
                replace q128 := eq_true q128
                (try (have qd128 := q128; simp only [List.length_drop] at qd128))
                go_wp2
                repeat (go_quiet (fail); try go_wp2)
                go_ret
                exact ⟨by first | rfl | (simp; done) | (simp [*]; done), by repeat (first | exact Drawn0.refl _ | apply Drawn0.step)⟩
            · rw [if_neg c6] at H
              exact absurd H (by simp)
          · rw [if_neg c5] at H
            exact absurd H (by simp)
        · rw [if_neg c4] at H
          have c4b0 : decide (x5_1 < (l0.length : Int)) = false := decide_eq_false c4
          clear c4
          obtain rfl := Option.some.inj H
          go_wp2
          repeat (go_quiet (fail); try go_wp2)
          go_ret
          exact ⟨by first | rfl | (simp; done) | (simp [*]; done), by repeat (first | exact Drawn0.refl _ | apply Drawn0.step)⟩
  · rw [if_neg c3] at H
    have c3b0 : ((l0.length : Int) == (l1.length : Int)) = false := beq_eq_false_iff_ne.mpr c3
    have c3b1 : ((l0.length : Int) != (l1.length : Int)) = true := bne_iff_ne.mpr c3
    have c3b2 : (l0.length == l1.length) = false := by first | simpa using c3 | (simp at c3 ⊢; omega)
    obtain rfl := Option.some.inj H
    go_enter Try.func41, Try.ntmps41
    go_wp2
    repeat (go_quiet (fail); try go_wp2)
    go_ret
    exact ⟨by first | rfl | (simp; done) | (simp [*]; done), by repeat (first | exact Drawn0.refl _ | apply Drawn0.step)⟩

end Go.Proofs.Ytonlkffjpofpoaa.Q

namespace Go.Proofs.Ytonlkffjpofpoaa.Q
open Go.RowKit Go.Proofs.YtonlkffjpofpoaaW.PrintWords Go.Proofs.YtonlkffjpofpoaaW.PrintLast Go.Proofs.YtonlkffjpofpoaaW.PrintMore
attribute [local go_sem] max2_int min2_int max_two min_two max_three min_three max_four min_four   -- for this text's walks alone
set_option linter.unusedVariables false
set_option linter.unusedSimpArgs false

/-! ### mintagekeep_Ints: function 42 -/
def mintagekeep_Ints.l0 : Nat → List Int → List Int → Int → Option (Bool)
  | 0, _, _, _ => none
  | k + 1, x0, x1, x5 => if x5 < (x0.length : Int) then (if 0 ≤ x5 then (if x5 < (x1.length : Int) then (if (rd x0 x5) = (rd x1 x5) then (mintagekeep_Ints.l0 k x0 x1 (wrap64 (x5 + 1))) else (some false)) else (none)) else (none)) else (some true)
def mintagekeep_Ints.f (k : Nat) (l0 : List Int) (l1 : List Int) : Option (Bool) := if (l0.length : Int) = (l1.length : Int) then (mintagekeep_Ints.l0 k l0 l1 0) else (some false)
theorem mintagekeep_Ints.mono_l : ∀ k, (∀ y0 y1 y2, LeO (mintagekeep_Ints.l0 k y0 y1 y2) (mintagekeep_Ints.l0 (k + 1) y0 y1 y2))
  | 0 => fun _ _ _ r h => by simp [mintagekeep_Ints.l0] at h
  | k + 1 => by
    have ih0 := mintagekeep_Ints.mono_l k
    · intro y0 y1 y2
      unfold mintagekeep_Ints.l0
      repeat' first
      | (with_reducible exact ih0 _ _ _)
      | (with_reducible exact LeO.refl _)
      | (with_reducible exact LeO.none _)
      | (with_reducible refine LeO.ite ?_ ?_)
      | (with_reducible refine LeO.bind ?_ (fun _ => ?_))
      | exact ih0 _ _ _
      | exact LeO.none _
      | refine LeO.ite ?_ ?_
      | refine LeO.bind ?_ (fun _ => ?_)
theorem mintagekeep_Ints.mono : ∀ a0 a1 k, LeO (mintagekeep_Ints.f k a0 a1) (mintagekeep_Ints.f (k + 1) a0 a1) := by
  intro a0 a1 k
  have ih0 := mintagekeep_Ints.mono_l k
  unfold mintagekeep_Ints.f
  repeat' first
      | (with_reducible exact ih0 _ _ _)
      | (with_reducible exact LeO.refl _)
      | (with_reducible exact LeO.none _)
      | (with_reducible refine LeO.ite ?_ ?_)
      | (with_reducible refine LeO.bind ?_ (fun _ => ?_))
      | exact ih0 _ _ _
      | exact LeO.none _
      | refine LeO.ite ?_ ?_
      | refine LeO.bind ?_ (fun _ => ?_)
set_option maxHeartbeats 8000000 in
set_option maxRecDepth 100000 in
theorem mintagekeep_Ints.calls (k : Nat) (A0 : Option Addr) (c0 : Nat) (l0 : List Int) (A1 : Option Addr) (c1 : Nat) (l1 : List Int) (r : Bool) (w : World) (hr0 : Kd.C (Kd.int .i64) w A0 l0.length l0) (hc0 : l0.length ≤ c0) (hr1 : Kd.C (Kd.int .i64) w A1 l1.length l1) (hc1 : l1.length ≤ c1) (h : mintagekeep_Ints.f k l0 l1 = some r) :
    Calls Try.prog 42 #[.slice A0 l0.length c0, .slice A1 l1.length c1] w fun e w' => e = .returned (.bool r) ∧ Drawn0 w w' := by
  have HR0 := Aside0.mk hr0
  have HC0 := Aside0.mk hc0
  clear hr0 hc0
  have HR1 := Aside0.mk hr1
  have HC1 := Aside0.mk hc1
  clear hr1 hc1
  have H : (if (l0.length : Int) = (l1.length : Int) then (mintagekeep_Ints.l0 k l0 l1 0) else (some false)) = some r := h
  clear h
  by_cases c3 : (l0.length : Int) = (l1.length : Int)
  · rw [if_pos c3] at H
    have c3b0 : ((l0.length : Int) == (l1.length : Int)) = true := beq_iff_eq.mpr c3
    have c3b1 : ((l0.length : Int) != (l1.length : Int)) = false := bne_eq_false_iff_eq.mpr c3
    have c3b2 : (l0.length == l1.length) = true := by first | simpa using c3 | (simp at c3 ⊢; omega)
    clear c3
    have H' := Aside0.mk H
    clear H
    go_enter Try.func42, Try.ntmps42
    go_wp2
    repeat (go_quiet (fail); try go_wp2)
    go_loopg [5] k (fun kq v5 w' => ∃ (x5_1 : Int), v5 = .int .i64 x5_1 ∧ Aside0 (mintagekeep_Ints.l0 kq l0 l1 x5_1 = some r) ∧ Aside0 (kq ≤ k) ∧ Drawn0 w w')
    case atStart => exact ⟨(0), (by first | rfl | (simp; done) | (simp [*]; done)), H', ⟨Nat.le_refl _⟩, by repeat (first | exact Drawn0.refl _ | apply Drawn0.step)⟩
    case round =>
      clear H'
      try clear c1
      try clear p2
      try clear c3
      try clear c3b0
      try clear c3b1
      try clear c3b2
      obtain ⟨x5_1, rfl, HA, HK1, ⟨m1, rfl⟩⟩ := hrel
      cases gk with
      | zero => exact absurd HA.out (by simp [mintagekeep_Ints.l0])
      | succ k1 =>
        have H := HA.out
        clear HA
        simp only [mintagekeep_Ints.l0] at H
        by_cases c4 : x5_1 < (l0.length : Int)
        · rw [if_pos c4] at H
          have c4b0 : decide (x5_1 < (l0.length : Int)) = true := decide_eq_true c4
          clear c4
          by_cases c5 : 0 ≤ x5_1
          · rw [if_pos c5] at H
            have c5b0 : decide (0 ≤ x5_1) = true := decide_eq_true c5
            clear c5
            by_cases c6 : x5_1 < (l1.length : Int)
            · rw [if_pos c6] at H
              have c6b0 : decide (x5_1 < (l1.length : Int)) = true := decide_eq_true c6
              clear c6
              by_cases c7 : (rd l0 x5_1) = (rd l1 x5_1)
              · rw [if_pos c7] at H
                have c7b0 : ((rd l0 x5_1) == (rd l1 x5_1)) = true := beq_iff_eq.mpr c7
                have c7b1 : ((rd l0 x5_1) != (rd l1 x5_1)) = false := bne_eq_false_iff_eq.mpr c7
                clear c7
                have H' := Aside0.mk H
                clear H
                have p129 : 0 ≤ (x5_1 : Int) := of_decide_eq_true (by first | (with_reducible assumption) | assumption)
                have q129 : x5_1 < (l0.length : Int) := of_decide_eq_true (by first | (with_reducible assumption) | assumption)
                obtain ⟨ad129, e129, hx129_0⟩ := Kd.at_int HR0.out x5_1 p129 q129
                cases e129
                replace p129 := eq_true p129
                replace q129 := eq_true q129
                (try (have qd129 := q129; simp only [List.length_drop] at qd129))
                have p130 : 0 ≤ (x5_1 : Int) := of_decide_eq_true (by first | (with_reducible assumption) | assumption)
                have q130 : x5_1 < (l1.length : Int) := of_decide_eq_true (by first | (with_reducible assumption) | assumption)
                obtain ⟨ad130, e130, hx130_0⟩ := Kd.at_int HR1.out x5_1 p130 q130
                cases e130
                replace p130 := eq_true p130
                replace q130 := eq_true q130
                (try (have qd130 := q130; simp only [List.length_drop] at qd130))
                go_wp2
                repeat (go_quiet (fail); try go_wp2)
                go_roundg k1
                case measure => have := HK1.out; omega
                case rel => exact ⟨(wrap64 (x5_1 + 1)), (by first | rfl | (simp; done) | (simp [*]; done)), H', ⟨by have := HK1.out; omega⟩, by repeat (first | exact Drawn0.refl _ | apply Drawn0.step)⟩
              · rw [if_neg c7] at H
                have c7b0 : ((rd l0 x5_1) == (rd l1 x5_1)) = false := beq_eq_false_iff_ne.mpr c7
                have c7b1 : ((rd l0 x5_1) != (rd l1 x5_1)) = true := bne_iff_ne.mpr c7
                obtain rfl := Option.some.inj H
                have p129 : 0 ≤ (x5_1 : Int) := of_decide_eq_true (by first | (with_reducible assumption) | assumption)
                have q129 : x5_1 < (l0.length : Int) := of_decide_eq_true (by first | (with_reducible assumption) | assumption)
                obtain ⟨ad129, e129, hx129_0⟩ := Kd.at_int HR0.out x5_1 p129 q129
                cases e129
                replace p129 := eq_true p129
                replace q129 := eq_true q129
                (try (have qd129 := q129; simp only [List.length_drop] at qd129))
                have p130 : 0 ≤ (x5_1 : Int) := of_decide_eq_true (by first | (with_reducible assumption) | assumption)
                have q130 : x5_1 < (l1.length : Int) := of_decide_eq_true (by first | (with_reducible assumption) | assumption)
                obtain ⟨ad130, e130, hx130_0⟩ := Kd.at_int HR1.out x5_1 p130 q130
                cases e130
                replace p130 := eq_true p130
                replace q130 := eq_true q130
                (try (have qd130 := q130; simp only [List.length_drop] at qd130))
                go_wp2
                repeat (go_quiet (fail); try go_wp2)
                go_ret
                exact ⟨by first | rfl | (simp; done) | (simp [*]; done), by repeat (first | exact Drawn0.refl _ | apply Drawn0.step)⟩
            · rw [if_neg c6] at H
              exact absurd H (by simp)
          · rw [if_neg c5] at H
            exact absurd H (by simp)
        · rw [if_neg c4] at H
          have c4b0 : decide (x5_1 < (l0.length : Int)) = false := decide_eq_false c4
          clear c4
          obtain rfl := Option.some.inj H
          go_wp2
          repeat (go_quiet (fail); try go_wp2)
          go_ret
          exact ⟨by first | rfl | (simp; done) | (simp [*]; done), by repeat (first | exact Drawn0.refl _ | apply Drawn0.step)⟩
  · rw [if_neg c3] at H
    have c3b0 : ((l0.length : Int) == (l1.length : Int)) = false := beq_eq_false_iff_ne.mpr c3
    have c3b1 : ((l0.length : Int) != (l1.length : Int)) = true := bne_iff_ne.mpr c3
    have c3b2 : (l0.length == l1.length) = false := by first | simpa using c3 | (simp at c3 ⊢; omega)
    obtain rfl := Option.some.inj H
    go_enter Try.func42, Try.ntmps42
    go_wp2
    repeat (go_quiet (fail); try go_wp2)
    go_ret
    exact ⟨by first | rfl | (simp; done) | (simp [*]; done), by repeat (first | exact Drawn0.refl _ | apply Drawn0.step)⟩

end Go.Proofs.Ytonlkffjpofpoaa.Q

namespace Go.Proofs.Ytonlkffjpofpoaa.Q
open Go.RowKit Go.Proofs.YtonlkffjpofpoaaW.PrintWords Go.Proofs.YtonlkffjpofpoaaW.PrintLast Go.Proofs.YtonlkffjpofpoaaW.PrintMore
attribute [local go_sem] max2_int min2_int max_two min_two max_three min_three max_four min_four   -- for this text's walks alone
set_option linter.unusedVariables false
set_option linter.unusedSimpArgs false

/-! ### mintagekeep_Twin: function 33 -/
def mintagekeep_Twin.f (l0 : List Int) : Option (List Int) := if ([] : List Int).length + l0.length < 140737488355328 then (some (([] : List Int) ++ l0)) else (none)
set_option maxHeartbeats 8000000 in
set_option maxRecDepth 100000 in
theorem mintagekeep_Twin.calls (A0 : Option Addr) (c0 : Nat) (l0 : List Int) (r : List Int) (w : World) (hr0 : Kd.C (Kd.int .u8) w A0 l0.length l0) (hc0 : l0.length ≤ c0) (h : mintagekeep_Twin.f l0 = some r) :
    Calls Try.prog 33 #[.slice A0 l0.length c0] w fun e w' => ∃ v0_ : Value, e = .returned (v0_) ∧ Kd.R (Kd.int .u8) 5 w' w.heap.size (fun _ => True) v0_ r ∧ Below w.heap.size w w' := by
  have HR0 := Aside0.mk hr0
  have HC0 := Aside0.mk hc0
  clear hr0 hc0
  have HB := Aside0.mk (Below.refl w.heap.size w)
  have H : (if ([] : List Int).length + l0.length < 140737488355328 then (some (([] : List Int) ++ l0)) else (none)) = some r := h
  clear h
  by_cases c2 : ([] : List Int).length + l0.length < 140737488355328
  · rw [if_pos c2] at H
    have LMc2 := Aside0.mk c2
    clear c2
    obtain ⟨y121, hy121⟩ : ∃ y_ : List Int, y_ = (([] : List Int) ++ l0) := ⟨_, rfl⟩
    replace H : (some y121) = some r := by first | (rw [hy121]; with_reducible exact H) | (have H2_ := (Option.bind_some _ _).symm.trans H; rw [hy121]; with_reducible exact H2_) | (have H2_ := (Option.bind_some _ _).symm.trans H; with_reducible exact H2_) | with_reducible exact H | (rw [hy121]; exact H) | exact H
    have Ny121 := Aside0.mk hy121
    clear hy121
    obtain rfl := Option.some.inj H
    go_enter Try.func33, Try.ntmps33
    go_wp2_with (first | ((with_reducible refine gate_builtin (b := .append) (xs := #[.tmp 4, .tmp 5]) rfl ?_); at_builtin; refine Kd.R_append_rows (Kd.int .u8) (w0 := w) w.heap.size rfl (.tmp 4) (.tmp 5) 29 5 (.int .u8 0) 1 rfl Try.underlying29 info5 rfl (by decide) (by omega) (.slice none 0 0) ([] : List Int) l0 _ _ _ (fun _ => True) (fun _ => False) rfl rfl ?aO ?aR (fun _ _ h => h) (fun _ h => h.elim) ?aF ?aB ?aS ?aL ?_; (case aR => repeat (first | exact HR0.out | (with_reducible refine Kd.C_alloc ?_ _) | (with_reducible refine Kd.C_drewN ?_ _) | (with_reducible refine Kd.C_drew ?_))); (case aB => exact (by repeat (first | (with_reducible first | exact HB.out | apply below_alloc | apply pw_below_drewN | apply below_drew1) | exact HB.out))); (case aF => exact (fun _ _ => trivial)); (case aO => exact ((Kd.R_nil _ _ _ _ (fun _ => True)))); (case aS => exact (below_size (by repeat (first | (with_reducible first | exact HB.out | apply below_alloc | apply pw_below_drewN | apply below_drew1) | exact HB.out)))); (case aL => have := LMc2.out; omega); intro v122 w3 ho hb hg hat; rw [← Ny121.out] at ho; have n0_ := Aside0.mk (hb); have n1_ := Aside0.mk (ho); clear HB; have HB := n0_; have HO123 := n1_; clear n0_ n1_; clear ho hb hg hat))
    go_ret
    exact ⟨_, by first | rfl | (simp [errW_none, errW_some] <;> rfl) | (simp [*, errW_none, errW_some] <;> rfl), by (with_reducible repeat (first | apply Kd.R_alloc | apply Kd.R_drewN | apply Kd.R_drew)); exact HO123.out, by repeat (first | (with_reducible first | exact HB.out | apply below_alloc | apply pw_below_drewN | apply below_drew1) | exact HB.out)⟩
  · rw [if_neg c2] at H
    exact absurd H (by simp)

end Go.Proofs.Ytonlkffjpofpoaa.Q

namespace Go.Proofs.Ytonlkffjpofpoaa.Q
open Go.RowKit Go.Proofs.YtonlkffjpofpoaaW.PrintWords Go.Proofs.YtonlkffjpofpoaaW.PrintLast Go.Proofs.YtonlkffjpofpoaaW.PrintMore
attribute [local go_sem] max2_int min2_int max_two min_two max_three min_three max_four min_four   -- for this text's walks alone
set_option linter.unusedVariables false
set_option linter.unusedSimpArgs false

/-! ### digit_Is: function 30 -/
def digit_Is.f (a0 : Int) : Option (Bool) := if a0 ≥ 48 then (some (decide (a0 ≤ 57))) else (some false)
set_option maxHeartbeats 8000000 in
set_option maxRecDepth 100000 in
theorem digit_Is.calls (a0 : Int) (r : Bool) (w : World) (h : digit_Is.f a0 = some r) :
    Calls Try.prog 30 #[.int .u8 a0] w fun e w' => e = .returned (.bool r) ∧ Drawn0 w w' := by
  have H : (if a0 ≥ 48 then (some (decide (a0 ≤ 57))) else (some false)) = some r := h
  clear h
  by_cases c2 : a0 ≥ 48
  · rw [if_pos c2] at H
    have c2b0 : decide (48 ≤ a0) = true := decide_eq_true c2
    clear c2
    obtain rfl := Option.some.inj H
    go_enter Try.func30, Try.ntmps30
    go_wp2
    go_ret
    exact ⟨by first | rfl | (simp; done) | (simp [*]; done), by repeat (first | exact Drawn0.refl _ | apply Drawn0.step)⟩
  · rw [if_neg c2] at H
    have c2b0 : decide (48 ≤ a0) = false := decide_eq_false c2
    clear c2
    obtain rfl := Option.some.inj H
    go_enter Try.func30, Try.ntmps30
    go_wp2
    go_ret
    exact ⟨by first | rfl | (simp; done) | (simp [*]; done), by repeat (first | exact Drawn0.refl _ | apply Drawn0.step)⟩

end Go.Proofs.Ytonlkffjpofpoaa.Q

namespace Go.Proofs.Ytonlkffjpofpoaa.Q
open Go.RowKit Go.Proofs.YtonlkffjpofpoaaW.PrintWords Go.Proofs.YtonlkffjpofpoaaW.PrintLast Go.Proofs.YtonlkffjpofpoaaW.PrintMore
attribute [local go_sem] max2_int min2_int max_two min_two max_three min_three max_four min_four   -- for this text's walks alone
set_option linter.unusedVariables false
set_option linter.unusedSimpArgs false

/-! ### digit_Eight: function 24 -/
section
/-- Is the byte a digit's. -/
def digit_Eight.dig (c : Int) : Bool := decide (48 ≤ c ∧ c ≤ 57)
def digit_Eight.allD (l : List Int) : Bool := (l.take 8).all digit_Eight.dig
/-- The first n bytes as digits in one word, the first one lowest. -/
def digit_Eight.word (l : List Int) : Nat → Int
  | 0 => 0
  | n + 1 => digit_Eight.word l n + (l.getD n 0 - 48) * 256 ^ n
def digit_Eight.joined (x : Int) : Int :=
  let a := Go.bits .and .u64 (IntKind.u64.wrap (IntKind.u64.wrap (x * 10) + x / 256)) 71777214294589695
  let b := Go.bits .and .u64 (IntKind.u64.wrap (IntKind.u64.wrap (a * 100) + a / 65536)) 281470681808895
  Go.bits .and .u64 (IntKind.u64.wrap (IntKind.u64.wrap (b * 10000) + b / 4294967296)) 4294967295
def digit_Eight.f (l0 : List Int) : Option (Int × Bool) :=
  if (l0.length : Int) < 8 then some (0, false) else if digit_Eight.allD l0 = true then some (digit_Eight.joined (digit_Eight.word l0 8), true) else some (0, false)
set_option maxHeartbeats 1000000 in
theorem digit_Eight.callsA (A0 : Option Addr) (c0 : Nat) (l0 : List Int) (w : World) (h1 : l0.length < 8) :
    Calls Try.prog 24 #[.slice A0 l0.length c0] w fun e w' => e = .returned (.tuple #[.int .u64 0, .bool false]) ∧ Below w.heap.size w w' := by
  have h2 : decide ((l0.length : Int) < 8) = true := by simp; omega
  go_enter Try.func24, Try.ntmps24
  go_wp2_with fail
  go_ret2
  exact ⟨rfl, Below.refl _ _⟩
/-- The cells of the first eight bytes, as the walk asks for them. -/
def digit_Eight.Cells (w : World) (ad : Addr) (y : Nat → Int) : Prop := w.cell? ad = some (.int .u8 (y 0)) ∧ ∀ j, 0 < j → j < 8 → w.cell? ⟨ad.block, ad.off + j, none⟩ = some (.int .u8 (y j))
theorem digit_Eight.arr (ad : Addr) (c0 : Nat) (W : World) : (Instr.arrayAt 59 (.slice (some ad) 8 c0)).run Try.prog W = .ok (.pointer (some ad)) W := by
  simp [Instr.arrayAt, run_underlying Try.underlying59]
theorem digit_Eight.idx (y : Nat → Int) (j : Nat) (hj : j < 8) (W : World) :
    (Instr.index 59 (.agg #[.int .u8 (y 0), .int .u8 (y 1), .int .u8 (y 2), .int .u8 (y 3), .int .u8 (y 4), .int .u8 (y 5), .int .u8 (y 6), .int .u8 (y 7)]) (.int .i64 (j : Int))).run Try.prog W = .ok (.int .u8 (y j)) W := by
  match j, hj with
  | 0, _ => rfl
  | 1, _ => rfl
  | 2, _ => rfl
  | 3, _ => rfl
  | 4, _ => rfl
  | 5, _ => rfl
  | 6, _ => rfl
  | 7, _ => rfl
/-- The word, by a function. -/
def digit_Eight.wordF (y : Nat → Int) : Nat → Int
  | 0 => 0
  | n + 1 => digit_Eight.wordF y n + (y n - 48) * 256 ^ n
theorem digit_Eight.wordF_bound (y : Nat → Int) (n : Nat) (h : ∀ j, j < n → 48 ≤ y j ∧ y j ≤ 57) : 0 ≤ digit_Eight.wordF y n ∧ digit_Eight.wordF y n < 256 ^ n := by
  induction n with
  | zero => simp [digit_Eight.wordF]
  | succ n ih =>
    have a := ih (fun j hj => h j (by omega))
    have b := h n (by omega)
    have p : (0 : Int) < 256 ^ n := Int.pow_pos (by decide)
    have m1 : 0 ≤ (y n - 48) * 256 ^ n := Int.mul_nonneg (by omega) (by omega)
    have m2 : (y n - 48) * 256 ^ n ≤ 9 * 256 ^ n := Int.mul_le_mul_of_nonneg_right (by omega) (by omega)
    simp only [digit_Eight.wordF, Int.pow_succ]
    omega
theorem digit_Eight.step (y : Nat → Int) (n : Nat) (hn : n < 8) (h : ∀ j, j < n + 1 → 48 ≤ y j ∧ y j ≤ 57) :
    Go.bits .or .u64 (digit_Eight.wordF y n) (IntKind.u64.wrap ((y n - 48) * 2 ^ (8 * (n : Int)).toNat)) = digit_Eight.wordF y (n + 1) := by
  have a := digit_Eight.wordF_bound y n (fun j hj => h j (by omega))
  have b := h n (by omega)
  have e : (2 : Int) ^ (8 * (n : Int)).toNat = 256 ^ n := by
    have : (8 * (n : Int)).toNat = 8 * n := by omega
    rw [this, Int.pow_mul]; rfl
  have p : (0 : Int) < 256 ^ n := Int.pow_pos (by decide)
  have m1 : 0 ≤ (y n - 48) * 256 ^ n := Int.mul_nonneg (by omega) (by omega)
  have m2 : (y n - 48) * 256 ^ n ≤ 9 * 256 ^ n := Int.mul_le_mul_of_nonneg_right (by omega) (by omega)
  have p8 : (256 : Int) ^ n * 256 ^ (7 - n) = 72057594037927936 := by
    rw [← Int.pow_add]
    have : n + (7 - n) = 7 := by omega
    rw [this]; rfl
  have q : (1 : Int) ≤ 256 ^ (7 - n) := Int.pow_pos (by decide)
  have p9 : (256 : Int) ^ n ≤ 72057594037927936 := by
    have := Int.mul_le_mul_of_nonneg_left q (show (0 : Int) ≤ 256 ^ n by omega)
    omega
  rw [e, show IntKind.u64.wrap ((y n - 48) * 256 ^ n) = ((y n - 48) * 256 ^ n) % 18446744073709551616 by simp [IntKind.wrap, IntKind.bits, IntKind.signed], Int.emod_eq_of_lt m1 (by omega)]
  rw [u64_or _ _ a.1 (by omega) m1 (by omega), Nat.or_comm]
  have ha : (digit_Eight.wordF y n).toNat < 2 ^ (8 * n) := by
    have : ((2 ^ (8 * n) : Nat) : Int) = 256 ^ n := by rw [Nat.pow_mul]; simp
    omega
  have hm : ((y n - 48) * 256 ^ n).toNat % 2 ^ (8 * n) = 0 := by
    have e1 : ((y n - 48) * 256 ^ n).toNat = (y n - 48).toNat * 2 ^ (8 * n) := by
      have e2 : (256 : Int) ^ n = ((2 ^ (8 * n) : Nat) : Int) := by rw [Nat.pow_mul]; simp
      rw [e2, Int.toNat_mul (by omega) (by omega), Int.toNat_natCast]
    rw [e1, Nat.mul_mod_left]
  rw [nat_join (8 * n) _ _ hm ha]
  simp only [digit_Eight.wordF]
  omega
set_option maxHeartbeats 4000000 in
set_option maxRecDepth 100000 in
theorem digit_Eight.callsB (ad : Addr) (c0 n m : Nat) (y : Nat → Int) (w : World) (h1 : 8 ≤ n) (hc0 : n ≤ c0) (hy : digit_Eight.Cells w ad y) (hm : m < 8) (hgood : ∀ j, j < m → digit_Is.f (y j) = some true) (hbad : digit_Is.f (y m) = some false) :
    Calls Try.prog 24 #[.slice (some ad) n c0] w fun e w' => e = .returned (.tuple #[.int .u64 0, .bool false]) ∧ Below w.heap.size w w' := by
  have h2 : decide ((n : Int) < 8) = false := by simp; omega
  have h3 : (8 : Int) ≤ n := by omega
  have h4 : (8 : Int) ≤ c0 := by omega
  have e0 := hy.1
  have e1 := hy.2 1 (by omega) (by omega)
  have e2 := hy.2 2 (by omega) (by omega)
  have e3 := hy.2 3 (by omega) (by omega)
  have e4 := hy.2 4 (by omega) (by omega)
  have e5 := hy.2 5 (by omega) (by omega)
  have e6 := hy.2 6 (by omega) (by omega)
  have e7 := hy.2 7 (by omega) (by omega)
  have harr := digit_Eight.arr ad c0
  have HG := Aside0.mk hgood
  have HBD := Aside0.mk hbad
  clear hy hgood hbad
  go_enter Try.func24, Try.ntmps24
  go_wp2_with fail
  clear e0 e1 e2 e3 e4 e5 e6 e7 harr h2 h3 h4
  go_loopw [4, 14] (fun x i wr => ∃ (k : Nat) (v : Int), k ≤ m ∧ x = .int .u64 v ∧ i = .int .i64 k ∧ Drawn0 w wr) (fun _ i _ => 8 - (intOf i).toNat)
  case atStart => exact ⟨0, 0, Nat.zero_le _, rfl, rfl, Drawn0.refl _⟩
  case round =>
    obtain ⟨k, v, hk, rfl, rfl, hd⟩ := hrel
    have hk8 : (k : Int) < 8 := by omega
    have hk0 : (0 : Int) ≤ k := by omega
    have hidx := digit_Eight.idx y k (by omega)
    have HD := Aside0.mk hd
    clear hd
    by_cases hkm : k < m
    · have hg := HG.out k hkm
      have HG1 := Aside0.mk hg
      clear hg
      go_wp2_with (first | (go_at_call 30; refine (digit_Is.calls (y k) true _ HG1.out).mono ?_; rintro e w1 ⟨rfl, ⟨nd, rfl⟩⟩))
      all_goals
        go_roundw
        case rel => exact ⟨k + 1, _, by omega, rfl, by go_num, HD.out.step nd⟩
        case measure => (simp [intOf] <;> omega)
    · obtain rfl : k = m := by omega
      go_wp2_with (first | (go_at_call 30; refine (digit_Is.calls (y k) false _ HBD.out).mono ?_; rintro e w1 ⟨rfl, ⟨nd, rfl⟩⟩))
      go_ret2
      exact ⟨rfl, (HD.out.step nd).below⟩
set_option maxHeartbeats 4000000 in
set_option maxRecDepth 100000 in
theorem digit_Eight.callsC (ad : Addr) (c0 n : Nat) (y : Nat → Int) (w : World) (h1 : 8 ≤ n) (hc0 : n ≤ c0) (hy : digit_Eight.Cells w ad y) (hgood : ∀ j, j < 8 → digit_Is.f (y j) = some true) (hb : ∀ j, j < 8 → 48 ≤ y j ∧ y j ≤ 57) :
    Calls Try.prog 24 #[.slice (some ad) n c0] w fun e w' => e = .returned (.tuple #[.int .u64 (digit_Eight.joined (digit_Eight.wordF y 8)), .bool true]) ∧ Below w.heap.size w w' := by
  have h2 : decide ((n : Int) < 8) = false := by simp; omega
  have h3 : (8 : Int) ≤ n := by omega
  have h4 : (8 : Int) ≤ c0 := by omega
  have e0 := hy.1
  have e1 := hy.2 1 (by omega) (by omega)
  have e2 := hy.2 2 (by omega) (by omega)
  have e3 := hy.2 3 (by omega) (by omega)
  have e4 := hy.2 4 (by omega) (by omega)
  have e5 := hy.2 5 (by omega) (by omega)
  have e6 := hy.2 6 (by omega) (by omega)
  have e7 := hy.2 7 (by omega) (by omega)
  have harr := digit_Eight.arr ad c0
  have HG := Aside0.mk hgood
  have HBD := Aside0.mk hb
  clear hy hgood hb
  go_enter Try.func24, Try.ntmps24
  go_wp2_with fail
  clear e0 e1 e2 e3 e4 e5 e6 e7 harr h2 h3 h4
  go_loopw [4, 14] (fun x i wr => ∃ k : Nat, k ≤ 8 ∧ x = .int .u64 (digit_Eight.wordF y k) ∧ i = .int .i64 k ∧ Drawn0 w wr) (fun _ i _ => 8 - (intOf i).toNat)
  case atStart => exact ⟨0, Nat.zero_le _, rfl, rfl, Drawn0.refl _⟩
  case round =>
    obtain ⟨k, hk, rfl, rfl, hd⟩ := hrel
    have hk0 : (0 : Int) ≤ k := by omega
    have HD := Aside0.mk hd
    clear hd
    by_cases hk8 : k < 8
    · have hk8' : (k : Int) < 8 := by omega
      have hidx := digit_Eight.idx y k hk8
      have hg := HG.out k hk8
      have HG1 := Aside0.mk hg
      have hr := HBD.out k hk8
      obtain ⟨hr1, hr2⟩ := hr
      clear hg
      go_wp2_with (first | (go_at_call 30; refine (digit_Is.calls (y k) true _ HG1.out).mono ?_; rintro e w1 ⟨rfl, ⟨nd, rfl⟩⟩))
      go_roundw
      case rel =>
        refine ⟨k + 1, by omega, ?_, by go_num, HD.out.step nd⟩
        rw [← digit_Eight.step y k hk8 (fun j hj => HBD.out j (by omega))]
        have e8 : (8 * (k : Int)).toNat = 8 * k := by omega
        rw [e8]
      case measure => (simp [intOf] <;> omega)
    · obtain rfl : k = 8 := by omega
      go_wp2_with fail
      go_ret2
      refine ⟨?_, HD.out.below⟩
      simp only [digit_Eight.joined]
      generalize digit_Eight.wordF y 8 = X
      generalize Go.bits .and .u64 (IntKind.u64.wrap (IntKind.u64.wrap (X * 10) + X / 256)) 71777214294589695 = Y
      generalize Go.bits .and .u64 (IntKind.u64.wrap (IntKind.u64.wrap (Y * 100) + Y / 65536)) 281470681808895 = Z
      generalize Go.bits .and .u64 (IntKind.u64.wrap (IntKind.u64.wrap (Z * 10000) + Z / 4294967296)) 4294967295 = V
      rfl
theorem digit_Eight.wordF_word (l : List Int) : ∀ n, digit_Eight.wordF (fun j => l.getD j 0) n = digit_Eight.word l n
  | 0 => rfl
  | n + 1 => by simp only [digit_Eight.wordF, digit_Eight.word, digit_Eight.wordF_word l n]
theorem digit_Eight.cells_of {w : World} {ad : Addr} {l0 : List Int} (hr : ReadsInt w .u8 (some ad) l0.length l0) (h8 : 8 ≤ l0.length) : digit_Eight.Cells w ad (fun j => l0.getD j 0) := by
  obtain ⟨ad', e, hc⟩ := hr.2.2 (by omega)
  cases e
  refine ⟨?_, fun j h0 hj => ?_⟩
  · have := hc 0 (by omega)
    simpa [Addr.add] using this
  · have := hc j (by omega)
    simpa [Addr.add, show j ≠ 0 by omega] using this
theorem digit_Eight.is_true {c : Int} (h : digit_Eight.dig c = true) : digit_Is.f c = some true := by
  simp [digit_Eight.dig] at h
  unfold digit_Is.f
  rw [if_pos h.1]; simp [h.2]
theorem digit_Eight.is_false {c : Int} (h : ¬ (digit_Eight.dig c = true)) : digit_Is.f c = some false := by
  simp [digit_Eight.dig] at h
  unfold digit_Is.f
  by_cases h1 : c ≥ 48
  · rw [if_pos h1]; have := h h1; simp; omega
  · rw [if_neg h1]
theorem digit_Eight.first_bad (y : Nat → Int) (n : Nat) : (∀ j, j < n → digit_Eight.dig (y j) = true) ∨ ∃ m, m < n ∧ (∀ j, j < m → digit_Eight.dig (y j) = true) ∧ ¬ (digit_Eight.dig (y m) = true) := by
  induction n with
  | zero => left; intro j hj; omega
  | succ n ih =>
    rcases ih with h | ⟨m, h1, h2, h3⟩
    · by_cases hb : digit_Eight.dig (y n) = true
      · left; intro j hj
        rcases Nat.lt_or_ge j n with h' | h'
        · exact h j h'
        · rw [show j = n by omega]; exact hb
      · right; exact ⟨n, by omega, h, hb⟩
    · right; exact ⟨m, by omega, h2, h3⟩
theorem digit_Eight.all_iff (l : List Int) (h8 : 8 ≤ l.length) : digit_Eight.allD l = true ↔ ∀ j, j < 8 → digit_Eight.dig (l.getD j 0) = true := by
  unfold digit_Eight.allD
  rw [List.all_eq_true]
  constructor
  · intro h j hj
    refine h _ ?_
    rw [List.getD_eq_getElem?_getD, List.getElem?_eq_getElem (by omega)]
    exact List.mem_take_iff_getElem.2 ⟨j, by omega, rfl⟩
  · intro h x hx
    obtain ⟨j, hj, rfl⟩ := List.mem_take_iff_getElem.1 hx
    have := h j (by omega)
    rw [List.getD_eq_getElem?_getD, List.getElem?_eq_getElem (by omega)] at this
    exact this
theorem digit_Eight.calls (A0 : Option Addr) (c0 : Nat) (l0 : List Int) (r1 : Int) (r2 : Bool) (w : World) (hr0 : Kd.C (Kd.int .u8) w A0 l0.length l0) (hc0 : l0.length ≤ c0) (h : digit_Eight.f l0 = some (r1, r2)) :
    Calls Try.prog 24 #[.slice A0 l0.length c0] w fun e w' => e = .returned (.tuple #[.int .u64 r1, .bool r2]) ∧ Below w.heap.size w w' := by
  unfold digit_Eight.f at h
  by_cases h1 : (l0.length : Int) < 8
  · rw [if_pos h1] at h; simp only [Option.some.injEq, Prod.mk.injEq] at h; obtain ⟨rfl, rfl⟩ := h
    exact digit_Eight.callsA A0 c0 l0 w (by omega)
  · rw [if_neg h1] at h
    have hri : ReadsInt w .u8 A0 l0.length l0 := by
      have := Kd.reads_of_C (d := (0 : Int)) (h1 := fun _ => rfl) hr0
      exact this
    obtain ⟨ad, rfl, -⟩ := hri.2.2 (by omega)
    have hcs := digit_Eight.cells_of hri (by omega)
    rcases digit_Eight.first_bad (fun j => l0.getD j 0) 8 with hall | ⟨m, hm, hg, hb⟩
    · rw [if_pos ((digit_Eight.all_iff l0 (by omega)).2 hall)] at h; simp only [Option.some.injEq, Prod.mk.injEq] at h; obtain ⟨rfl, rfl⟩ := h
      rw [← digit_Eight.wordF_word l0 8]
      exact digit_Eight.callsC ad c0 l0.length _ w (by omega) hc0 hcs (fun j hj => digit_Eight.is_true (hall j hj)) (fun j hj => by have := hall j hj; simpa [digit_Eight.dig] using this)
    · rw [if_neg (fun e => hb ((digit_Eight.all_iff l0 (by omega)).1 e m hm))] at h; simp only [Option.some.injEq, Prod.mk.injEq] at h; obtain ⟨rfl, rfl⟩ := h
      exact digit_Eight.callsB ad c0 l0.length m _ w (by omega) hc0 hcs hm (fun j hj => digit_Eight.is_true (hg j hj)) (digit_Eight.is_false hb)

end

end Go.Proofs.Ytonlkffjpofpoaa.Q

namespace Go.Proofs.Ytonlkffjpofpoaa.Q
open Go.RowKit Go.Proofs.YtonlkffjpofpoaaW.PrintWords Go.Proofs.YtonlkffjpofpoaaW.PrintLast Go.Proofs.YtonlkffjpofpoaaW.PrintMore
attribute [local go_sem] max2_int min2_int max_two min_two max_three min_three max_four min_four   -- for this text's walks alone
set_option linter.unusedVariables false
set_option linter.unusedSimpArgs false

/-! ### mintagelaw04_wakes: function 20 -/
section
def mintagelaw04_wakes.f : Option Bool := some true
theorem mintagelaw04_wakes.const_reads (W : World) (xs : List Int) (e : TypeId) (fr : Nat × Nat) (h : xs.length ≤ 1000) : ReadsInt (W.alloc (.cells (nums .u8 xs).toArray e fr)) .u8 (some ⟨W.heap.size, 0, none⟩) xs.length xs := by
  refine ⟨rfl, by omega, fun _ => ⟨_, rfl, fun j hj => ?_⟩⟩
  rw [add_plain, cell_of_row _ _ _ _ _ fr (heap_alloc_new W _)]
  simp [nums, hj, List.getD_eq_getElem?_getD]
theorem mintagelaw04_wakes.eight (A : Addr) (W : World) (h : ReadsInt W .u8 (some A) 8 [48, 48, 49, 50, 51, 52, 53, 54]) :
    Calls Try.prog 24 #[.slice (some A) 8 8] W fun e w' => e = .returned (.tuple #[.int .u64 123456, .bool true]) ∧ Below W.heap.size W w' :=
  digit_Eight.calls (some A) 8 [48, 48, 49, 50, 51, 52, 53, 54] 123456 true W (Kd.C_of_reads (d := (0 : Int)) (h1 := fun _ => rfl) h) (Nat.le_refl _) (by decide +kernel)
theorem mintagelaw04_wakes.text (W : World) : Calls Try.prog 8 #[.int .u64 9050] W fun e w' => ∃ v0_ : Value, e = .returned (v0_) ∧ Kd.R (Kd.int .u8) 5 w' W.heap.size (fun _ => True) v0_ [57, 48, 53, 48] ∧ Below W.heap.size W w' :=
  digit_Text.calls 20 9050 [57, 48, 53, 48] W (by decide +kernel)
set_option maxHeartbeats 1000000 in
theorem mintagelaw04_wakes.calls (r : Bool) (w : World) (h : mintagelaw04_wakes.f = some r) : Calls Try.prog 20 #[] w fun e w' => e = .returned (.bool r) ∧ Below w.heap.size w w' := by
  obtain rfl : true = r := by simpa [mintagelaw04_wakes.f] using h
  clear h
  have kc := fun (w : World) (C : Array Value) (n c : Nat) => Lib.run_convert_bytes_const (P := Try.prog) w 29 5 C n c Try.underlying29 Try.underlying5
  go_enter Try.func20, Try.ntmps20
  go_wp2_with (first | (go_at_call 24; refine (mintagelaw04_wakes.eight _ _ (mintagelaw04_wakes.const_reads w [48, 48, 49, 50, 51, 52, 53, 54] 5 (8, 9) (by simp))).mono ?_; rintro e w1 ⟨rfl, hb⟩; have hB := Aside0.mk hb; clear hb) | (go_at_call 8; refine (mintagelaw04_wakes.text _).mono ?_; rintro e w2 ⟨v, rfl, ho, hb2⟩; have hB2 := Aside0.mk hb2; clear hb2; have hs := own_string (P := Try.prog) Try.underlying29 Try.underlying5 Try.underlying9 (Kd.own_of_R ho)))
  have hf : ((strOfNums [57, 48, 53, 48]).toList == [57, 48, 53, 48]) = true := by decide +kernel
  rw [hf]
  go_ret
  exact ⟨rfl, below_step (below_step ((Below.refl _ _).alloc (Nat.le_refl _) _) hB.out) hB2.out⟩

end

end Go.Proofs.Ytonlkffjpofpoaa.Q
