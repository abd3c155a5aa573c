-- Printed functions, merged (wip/tools/pack.py).
import Derived.Test.YtobgpdmiiipmmaaProg
import Derived.Below
import Derived.Deep.Draws
import Derived.Deep.AppendLies
import Derived.Maps.AppendAt
import Derived.OwnWalk
import Derived.Laws.BytesArg
import Derived.Laws.MakeOwn
import Derived.Laws.OwnMore
import Derived.Deep.OwnRows
import Derived.Tactics
import Derived.Lib.ConvBytes
import Derived.Laws.Slices
import Derived.WalkKit
import Derived.KernelRfl
import Derived.RowKit3
import Derived.Deep.LoopGhost
import Derived.Deep.QuietTactic
import Derived.BigQuiet
import Derived.WideLaws
import Derived.Deep.DeepCutAuto
import Derived.Deep.CutBlock
import Derived.Deep.RegionHeld3
import Derived.Laws.Rows
import Derived.Lib.AppendStr
import Derived.ArgAppend
import Derived.Laws.IdiomCopy
import Derived.OrdersHeld
import Derived.Laws.BitsLemmas
import Derived.RowKit
import Derived.RegionTactic
import Derived.ChangeAlike
import Derived.IntWalk
import Derived.Outline
import Derived.Laws.BitsAllLaws
import Derived.WalkSpells
import Derived.Lib.SlBytesConst
import Derived.Test.YtobgpdmiiipmmaaWWords
import Derived.Test.YtobgpdmiiipmmaaWLast
import Derived.Test.YtobgpdmiiipmmaaWTab
import Derived.Test.YtobgpdmiiipmmaaWFour
import Derived.Test.YtobgpdmiiipmmaaWQPut
import Derived.Test.YtobgpdmiiipmmaaWApart
import Derived.Test.YtobgpdmiiipmmaaWArr
import Derived.Test.YtobgpdmiiipmmaaWZeros
import Derived.Test.YtobgpdmiiipmmaaWFoot
import Derived.Test.YtobgpdmiiipmmaaWKept
import Derived.Test.YtobgpdmiiipmmaaWShare
import Derived.Test.YtobgpdmiiipmmaaWN
import Derived.Test.YtobgpdmiiipmmaaWFootNe
import Derived.Test.YtobgpdmiiipmmaaWAt
import Derived.Test.YtobgpdmiiipmmaaWEqStruct
import Derived.Test.YtobgpdmiiipmmaaWRepsOne
import Derived.Test.YtobgpdmiiipmmaaWInv
import Derived.Test.YtobgpdmiiipmmaaWInvWords
import Derived.Test.YtobgpdmiiipmmaaWGuard
import Derived.Test.YtobgpdmiiipmmaaWNEv
import Derived.Test.YtobgpdmiiipmmaaWMore
namespace Go.Proofs.Ytobgpdmiiipmmaa.Q
open Go.RowKit Go.Proofs.YtobgpdmiiipmmaaW.PrintWords Go.Proofs.YtobgpdmiiipmmaaW.PrintLast Go.Proofs.YtobgpdmiiipmmaaW.PrintMore
attribute [local go_sem] max2_int min2_int max_two min_two max_three min_three max_four min_four   -- for this text's walks alone
set_option linter.unusedVariables false
set_option linter.unusedSimpArgs false

theorem bytesLess_flip : ∀ x y : List UInt8, (!(Op.bytesLess x y || x == y)) = Op.bytesLess y x
  | [], [] => rfl
  | [], _ :: _ => rfl
  | _ :: _, [] => rfl
  | a :: x, b :: y => by
    have ih := bytesLess_flip x y
    simp only [Op.bytesLess, List.cons_beq_cons]
    rw [← ih]
    rcases Nat.lt_trichotomy a.toNat b.toNat with h | h | h
    · have h1 : a < b := UInt8.lt_iff_toNat_lt.2 h
      have h2 : ¬ b < a := fun q => by have := UInt8.lt_iff_toNat_lt.1 q; omega
      have h3 : ¬ b = a := fun q => by rw [q] at h; omega
      simp [h1, h2, h3]
    · have h0 : a = b := UInt8.toNat_inj.1 h
      subst h0
      simp
    · have h1 : b < a := UInt8.lt_iff_toNat_lt.2 h
      have h2 : ¬ a < b := fun q => by have := UInt8.lt_iff_toNat_lt.1 q; omega
      have h3 : ¬ a = b := fun q => by rw [q] at h; omega
      simp [h1, h2, h3]
@[go_sem] theorem binOp_string_gtr2 (t : TypeId) (a b : ByteArray) : binOp .gtr t (.string a) (.string b) = pure (.bool (Op.bytesLess b.toList a.toList)) := by
  rw [← bytesLess_flip]; simp [binOp, Op.stringOp]
theorem R_make0 (k : IntKind) {P : Program} {ops : Array Oper} {rest : List Oper} {o : Oper} {a : Act} {Q : Exit → Act → World → Prop} {w0 W : World} (base e : Nat) (hgd : o.guard = none) {N : Tmp} (_hd : o.dst = some N) (t : TypeId) (x y : Operand) (ho : o.op = .makeSlice t x y) (c : Int)
    (hx : a.eval x = .int .i64 0) (hy : a.eval y = .int .i64 c) (ht : P.underlying t = some (.slice e)) (bytes : Nat) (hinfo : (P.info? e).map (fun i => (i.zero, i.size, i.bytes)) = some (some (.int k 0), 1, bytes)) (hb0 : 0 < bytes)
    {ok : Nat → Prop} (hfresh : ok W.heap.size) (h0 : 0 ≤ c) (hl : c.toNat * bytes ≤ 281474976710656) (HB : Below base w0 W) (hbase : base ≤ W.heap.size)
    (h : ∀ v1 w1, (Kd.int k).R e w1 base ok v1 [] → Below base w0 w1 → W.grownBy w1 none → (∃ b, v1.ownBlock = some b ∧ W.heap.size ≤ b) → wpList P ops Q rest (a.put o.dst v1) w1) : wpList P ops Q (o :: rest) a W := by
  obtain ⟨m, rfl⟩ := Int.eq_ofNat_of_zero_le h0
  simp only [Int.toNat_natCast] at hl
  obtain ⟨i0, hi, hzz⟩ := Option.map_eq_some_iff.1 hinfo
  simp only [Prod.mk.injEq] at hzz
  obtain ⟨hz0, hz1, hz2⟩ := hzz
  have hm : m ≤ 281474976710656 := Nat.le_trans (Nat.le_mul_of_pos_right _ hb0) hl
  have hr := run_make (P := P) W t e i0 _ ht hi hz0 .i64 .i64 0 (m : Int) (by omega) (by omega)
    (by
      have h3 : ((i0.bytes * m : Nat) : Int) ≤ 281474976710656 := by rw [hz2, Nat.mul_comm]; omega
      rwa [Int.natCast_mul] at h3) (by omega)
  simp only [Int.toNat_natCast, hz1, Nat.mul_one] at hr
  refine Kd.event_run hgd (v := .slice (some ⟨W.heap.size, 0, none⟩) 0 m) (w1 := W.alloc (.cells (madeCells (Value.int k 0).cells m) e)) (by simp [execOp, ho, hx, hy]; rw [hr]; rfl) (h _ _ ?_ (HB.alloc hbase _) (World.grownBy_alloc W _ none) ⟨W.heap.size, by simp [Value.ownBlock], Nat.le_refl _⟩)
  refine Kd.R_of_own (xs := ([] : List Int)) (enc := Value.int k) (h1 := fun _ => rfl) ⟨rfl, .inr ⟨W.heap.size, m, madeCells (Value.int k 0).cells m, rfl, hbase, heap_alloc_new _ _, Nat.zero_le _, by simp only [maxLen]; omega, ?_, by simp [encs]⟩⟩ ?_
  · rw [size_madeCells]; simp
  · intro q hq
    have : W.heap.size = q := by simpa [Value.ownBlock] using hq
    rw [← this]; exact hfresh
theorem u64_of_u8 (x : Int) : IntKind.u64.wrap (IntKind.u8.wrap x) = x % 256 := by rw [IntKind.wrap_u8]; simp only [IntKind.wrap, IntKind.bits, IntKind.signed]; simp; omega
theorem i64_of_u8 (x : Int) : IntKind.i64.wrap (IntKind.u8.wrap x) = x % 256 := by rw [IntKind.wrap_u8, IntKind.wrap_i64]; omega
theorem cell_at2 {W W' : World} {n : Nat} {a : Addr} {v : Value} (hq : W.drewN n = W') (h : W.cell? a = some v) : W'.cell? a = some v := by rw [← hq]; exact h
theorem froz_at2 {W W' : World} {n : Nat} {a : Addr} {b : Bool} (hq : W.drewN n = W') (h : W.frozen? a = b) : W'.frozen? a = b := by rw [← hq]; exact h



def errW : Option Int → Value
  | none => .nilIface
  | some c => .iface 0 (.int .i64 c)
theorem errW_none : errW none = .nilIface := rfl
theorem errW_some (c : Int) : errW (some c) = .iface 0 (.int .i64 c) := rfl

theorem info3 : (Try.prog.info? 3).map (fun i => (i.zero, i.size, i.bytes)) = some (some (.int .i64 0), 1, 8) := by kernel_rfl
theorem info5 : (Try.prog.info? 5).map (fun i => (i.zero, i.size, i.bytes)) = some (some (.int .u8 0), 1, 1) := by kernel_rfl
-- the values' own types
def rd_L3 (xs : List (List Int)) (i : Int) : (List Int) := xs.getD i.toNat ([] : List Int)
theorem at_L3 {w : World} {A : Option Addr} {n : Nat} {xs : List (List Int)} (h : Kd.C (Kd.slice 5 (Kd.int .u8)) w A n xs) (i : Int) (h0 : 0 ≤ i) (h1 : i < n) : ∃ ad A0 c0, A = some ad ∧ w.cell? (ad.add i.toNat) = some (.slice A0 (rd_L3 xs i).length c0) ∧ (rd_L3 xs i).length ≤ c0 ∧ (Kd.int .u8).C w A0 (rd_L3 xs i).length (rd_L3 xs i) := by
  obtain ⟨ad, c, e, _, hK, hc0⟩ := Kd.C_get h ([] : List Int) i h0 h1
  have hc : ∀ j u, c[j]? = some u → w.cell? (ad.add (i.toNat * 1 + j)) = some u := hc0
  obtain ⟨A0, c0, rfl, l0, g0⟩ := hK
  exact ⟨ad, A0, c0, e, by have hq := hc 0 _ rfl; rwa [Nat.mul_one, Nat.add_zero] at hq, l0, g0⟩

def rd_L4 (xs : List (List Int)) (i : Int) : (List Int) := xs.getD i.toNat ([] : List Int)
theorem at_L4 {w : World} {A : Option Addr} {n : Nat} {xs : List (List Int)} (h : Kd.C (Kd.slice 22 (Kd.int .u64)) w A n xs) (i : Int) (h0 : 0 ≤ i) (h1 : i < n) : ∃ ad A0 c0, A = some ad ∧ w.cell? (ad.add i.toNat) = some (.slice A0 (rd_L4 xs i).length c0) ∧ (rd_L4 xs i).length ≤ c0 ∧ (Kd.int .u64).C w A0 (rd_L4 xs i).length (rd_L4 xs i) := by
  obtain ⟨ad, c, e, _, hK, hc0⟩ := Kd.C_get h ([] : List Int) i h0 h1
  have hc : ∀ j u, c[j]? = some u → w.cell? (ad.add (i.toNat * 1 + j)) = some u := hc0
  obtain ⟨A0, c0, rfl, l0, g0⟩ := hK
  exact ⟨ad, A0, c0, e, by have hq := hc 0 _ rfl; rwa [Nat.mul_one, Nat.add_zero] at hq, l0, g0⟩

def rd_L5 (xs : List (List Int)) (i : Int) : (List Int) := xs.getD i.toNat ([] : List Int)
theorem at_L5 {w : World} {A : Option Addr} {n : Nat} {xs : List (List Int)} (h : Kd.C (Kd.slice 3 (Kd.int .i64)) w A n xs) (i : Int) (h0 : 0 ≤ i) (h1 : i < n) : ∃ ad A0 c0, A = some ad ∧ w.cell? (ad.add i.toNat) = some (.slice A0 (rd_L5 xs i).length c0) ∧ (rd_L5 xs i).length ≤ c0 ∧ (Kd.int .i64).C w A0 (rd_L5 xs i).length (rd_L5 xs i) := by
  obtain ⟨ad, c, e, _, hK, hc0⟩ := Kd.C_get h ([] : List Int) i h0 h1
  have hc : ∀ j u, c[j]? = some u → w.cell? (ad.add (i.toNat * 1 + j)) = some u := hc0
  obtain ⟨A0, c0, rfl, l0, g0⟩ := hK
  exact ⟨ad, A0, c0, e, by have hq := hc 0 _ rfl; rwa [Nat.mul_one, Nat.add_zero] at hq, l0, g0⟩

end Go.Proofs.Ytobgpdmiiipmmaa.Q

namespace Go.Proofs.Ytobgpdmiiipmmaa.Q
open Go.RowKit Go.Proofs.YtobgpdmiiipmmaaW.PrintWords Go.Proofs.YtobgpdmiiipmmaaW.PrintLast Go.Proofs.YtobgpdmiiipmmaaW.PrintMore
attribute [local go_sem] max2_int min2_int max_two min_two max_three min_three max_four min_four   -- for this text's walks alone
set_option linter.unusedVariables false
set_option linter.unusedSimpArgs false

/-! ### digit_Count: function 53 -/
def digit_Count.l0 : Nat → Int → Int → Option (Int)
  | 0, _, _ => none
  | k + 1, x0, x3 => if x0 > 9 then (digit_Count.l0 k (IntKind.u64.wrap (Int.tdiv x0 10)) (wrap64 (x3 + 1))) else (some x3)
def digit_Count.f (k : Nat) (a0 : Int) : Option (Int) := digit_Count.l0 k a0 1
theorem digit_Count.mono_l : ∀ k, (∀ y0 y1, LeO (digit_Count.l0 k y0 y1) (digit_Count.l0 (k + 1) y0 y1))
  | 0 => fun _ _ r h => by simp [digit_Count.l0] at h
  | k + 1 => by
    have ih0 := digit_Count.mono_l k
    · intro y0 y1
      unfold digit_Count.l0
      repeat' first
      | (with_reducible exact ih0 _ _)
      | (with_reducible exact LeO.refl _)
      | (with_reducible exact LeO.none _)
      | (with_reducible refine LeO.ite ?_ ?_)
      | (with_reducible refine LeO.bind ?_ (fun _ => ?_))
      | exact ih0 _ _
      | exact LeO.none _
      | refine LeO.ite ?_ ?_
      | refine LeO.bind ?_ (fun _ => ?_)
theorem digit_Count.mono : ∀ a0 k, LeO (digit_Count.f k a0) (digit_Count.f (k + 1) a0) := by
  intro a0 k
  have ih0 := digit_Count.mono_l k
  unfold digit_Count.f
  repeat' first
      | (with_reducible exact ih0 _ _)
      | (with_reducible exact LeO.refl _)
      | (with_reducible exact LeO.none _)
      | (with_reducible refine LeO.ite ?_ ?_)
      | (with_reducible refine LeO.bind ?_ (fun _ => ?_))
      | exact ih0 _ _
      | exact LeO.none _
      | refine LeO.ite ?_ ?_
      | refine LeO.bind ?_ (fun _ => ?_)
set_option maxHeartbeats 8000000 in
set_option maxRecDepth 100000 in
theorem digit_Count.calls (k : Nat) (a0 : Int) (r : Int) (w : World) (h : digit_Count.f k a0 = some r) :
    Calls Try.prog 53 #[.int .u64 a0] w fun e w' => e = .returned (.int .i64 r) ∧ Drawn0 w w' := by
  have H : (digit_Count.l0 k a0 1) = some r := h
  clear h
  have H' := Aside0.mk H
  clear H
  go_enter Try.func53, Try.ntmps53
  go_wp2
  go_loopg [0, 3] k (fun kq v0 v3 w' => ∃ (x0_1 : Int) (x3_1 : Int), v0 = .int .u64 x0_1 ∧ v3 = .int .i64 x3_1 ∧ Aside0 (digit_Count.l0 kq x0_1 x3_1 = some r) ∧ Aside0 (kq ≤ k) ∧ Drawn0 w w')
  case atStart => exact ⟨(a0), (1), (by first | rfl | (simp; done) | (simp [*]; done)), (by first | rfl | (simp; done) | (simp [*]; done)), H', ⟨Nat.le_refl _⟩, by repeat (first | exact Drawn0.refl _ | apply Drawn0.step)⟩
  case round =>
    clear H'
    obtain ⟨x0_1, x3_1, rfl, rfl, HA, HK1, ⟨m1, rfl⟩⟩ := hrel
    cases gk with
    | zero => exact absurd HA.out (by simp [digit_Count.l0])
    | succ k1 =>
      have H := HA.out
      clear HA
      simp only [digit_Count.l0] at H
      by_cases c2 : x0_1 > 9
      · rw [if_pos c2] at H
        have c2b0 : decide (9 < x0_1) = true := decide_eq_true c2
        clear c2
        have H' := Aside0.mk H
        clear H
        go_wp2
        go_roundg k1
        case measure => have := HK1.out; omega
        case rel => exact ⟨(IntKind.u64.wrap (Int.tdiv x0_1 10)), (wrap64 (x3_1 + 1)), (by first | rfl | (simp; done) | (simp [*]; done)), (by first | rfl | (simp; done) | (simp [*]; done)), H', ⟨by have := HK1.out; omega⟩, by repeat (first | exact Drawn0.refl _ | apply Drawn0.step)⟩
      · rw [if_neg c2] at H
        have c2b0 : decide (9 < x0_1) = false := decide_eq_false c2
        clear c2
        obtain rfl := Option.some.inj H
        go_wp2
        go_ret
        exact ⟨by first | rfl | (simp; done) | (simp [*]; done), by repeat (first | exact Drawn0.refl _ | apply Drawn0.step)⟩

end Go.Proofs.Ytobgpdmiiipmmaa.Q

namespace Go.Proofs.Ytobgpdmiiipmmaa.Q
open Go.RowKit Go.Proofs.YtobgpdmiiipmmaaW.PrintWords Go.Proofs.YtobgpdmiiipmmaaW.PrintLast Go.Proofs.YtobgpdmiiipmmaaW.PrintMore
attribute [local go_sem] max2_int min2_int max_two min_two max_three min_three max_four min_four   -- for this text's walks alone
set_option linter.unusedVariables false
set_option linter.unusedSimpArgs false

/-! ### digit_Pad: function 36 -/
section
/-- The last digit, as a byte, and what is left: as Go reckons it. -/
def digit_Pad.dg (x : Int) : Int := (IntKind.u64.wrap (48 + Int.tmod x 10)) % 256
def digit_Pad.nx (x : Int) : Int := IntKind.u64.wrap (Int.tdiv x 10)
/-- n digits of a number. -/
def digit_Pad.D : Nat → Int → List Int
  | 0, _ => []
  | n + 1, x => digit_Pad.D n (digit_Pad.nx x) ++ [digit_Pad.dg x]
theorem digit_Pad.D_length : ∀ (n : Nat) (x : Int), (digit_Pad.D n x).length = n
  | 0, _ => rfl
  | n + 1, x => by simp [digit_Pad.D, digit_Pad.D_length n]
def digit_Pad.f (k : Nat) (a0 : Int) (a1 : Int) : Option (List Int × Int) :=
  if a1 < 1 then some ([], 42) else if a1 > 20 then some ([], 42) else
    (digit_Count.f k a0).bind fun c => if c > a1 then some ([], 40) else some (digit_Pad.D a1.toNat a0, 0)
theorem digit_Pad.mono : ∀ a0 a1 k, LeO (digit_Pad.f k a0 a1) (digit_Pad.f (k + 1) a0 a1) := by
  intro a0 a1 k
  unfold digit_Pad.f
  refine LeO.ite (LeO.refl _) (LeO.ite (LeO.refl _) (LeO.bind (digit_Count.mono _ _) (fun _ => LeO.refl _)))
set_option maxHeartbeats 1000000 in
theorem digit_Pad.callsA (k : Nat) (a0 a1 : Int) (w : World) (h1 : a1 < 1) :
    Calls Try.prog 36 #[.int .u64 a0, .int .i64 a1] w fun e w' => ∃ v0_ : Value, e = .returned (.tuple #[v0_, .int .i64 42]) ∧ Kd.R (Kd.int .u8) 5 w' w.heap.size (fun _ => True) v0_ [] ∧ Below w.heap.size w w' := by
  go_enter Try.func36, Try.ntmps36
  go_wp2_with fail
  go_ret2
  exact ⟨_, rfl, Kd.R_nil _ _ _ _ _, Below.refl _ _⟩
set_option maxHeartbeats 1000000 in
theorem digit_Pad.callsB (k : Nat) (a0 a1 : Int) (w : World) (h1 : ¬ a1 < 1) (h2 : a1 > 20) :
    Calls Try.prog 36 #[.int .u64 a0, .int .i64 a1] w fun e w' => ∃ v0_ : Value, e = .returned (.tuple #[v0_, .int .i64 42]) ∧ Kd.R (Kd.int .u8) 5 w' w.heap.size (fun _ => True) v0_ [] ∧ Below w.heap.size w w' := by
  go_enter Try.func36, Try.ntmps36
  go_wp2_with fail
  go_ret2
  exact ⟨_, rfl, Kd.R_nil _ _ _ _ _, Below.refl _ _⟩
set_option maxHeartbeats 1000000 in
theorem digit_Pad.callsC (k : Nat) (a0 a1 c : Int) (w : World) (h1 : ¬ a1 < 1) (h2 : ¬ a1 > 20) (hc : digit_Count.f k a0 = some c) (h3 : c > a1) :
    Calls Try.prog 36 #[.int .u64 a0, .int .i64 a1] w fun e w' => ∃ v0_ : Value, e = .returned (.tuple #[v0_, .int .i64 40]) ∧ Kd.R (Kd.int .u8) 5 w' w.heap.size (fun _ => True) v0_ [] ∧ Below w.heap.size w w' := by
  have HC := Aside0.mk hc
  clear hc
  go_enter Try.func36, Try.ntmps36
  go_wp2_with (first | (go_at_call 53; refine (digit_Count.calls k a0 c _ HC.out).mono ?_; rintro e w1 ⟨rfl, hd⟩))
  go_ret2
  exact ⟨_, rfl, Kd.R_nil _ _ _ _ _, hd.below⟩
theorem digit_Pad.set_row (n m : Nat) (ds : List Int) (u : Int) (x : Value) :
    (nums .u8 (List.replicate (n + 1) 0 ++ ds ++ List.replicate m 0)).toArray.setIfInBounds n (.int .u8 u) = (nums .u8 (List.replicate n 0 ++ (u :: ds) ++ List.replicate m 0)).toArray := by
  have h : (nums .u8 (List.replicate (n + 1) 0 ++ ds ++ List.replicate m 0)) = nums .u8 (List.replicate n 0) ++ (.int .u8 0) :: nums .u8 (ds ++ List.replicate m 0) := by
    rw [List.replicate_succ']; simp [nums]
  have h' : (nums .u8 (List.replicate n 0 ++ (u :: ds) ++ List.replicate m 0)) = nums .u8 (List.replicate n 0) ++ (.int .u8 u) :: nums .u8 (ds ++ List.replicate m 0) := by simp [nums]
  rw [h, h', List.setIfInBounds_toArray]
  congr 1
  have hl : (nums IntKind.u8 (List.replicate n 0)).length = n := by simp [nums]
  rw [List.set_append_right _ _ (by omega)]
  rw [hl, Nat.sub_self]; rfl
set_option maxHeartbeats 4000000 in
set_option maxRecDepth 100000 in
theorem digit_Pad.callsD (k : Nat) (a0 : Int) (wd : Nat) (c : Int) (w : World) (h1 : 1 ≤ wd) (h2 : wd ≤ 20) (hc : digit_Count.f k a0 = some c) (h3 : ¬ c > (wd : Int)) :
    Calls Try.prog 36 #[.int .u64 a0, .int .i64 (wd : Int)] w fun e w' => ∃ v0_ : Value, e = .returned (.tuple #[v0_, .int .i64 0]) ∧ Kd.R (Kd.int .u8) 5 w' w.heap.size (fun _ => True) v0_ (digit_Pad.D wd a0) ∧ Below w.heap.size w w' := by
  have HC := Aside0.mk hc
  clear hc
  have g1 : ¬ (wd : Int) < 1 := by omega
  have g2 : ¬ (wd : Int) > 20 := by omega
  have g3 : IntKind.i64.wrap ((wd : Int) - 1) = (wd : Int) - 1 := by rw [IntKind.wrap_i64]; omega
  go_enter Try.func36, Try.ntmps36
  go_wp2_with (first | (go_at_call 53; refine (digit_Count.calls k a0 c _ HC.out).mono ?_; rintro e w1 ⟨rfl, hd⟩))
  have hB1 := Aside0.mk hd.below
  clear hd
  have hsz : w.heap.size ≤ w1.heap.size := hB1.out.size
  generalize hg : w1.heap.size = g at *
  have hstart : w1.heap.size = g := hg
  have Hg := Aside0.mk hstart
  clear hg hstart
  go_loopw [0, 7] (fun x i wr => ∃ (n : Nat) (y : Int) (ds : List Int), n ≤ wd ∧ Aside0 (ds.length = wd - n) ∧ x = .int .u64 y ∧ i = .int .i64 ((n : Int) - 1) ∧ Aside0 (digit_Pad.D wd a0 = digit_Pad.D n y ++ ds) ∧
      Aside0 (wr.heap[g]? = some (.cells (nums .u8 (List.replicate n 0 ++ ds ++ List.replicate (20 - wd) 0)).toArray 75 (0, 0))) ∧ Aside0 (Below w.heap.size w wr))
    (fun _ i _ => (intOf i + 1).toNat)
  case atStart =>
    refine ⟨wd, a0, [], Nat.le_refl _, ⟨by simp⟩, rfl, rfl, ⟨by simp⟩, ⟨?_⟩, ⟨?_⟩⟩
    · have hn := heap_alloc_new w1 (.cells (nums .u8 (List.replicate 20 0)).toArray 75)
      rw [Hg.out] at hn
      have hw : List.replicate wd (0 : Int) ++ [] ++ List.replicate (20 - wd) 0 = List.replicate 20 0 := by
        rw [List.append_nil, List.replicate_append_replicate]; congr 1; omega
      rw [hw]
      exact hn
    · exact hB1.out.alloc (by rw [Hg.out]; exact hsz) _
  case round =>
    obtain ⟨n, y, ds, hn, hds, rfl, rfl, hD, hh, hb⟩ := hrel
    rcases Nat.eq_zero_or_pos n with rfl | hpos
    · have hneg : ¬ ((0 : Nat) : Int) - 1 ≥ 0 := by omega
      have hcells : ReadsInt wr .u8 (some ⟨g, 0, none⟩) wd (digit_Pad.D wd a0) := by
        have hlen := hds.out
        have e := hD.out
        simp only [digit_Pad.D, List.nil_append] at e
        rw [e]
        refine ⟨by omega, by omega, fun _ => ⟨_, rfl, fun j hj => ?_⟩⟩
        rw [add_plain, blk_cell hh.out]
        simp [nums, List.getElem?_append, hlen, hj, List.getD_eq_getElem?_getD]
      go_wp2_with (first | (at_builtin; refine print_append_row (w0 := w) w.heap.size rfl _ _ 29 5 .u8 1 rfl Try.underlying29 info5 (by decide) (.slice none 0 0) [] (digit_Pad.D wd a0) _ _ _ rfl rfl (own_nil _ _ _ _) hcells hb.out hb.out.size (by simp; omega) ?_; intro v1 w2 ho hb2 hg2 hat))
      go_ret2
      refine ⟨v1, rfl, ?_, hb2⟩
      rw [List.nil_append] at ho
      exact Kd.R_of_own ho (fun _ _ => trivial)
    · obtain ⟨m, rfl⟩ : ∃ m, n = m + 1 := ⟨n - 1, by omega⟩
      have ei : (((m + 1 : Nat) : Int)) - 1 = (m : Int) := by omega
      rw [ei]
      have hm20 : (m : Int) < 20 := by omega
      have hm0 : (0 : Int) ≤ (m : Int) := by omega
      have hge : (m : Int) ≥ 0 := hm0
      have hcell : wr.cell? ⟨g, m, none⟩ = some (.int .u8 0) := by
        rw [blk_cell hh.out]
        simp [nums, List.getElem?_append, List.getElem?_replicate]
      have hfr : wr.frozen? ⟨g, m, none⟩ = false := blk_frozen hh.out m
      go_wp2_with fail
      go_roundw
      case rel =>
        refine ⟨m, digit_Pad.nx y, digit_Pad.dg y :: ds, by omega, ⟨by have := hds.out; simp; omega⟩, rfl, (by first | rfl | go_num), ⟨by rw [hD.out]; simp [digit_Pad.D]⟩, ⟨?_⟩, ⟨below_set hb.out (by have := hB1.out.size; have := Hg.out; omega)⟩⟩
        rw [← digit_Pad.set_row m _ ds (digit_Pad.dg y) (.int .u8 0)]
        exact blk_set hh.out m _
      case measure => (simp [intOf] <;> omega)
theorem digit_Pad.calls (k : Nat) (a0 : Int) (a1 : Int) (r1 : List Int) (r2 : Int) (w : World) (h : digit_Pad.f k a0 a1 = some (r1, r2)) :
    Calls Try.prog 36 #[.int .u64 a0, .int .i64 a1] w fun e w' => ∃ v0_ : Value, e = .returned (.tuple #[v0_, .int .i64 r2]) ∧ Kd.R (Kd.int .u8) 5 w' w.heap.size (fun _ => True) v0_ r1 ∧ Below w.heap.size w w' := by
  unfold digit_Pad.f at h
  by_cases h1 : a1 < 1
  · rw [if_pos h1] at h; simp only [Option.some.injEq, Prod.mk.injEq] at h; obtain ⟨rfl, rfl⟩ := h
    exact digit_Pad.callsA k a0 a1 w h1
  · rw [if_neg h1] at h
    by_cases h2 : a1 > 20
    · rw [if_pos h2] at h; simp only [Option.some.injEq, Prod.mk.injEq] at h; obtain ⟨rfl, rfl⟩ := h
      exact digit_Pad.callsB k a0 a1 w h1 h2
    · rw [if_neg h2] at h
      obtain ⟨c, hc, h⟩ := Option.bind_eq_some_iff.1 h
      by_cases h3 : c > a1
      · rw [if_pos h3] at h; simp only [Option.some.injEq, Prod.mk.injEq] at h; obtain ⟨rfl, rfl⟩ := h
        exact digit_Pad.callsC k a0 a1 c w h1 h2 hc h3
      · rw [if_neg h3] at h; simp only [Option.some.injEq, Prod.mk.injEq] at h; obtain ⟨rfl, rfl⟩ := h
        obtain ⟨wd, rfl⟩ : ∃ wd : Nat, a1 = (wd : Int) := ⟨a1.toNat, by omega⟩
        rw [Int.toNat_natCast]
        exact digit_Pad.callsD k a0 wd c w (by omega) (by omega) hc h3

end

end Go.Proofs.Ytobgpdmiiipmmaa.Q

namespace Go.Proofs.Ytobgpdmiiipmmaa.Q
open Go.RowKit Go.Proofs.YtobgpdmiiipmmaaW.PrintWords Go.Proofs.YtobgpdmiiipmmaaW.PrintLast Go.Proofs.YtobgpdmiiipmmaaW.PrintMore
attribute [local go_sem] max2_int min2_int max_two min_two max_three min_three max_four min_four   -- for this text's walks alone
set_option linter.unusedVariables false
set_option linter.unusedSimpArgs false

/-! ### date_Leap: function 21 -/
def date_Leap.f (a0 : Int) : Option (Bool) := if a0 ≥ 0 then (if a0 ≤ 9999 then (if (Int.tmod a0 4) = 0 then (if (Int.tmod a0 100) = 0 then (some ((Int.tmod a0 400) == 0)) else (some true)) else (some false)) else (some false)) else (some false)
set_option maxHeartbeats 8000000 in
set_option maxRecDepth 100000 in
theorem date_Leap.calls (a0 : Int) (r : Bool) (w : World) (h : date_Leap.f a0 = some r) :
    Calls Try.prog 21 #[.int .i64 a0] w fun e w' => e = .returned (.bool r) ∧ Drawn0 w w' := by
  have H : (if a0 ≥ 0 then (if a0 ≤ 9999 then (if (Int.tmod a0 4) = 0 then (if (Int.tmod a0 100) = 0 then (some ((Int.tmod a0 400) == 0)) else (some true)) else (some false)) else (some false)) else (some false)) = some r := h
  clear h
  by_cases c2 : a0 ≥ 0
  · rw [if_pos c2] at H
    have c2b0 : decide (0 ≤ a0) = true := decide_eq_true c2
    clear c2
    by_cases c3 : a0 ≤ 9999
    · rw [if_pos c3] at H
      have c3b0 : decide (a0 ≤ 9999) = true := decide_eq_true c3
      clear c3
      by_cases c4 : (Int.tmod a0 4) = 0
      · rw [if_pos c4] at H
        have c4b0 : ((Int.tmod a0 4) == 0) = true := beq_iff_eq.mpr c4
        have c4b1 : ((Int.tmod a0 4) != 0) = false := bne_eq_false_iff_eq.mpr c4
        clear c4
        by_cases c5 : (Int.tmod a0 100) = 0
        · rw [if_pos c5] at H
          have c5b0 : ((Int.tmod a0 100) == 0) = true := beq_iff_eq.mpr c5
          have c5b1 : ((Int.tmod a0 100) != 0) = false := bne_eq_false_iff_eq.mpr c5
          clear c5
          obtain rfl := Option.some.inj H
          go_enter Try.func21, Try.ntmps21
          go_wp2
          go_ret
          exact ⟨by first | rfl | (simp; done) | (simp [*]; done), by repeat (first | exact Drawn0.refl _ | apply Drawn0.step)⟩
        · rw [if_neg c5] at H
          have c5b0 : ((Int.tmod a0 100) == 0) = false := beq_eq_false_iff_ne.mpr c5
          have c5b1 : ((Int.tmod a0 100) != 0) = true := bne_iff_ne.mpr c5
          obtain rfl := Option.some.inj H
          go_enter Try.func21, Try.ntmps21
          go_wp2
          go_ret
          exact ⟨by first | rfl | (simp; done) | (simp [*]; done), by repeat (first | exact Drawn0.refl _ | apply Drawn0.step)⟩
      · rw [if_neg c4] at H
        have c4b0 : ((Int.tmod a0 4) == 0) = false := beq_eq_false_iff_ne.mpr c4
        have c4b1 : ((Int.tmod a0 4) != 0) = true := bne_iff_ne.mpr c4
        obtain rfl := Option.some.inj H
        go_enter Try.func21, Try.ntmps21
        go_wp2
        go_ret
        exact ⟨by first | rfl | (simp; done) | (simp [*]; done), by repeat (first | exact Drawn0.refl _ | apply Drawn0.step)⟩
    · rw [if_neg c3] at H
      have c3b0 : decide (a0 ≤ 9999) = false := decide_eq_false c3
      clear c3
      obtain rfl := Option.some.inj H
      go_enter Try.func21, Try.ntmps21
      go_wp2
      go_ret
      exact ⟨by first | rfl | (simp; done) | (simp [*]; done), by repeat (first | exact Drawn0.refl _ | apply Drawn0.step)⟩
  · rw [if_neg c2] at H
    have c2b0 : decide (0 ≤ a0) = false := decide_eq_false c2
    clear c2
    obtain rfl := Option.some.inj H
    go_enter Try.func21, Try.ntmps21
    go_wp2
    go_ret
    exact ⟨by first | rfl | (simp; done) | (simp [*]; done), by repeat (first | exact Drawn0.refl _ | apply Drawn0.step)⟩

end Go.Proofs.Ytobgpdmiiipmmaa.Q

namespace Go.Proofs.Ytobgpdmiiipmmaa.Q
open Go.RowKit Go.Proofs.YtobgpdmiiipmmaaW.PrintWords Go.Proofs.YtobgpdmiiipmmaaW.PrintLast Go.Proofs.YtobgpdmiiipmmaaW.PrintMore
attribute [local go_sem] max2_int min2_int max_two min_two max_three min_three max_four min_four   -- for this text's walks alone
set_option linter.unusedVariables false
set_option linter.unusedSimpArgs false

/-! ### date_ahead: function 51 -/
def date_ahead.f (a0 : Int) : Option (Int) := if a0 = 0 then (some 0) else (some (wrap64 ((wrap64 ((wrap64 ((wrap64 ((wrap64 (365 * (wrap64 ((wrap64 (a0 - 1)) + 1)))) + (wrap64 (Int.tdiv (wrap64 (a0 - 1)) 4)))) - (wrap64 (Int.tdiv (wrap64 (a0 - 1)) 100)))) + (wrap64 (Int.tdiv (wrap64 (a0 - 1)) 400)))) + 1)))
set_option maxHeartbeats 8000000 in
set_option maxRecDepth 100000 in
theorem date_ahead.calls (a0 : Int) (r : Int) (w : World) (h : date_ahead.f a0 = some r) :
    Calls Try.prog 51 #[.int .i64 a0] w fun e w' => e = .returned (.int .i64 r) ∧ Drawn0 w w' := by
  have H : (if a0 = 0 then (some 0) else (some (wrap64 ((wrap64 ((wrap64 ((wrap64 ((wrap64 (365 * (wrap64 ((wrap64 (a0 - 1)) + 1)))) + (wrap64 (Int.tdiv (wrap64 (a0 - 1)) 4)))) - (wrap64 (Int.tdiv (wrap64 (a0 - 1)) 100)))) + (wrap64 (Int.tdiv (wrap64 (a0 - 1)) 400)))) + 1)))) = some r := h
  clear h
  by_cases c2 : a0 = 0
  · rw [if_pos c2] at H
    have c2b0 : (a0 == 0) = true := beq_iff_eq.mpr c2
    have c2b1 : (a0 != 0) = false := bne_eq_false_iff_eq.mpr c2
    clear c2
    obtain rfl := Option.some.inj H
    go_enter Try.func51, Try.ntmps51
    go_wp2
    go_ret
    exact ⟨by first | rfl | (simp; done) | (simp [*]; done), by repeat (first | exact Drawn0.refl _ | apply Drawn0.step)⟩
  · rw [if_neg c2] at H
    have c2b0 : (a0 == 0) = false := beq_eq_false_iff_ne.mpr c2
    have c2b1 : (a0 != 0) = true := bne_iff_ne.mpr c2
    obtain rfl := Option.some.inj H
    go_enter Try.func51, Try.ntmps51
    go_wp2
    go_ret
    exact ⟨by first | rfl | (simp; done) | (simp [*]; done), by repeat (first | exact Drawn0.refl _ | apply Drawn0.step)⟩

end Go.Proofs.Ytobgpdmiiipmmaa.Q

namespace Go.Proofs.Ytobgpdmiiipmmaa.Q
open Go.RowKit Go.Proofs.YtobgpdmiiipmmaaW.PrintWords Go.Proofs.YtobgpdmiiipmmaaW.PrintLast Go.Proofs.YtobgpdmiiipmmaaW.PrintMore
attribute [local go_sem] max2_int min2_int max_two min_two max_three min_three max_four min_four   -- for this text's walks alone
set_option linter.unusedVariables false
set_option linter.unusedSimpArgs false

/-! ### date_Length: function 20 -/
section
/-- A year's months. -/
def date_Length.ms (leap : Bool) : List Int := [31, if leap = true then 29 else 28, 31, 30, 31, 30, 31, 31, 30, 31, 30, 31]
def date_Length.f (y m : Int) : Option Int :=
  if y < 0 ∨ y > 9999 ∨ m < 1 ∨ m > 12 then some 0 else (date_Leap.f y).bind fun b => some ((date_Length.ms b).getD (m - 1).toNat 0)
set_option maxHeartbeats 1000000 in
theorem date_Length.months (y : Int) (b : Bool) (w : World) (h : date_Leap.f y = some b) :
    Calls Try.prog 43 #[.int .i64 y] w fun e w' => e = .returned (.agg #[.int .i64 31, .int .i64 (if b = true then 29 else 28), .int .i64 31, .int .i64 30, .int .i64 31, .int .i64 30, .int .i64 31, .int .i64 31, .int .i64 30, .int .i64 31, .int .i64 30, .int .i64 31]) ∧ Below w.heap.size w w' := by
  have hl := fun W => date_Leap.calls y b W h
  cases b with
  | true =>
    go_enter Try.func43, Try.ntmps43
    go_wp2_with (first | (go_at_call 21; refine (hl _).mono ?_; rintro e w1 ⟨rfl, ⟨nd, rfl⟩⟩))
    refine bodyPost_ret (v := .agg #[.int .i64 31, .int .i64 29, .int .i64 31, .int .i64 30, .int .i64 31, .int .i64 30, .int .i64 31, .int .i64 31, .int .i64 30, .int .i64 31, .int .i64 30, .int .i64 31]) (by simp [results]; go_simp; done) rfl ?_
    exact ⟨rfl, by repeat (with_reducible first | exact Below.refl _ _ | apply pw_below_drewN | apply below_alloc | (refine below_set ?_ (by first | exact Nat.le_refl _ | exact Nat.le_succ _)))⟩
  | false =>
    go_enter Try.func43, Try.ntmps43
    go_wp2_with (first | (go_at_call 21; refine (hl _).mono ?_; rintro e w1 ⟨rfl, ⟨nd, rfl⟩⟩))
    refine bodyPost_ret (v := .agg #[.int .i64 31, .int .i64 28, .int .i64 31, .int .i64 30, .int .i64 31, .int .i64 30, .int .i64 31, .int .i64 31, .int .i64 30, .int .i64 31, .int .i64 30, .int .i64 31]) (by simp [results]; go_simp; done) rfl ?_
    exact ⟨rfl, by repeat (with_reducible first | exact Below.refl _ _ | apply pw_below_drewN | apply below_alloc | (refine below_set ?_ (by first | exact Nat.le_refl _ | exact Nat.le_succ _)))⟩
set_option maxHeartbeats 1000000 in
theorem date_Length.callsN (y m : Int) (w : World) (h : y < 0 ∨ y > 9999 ∨ m < 1 ∨ m > 12) :
    Calls Try.prog 20 #[.int .i64 y, .int .i64 m] w fun e w' => e = .returned (.int .i64 0) ∧ Below w.heap.size w w' := by
  by_cases h1 : y < 0
  · have d1 : decide (y < 0) = true := decide_eq_true h1
    go_enter Try.func20, Try.ntmps20
    go_wp2_with fail
    go_ret
    exact ⟨rfl, Below.refl _ _⟩
  have d1 : decide (y < 0) = false := decide_eq_false h1
  by_cases h2 : 9999 < y
  · have d2 : decide (9999 < y) = true := decide_eq_true h2
    go_enter Try.func20, Try.ntmps20
    go_wp2_with fail
    go_ret
    exact ⟨rfl, Below.refl _ _⟩
  have d2 : decide (9999 < y) = false := decide_eq_false h2
  by_cases h3 : m < 1
  · have d3 : decide (m < 1) = true := decide_eq_true h3
    go_enter Try.func20, Try.ntmps20
    go_wp2_with fail
    go_ret
    exact ⟨rfl, Below.refl _ _⟩
  have d3 : decide (m < 1) = false := decide_eq_false h3
  have d4 : decide (12 < m) = true := decide_eq_true (by omega)
  go_enter Try.func20, Try.ntmps20
  go_wp2_with fail
  go_ret
  exact ⟨rfl, Below.refl _ _⟩
set_option maxHeartbeats 2000000 in
theorem date_Length.callsY (y m : Int) (b : Bool) (w : World) (h1 : ¬ y < 0) (h2 : ¬ 9999 < y) (h3 : 1 ≤ m) (h4 : m ≤ 12) (hb : date_Leap.f y = some b) :
    Calls Try.prog 20 #[.int .i64 y, .int .i64 m] w fun e w' => e = .returned (.int .i64 ((date_Length.ms b).getD (m - 1).toNat 0)) ∧ Below w.heap.size w w' := by
  have d1 : decide (y < 0) = false := decide_eq_false h1
  have d2 : decide (9999 < y) = false := decide_eq_false h2
  have hk : m = 1 ∨ m = 2 ∨ m = 3 ∨ m = 4 ∨ m = 5 ∨ m = 6 ∨ m = 7 ∨ m = 8 ∨ m = 9 ∨ m = 10 ∨ m = 11 ∨ m = 12 := by omega
  have HM := fun W => Aside0.mk (date_Length.months y b W hb)
  clear h1 h2 h3 h4 hb
  rcases hk with rfl | rfl | rfl | rfl | rfl | rfl | rfl | rfl | rfl | rfl | rfl | rfl
  · have hi : ∀ W, (Instr.index 63 (.agg #[.int .i64 31, .int .i64 (if b = true then 29 else 28), .int .i64 31, .int .i64 30, .int .i64 31, .int .i64 30, .int .i64 31, .int .i64 31, .int .i64 30, .int .i64 31, .int .i64 30, .int .i64 31]) (.int .i64 0)).run Try.prog W = .ok (.int .i64 31) W := fun _ => rfl
    go_enter Try.func20, Try.ntmps20
    go_wp2_with (first | (go_at_call 43; refine ((HM _).out).mono ?_; rintro e w1 ⟨rfl, hb⟩; have HB := Aside0.mk hb; clear hb))
    all_goals
      go_ret
      exact ⟨rfl, HB.out⟩
  · have hi : ∀ W, (Instr.index 63 (.agg #[.int .i64 31, .int .i64 (if b = true then 29 else 28), .int .i64 31, .int .i64 30, .int .i64 31, .int .i64 30, .int .i64 31, .int .i64 31, .int .i64 30, .int .i64 31, .int .i64 30, .int .i64 31]) (.int .i64 1)).run Try.prog W = .ok (.int .i64 (if b = true then 29 else 28)) W := fun _ => rfl
    go_enter Try.func20, Try.ntmps20
    go_wp2_with (first | (go_at_call 43; refine ((HM _).out).mono ?_; rintro e w1 ⟨rfl, hb⟩; have HB := Aside0.mk hb; clear hb))
    all_goals
      go_ret
      exact ⟨rfl, HB.out⟩
  · have hi : ∀ W, (Instr.index 63 (.agg #[.int .i64 31, .int .i64 (if b = true then 29 else 28), .int .i64 31, .int .i64 30, .int .i64 31, .int .i64 30, .int .i64 31, .int .i64 31, .int .i64 30, .int .i64 31, .int .i64 30, .int .i64 31]) (.int .i64 2)).run Try.prog W = .ok (.int .i64 31) W := fun _ => rfl
    go_enter Try.func20, Try.ntmps20
    go_wp2_with (first | (go_at_call 43; refine ((HM _).out).mono ?_; rintro e w1 ⟨rfl, hb⟩; have HB := Aside0.mk hb; clear hb))
    all_goals
      go_ret
      exact ⟨rfl, HB.out⟩
  · have hi : ∀ W, (Instr.index 63 (.agg #[.int .i64 31, .int .i64 (if b = true then 29 else 28), .int .i64 31, .int .i64 30, .int .i64 31, .int .i64 30, .int .i64 31, .int .i64 31, .int .i64 30, .int .i64 31, .int .i64 30, .int .i64 31]) (.int .i64 3)).run Try.prog W = .ok (.int .i64 30) W := fun _ => rfl
    go_enter Try.func20, Try.ntmps20
    go_wp2_with (first | (go_at_call 43; refine ((HM _).out).mono ?_; rintro e w1 ⟨rfl, hb⟩; have HB := Aside0.mk hb; clear hb))
    all_goals
      go_ret
      exact ⟨rfl, HB.out⟩
  · have hi : ∀ W, (Instr.index 63 (.agg #[.int .i64 31, .int .i64 (if b = true then 29 else 28), .int .i64 31, .int .i64 30, .int .i64 31, .int .i64 30, .int .i64 31, .int .i64 31, .int .i64 30, .int .i64 31, .int .i64 30, .int .i64 31]) (.int .i64 4)).run Try.prog W = .ok (.int .i64 31) W := fun _ => rfl
    go_enter Try.func20, Try.ntmps20
    go_wp2_with (first | (go_at_call 43; refine ((HM _).out).mono ?_; rintro e w1 ⟨rfl, hb⟩; have HB := Aside0.mk hb; clear hb))
    all_goals
      go_ret
      exact ⟨rfl, HB.out⟩
  · have hi : ∀ W, (Instr.index 63 (.agg #[.int .i64 31, .int .i64 (if b = true then 29 else 28), .int .i64 31, .int .i64 30, .int .i64 31, .int .i64 30, .int .i64 31, .int .i64 31, .int .i64 30, .int .i64 31, .int .i64 30, .int .i64 31]) (.int .i64 5)).run Try.prog W = .ok (.int .i64 30) W := fun _ => rfl
    go_enter Try.func20, Try.ntmps20
    go_wp2_with (first | (go_at_call 43; refine ((HM _).out).mono ?_; rintro e w1 ⟨rfl, hb⟩; have HB := Aside0.mk hb; clear hb))
    all_goals
      go_ret
      exact ⟨rfl, HB.out⟩
  · have hi : ∀ W, (Instr.index 63 (.agg #[.int .i64 31, .int .i64 (if b = true then 29 else 28), .int .i64 31, .int .i64 30, .int .i64 31, .int .i64 30, .int .i64 31, .int .i64 31, .int .i64 30, .int .i64 31, .int .i64 30, .int .i64 31]) (.int .i64 6)).run Try.prog W = .ok (.int .i64 31) W := fun _ => rfl
    go_enter Try.func20, Try.ntmps20
    go_wp2_with (first | (go_at_call 43; refine ((HM _).out).mono ?_; rintro e w1 ⟨rfl, hb⟩; have HB := Aside0.mk hb; clear hb))
    all_goals
      go_ret
      exact ⟨rfl, HB.out⟩
  · have hi : ∀ W, (Instr.index 63 (.agg #[.int .i64 31, .int .i64 (if b = true then 29 else 28), .int .i64 31, .int .i64 30, .int .i64 31, .int .i64 30, .int .i64 31, .int .i64 31, .int .i64 30, .int .i64 31, .int .i64 30, .int .i64 31]) (.int .i64 7)).run Try.prog W = .ok (.int .i64 31) W := fun _ => rfl
    go_enter Try.func20, Try.ntmps20
    go_wp2_with (first | (go_at_call 43; refine ((HM _).out).mono ?_; rintro e w1 ⟨rfl, hb⟩; have HB := Aside0.mk hb; clear hb))
    all_goals
      go_ret
      exact ⟨rfl, HB.out⟩
  · have hi : ∀ W, (Instr.index 63 (.agg #[.int .i64 31, .int .i64 (if b = true then 29 else 28), .int .i64 31, .int .i64 30, .int .i64 31, .int .i64 30, .int .i64 31, .int .i64 31, .int .i64 30, .int .i64 31, .int .i64 30, .int .i64 31]) (.int .i64 8)).run Try.prog W = .ok (.int .i64 30) W := fun _ => rfl
    go_enter Try.func20, Try.ntmps20
    go_wp2_with (first | (go_at_call 43; refine ((HM _).out).mono ?_; rintro e w1 ⟨rfl, hb⟩; have HB := Aside0.mk hb; clear hb))
    all_goals
      go_ret
      exact ⟨rfl, HB.out⟩
  · have hi : ∀ W, (Instr.index 63 (.agg #[.int .i64 31, .int .i64 (if b = true then 29 else 28), .int .i64 31, .int .i64 30, .int .i64 31, .int .i64 30, .int .i64 31, .int .i64 31, .int .i64 30, .int .i64 31, .int .i64 30, .int .i64 31]) (.int .i64 9)).run Try.prog W = .ok (.int .i64 31) W := fun _ => rfl
    go_enter Try.func20, Try.ntmps20
    go_wp2_with (first | (go_at_call 43; refine ((HM _).out).mono ?_; rintro e w1 ⟨rfl, hb⟩; have HB := Aside0.mk hb; clear hb))
    all_goals
      go_ret
      exact ⟨rfl, HB.out⟩
  · have hi : ∀ W, (Instr.index 63 (.agg #[.int .i64 31, .int .i64 (if b = true then 29 else 28), .int .i64 31, .int .i64 30, .int .i64 31, .int .i64 30, .int .i64 31, .int .i64 31, .int .i64 30, .int .i64 31, .int .i64 30, .int .i64 31]) (.int .i64 10)).run Try.prog W = .ok (.int .i64 30) W := fun _ => rfl
    go_enter Try.func20, Try.ntmps20
    go_wp2_with (first | (go_at_call 43; refine ((HM _).out).mono ?_; rintro e w1 ⟨rfl, hb⟩; have HB := Aside0.mk hb; clear hb))
    all_goals
      go_ret
      exact ⟨rfl, HB.out⟩
  · have hi : ∀ W, (Instr.index 63 (.agg #[.int .i64 31, .int .i64 (if b = true then 29 else 28), .int .i64 31, .int .i64 30, .int .i64 31, .int .i64 30, .int .i64 31, .int .i64 31, .int .i64 30, .int .i64 31, .int .i64 30, .int .i64 31]) (.int .i64 11)).run Try.prog W = .ok (.int .i64 31) W := fun _ => rfl
    go_enter Try.func20, Try.ntmps20
    go_wp2_with (first | (go_at_call 43; refine ((HM _).out).mono ?_; rintro e w1 ⟨rfl, hb⟩; have HB := Aside0.mk hb; clear hb))
    all_goals
      go_ret
      exact ⟨rfl, HB.out⟩
theorem date_Length.calls (a0 : Int) (a1 : Int) (r : Int) (w : World) (h : date_Length.f a0 a1 = some r) :
    Calls Try.prog 20 #[.int .i64 a0, .int .i64 a1] w fun e w' => e = .returned (.int .i64 r) ∧ Below w.heap.size w w' := by
  unfold date_Length.f at h
  by_cases hc : a0 < 0 ∨ a0 > 9999 ∨ a1 < 1 ∨ a1 > 12
  · rw [if_pos hc] at h
    obtain rfl := Option.some.inj h
    exact date_Length.callsN a0 a1 w hc
  · rw [if_neg hc] at h
    obtain ⟨b, hb, h⟩ := Option.bind_eq_some_iff.1 h
    obtain rfl := Option.some.inj h
    exact date_Length.callsY a0 a1 b w (by omega) (by omega) (by omega) (by omega) hb

end

end Go.Proofs.Ytobgpdmiiipmmaa.Q

namespace Go.Proofs.Ytobgpdmiiipmmaa.Q
open Go.RowKit Go.Proofs.YtobgpdmiiipmmaaW.PrintWords Go.Proofs.YtobgpdmiiipmmaaW.PrintLast Go.Proofs.YtobgpdmiiipmmaaW.PrintMore
attribute [local go_sem] max2_int min2_int max_two min_two max_three min_three max_four min_four   -- for this text's walks alone
set_option linter.unusedVariables false
set_option linter.unusedSimpArgs false

/-! ### date_date: function 31 -/
section
/-- Days ahead of a year. -/
def date_date.A (y : Int) : Int := if y = 0 then 0 else 365 * y + (y - 1) / 4 - (y - 1) / 100 + (y - 1) / 400 + 1
def date_date.leap (y : Int) : Bool := decide (y % 4 = 0) && (decide (y % 100 ≠ 0) || decide (y % 400 = 0))
def date_date.ms (leap : Bool) : List Int := [31, if leap = true then 29 else 28, 31, 30, 31, 30, 31, 31, 30, 31, 30, 31]
/-- The year: up from one that is not too late. -/
def date_date.yr : Nat → Int → Int → Int
  | 0, _, y => y
  | k + 1, n, y => if y < 9999 ∧ date_date.A (y + 1) ≤ n then date_date.yr k n (y + 1) else y
/-- The month and what is left. -/
def date_date.mo : List Int → Int → Int → Int × Int
  | [], m, r => (m, r)
  | l :: ls, m, r => if r ≥ l then date_date.mo ls (m + 1) (r - l) else (m, r)
def date_date.f (n : Int) : Option (Int × Int × Int) :=
  if 0 ≤ n + 719528 ∧ n + 719528 ≤ 3652424 then
    let y := date_date.yr 100 (n + 719528) ((n + 719528) / 366)
    let r := date_date.mo (date_date.ms (date_date.leap y)) 1 (n + 719528 - date_date.A y)
    some (y, r.1, r.2 + 1)
  else none
theorem date_date.leap_ev {y : Int} (h : 0 ≤ y) (h' : y ≤ 9999) : date_Leap.f y = some (date_date.leap y) := by
  unfold date_Leap.f date_date.leap
  rw [if_pos h, if_pos h', Int.tmod_eq_emod_of_nonneg h, Int.tmod_eq_emod_of_nonneg h, Int.tmod_eq_emod_of_nonneg h]
  by_cases h4 : y % 4 = 0
  · rw [if_pos h4]
    by_cases h1 : y % 100 = 0
    · rw [if_pos h1]; simp [h4, h1]; rfl
    · rw [if_neg h1]; simp [h4, h1]
  · rw [if_neg h4]; simp [h4]
theorem date_date.ahead_ev {y : Int} (h : 0 ≤ y) (h' : y ≤ 10000) : date_ahead.f y = some (date_date.A y) := by
  unfold date_ahead.f date_date.A
  by_cases h0 : y = 0
  · rw [if_pos h0, if_pos h0]
  · rw [if_neg h0, if_neg h0]
    have e1 : wrap64 (y - 1) = y - 1 := by unfold wrap64; omega
    have e2 : wrap64 (y - 1 + 1) = y := by unfold wrap64; omega
    rw [e1, e2, Int.tdiv_eq_ediv_of_nonneg (by omega), Int.tdiv_eq_ediv_of_nonneg (by omega), Int.tdiv_eq_ediv_of_nonneg (by omega)]
    congr 1
    have e3 : wrap64 (365 * y) = 365 * y := by unfold wrap64; omega
    have e4 : wrap64 ((y - 1) / 4) = (y - 1) / 4 := by unfold wrap64; omega
    have e5 : wrap64 ((y - 1) / 100) = (y - 1) / 100 := by unfold wrap64; omega
    have e6 : wrap64 ((y - 1) / 400) = (y - 1) / 400 := by unfold wrap64; omega
    rw [e3, e4, e5, e6]
    unfold wrap64; omega
theorem date_date.A_le {y : Int} (h : 0 ≤ y) : 365 * y ≤ date_date.A y ∧ date_date.A y ≤ 366 * y := by
  unfold date_date.A; split <;> omega
set_option maxHeartbeats 1000000 in
theorem date_date.months (y : Int) (b : Bool) (w : World) (h : date_Leap.f y = some b) :
    Calls Try.prog 43 #[.int .i64 y] w fun e w' => e = .returned (.agg #[.int .i64 31, .int .i64 (if b = true then 29 else 28), .int .i64 31, .int .i64 30, .int .i64 31, .int .i64 30, .int .i64 31, .int .i64 31, .int .i64 30, .int .i64 31, .int .i64 30, .int .i64 31]) ∧ Below w.heap.size w w' := by
  have hl := fun W => date_Leap.calls y b W h
  cases b with
  | true =>
    go_enter Try.func43, Try.ntmps43
    go_wp2_with (first | (go_at_call 21; refine (hl _).mono ?_; rintro e w1 ⟨rfl, ⟨nd, rfl⟩⟩))
    refine bodyPost_ret (v := .agg #[.int .i64 31, .int .i64 29, .int .i64 31, .int .i64 30, .int .i64 31, .int .i64 30, .int .i64 31, .int .i64 31, .int .i64 30, .int .i64 31, .int .i64 30, .int .i64 31]) (by simp [results]; go_simp; done) rfl ?_
    exact ⟨rfl, by repeat (with_reducible first | exact Below.refl _ _ | apply pw_below_drewN | apply below_alloc | (refine below_set ?_ (by first | exact Nat.le_refl _ | exact Nat.le_succ _)))⟩
  | false =>
    go_enter Try.func43, Try.ntmps43
    go_wp2_with (first | (go_at_call 21; refine (hl _).mono ?_; rintro e w1 ⟨rfl, ⟨nd, rfl⟩⟩))
    refine bodyPost_ret (v := .agg #[.int .i64 31, .int .i64 28, .int .i64 31, .int .i64 30, .int .i64 31, .int .i64 30, .int .i64 31, .int .i64 31, .int .i64 30, .int .i64 31, .int .i64 30, .int .i64 31]) (by simp [results]; go_simp; done) rfl ?_
    exact ⟨rfl, by repeat (with_reducible first | exact Below.refl _ _ | apply pw_below_drewN | apply below_alloc | (refine below_set ?_ (by first | exact Nat.le_refl _ | exact Nat.le_succ _)))⟩
def date_date.sum : List Int → Int
  | [] => 0
  | l :: ls => l + date_date.sum ls
theorem date_date.A_step {y : Int} (h : 0 ≤ y) : date_date.A (y + 1) = date_date.A y + date_date.sum (date_date.ms (date_date.leap y)) := by
  have hs : ∀ b : Bool, date_date.sum (date_date.ms b) = if b = true then 366 else 365 := by decide
  rw [hs]
  unfold date_date.A date_date.leap
  rw [if_neg (show ¬ y + 1 = 0 by omega)]
  by_cases h0 : y = 0
  · subst h0; decide
  · rw [if_neg h0]
    simp only [Bool.and_eq_true, Bool.or_eq_true, decide_eq_true_iff]
    split <;> omega
set_option maxHeartbeats 4000000 in
theorem date_date.calls (a0 : Int) (r1 r2 r3 : Int) (w : World) (h : date_date.f a0 = some (r1, r2, r3)) :
    Calls Try.prog 31 #[.int .i64 a0] w fun e w' => e = .returned (.tuple #[.int .i64 r1, .int .i64 r2, .int .i64 r3]) ∧ Below w.heap.size w w' := by
  unfold date_date.f at h
  by_cases hr : ¬ (0 ≤ a0 + 719528 ∧ a0 + 719528 ≤ 3652424)
  · rw [if_neg hr] at h; cases h
  replace hr := Classical.not_not.1 hr
  rw [if_pos hr] at h
  obtain ⟨N, hN⟩ : ∃ N, a0 + 719528 = N := ⟨_, rfl⟩
  rw [hN] at h hr
  have e0 : wrap64 (a0 - -719528) = N := by unfold wrap64; omega
  have e1 : wrap64 (Int.tdiv N 366) = N / 366 := by rw [Int.tdiv_eq_ediv_of_nonneg hr.1]; unfold wrap64; omega
  simp only [Option.some.injEq, Prod.mk.injEq] at h
  obtain ⟨hy, h2, h3⟩ := h
  go_enter Try.func31, Try.ntmps31
  go_wp2_with fail
  go_loopw [2] (fun v wr => ∃ (j : Nat), j ≤ 28 ∧ N / 366 + j ≤ 9999 ∧ v = .int .i64 (N / 366 + j) ∧ date_date.yr (100 - j) N (N / 366 + j) = r1 ∧ Below w.heap.size w wr ∧ date_date.A (N / 366 + j) ≤ N) (fun v _ => 10000 - (intOf v).toNat)
  case atStart => exact ⟨0, Nat.zero_le _, by omega, by simp [e1], by simpa using hy, Below.refl _ _, by have := date_date.A_le (y := N / 366) (by omega); simp; omega⟩
  case round =>
    obtain ⟨j, hj, hj9, rfl, hyr, hb, hAN⟩ := hrel
    have HB := Aside0.mk hb
    have HY := Aside0.mk hyr
    clear hb hyr
    by_cases c : N / 366 + j < 9999 ∧ date_date.A (N / 366 + j + 1) ≤ N
    · have d1 : decide (N / 366 + (j : Int) < 9999) = true := decide_eq_true c.1
      have d2 : decide (date_date.A (N / 366 + j + 1) ≤ N) = true := decide_eq_true c.2
      have hw1 : wrap64 (N / 366 + j + 1) = N / 366 + j + 1 := by unfold wrap64; omega
      have HA := Aside0.mk (fun W => date_ahead.calls _ _ W (date_date.ahead_ev (y := N / 366 + j + 1) (by omega) (by omega)))
      go_wp2_with (first | (go_at_call 51; refine (HA.out _).mono ?_; rintro e w1 ⟨rfl, ⟨nd, rfl⟩⟩))
      go_roundw
      case rel =>
        have al := date_date.A_le (y := N / 366 + j + 1) (by omega)
        refine ⟨j + 1, by omega, by omega, by congr 1; omega, ?_, pw_below_drewN HB.out _, by rw [show N / 366 + ((j + 1 : Nat) : Int) = N / 366 + j + 1 by omega]; exact c.2⟩
        have hyr := HY.out
        rw [show 100 - j = (100 - (j + 1)) + 1 by omega] at hyr
        simp only [date_date.yr] at hyr
        rw [if_pos c] at hyr
        rw [show N / 366 + ((j + 1 : Nat) : Int) = N / 366 + j + 1 by omega]; exact hyr
      case measure => simp [intOf]; omega
    · have ry : N / 366 + j = r1 := by
        have hyr := HY.out
        rw [show 100 - j = (100 - (j + 1)) + 1 by omega] at hyr
        simp only [date_date.yr] at hyr
        rwa [if_neg c] at hyr
      have hlast : date_date.A (N / 366 + j + 1) > N := by
        by_cases q : N / 366 + (j : Int) < 9999
        · have : ¬ date_date.A (N / 366 + j + 1) ≤ N := fun z => c ⟨q, z⟩
          omega
        · have e9 : N / 366 + (j : Int) = 9999 := by omega
          rw [e9, show date_date.A (9999 + 1) = 3652425 by decide]; omega
      rw [date_date.A_step (by omega), ry] at hlast
      have dd : (decide (N / 366 + (j : Int) < 9999) = false) ∨ (decide (N / 366 + (j : Int) < 9999) = true ∧ decide (date_date.A (N / 366 + j + 1) ≤ N) = false) := by
        by_cases q : N / 366 + (j : Int) < 9999
        · exact .inr ⟨decide_eq_true q, decide_eq_false fun z => c ⟨q, z⟩⟩
        · exact .inl (decide_eq_false q)
      have hw1 : wrap64 (N / 366 + j + 1) = N / 366 + j + 1 := by unfold wrap64; omega
      have HA := Aside0.mk (fun W => date_ahead.calls _ _ W (date_date.ahead_ev (y := N / 366 + j + 1) (by omega) (by omega)))
      rw [ry] at hAN dd hw1 hj9 HA
      have r0 : 0 ≤ r1 := by omega
      have HA2 := Aside0.mk (fun W => date_ahead.calls _ _ W (date_date.ahead_ev (y := r1) (by omega) (by omega)))
      have HM := Aside0.mk (fun W => date_date.months r1 _ W (date_date.leap_ev (y := r1) (by omega) (by omega)))
      rw [show date_date.yr 100 N (N / 366) = r1 from hy] at h2 h3
      rw [ry]
      have hsub : wrap64 (N - date_date.A r1) = N - date_date.A r1 := by have := date_date.A_le (y := r1) (by omega); unfold wrap64; omega
      obtain ⟨f2, hf2⟩ : ∃ f2 : Int, (if date_date.leap r1 = true then 29 else 28) = f2 := ⟨_, rfl⟩
      rw [hf2] at HM
      obtain ⟨L, hL⟩ : ∃ L : List Int, L = [31, f2, 31, 30, 31, 30, 31, 31, 30, 31, 30, 31] := ⟨_, rfl⟩
      have hms : date_date.ms (date_date.leap r1) = L := by unfold date_date.ms; rw [hf2, hL]
      rw [hms] at h2 h3 hlast
      have hpos : ∀ k, k < 12 → 0 ≤ L.getD k 0 ∧ L.getD k 0 ≤ 31 := by
        intro k hk
        have : 28 ≤ f2 ∧ f2 ≤ 29 := by rw [← hf2]; split <;> omega
        rw [hL]
        match k, hk with
        | 0, _ | 1, _ | 2, _ | 3, _ | 4, _ | 5, _ | 6, _ | 7, _ | 8, _ | 9, _ | 10, _ | 11, _ => simp <;> omega
      have hLl : L.length = 12 := by rw [hL]; rfl
      have hmo : date_date.mo L 1 (N - date_date.A r1) = (r2, r3 - 1) := by
        rw [← h2, ← h3]; apply Prod.ext; rfl; simp
      have hs1 : date_date.sum L < 1000 := by
        have : f2 ≤ 29 := by rw [← hf2]; split <;> omega
        rw [hL]; simp only [date_date.sum]; omega
      rcases dd with d1 | ⟨d1, d2⟩
      all_goals
        go_wp2_with (first | (go_at_call 51; with_reducible refine (HA.out _).mono ?_; rintro e w1 ⟨rfl, ⟨nd, rfl⟩⟩) | (go_at_call 51; with_reducible refine (HA2.out _).mono ?_; rintro e w1 ⟨rfl, ⟨nd, rfl⟩⟩) | (go_at_call 43; refine (HM.out _).mono ?_; rintro e wm ⟨rfl, hb⟩; have HB2 := Aside0.mk hb; clear hb))
        obtain ⟨W0, hW0⟩ : ∃ W0, wm.alloc (.cells #[.int .i64 31, .int .i64 f2, .int .i64 31, .int .i64 30, .int .i64 31, .int .i64 30, .int .i64 31, .int .i64 31, .int .i64 30, .int .i64 31, .int .i64 30, .int .i64 31] 63) = W0 := ⟨_, rfl⟩
        rw [hW0]
        have HC : Aside0 (∀ k, k < 12 → W0.cell? ⟨wm.heap.size, k, none⟩ = some (.int .i64 (L.getD k 0))) := by
          refine ⟨fun k hk => ?_⟩
          rw [← hW0, hL]
          match k, hk with
          | 0, _ | 1, _ | 2, _ | 3, _ | 4, _ | 5, _ | 6, _ | 7, _ | 8, _ | 9, _ | 10, _ | 11, _ => simp
        have HBW : Aside0 (Below w.heap.size w W0) := ⟨by rw [← hW0]; exact below_alloc (below_step (pw_below_drewN HB.out _) HB2.out) _⟩
        clear hW0
        go_loopw [0, 3] (fun n m wq => ∃ (i : Nat) (q : Int), i < 12 ∧ n = .int .i64 q ∧ m = .int .i64 i ∧ 0 ≤ q ∧ q < 1000 ∧ q < date_date.sum (L.drop i) ∧ date_date.mo (L.drop i) (i + 1) q = (r2, r3 - 1) ∧ wq = W0) (fun _ m _ => 12 - (intOf m).toNat)
        case atStart => exact ⟨0, _, by omega, rfl, rfl, by omega, by omega, by simp; omega, by simpa using hmo, rfl⟩
        case round =>
          obtain ⟨i, q, hi, rfl, rfl, hq, hq1, hqs, hqm, rfl⟩ := hrel
          have hc := HC.out i hi
          have hp := hpos i hi
          have hdr : L.drop i = L.getD i 0 :: L.drop (i + 1) := by
            rw [List.drop_eq_getElem_cons (by omega)]
            congr 1
            simp [List.getD, hLl, hi]
          rw [hdr] at hqs hqm
          revert hc hp hqs hqm
          generalize L.getD i 0 = li
          intro hqs hqm hc hp
          simp only [date_date.sum] at hqs
          simp only [date_date.mo] at hqm
          by_cases hge : q ≥ li
          · rw [if_pos hge] at hqm
            have dge : decide (li ≤ q) = true := decide_eq_true hge
            go_wp2_with fail
            have hi1 : i + 1 < 12 := by
              rcases Nat.lt_or_ge (i + 1) 12 with z | z
              · exact z
              · exfalso
                rw [List.drop_of_length_le (by omega)] at hqs
                simp only [date_date.sum] at hqs
                omega
            refine ⟨⟨i + 1, q - li, hi1, rfl, by congr 1, by omega, by omega, by omega, ?_, trivial⟩, by simp [intOf]; omega⟩
            rw [show ((i + 1 : Nat) : Int) + 1 = (i : Int) + 1 + 1 by omega]; exact hqm
          · rw [if_neg hge] at hqm
            have dge : decide (li ≤ q) = false := decide_eq_false hge
            simp only [Prod.mk.injEq] at hqm
            obtain ⟨hr2, hr3⟩ := hqm
            have hw2 : wrap64 (q + 1) = q + 1 := by unfold wrap64; omega
            have hr3' : q + 1 = r3 := by omega
            go_wp2_with fail
            go_ret3
            exact ⟨by first | rfl | (rw [← hr2, ← hr3']), HBW.out⟩

end

end Go.Proofs.Ytobgpdmiiipmmaa.Q

namespace Go.Proofs.Ytobgpdmiiipmmaa.Q
open Go.RowKit Go.Proofs.YtobgpdmiiipmmaaW.PrintWords Go.Proofs.YtobgpdmiiipmmaaW.PrintLast Go.Proofs.YtobgpdmiiipmmaaW.PrintMore
attribute [local go_sem] max2_int min2_int max_two min_two max_three min_three max_four min_four   -- for this text's walks alone
set_option linter.unusedVariables false
set_option linter.unusedSimpArgs false

/-! ### date_pad: function 32 -/
def date_pad.l0 : Nat → ByteArray → List Int → List Int → Int → Int → Option (List Int)
  | 0, _, _, _, _, _ => none
  | k + 1, x0, x5, x11, x12, x13 => if x13 < x12 then (if 0 ≤ x13 then (if x13 < (x11.length : Int) then (if x13 < (x0.size : Int) then (if (bt x0 x13) = 32 then ((digit_Pad.f k (IntKind.u64.wrap (rd x11 x13)) 4).bind fun bt102 => (if x5.length + bt102.1.length < 140737488355328 then (date_pad.l0 k x0 (x5 ++ bt102.1) x11 x12 (wrap64 (x13 + 1))) else (none))) else (if x5.length < 140737488355328 then ((some (x5 ++ [bt x0 x13] : List Int)).bind fun y109 => ((digit_Pad.f k (IntKind.u64.wrap (rd x11 x13)) 2).bind fun bt112 => (if y109.length + bt112.1.length < 140737488355328 then (date_pad.l0 k x0 (y109 ++ bt112.1) x11 x12 (wrap64 (x13 + 1))) else (none)))) else (none))) else (none)) else (none)) else (none)) else (some x5)
def date_pad.f (k : Nat) (a0 : ByteArray) (l1 : List Int) : Option (List Int) := date_pad.l0 k a0 ([] : List Int) l1 (l1.length : Int) 0
theorem date_pad.mono_l : ∀ k, (∀ y0 y1 y2 y3 y4, LeO (date_pad.l0 k y0 y1 y2 y3 y4) (date_pad.l0 (k + 1) y0 y1 y2 y3 y4))
  | 0 => fun _ _ _ _ _ r h => by simp [date_pad.l0] at h
  | k + 1 => by
    have ih0 := date_pad.mono_l k
    · intro y0 y1 y2 y3 y4
      unfold date_pad.l0
      repeat' first
      | (with_reducible exact ih0 _ _ _ _ _)
      | (with_reducible exact digit_Pad.mono _ _ _)
      | (with_reducible exact LeO.refl _)
      | (with_reducible exact LeO.none _)
      | (with_reducible refine LeO.ite ?_ ?_)
      | (with_reducible refine LeO.bind ?_ (fun _ => ?_))
      | exact ih0 _ _ _ _ _
      | exact digit_Pad.mono _ _ _
      | exact LeO.none _
      | refine LeO.ite ?_ ?_
      | refine LeO.bind ?_ (fun _ => ?_)
theorem date_pad.mono : ∀ a0 a1 k, LeO (date_pad.f k a0 a1) (date_pad.f (k + 1) a0 a1) := by
  intro a0 a1 k
  have ih0 := date_pad.mono_l k
  unfold date_pad.f
  repeat' first
      | (with_reducible exact ih0 _ _ _ _ _)
      | (with_reducible exact digit_Pad.mono _ _ _)
      | (with_reducible exact LeO.refl _)
      | (with_reducible exact LeO.none _)
      | (with_reducible refine LeO.ite ?_ ?_)
      | (with_reducible refine LeO.bind ?_ (fun _ => ?_))
      | exact ih0 _ _ _ _ _
      | exact digit_Pad.mono _ _ _
      | exact LeO.none _
      | refine LeO.ite ?_ ?_
      | refine LeO.bind ?_ (fun _ => ?_)
set_option maxHeartbeats 8000000 in
set_option maxRecDepth 100000 in
theorem date_pad.calls (k : Nat) (a0 : ByteArray) (A1 : Option Addr) (c1 : Nat) (l1 : List Int) (r : List Int) (w : World) (hr1 : Kd.C (Kd.int .i64) w A1 l1.length l1) (hc1 : l1.length ≤ c1) (h : date_pad.f k a0 l1 = some r) :
    Calls Try.prog 32 #[.string a0, .slice A1 l1.length c1] w fun e w' => ∃ v0_ : Value, e = .returned (v0_) ∧ Kd.R (Kd.int .u8) 5 w' w.heap.size (fun _ => True) v0_ r ∧ Below w.heap.size w w' := by
  have HR1 := Aside0.mk hr1
  have HC1 := Aside0.mk hc1
  clear hr1 hc1
  have HB := Aside0.mk (Below.refl w.heap.size w)
  have H : (date_pad.l0 k a0 ([] : List Int) l1 (l1.length : Int) 0) = some r := h
  clear h
  have H' := Aside0.mk H
  clear H
  go_enter Try.func32, Try.ntmps32
  go_wp2
  go_loopg [5, 13] k (fun kq v5 v13 w' => ∃ (x5_1 : List Int) (x13_1 : Int), v13 = .int .i64 x13_1 ∧ Aside0 (date_pad.l0 kq a0 x5_1 l1 (l1.length : Int) x13_1 = some r) ∧ Aside0 (kq ≤ k) ∧ Aside0 (Kd.R (Kd.int .u8) 5 w' w.heap.size (fun _ => True) v5 x5_1) ∧ Aside0 (Below w.heap.size w w'))
  case atStart => exact ⟨(([] : List Int)), (0), (by first | rfl | (simp; done) | (simp [*]; done)), H', ⟨Nat.le_refl _⟩, ⟨by first | exact Kd.R_nil _ _ _ _ _ | exact Kd.N_nil _ _ _ _ _ | exact Kd.V_nil _ _ _ _ _ | exact Kd.Q_nil _ _ _ _ _ | exact Kd.S_nil _ _ _ _ _⟩, ⟨by repeat (first | (with_reducible first | exact HB.out | apply below_alloc | apply pw_below_drewN | apply below_drew1) | exact HB.out)⟩⟩
  case round =>
    clear H'
    try clear c1
    try clear p2
    obtain ⟨x5_1, x13_1, rfl, HA, HK1, HO_5, HB⟩ := hrel
    cases gk with
    | zero => exact absurd HA.out (by simp [date_pad.l0])
    | succ k1 =>
      have H := HA.out
      clear HA
      simp only [date_pad.l0] at H
      by_cases c3 : x13_1 < (l1.length : Int)
      · rw [if_pos c3] at H
        have c3b0 : decide (x13_1 < (l1.length : Int)) = true := decide_eq_true c3
        clear c3
        by_cases c4 : 0 ≤ x13_1
        · rw [if_pos c4] at H
          have c4b0 : decide (0 ≤ x13_1) = true := decide_eq_true c4
          clear c4
          by_cases c5 : x13_1 < (l1.length : Int)
          · rw [if_pos c5] at H
            have c5b0 : decide (x13_1 < (l1.length : Int)) = true := decide_eq_true c5
            clear c5
            by_cases c6 : x13_1 < (a0.size : Int)
            · rw [if_pos c6] at H
              have c6b0 : decide (x13_1 < (a0.size : Int)) = true := decide_eq_true c6
              clear c6
              by_cases c8 : (bt a0 x13_1) = 32
              · rw [if_pos c8] at H
                have c8b0 : ((bt a0 x13_1) == 32) = true := beq_iff_eq.mpr c8
                have c8b1 : ((bt a0 x13_1) != 32) = false := bne_eq_false_iff_eq.mpr c8
                clear c8
                replace H := Option.bind_eq_some_iff.mp H
                obtain ⟨⟨t102, t103⟩, A90, H⟩ := H
                replace H : (if x5_1.length + t102.length < 140737488355328 then (date_pad.l0 k1 a0 (x5_1 ++ t102) l1 (l1.length : Int) (wrap64 (x13_1 + 1))) else (none)) = some r := H
                have A9 := Aside0.mk A90
                clear A90
                by_cases c10 : x5_1.length + t102.length < 140737488355328
                · rw [if_pos c10] at H
                  have LMc10 := Aside0.mk c10
                  clear c10
                  obtain ⟨y106, hy106⟩ : ∃ y_ : List Int, y_ = (x5_1 ++ t102) := ⟨_, rfl⟩
                  replace H : (date_pad.l0 k1 a0 y106 l1 (l1.length : Int) (wrap64 (x13_1 + 1))) = some r := by first | (rw [hy106]; with_reducible exact H) | (have H2_ := (Option.bind_some _ _).symm.trans H; rw [hy106]; with_reducible exact H2_) | (have H2_ := (Option.bind_some _ _).symm.trans H; with_reducible exact H2_) | with_reducible exact H | (rw [hy106]; exact H) | exact H
                  have Ny106 := Aside0.mk hy106
                  clear hy106
                  have H' := Aside0.mk H
                  clear H
                  have p101 : 0 ≤ (x13_1 : Int) := of_decide_eq_true (by first | (with_reducible assumption) | assumption)
                  have q101 : x13_1 < (l1.length : Int) := of_decide_eq_true (by first | (with_reducible assumption) | assumption)
                  obtain ⟨ad101, e101, hx101_0⟩ := Kd.at_int HR1.out x13_1 p101 q101
                  cases e101
                  replace hx101_0 := (HB.out.cell (World.block_lt_of_cell? w _ hx101_0)).trans hx101_0
                  replace p101 := eq_true p101
                  replace q101 := eq_true q101
                  (try (have qd101 := q101; simp only [List.length_drop] at qd101))
                  have p7 : 0 ≤ (x13_1 : Int) := of_decide_eq_true (by first | (with_reducible assumption) | assumption)
                  have q7 : x13_1 < (a0.size : Int) := of_decide_eq_true (by first | (with_reducible assumption) | assumption)
                  have hx7 := bt_at a0 x13_1
                  replace p7 := eq_true p7
                  replace q7 := eq_true q7
                  (try (have qd7 := q7; simp only [List.length_drop] at qd7))
                  go_wp2_with (first | ((with_reducible refine gate_callee (f := 36) rfl ?_); refine goesL_ (some 32) rfl rfl Try.func36 (by kernel_rfl) rfl #[.int .u64 (IntKind.u64.wrap (rd l1 x13_1)), .int .i64 4] rfl (by (try simp only [List.map_toArray, List.map_cons, List.map_nil]); first | done | rfl | (simp only [List.length_drop, List.length_take]; rfl)) ?_; (with_reducible refine (digit_Pad.calls k1 (IntKind.u64.wrap (rd l1 x13_1)) 4 t102 t103 _ A9.out).mono ?_); rintro e w11 ⟨v104, rfl, ho0, hb⟩; refine ⟨_, rfl, ?_⟩; have n0_ := Aside0.mk (Kd.R_elder' (by (with_reducible repeat (first | apply Kd.R_alloc | apply Kd.R_drewN | apply Kd.R_drew)); exact HO_5.out) (Kd.R_base ho0) hb); have n1_ := Aside0.mk (Kd.R_lower (Kd.R_new' ho0 (Kd.R_lt (by (with_reducible repeat (first | apply Kd.R_alloc | apply Kd.R_drewN | apply Kd.R_drew)); exact HO_5.out))) (below_size (by repeat (first | (with_reducible first | exact HB.out | apply below_alloc | apply pw_below_drewN | apply below_drew1) | exact HB.out)))); have n2_ := Aside0.mk (below_step (by repeat (first | (with_reducible first | exact HB.out | apply below_alloc | apply pw_below_drewN | apply below_drew1) | exact HB.out)) hb); clear HO_5; clear HB; have HO_5 := n0_; have HO105 := n1_; have HB := n2_; clear n0_ n1_ n2_; (try clear hb); (try clear hb2); (try clear hk); (try clear hi); (try clear ho0); obtain ⟨Ao13, co13, eo13⟩ := Kd.R_slice HO105.out; subst eo13) | ((with_reducible refine gate_builtin (b := .append) (xs := #[.tmp 35, .tmp 36]) rfl ?_); at_builtin; refine Kd.R_append_rows (Kd.int .u8) (w0 := w) w.heap.size rfl (.tmp 35) (.tmp 36) 29 5 (.int .u8 0) 1 rfl Try.underlying29 info5 rfl (by decide) (by omega) u5 x5_1 t102 _ _ _ (fun k_ => some k_ ≠ (.slice Ao13 t102.length co13 : Value).ownBlock) (fun _ => False) rfl rfl ?aO ?aR (fun _ _ h => h) (fun _ h => h.elim) ?aF ?aB ?aS ?aL ?_; (case aR => repeat (first | exact (Kd.R_reads' HO105.out).2.2 | (with_reducible refine Kd.C_alloc ?_ _) | (with_reducible refine Kd.C_drewN ?_ _) | (with_reducible refine Kd.C_drew ?_))); (case aB => exact (by repeat (first | (with_reducible first | exact HB.out | apply below_alloc | apply pw_below_drewN | apply below_drew1) | exact HB.out))); (case aF => exact (fun k_ hk => Kd.fresh' (Kd.R_lt (by (with_reducible repeat (first | apply Kd.R_alloc | apply Kd.R_drewN | apply Kd.R_drew)); exact HO105.out)) k_ hk)); (case aO => exact (by (with_reducible repeat (first | apply Kd.R_alloc | apply Kd.R_drewN | apply Kd.R_drew)); exact Kd.R_mono HO_5.out (fun _ hk => hk.2))); (case aS => exact (below_size (by repeat (first | (with_reducible first | exact HB.out | apply below_alloc | apply pw_below_drewN | apply below_drew1) | exact HB.out)))); (case aL => have := LMc10.out; omega); intro v107 w12 ho hb hg hat; rw [← Ny106.out] at ho; have n0_ := Aside0.mk (Kd.R_after (ok := (fun _ => True)) (by (with_reducible repeat (first | apply Kd.R_alloc | apply Kd.R_drewN | apply Kd.R_drew)); exact HO105.out) hg hat); have n1_ := Aside0.mk (hb); have n2_ := Aside0.mk (ho); clear HO105; clear HB; clear HO_5; have HO105 := n0_; have HB := n1_; have HO108 := n2_; clear n0_ n1_ n2_; clear ho hb hg hat))
                  go_roundg k1
                  case measure => have := HK1.out; omega
                  case rel => exact ⟨(y106), (wrap64 (x13_1 + 1)), (by first | rfl | (simp; done) | (simp [*]; done)), H', ⟨by have := HK1.out; omega⟩, ⟨by (with_reducible repeat (first | apply Kd.R_alloc | apply Kd.R_drewN | apply Kd.R_drew)); exact Kd.R_mono HO108.out (fun _ hk => trivial)⟩, ⟨by repeat (first | (with_reducible first | exact HB.out | apply below_alloc | apply pw_below_drewN | apply below_drew1) | exact HB.out)⟩⟩
                · rw [if_neg c10] at H
                  exact absurd H (by simp)
              · rw [if_neg c8] at H
                have c8b0 : ((bt a0 x13_1) == 32) = false := beq_eq_false_iff_ne.mpr c8
                have c8b1 : ((bt a0 x13_1) != 32) = true := bne_iff_ne.mpr c8
                by_cases c15 : x5_1.length < 140737488355328
                · rw [if_pos c15] at H
                  have LMc15 := Aside0.mk c15
                  clear c15
                  obtain ⟨y109, hy109⟩ : ∃ y_ : List Int, y_ = (x5_1 ++ [bt a0 x13_1]) := ⟨_, rfl⟩
                  replace H : ((digit_Pad.f k1 (IntKind.u64.wrap (rd l1 x13_1)) 2).bind fun bt112 => (if y109.length + bt112.1.length < 140737488355328 then (date_pad.l0 k1 a0 (y109 ++ bt112.1) l1 (l1.length : Int) (wrap64 (x13_1 + 1))) else (none))) = some r := by first | (rw [hy109]; with_reducible exact H) | (have H2_ := (Option.bind_some _ _).symm.trans H; rw [hy109]; with_reducible exact H2_) | (have H2_ := (Option.bind_some _ _).symm.trans H; with_reducible exact H2_) | with_reducible exact H | (rw [hy109]; exact H) | exact H
                  have Ny109 := Aside0.mk hy109
                  clear hy109
                  replace H := Option.bind_eq_some_iff.mp H
                  obtain ⟨⟨t112, t113⟩, A160, H⟩ := H
                  replace H : (if y109.length + t112.length < 140737488355328 then (date_pad.l0 k1 a0 (y109 ++ t112) l1 (l1.length : Int) (wrap64 (x13_1 + 1))) else (none)) = some r := H
                  have A16 := Aside0.mk A160
                  clear A160
                  by_cases c17 : y109.length + t112.length < 140737488355328
                  · rw [if_pos c17] at H
                    have LMc17 := Aside0.mk c17
                    clear c17
                    obtain ⟨y116, hy116⟩ : ∃ y_ : List Int, y_ = (y109 ++ t112) := ⟨_, rfl⟩
                    replace H : (date_pad.l0 k1 a0 y116 l1 (l1.length : Int) (wrap64 (x13_1 + 1))) = some r := by first | (rw [hy116]; with_reducible exact H) | (have H2_ := (Option.bind_some _ _).symm.trans H; rw [hy116]; with_reducible exact H2_) | (have H2_ := (Option.bind_some _ _).symm.trans H; with_reducible exact H2_) | with_reducible exact H | (rw [hy116]; exact H) | exact H
                    have Ny116 := Aside0.mk hy116
                    clear hy116
                    have H' := Aside0.mk H
                    clear H
                    have p101 : 0 ≤ (x13_1 : Int) := of_decide_eq_true (by first | (with_reducible assumption) | assumption)
                    have q101 : x13_1 < (l1.length : Int) := of_decide_eq_true (by first | (with_reducible assumption) | assumption)
                    obtain ⟨ad101, e101, hx101_0⟩ := Kd.at_int HR1.out x13_1 p101 q101
                    cases e101
                    replace hx101_0 := (HB.out.cell (World.block_lt_of_cell? w _ hx101_0)).trans hx101_0
                    replace p101 := eq_true p101
                    replace q101 := eq_true q101
                    (try (have qd101 := q101; simp only [List.length_drop] at qd101))
                    have p7 : 0 ≤ (x13_1 : Int) := of_decide_eq_true (by first | (with_reducible assumption) | assumption)
                    have q7 : x13_1 < (a0.size : Int) := of_decide_eq_true (by first | (with_reducible assumption) | assumption)
                    have hx7 := bt_at a0 x13_1
                    replace p7 := eq_true p7
                    replace q7 := eq_true q7
                    (try (have qd7 := q7; simp only [List.length_drop] at qd7))
                    have p14 : 0 ≤ (x13_1 : Int) := of_decide_eq_true (by first | (with_reducible assumption) | assumption)
                    have q14 : x13_1 < (a0.size : Int) := of_decide_eq_true (by first | (with_reducible assumption) | assumption)
                    have hx14 := bt_at a0 x13_1
                    replace p14 := eq_true p14
                    replace q14 := eq_true q14
                    (try (have qd14 := q14; simp only [List.length_drop] at qd14))
                    go_wp2_with (first | ((with_reducible refine gate_builtin (b := .append) (xs := #[.tmp 22, .tmp 26]) rfl ?_); at_builtin; refine Kd.R_append (Kd.int .u8) (w0 := w) w.heap.size rfl (.tmp 22) (.tmp 26) 29 5 (.int .u8 0) 1 rfl Try.underlying29 info5 rfl (by decide) (by omega) u5 x5_1 (bt a0 x13_1) [.int .u8 (bt a0 x13_1)] (fun _ => True) (fun _ => False) rfl rfl ?aP (fun _ hk => hk.elim) ?aF ?aO ?aB ?aS ?aL ?_; (case aP => exact rfl); (case aB => exact (by repeat (first | (with_reducible first | exact HB.out | apply below_alloc | apply pw_below_drewN | apply below_drew1) | exact HB.out))); (case aF => exact (fun _ _ => trivial)); (case aO => exact (by (with_reducible repeat (first | apply Kd.R_alloc | apply Kd.R_drewN | apply Kd.R_drew)); exact HO_5.out)); (case aS => exact (below_size (by repeat (first | (with_reducible first | exact HB.out | apply below_alloc | apply pw_below_drewN | apply below_drew1) | exact HB.out)))); (case aL => have := LMc15.out; omega); intro v110 w18 ho hb hg hat; rw [← Ny109.out] at ho; have n0_ := Aside0.mk (hb); have n1_ := Aside0.mk (ho); clear HB; clear HO_5; have HB := n0_; have HO111 := n1_; clear n0_ n1_; clear ho hb hg hat) | ((with_reducible refine gate_callee (f := 36) rfl ?_); refine goesL_ (some 32) rfl rfl Try.func36 (by kernel_rfl) rfl #[.int .u64 (IntKind.u64.wrap (rd l1 x13_1)), .int .i64 2] rfl (by (try simp only [List.map_toArray, List.map_cons, List.map_nil]); first | done | rfl | (simp only [List.length_drop, List.length_take]; rfl)) ?_; (with_reducible refine (digit_Pad.calls k1 (IntKind.u64.wrap (rd l1 x13_1)) 2 t112 t113 _ A16.out).mono ?_); rintro e w19 ⟨v114, rfl, ho0, hb⟩; refine ⟨_, rfl, ?_⟩; have n0_ := Aside0.mk (Kd.R_elder' (by (with_reducible repeat (first | apply Kd.R_alloc | apply Kd.R_drewN | apply Kd.R_drew)); exact HO111.out) (Kd.R_base ho0) hb); have n1_ := Aside0.mk (Kd.R_lower (Kd.R_new' ho0 (Kd.R_lt (by (with_reducible repeat (first | apply Kd.R_alloc | apply Kd.R_drewN | apply Kd.R_drew)); exact HO111.out))) (below_size (by repeat (first | (with_reducible first | exact HB.out | apply below_alloc | apply pw_below_drewN | apply below_drew1) | exact HB.out)))); have n2_ := Aside0.mk (below_step (by repeat (first | (with_reducible first | exact HB.out | apply below_alloc | apply pw_below_drewN | apply below_drew1) | exact HB.out)) hb); clear HO111; clear HB; have HO111 := n0_; have HO115 := n1_; have HB := n2_; clear n0_ n1_ n2_; (try clear hb); (try clear hb2); (try clear hk); (try clear hi); (try clear ho0); obtain ⟨Ao21, co21, eo21⟩ := Kd.R_slice HO115.out; subst eo21) | ((with_reducible refine gate_builtin (b := .append) (xs := #[.tmp 35, .tmp 36]) rfl ?_); at_builtin; refine Kd.R_append_rows (Kd.int .u8) (w0 := w) w.heap.size rfl (.tmp 35) (.tmp 36) 29 5 (.int .u8 0) 1 rfl Try.underlying29 info5 rfl (by decide) (by omega) v110 y109 t112 _ _ _ (fun k_ => some k_ ≠ (.slice Ao21 t112.length co21 : Value).ownBlock) (fun _ => False) rfl rfl ?aO ?aR (fun _ _ h => h) (fun _ h => h.elim) ?aF ?aB ?aS ?aL ?_; (case aR => repeat (first | exact (Kd.R_reads' HO115.out).2.2 | (with_reducible refine Kd.C_alloc ?_ _) | (with_reducible refine Kd.C_drewN ?_ _) | (with_reducible refine Kd.C_drew ?_))); (case aB => exact (by repeat (first | (with_reducible first | exact HB.out | apply below_alloc | apply pw_below_drewN | apply below_drew1) | exact HB.out))); (case aF => exact (fun k_ hk => Kd.fresh' (Kd.R_lt (by (with_reducible repeat (first | apply Kd.R_alloc | apply Kd.R_drewN | apply Kd.R_drew)); exact HO115.out)) k_ hk)); (case aO => exact (by (with_reducible repeat (first | apply Kd.R_alloc | apply Kd.R_drewN | apply Kd.R_drew)); exact Kd.R_mono HO111.out (fun _ hk => hk.2))); (case aS => exact (below_size (by repeat (first | (with_reducible first | exact HB.out | apply below_alloc | apply pw_below_drewN | apply below_drew1) | exact HB.out)))); (case aL => have := LMc17.out; omega); intro v117 w20 ho hb hg hat; rw [← Ny116.out] at ho; have n0_ := Aside0.mk (Kd.R_after (ok := (fun _ => True)) (by (with_reducible repeat (first | apply Kd.R_alloc | apply Kd.R_drewN | apply Kd.R_drew)); exact HO115.out) hg hat); have n1_ := Aside0.mk (hb); have n2_ := Aside0.mk (ho); clear HO115; clear HB; clear HO111; have HO115 := n0_; have HB := n1_; have HO118 := n2_; clear n0_ n1_ n2_; clear ho hb hg hat))
                    go_roundg k1
                    case measure => have := HK1.out; omega
                    case rel => exact ⟨(y116), (wrap64 (x13_1 + 1)), (by first | rfl | (simp; done) | (simp [*]; done)), H', ⟨by have := HK1.out; omega⟩, ⟨by (with_reducible repeat (first | apply Kd.R_alloc | apply Kd.R_drewN | apply Kd.R_drew)); exact Kd.R_mono HO118.out (fun _ hk => trivial)⟩, ⟨by repeat (first | (with_reducible first | exact HB.out | apply below_alloc | apply pw_below_drewN | apply below_drew1) | exact HB.out)⟩⟩
                  · rw [if_neg c17] at H
                    exact absurd H (by simp)
                · rw [if_neg c15] at H
                  exact absurd H (by simp)
            · rw [if_neg c6] at H
              exact absurd H (by simp)
          · rw [if_neg c5] at H
            exact absurd H (by simp)
        · rw [if_neg c4] at H
          exact absurd H (by simp)
      · rw [if_neg c3] at H
        have c3b0 : decide (x13_1 < (l1.length : Int)) = false := decide_eq_false c3
        clear c3
        obtain rfl := Option.some.inj H
        go_wp2
        go_ret
        exact ⟨_, by first | rfl | (simp [errW_none, errW_some] <;> rfl) | (simp [*, errW_none, errW_some] <;> rfl), by (with_reducible repeat (first | apply Kd.R_alloc | apply Kd.R_drewN | apply Kd.R_drew)); exact HO_5.out, by repeat (first | (with_reducible first | exact HB.out | apply below_alloc | apply pw_below_drewN | apply below_drew1) | exact HB.out)⟩

end Go.Proofs.Ytobgpdmiiipmmaa.Q

namespace Go.Proofs.Ytobgpdmiiipmmaa.Q
open Go.RowKit Go.Proofs.YtobgpdmiiipmmaaW.PrintWords Go.Proofs.YtobgpdmiiipmmaaW.PrintLast Go.Proofs.YtobgpdmiiipmmaaW.PrintMore
attribute [local go_sem] max2_int min2_int max_two min_two max_three min_three max_four min_four   -- for this text's walks alone
set_option linter.unusedVariables false
set_option linter.unusedSimpArgs false

/-! ### date_PrintDay: function 10 -/
def date_PrintDay.j0 : Nat → Int → Bool → Option (List Int × Int)
  | 0, _, _ => none
  | k + 1, x4, x15 => if x15 = true then (some (([] : List Int), 131)) else ((date_date.f x4).bind fun bt119 => ((date_pad.f k (⟨#[32, 45, 45]⟩ : ByteArray) (([bt119.1, bt119.2.1, bt119.2.2] : List Int))).bind fun t125 => (some (t125, 0))))
def date_PrintDay.f (k : Nat) (a0 : Int) : Option (List Int × Int) := if (wrap64 (a0)) < (-719528) then (date_PrintDay.j0 k (wrap64 (a0)) true) else (date_PrintDay.j0 k (wrap64 (a0)) (decide ((wrap64 (a0)) > 2932896)))
theorem date_PrintDay.mono_l : ∀ k, (∀ y0 y1, LeO (date_PrintDay.j0 k y0 y1) (date_PrintDay.j0 (k + 1) y0 y1))
  | 0 => fun _ _ r h => by simp [date_PrintDay.j0] at h
  | k + 1 => by
    have ih0 := date_PrintDay.mono_l k
    · intro y0 y1
      unfold date_PrintDay.j0
      repeat' first
      | (with_reducible exact ih0 _ _)
      | (with_reducible exact date_pad.mono _ _ _)
      | (with_reducible exact LeO.refl _)
      | (with_reducible exact LeO.none _)
      | (with_reducible refine LeO.ite ?_ ?_)
      | (with_reducible refine LeO.bind ?_ (fun _ => ?_))
      | exact ih0 _ _
      | exact date_pad.mono _ _ _
      | exact LeO.none _
      | refine LeO.ite ?_ ?_
      | refine LeO.bind ?_ (fun _ => ?_)
theorem date_PrintDay.mono : ∀ a0 k, LeO (date_PrintDay.f k a0) (date_PrintDay.f (k + 1) a0) := by
  intro a0 k
  have ih0 := date_PrintDay.mono_l k
  unfold date_PrintDay.f
  repeat' first
      | (with_reducible exact ih0 _ _)
      | (with_reducible exact date_pad.mono _ _ _)
      | (with_reducible exact LeO.refl _)
      | (with_reducible exact LeO.none _)
      | (with_reducible refine LeO.ite ?_ ?_)
      | (with_reducible refine LeO.bind ?_ (fun _ => ?_))
      | exact ih0 _ _
      | exact date_pad.mono _ _ _
      | exact LeO.none _
      | refine LeO.ite ?_ ?_
      | refine LeO.bind ?_ (fun _ => ?_)
set_option maxHeartbeats 8000000 in
set_option maxRecDepth 100000 in
theorem date_PrintDay.calls (k : Nat) (a0 : Int) (r1 : List Int) (r2 : Int) (w : World) (h : date_PrintDay.f k a0 = some (r1, r2)) :
    Calls Try.prog 10 #[.int .u64 a0] w fun e w' => ∃ v0_ : Value, e = .returned (.tuple #[v0_, .int .i64 r2]) ∧ Kd.R (Kd.int .u8) 5 w' w.heap.size (fun _ => True) v0_ r1 ∧ Below w.heap.size w w' := by
  have HB := Aside0.mk (Below.refl w.heap.size w)
  have H : (if (wrap64 (a0)) < (-719528) then (date_PrintDay.j0 k (wrap64 (a0)) true) else (date_PrintDay.j0 k (wrap64 (a0)) (decide ((wrap64 (a0)) > 2932896)))) = some (r1, r2) := h
  clear h
  have HC2 := Aside0.mk H
  clear H
  go_enter Try.func10, Try.ntmps10
  go_upto_region 2 with (fail)
  go_cut [15] (fun v15 wc => ∃ (kq : Nat) (x15_1 : Bool), v15 = .bool x15_1 ∧ Aside0 (date_PrintDay.j0 kq (wrap64 (a0)) x15_1 = some (r1, r2)) ∧ Aside0 (kq ≤ k) ∧ Aside0 (Below w.heap.size w wc))
  case first =>
    have H := HC2.out
    clear HC2
    by_cases c3 : (wrap64 (a0)) < (-719528)
    · rw [if_pos c3] at H
      have c3b0 : decide ((wrap64 (a0)) < (-719528)) = true := decide_eq_true c3
      clear c3
      (first | rw [c3b0] | (simp only [i64_w, i32_w]; rw [c3b0]) | skip)
      have H' := Aside0.mk H
      clear H
      go_wp2
      go_meet
      case rel => exact ⟨_, (true), (by first | rfl | (simp; done) | (simp [*]; done)), H', ⟨by first | omega | exact Nat.le_refl _⟩, ⟨by repeat (first | (with_reducible first | exact HB.out | apply below_alloc | apply pw_below_drewN | apply below_drew1) | exact HB.out)⟩⟩
    · rw [if_neg c3] at H
      have c3b0 : decide ((wrap64 (a0)) < (-719528)) = false := decide_eq_false c3
      clear c3
      (first | rw [c3b0] | (simp only [i64_w, i32_w]; rw [c3b0]) | skip)
      have H' := Aside0.mk H
      clear H
      go_wp2
      go_meet
      case rel => exact ⟨_, (decide ((wrap64 (a0)) > 2932896)), (by first | rfl | (simp; done) | (simp [*]; done)), H', ⟨by first | omega | exact Nat.le_refl _⟩, ⟨by repeat (first | (with_reducible first | exact HB.out | apply below_alloc | apply pw_below_drewN | apply below_drew1) | exact HB.out)⟩⟩
  case rest =>
    clear HC2
    try clear c1
    try clear p2
    try clear c3
    try clear c3b0
    obtain ⟨kq, x15_1, rfl, HA, HJ1, HB⟩ := hcut
    cases kq with
    | zero => exact absurd HA.out (by simp [date_PrintDay.j0])
    | succ kj1 =>
      have H := HA.out
      clear HA
      simp only [date_PrintDay.j0] at H
      by_cases c4 : x15_1 = true
      · subst c4
        have H1 : (some (([] : List Int), 131)) = some (r1, r2) := by rw [if_pos rfl] at H; exact H
        clear H
        have H := H1
        clear H1
        simp only [Option.some.injEq, Prod.mk.injEq] at H
        obtain ⟨rfl, rfl⟩ := H
        go_wp2
        go_ret2
        exact ⟨_, by first | rfl | (simp [errW_none, errW_some] <;> rfl) | (simp [*, errW_none, errW_some] <;> rfl), by first | exact Kd.R_nil _ _ _ _ _ | exact Kd.N_nil _ _ _ _ _ | exact Kd.V_nil _ _ _ _ _ | exact Kd.Q_nil _ _ _ _ _ | exact Kd.S_nil _ _ _ _ _, by repeat (first | (with_reducible first | exact HB.out | apply below_alloc | apply pw_below_drewN | apply below_drew1) | exact HB.out)⟩
      · replace c4 := Bool.eq_false_iff.mpr c4
        subst c4
        have H1 : ((date_date.f (wrap64 (a0))).bind fun bt119 => ((date_pad.f kj1 (⟨#[32, 45, 45]⟩ : ByteArray) (([bt119.1, bt119.2.1, bt119.2.2] : List Int))).bind fun t125 => (some (t125, 0)))) = some (r1, r2) := by rw [if_neg (show ¬ (false = true) by decide)] at H; exact H
        clear H
        have H := H1
        clear H1
        replace H := Option.bind_eq_some_iff.mp H
        obtain ⟨⟨t119, t120, t121⟩, A50, H⟩ := H
        replace H : ((date_pad.f kj1 (⟨#[32, 45, 45]⟩ : ByteArray) (([t119, t120, t121] : List Int))).bind fun t125 => (some (t125, 0))) = some (r1, r2) := H
        have A5 := Aside0.mk A50
        clear A50
        obtain ⟨y122, hy122⟩ : ∃ y_ : List Int, y_ = (([t119, t120, t121] : List Int)) := ⟨_, rfl⟩
        replace H : ((date_pad.f kj1 (⟨#[32, 45, 45]⟩ : ByteArray) y122).bind fun t125 => (some (t125, 0))) = some (r1, r2) := by first | (rw [hy122]; with_reducible exact H) | (have H2_ := (Option.bind_some _ _).symm.trans H; rw [hy122]; with_reducible exact H2_) | (have H2_ := (Option.bind_some _ _).symm.trans H; with_reducible exact H2_) | with_reducible exact H | (rw [hy122]; exact H) | exact H
        have Ny122 := Aside0.mk hy122
        clear hy122
        replace H := Option.bind_eq_some_iff.mp H
        obtain ⟨t125, A60, H⟩ := H
        replace H : (some (t125, 0)) = some (r1, r2) := H
        have A6 := Aside0.mk A60
        clear A60
        simp only [Option.some.injEq, Prod.mk.injEq] at H
        obtain ⟨rfl, rfl⟩ := H
        go_wp2_with (first | ((with_reducible refine gate_callee (f := 31) rfl ?_); refine goesL_ (some 18) rfl rfl Try.func31 (by kernel_rfl) rfl #[.int .i64 (wrap64 (a0))] rfl (by (try simp only [List.map_toArray, List.map_cons, List.map_nil]); first | done | rfl | (simp only [List.length_drop, List.length_take]; rfl)) ?_; (with_reducible refine (date_date.calls (wrap64 (a0)) t119 t120 t121 _ A5.out).mono ?_); rintro e w7 ⟨rfl, hb⟩; refine ⟨_, rfl, ?_⟩; have n0_ := Aside0.mk (below_step (by repeat (first | (with_reducible first | exact HB.out | apply below_alloc | apply pw_below_drewN | apply below_drew1) | exact HB.out)) hb); clear HB; have HB := n0_; clear n0_; (try clear hb); (try clear hb2); (try clear hk); (try clear hi)) | ((with_reducible refine gate_dst (N := 25) rfl ?_); refine Kd.R_lit (Kd.int .i64) _ 3 ?hg (N := 25) ?hd (xs := ([t119, t120, t121] : List Int)) (inner := [.int .i64 t119, .int .i64 t120, .int .i64 t121]) (ok := fun _ => True) (okp := fun _ => True) ?hr ?hp (fun _ hk => hk) trivial (Below.refl _ _) (Nat.le_refl _) (by simp) ?_; (case hd => rfl); (case hg => rfl); (case hr => first | (go_simp; done) | (go_simp; rfl) | (go_simp; simp only [u64_of_u8, i64_of_u8]; done) | (go_simp; simp only [u64_of_u8, i64_of_u8]; rfl)); (case hp => exact (Reps.one (show Kd.M (Kd.int .i64) _ _ _ t119 [.int .i64 t119] from rfl) (Reps.one (show Kd.M (Kd.int .i64) _ _ _ t120 [.int .i64 t120] from rfl) (Reps.one (show Kd.M (Kd.int .i64) _ _ _ t121 [.int .i64 t121] from rfl) (Reps.none _ _))))); intro v123 w8 ho9 hb hg_ hnew_; clear hg_ hnew_; (first | rw [← Ny122.out] at ho9 | (simp only [Int.reduceToNat] at ho9; rw [← Ny122.out] at ho9)); have n0_ := Aside0.mk (Kd.R_lower ho9 (below_size (by repeat (first | (with_reducible first | exact HB.out | apply below_alloc | apply pw_below_drewN | apply below_drew1) | exact HB.out)))); have n1_ := Aside0.mk (below_step (by repeat (first | (with_reducible first | exact HB.out | apply below_alloc | apply pw_below_drewN | apply below_drew1) | exact HB.out)) hb); clear HB; have HO124 := n0_; have HB := n1_; clear n0_ n1_; clear hb ho9; obtain ⟨Ao10, co10, eo10⟩ := Kd.R_slice HO124.out; subst eo10) | ((with_reducible refine gate_callee (f := 32) rfl ?_); refine goesL_ (some 26) rfl rfl Try.func32 (by kernel_rfl) rfl #[.string (⟨#[32, 45, 45]⟩ : ByteArray), .slice Ao10 y122.length co10] rfl (by (try simp only [List.map_toArray, List.map_cons, List.map_nil]); first | done | rfl | (simp only [List.length_drop, List.length_take]; rfl)) ?_; (with_reducible refine (date_pad.calls kj1 (⟨#[32, 45, 45]⟩ : ByteArray) _ _ y122 t125 _ ?side1 ?side2 A6.out).mono ?_); (case side1 => repeat (first | exact (Kd.R_reads' HO124.out).2.2 | (with_reducible refine Kd.C_alloc ?_ _) | (with_reducible refine Kd.C_drewN ?_ _) | (with_reducible refine Kd.C_drew ?_))); (case side2 => exact (Kd.R_reads' HO124.out).2.1); rintro e w11 ⟨v126, rfl, ho0, hb⟩; refine ⟨_, rfl, ?_⟩; have n0_ := Aside0.mk (Kd.R_below (by (with_reducible repeat (first | apply Kd.R_alloc | apply Kd.R_drewN | apply Kd.R_drew)); exact HO124.out) hb); have n1_ := Aside0.mk (Kd.R_lower ho0 (below_size (by repeat (first | (with_reducible first | exact HB.out | apply below_alloc | apply pw_below_drewN | apply below_drew1) | exact HB.out)))); have n2_ := Aside0.mk (below_step (by repeat (first | (with_reducible first | exact HB.out | apply below_alloc | apply pw_below_drewN | apply below_drew1) | exact HB.out)) hb); clear HO124; clear HB; have HO124 := n0_; have HO127 := n1_; have HB := n2_; clear n0_ n1_ n2_; (try clear hb); (try clear hb2); (try clear hk); (try clear hi); (try clear ho0)))
        go_ret2
        exact ⟨_, by first | rfl | (simp [errW_none, errW_some] <;> rfl) | (simp [*, errW_none, errW_some] <;> rfl), by (with_reducible repeat (first | apply Kd.R_alloc | apply Kd.R_drewN | apply Kd.R_drew)); exact HO127.out, by repeat (first | (with_reducible first | exact HB.out | apply below_alloc | apply pw_below_drewN | apply below_drew1) | exact HB.out)⟩

end Go.Proofs.Ytobgpdmiiipmmaa.Q

namespace Go.Proofs.Ytobgpdmiiipmmaa.Q
open Go.RowKit Go.Proofs.YtobgpdmiiipmmaaW.PrintWords Go.Proofs.YtobgpdmiiipmmaaW.PrintLast Go.Proofs.YtobgpdmiiipmmaaW.PrintMore
attribute [local go_sem] max2_int min2_int max_two min_two max_three min_three max_four min_four   -- for this text's walks alone
set_option linter.unusedVariables false
set_option linter.unusedSimpArgs false

/-! ### digit_Is: function 57 -/
def digit_Is.f (a0 : Int) : Option (Bool) := if a0 ≥ 48 then (some (decide (a0 ≤ 57))) else (some false)
set_option maxHeartbeats 8000000 in
set_option maxRecDepth 100000 in
theorem digit_Is.calls (a0 : Int) (r : Bool) (w : World) (h : digit_Is.f a0 = some r) :
    Calls Try.prog 57 #[.int .u8 a0] w fun e w' => e = .returned (.bool r) ∧ Drawn0 w w' := by
  have H : (if a0 ≥ 48 then (some (decide (a0 ≤ 57))) else (some false)) = some r := h
  clear h
  by_cases c2 : a0 ≥ 48
  · rw [if_pos c2] at H
    have c2b0 : decide (48 ≤ a0) = true := decide_eq_true c2
    clear c2
    obtain rfl := Option.some.inj H
    go_enter Try.func57, Try.ntmps57
    go_wp2
    go_ret
    exact ⟨by first | rfl | (simp; done) | (simp [*]; done), by repeat (first | exact Drawn0.refl _ | apply Drawn0.step)⟩
  · rw [if_neg c2] at H
    have c2b0 : decide (48 ≤ a0) = false := decide_eq_false c2
    clear c2
    obtain rfl := Option.some.inj H
    go_enter Try.func57, Try.ntmps57
    go_wp2
    go_ret
    exact ⟨by first | rfl | (simp; done) | (simp [*]; done), by repeat (first | exact Drawn0.refl _ | apply Drawn0.step)⟩

end Go.Proofs.Ytobgpdmiiipmmaa.Q

namespace Go.Proofs.Ytobgpdmiiipmmaa.Q
open Go.RowKit Go.Proofs.YtobgpdmiiipmmaaW.PrintWords Go.Proofs.YtobgpdmiiipmmaaW.PrintLast Go.Proofs.YtobgpdmiiipmmaaW.PrintMore
attribute [local go_sem] max2_int min2_int max_two min_two max_three min_three max_four min_four   -- for this text's walks alone
set_option linter.unusedVariables false
set_option linter.unusedSimpArgs false

/-! ### digit_Eight: function 62 -/
section
/-- Is the byte a digit's. -/
def digit_Eight.dig (c : Int) : Bool := decide (48 ≤ c ∧ c ≤ 57)
def digit_Eight.allD (l : List Int) : Bool := (l.take 8).all digit_Eight.dig
/-- The first n bytes as digits in one word, the first one lowest. -/
def digit_Eight.word (l : List Int) : Nat → Int
  | 0 => 0
  | n + 1 => digit_Eight.word l n + (l.getD n 0 - 48) * 256 ^ n
def digit_Eight.joined (x : Int) : Int :=
  let a := Go.bits .and .u64 (IntKind.u64.wrap (IntKind.u64.wrap (x * 10) + x / 256)) 71777214294589695
  let b := Go.bits .and .u64 (IntKind.u64.wrap (IntKind.u64.wrap (a * 100) + a / 65536)) 281470681808895
  Go.bits .and .u64 (IntKind.u64.wrap (IntKind.u64.wrap (b * 10000) + b / 4294967296)) 4294967295
def digit_Eight.f (l0 : List Int) : Option (Int × Bool) :=
  if (l0.length : Int) < 8 then some (0, false) else if digit_Eight.allD l0 = true then some (digit_Eight.joined (digit_Eight.word l0 8), true) else some (0, false)
set_option maxHeartbeats 1000000 in
theorem digit_Eight.callsA (A0 : Option Addr) (c0 : Nat) (l0 : List Int) (w : World) (h1 : l0.length < 8) :
    Calls Try.prog 62 #[.slice A0 l0.length c0] w fun e w' => e = .returned (.tuple #[.int .u64 0, .bool false]) ∧ Below w.heap.size w w' := by
  have h2 : decide ((l0.length : Int) < 8) = true := by simp; omega
  go_enter Try.func62, Try.ntmps62
  go_wp2_with fail
  go_ret2
  exact ⟨rfl, Below.refl _ _⟩
/-- The cells of the first eight bytes, as the walk asks for them. -/
def digit_Eight.Cells (w : World) (ad : Addr) (y : Nat → Int) : Prop := w.cell? ad = some (.int .u8 (y 0)) ∧ ∀ j, 0 < j → j < 8 → w.cell? ⟨ad.block, ad.off + j, none⟩ = some (.int .u8 (y j))
theorem digit_Eight.arr (ad : Addr) (c0 : Nat) (W : World) : (Instr.arrayAt 87 (.slice (some ad) 8 c0)).run Try.prog W = .ok (.pointer (some ad)) W := by
  simp [Instr.arrayAt, run_underlying Try.underlying87]
set_option maxRecDepth 100000 in
theorem digit_Eight.idx (y : Nat → Int) (j : Nat) (hj : j < 8) (W : World) :
    (Instr.index 87 (.agg #[.int .u8 (y 0), .int .u8 (y 1), .int .u8 (y 2), .int .u8 (y 3), .int .u8 (y 4), .int .u8 (y 5), .int .u8 (y 6), .int .u8 (y 7)]) (.int .i64 (j : Int))).run Try.prog W = .ok (.int .u8 (y j)) W := by
  match j, hj with
  | 0, _ => rfl
  | 1, _ => rfl
  | 2, _ => rfl
  | 3, _ => rfl
  | 4, _ => rfl
  | 5, _ => rfl
  | 6, _ => rfl
  | 7, _ => rfl
/-- The word, by a function. -/
def digit_Eight.wordF (y : Nat → Int) : Nat → Int
  | 0 => 0
  | n + 1 => digit_Eight.wordF y n + (y n - 48) * 256 ^ n
theorem digit_Eight.wordF_bound (y : Nat → Int) (n : Nat) (h : ∀ j, j < n → 48 ≤ y j ∧ y j ≤ 57) : 0 ≤ digit_Eight.wordF y n ∧ digit_Eight.wordF y n < 256 ^ n := by
  induction n with
  | zero => simp [digit_Eight.wordF]
  | succ n ih =>
    have a := ih (fun j hj => h j (by omega))
    have b := h n (by omega)
    have p : (0 : Int) < 256 ^ n := Int.pow_pos (by decide)
    have m1 : 0 ≤ (y n - 48) * 256 ^ n := Int.mul_nonneg (by omega) (by omega)
    have m2 : (y n - 48) * 256 ^ n ≤ 9 * 256 ^ n := Int.mul_le_mul_of_nonneg_right (by omega) (by omega)
    simp only [digit_Eight.wordF, Int.pow_succ]
    omega
theorem digit_Eight.step (y : Nat → Int) (n : Nat) (hn : n < 8) (h : ∀ j, j < n + 1 → 48 ≤ y j ∧ y j ≤ 57) :
    Go.bits .or .u64 (digit_Eight.wordF y n) (IntKind.u64.wrap ((y n - 48) * 2 ^ (8 * (n : Int)).toNat)) = digit_Eight.wordF y (n + 1) := by
  have a := digit_Eight.wordF_bound y n (fun j hj => h j (by omega))
  have b := h n (by omega)
  have e : (2 : Int) ^ (8 * (n : Int)).toNat = 256 ^ n := by
    have : (8 * (n : Int)).toNat = 8 * n := by omega
    rw [this, Int.pow_mul]; rfl
  have p : (0 : Int) < 256 ^ n := Int.pow_pos (by decide)
  have m1 : 0 ≤ (y n - 48) * 256 ^ n := Int.mul_nonneg (by omega) (by omega)
  have m2 : (y n - 48) * 256 ^ n ≤ 9 * 256 ^ n := Int.mul_le_mul_of_nonneg_right (by omega) (by omega)
  have p8 : (256 : Int) ^ n * 256 ^ (7 - n) = 72057594037927936 := by
    rw [← Int.pow_add]
    have : n + (7 - n) = 7 := by omega
    rw [this]; rfl
  have q : (1 : Int) ≤ 256 ^ (7 - n) := Int.pow_pos (by decide)
  have p9 : (256 : Int) ^ n ≤ 72057594037927936 := by
    have := Int.mul_le_mul_of_nonneg_left q (show (0 : Int) ≤ 256 ^ n by omega)
    omega
  rw [e, show IntKind.u64.wrap ((y n - 48) * 256 ^ n) = ((y n - 48) * 256 ^ n) % 18446744073709551616 by simp [IntKind.wrap, IntKind.bits, IntKind.signed], Int.emod_eq_of_lt m1 (by omega)]
  rw [u64_or _ _ a.1 (by omega) m1 (by omega), Nat.or_comm]
  have ha : (digit_Eight.wordF y n).toNat < 2 ^ (8 * n) := by
    have : ((2 ^ (8 * n) : Nat) : Int) = 256 ^ n := by rw [Nat.pow_mul]; simp
    omega
  have hm : ((y n - 48) * 256 ^ n).toNat % 2 ^ (8 * n) = 0 := by
    have e1 : ((y n - 48) * 256 ^ n).toNat = (y n - 48).toNat * 2 ^ (8 * n) := by
      have e2 : (256 : Int) ^ n = ((2 ^ (8 * n) : Nat) : Int) := by rw [Nat.pow_mul]; simp
      rw [e2, Int.toNat_mul (by omega) (by omega), Int.toNat_natCast]
    rw [e1, Nat.mul_mod_left]
  rw [nat_join (8 * n) _ _ hm ha]
  simp only [digit_Eight.wordF]
  omega
set_option maxHeartbeats 4000000 in
set_option maxRecDepth 100000 in
theorem digit_Eight.callsB (ad : Addr) (c0 n m : Nat) (y : Nat → Int) (w : World) (h1 : 8 ≤ n) (hc0 : n ≤ c0) (hy : digit_Eight.Cells w ad y) (hm : m < 8) (hgood : ∀ j, j < m → digit_Is.f (y j) = some true) (hbad : digit_Is.f (y m) = some false) :
    Calls Try.prog 62 #[.slice (some ad) n c0] w fun e w' => e = .returned (.tuple #[.int .u64 0, .bool false]) ∧ Below w.heap.size w w' := by
  have h2 : decide ((n : Int) < 8) = false := by simp; omega
  have h3 : (8 : Int) ≤ n := by omega
  have h4 : (8 : Int) ≤ c0 := by omega
  have e0 := hy.1
  have e1 := hy.2 1 (by omega) (by omega)
  have e2 := hy.2 2 (by omega) (by omega)
  have e3 := hy.2 3 (by omega) (by omega)
  have e4 := hy.2 4 (by omega) (by omega)
  have e5 := hy.2 5 (by omega) (by omega)
  have e6 := hy.2 6 (by omega) (by omega)
  have e7 := hy.2 7 (by omega) (by omega)
  have harr := digit_Eight.arr ad c0
  have HG := Aside0.mk hgood
  have HBD := Aside0.mk hbad
  clear hy hgood hbad
  go_enter Try.func62, Try.ntmps62
  go_wp2_with fail
  clear e0 e1 e2 e3 e4 e5 e6 e7 harr h2 h3 h4
  go_loopw [4, 14] (fun x i wr => ∃ (k : Nat) (v : Int), k ≤ m ∧ x = .int .u64 v ∧ i = .int .i64 k ∧ Drawn0 w wr) (fun _ i _ => 8 - (intOf i).toNat)
  case atStart => exact ⟨0, 0, Nat.zero_le _, rfl, rfl, Drawn0.refl _⟩
  case round =>
    obtain ⟨k, v, hk, rfl, rfl, hd⟩ := hrel
    have hk8 : (k : Int) < 8 := by omega
    have hk0 : (0 : Int) ≤ k := by omega
    have hidx := digit_Eight.idx y k (by omega)
    have HD := Aside0.mk hd
    clear hd
    by_cases hkm : k < m
    · have hg := HG.out k hkm
      have HG1 := Aside0.mk hg
      clear hg
      go_wp2_with (first | (go_at_call 57; refine (digit_Is.calls (y k) true _ HG1.out).mono ?_; rintro e w1 ⟨rfl, ⟨nd, rfl⟩⟩))
      all_goals
        go_roundw
        case rel => exact ⟨k + 1, _, by omega, rfl, by go_num, HD.out.step nd⟩
        case measure => (simp [intOf] <;> omega)
    · obtain rfl : k = m := by omega
      go_wp2_with (first | (go_at_call 57; refine (digit_Is.calls (y k) false _ HBD.out).mono ?_; rintro e w1 ⟨rfl, ⟨nd, rfl⟩⟩))
      go_ret2
      exact ⟨rfl, (HD.out.step nd).below⟩
set_option maxHeartbeats 4000000 in
set_option maxRecDepth 100000 in
theorem digit_Eight.callsC (ad : Addr) (c0 n : Nat) (y : Nat → Int) (w : World) (h1 : 8 ≤ n) (hc0 : n ≤ c0) (hy : digit_Eight.Cells w ad y) (hgood : ∀ j, j < 8 → digit_Is.f (y j) = some true) (hb : ∀ j, j < 8 → 48 ≤ y j ∧ y j ≤ 57) :
    Calls Try.prog 62 #[.slice (some ad) n c0] w fun e w' => e = .returned (.tuple #[.int .u64 (digit_Eight.joined (digit_Eight.wordF y 8)), .bool true]) ∧ Below w.heap.size w w' := by
  have h2 : decide ((n : Int) < 8) = false := by simp; omega
  have h3 : (8 : Int) ≤ n := by omega
  have h4 : (8 : Int) ≤ c0 := by omega
  have e0 := hy.1
  have e1 := hy.2 1 (by omega) (by omega)
  have e2 := hy.2 2 (by omega) (by omega)
  have e3 := hy.2 3 (by omega) (by omega)
  have e4 := hy.2 4 (by omega) (by omega)
  have e5 := hy.2 5 (by omega) (by omega)
  have e6 := hy.2 6 (by omega) (by omega)
  have e7 := hy.2 7 (by omega) (by omega)
  have harr := digit_Eight.arr ad c0
  have HG := Aside0.mk hgood
  have HBD := Aside0.mk hb
  clear hy hgood hb
  go_enter Try.func62, Try.ntmps62
  go_wp2_with fail
  clear e0 e1 e2 e3 e4 e5 e6 e7 harr h2 h3 h4
  go_loopw [4, 14] (fun x i wr => ∃ k : Nat, k ≤ 8 ∧ x = .int .u64 (digit_Eight.wordF y k) ∧ i = .int .i64 k ∧ Drawn0 w wr) (fun _ i _ => 8 - (intOf i).toNat)
  case atStart => exact ⟨0, Nat.zero_le _, rfl, rfl, Drawn0.refl _⟩
  case round =>
    obtain ⟨k, hk, rfl, rfl, hd⟩ := hrel
    have hk0 : (0 : Int) ≤ k := by omega
    have HD := Aside0.mk hd
    clear hd
    by_cases hk8 : k < 8
    · have hk8' : (k : Int) < 8 := by omega
      have hidx := digit_Eight.idx y k hk8
      have hg := HG.out k hk8
      have HG1 := Aside0.mk hg
      have hr := HBD.out k hk8
      obtain ⟨hr1, hr2⟩ := hr
      clear hg
      go_wp2_with (first | (go_at_call 57; refine (digit_Is.calls (y k) true _ HG1.out).mono ?_; rintro e w1 ⟨rfl, ⟨nd, rfl⟩⟩))
      go_roundw
      case rel =>
        refine ⟨k + 1, by omega, ?_, by go_num, HD.out.step nd⟩
        rw [← digit_Eight.step y k hk8 (fun j hj => HBD.out j (by omega))]
        have e8 : (8 * (k : Int)).toNat = 8 * k := by omega
        rw [e8]
      case measure => (simp [intOf] <;> omega)
    · obtain rfl : k = 8 := by omega
      go_wp2_with fail
      go_ret2
      refine ⟨?_, HD.out.below⟩
      simp only [digit_Eight.joined]
      generalize digit_Eight.wordF y 8 = X
      generalize Go.bits .and .u64 (IntKind.u64.wrap (IntKind.u64.wrap (X * 10) + X / 256)) 71777214294589695 = Y
      generalize Go.bits .and .u64 (IntKind.u64.wrap (IntKind.u64.wrap (Y * 100) + Y / 65536)) 281470681808895 = Z
      generalize Go.bits .and .u64 (IntKind.u64.wrap (IntKind.u64.wrap (Z * 10000) + Z / 4294967296)) 4294967295 = V
      rfl
theorem digit_Eight.wordF_word (l : List Int) : ∀ n, digit_Eight.wordF (fun j => l.getD j 0) n = digit_Eight.word l n
  | 0 => rfl
  | n + 1 => by simp only [digit_Eight.wordF, digit_Eight.word, digit_Eight.wordF_word l n]
theorem digit_Eight.cells_of {w : World} {ad : Addr} {l0 : List Int} (hr : ReadsInt w .u8 (some ad) l0.length l0) (h8 : 8 ≤ l0.length) : digit_Eight.Cells w ad (fun j => l0.getD j 0) := by
  obtain ⟨ad', e, hc⟩ := hr.2.2 (by omega)
  cases e
  refine ⟨?_, fun j h0 hj => ?_⟩
  · have := hc 0 (by omega)
    simpa [Addr.add] using this
  · have := hc j (by omega)
    simpa [Addr.add, show j ≠ 0 by omega] using this
theorem digit_Eight.is_true {c : Int} (h : digit_Eight.dig c = true) : digit_Is.f c = some true := by
  simp [digit_Eight.dig] at h
  unfold digit_Is.f
  rw [if_pos h.1]; simp [h.2]
theorem digit_Eight.is_false {c : Int} (h : ¬ (digit_Eight.dig c = true)) : digit_Is.f c = some false := by
  simp [digit_Eight.dig] at h
  unfold digit_Is.f
  by_cases h1 : c ≥ 48
  · rw [if_pos h1]; have := h h1; simp; omega
  · rw [if_neg h1]
theorem digit_Eight.first_bad (y : Nat → Int) (n : Nat) : (∀ j, j < n → digit_Eight.dig (y j) = true) ∨ ∃ m, m < n ∧ (∀ j, j < m → digit_Eight.dig (y j) = true) ∧ ¬ (digit_Eight.dig (y m) = true) := by
  induction n with
  | zero => left; intro j hj; omega
  | succ n ih =>
    rcases ih with h | ⟨m, h1, h2, h3⟩
    · by_cases hb : digit_Eight.dig (y n) = true
      · left; intro j hj
        rcases Nat.lt_or_ge j n with h' | h'
        · exact h j h'
        · rw [show j = n by omega]; exact hb
      · right; exact ⟨n, by omega, h, hb⟩
    · right; exact ⟨m, by omega, h2, h3⟩
theorem digit_Eight.all_iff (l : List Int) (h8 : 8 ≤ l.length) : digit_Eight.allD l = true ↔ ∀ j, j < 8 → digit_Eight.dig (l.getD j 0) = true := by
  unfold digit_Eight.allD
  rw [List.all_eq_true]
  constructor
  · intro h j hj
    refine h _ ?_
    rw [List.getD_eq_getElem?_getD, List.getElem?_eq_getElem (by omega)]
    exact List.mem_take_iff_getElem.2 ⟨j, by omega, rfl⟩
  · intro h x hx
    obtain ⟨j, hj, rfl⟩ := List.mem_take_iff_getElem.1 hx
    have := h j (by omega)
    rw [List.getD_eq_getElem?_getD, List.getElem?_eq_getElem (by omega)] at this
    exact this
theorem digit_Eight.calls (A0 : Option Addr) (c0 : Nat) (l0 : List Int) (r1 : Int) (r2 : Bool) (w : World) (hr0 : Kd.C (Kd.int .u8) w A0 l0.length l0) (hc0 : l0.length ≤ c0) (h : digit_Eight.f l0 = some (r1, r2)) :
    Calls Try.prog 62 #[.slice A0 l0.length c0] w fun e w' => e = .returned (.tuple #[.int .u64 r1, .bool r2]) ∧ Below w.heap.size w w' := by
  unfold digit_Eight.f at h
  by_cases h1 : (l0.length : Int) < 8
  · rw [if_pos h1] at h; simp only [Option.some.injEq, Prod.mk.injEq] at h; obtain ⟨rfl, rfl⟩ := h
    exact digit_Eight.callsA A0 c0 l0 w (by omega)
  · rw [if_neg h1] at h
    have hri : ReadsInt w .u8 A0 l0.length l0 := by
      have := Kd.reads_of_C (d := (0 : Int)) (h1 := fun _ => rfl) hr0
      exact this
    obtain ⟨ad, rfl, -⟩ := hri.2.2 (by omega)
    have hcs := digit_Eight.cells_of hri (by omega)
    rcases digit_Eight.first_bad (fun j => l0.getD j 0) 8 with hall | ⟨m, hm, hg, hb⟩
    · rw [if_pos ((digit_Eight.all_iff l0 (by omega)).2 hall)] at h; simp only [Option.some.injEq, Prod.mk.injEq] at h; obtain ⟨rfl, rfl⟩ := h
      rw [← digit_Eight.wordF_word l0 8]
      exact digit_Eight.callsC ad c0 l0.length _ w (by omega) hc0 hcs (fun j hj => digit_Eight.is_true (hall j hj)) (fun j hj => by have := hall j hj; simpa [digit_Eight.dig] using this)
    · rw [if_neg (fun e => hb ((digit_Eight.all_iff l0 (by omega)).1 e m hm))] at h; simp only [Option.some.injEq, Prod.mk.injEq] at h; obtain ⟨rfl, rfl⟩ := h
      exact digit_Eight.callsB ad c0 l0.length m _ w (by omega) hc0 hcs hm (fun j hj => digit_Eight.is_true (hg j hj)) (digit_Eight.is_false hb)

end

end Go.Proofs.Ytobgpdmiiipmmaa.Q

namespace Go.Proofs.Ytobgpdmiiipmmaa.Q
open Go.RowKit Go.Proofs.YtobgpdmiiipmmaaW.PrintWords Go.Proofs.YtobgpdmiiipmmaaW.PrintLast Go.Proofs.YtobgpdmiiipmmaaW.PrintMore
attribute [local go_sem] max2_int min2_int max_two min_two max_three min_three max_four min_four   -- for this text's walks alone
set_option linter.unusedVariables false
set_option linter.unusedSimpArgs false

/-! ### digit_Run: function 48 -/
mutual
def digit_Run.j0 : Nat → List Int → Int → Bool → Option (Int)
  | 0, _, _, _ => none
  | k + 1, x0, x1, x15 => if x15 = true then (some 0) else (if 0 ≤ x1 then (if x1 ≤ (x0.length : Int) then (digit_Run.l0 k 0 (x0.drop (x1 : Int).toNat) ((x0.drop (x1 : Int).toNat).length : Int) 0) else (none)) else (none))
def digit_Run.l0 : Nat → Int → List Int → Int → Int → Option (Int)
  | 0, _, _, _, _ => none
  | k + 1, x5, x18, x19, x20 => if x20 < x19 then (if 0 ≤ x20 then (if x20 < (x18.length : Int) then ((digit_Is.f (rd x18 x20)).bind fun t216 => (if t216 = true then (digit_Run.l0 k (wrap64 (x5 + 1)) x18 x19 (wrap64 (x20 + 1))) else (some x5))) else (none)) else (none)) else (some x5)
end
def digit_Run.f (k : Nat) (l0 : List Int) (a1 : Int) : Option (Int) := if a1 < 0 then (digit_Run.j0 k l0 a1 true) else (digit_Run.j0 k l0 a1 (decide (a1 ≥ (l0.length : Int))))
theorem digit_Run.mono_l : ∀ k, (∀ y0 y1 y2, LeO (digit_Run.j0 k y0 y1 y2) (digit_Run.j0 (k + 1) y0 y1 y2)) ∧ (∀ y0 y1 y2 y3, LeO (digit_Run.l0 k y0 y1 y2 y3) (digit_Run.l0 (k + 1) y0 y1 y2 y3))
  | 0 => ⟨fun _ _ _ r h => by simp [digit_Run.j0] at h, fun _ _ _ _ r h => by simp [digit_Run.l0] at h⟩
  | k + 1 => by
    obtain ⟨ih0, ih1⟩ := digit_Run.mono_l k
    refine ⟨?_, ?_⟩
    · intro y0 y1 y2
      unfold digit_Run.j0
      repeat' first
      | (with_reducible exact ih0 _ _ _)
      | (with_reducible exact ih1 _ _ _ _)
      | (with_reducible exact LeO.refl _)
      | (with_reducible exact LeO.none _)
      | (with_reducible refine LeO.ite ?_ ?_)
      | (with_reducible refine LeO.bind ?_ (fun _ => ?_))
      | exact ih0 _ _ _
      | exact ih1 _ _ _ _
      | exact LeO.none _
      | refine LeO.ite ?_ ?_
      | refine LeO.bind ?_ (fun _ => ?_)
    · intro y0 y1 y2 y3
      unfold digit_Run.l0
      repeat' first
      | (with_reducible exact ih0 _ _ _)
      | (with_reducible exact ih1 _ _ _ _)
      | (with_reducible exact LeO.refl _)
      | (with_reducible exact LeO.none _)
      | (with_reducible refine LeO.ite ?_ ?_)
      | (with_reducible refine LeO.bind ?_ (fun _ => ?_))
      | exact ih0 _ _ _
      | exact ih1 _ _ _ _
      | exact LeO.none _
      | refine LeO.ite ?_ ?_
      | refine LeO.bind ?_ (fun _ => ?_)
theorem digit_Run.mono : ∀ a0 a1 k, LeO (digit_Run.f k a0 a1) (digit_Run.f (k + 1) a0 a1) := by
  intro a0 a1 k
  obtain ⟨ih0, ih1⟩ := digit_Run.mono_l k
  unfold digit_Run.f
  repeat' first
      | (with_reducible exact ih0 _ _ _)
      | (with_reducible exact ih1 _ _ _ _)
      | (with_reducible exact LeO.refl _)
      | (with_reducible exact LeO.none _)
      | (with_reducible refine LeO.ite ?_ ?_)
      | (with_reducible refine LeO.bind ?_ (fun _ => ?_))
      | exact ih0 _ _ _
      | exact ih1 _ _ _ _
      | exact LeO.none _
      | refine LeO.ite ?_ ?_
      | refine LeO.bind ?_ (fun _ => ?_)
set_option maxHeartbeats 8000000 in
set_option maxRecDepth 100000 in
theorem digit_Run.calls (k : Nat) (A0 : Option Addr) (c0 : Nat) (l0 : List Int) (a1 : Int) (r : Int) (w : World) (hr0 : Kd.C (Kd.int .u8) w A0 l0.length l0) (hc0 : l0.length ≤ c0) (h : digit_Run.f k l0 a1 = some r) :
    Calls Try.prog 48 #[.slice A0 l0.length c0, .int .i64 a1] w fun e w' => e = .returned (.int .i64 r) ∧ Drawn0 w w' := by
  have HR0 := Aside0.mk hr0
  have HC0 := Aside0.mk hc0
  clear hr0 hc0
  have H : (if a1 < 0 then (digit_Run.j0 k l0 a1 true) else (digit_Run.j0 k l0 a1 (decide (a1 ≥ (l0.length : Int))))) = some r := h
  clear h
  have HC3 := Aside0.mk H
  clear H
  go_enter Try.func48, Try.ntmps48
  go_upto_region 1 with (fail)
  go_cut [15] (fun v15 wc => ∃ (kq : Nat) (x15_2 : Bool), v15 = .bool x15_2 ∧ Aside0 (digit_Run.j0 kq l0 a1 x15_2 = some r) ∧ Aside0 (kq ≤ k) ∧ Drawn0 w wc)
  case first =>
    have H := HC3.out
    clear HC3
    by_cases c4 : a1 < 0
    · rw [if_pos c4] at H
      have c4b0 : decide (a1 < 0) = true := decide_eq_true c4
      clear c4
      (first | rw [c4b0] | (simp only [i64_w, i32_w]; rw [c4b0]) | skip)
      have H' := Aside0.mk H
      clear H
      go_wp2
      go_meet
      case rel => exact ⟨_, (true), (by first | rfl | (simp; done) | (simp [*]; done)), H', ⟨by first | omega | exact Nat.le_refl _⟩, by repeat (first | exact Drawn0.refl _ | apply Drawn0.step)⟩
    · rw [if_neg c4] at H
      have c4b0 : decide (a1 < 0) = false := decide_eq_false c4
      clear c4
      (first | rw [c4b0] | (simp only [i64_w, i32_w]; rw [c4b0]) | skip)
      have H' := Aside0.mk H
      clear H
      go_wp2
      go_meet
      case rel => exact ⟨_, (decide (a1 ≥ (l0.length : Int))), (by first | rfl | (simp; done) | (simp [*]; done)), H', ⟨by first | omega | exact Nat.le_refl _⟩, by repeat (first | exact Drawn0.refl _ | apply Drawn0.step)⟩
  case rest =>
    clear HC3
    try clear p2
    try clear c4
    try clear c4b0
    obtain ⟨kq, x15_2, rfl, HA, HJ2, ⟨mc2, rfl⟩⟩ := hcut
    cases kq with
    | zero => exact absurd HA.out (by simp [digit_Run.j0])
    | succ kj2 =>
      have H := HA.out
      clear HA
      simp only [digit_Run.j0] at H
      by_cases c5 : x15_2 = true
      · subst c5
        have H1 : (some 0) = some r := by rw [if_pos rfl] at H; exact H
        clear H
        have H := H1
        clear H1
        obtain rfl := Option.some.inj H
        go_wp2
        go_ret
        exact ⟨by first | rfl | (simp; done) | (simp [*]; done), by repeat (first | exact Drawn0.refl _ | apply Drawn0.step)⟩
      · replace c5 := Bool.eq_false_iff.mpr c5
        subst c5
        have H1 : (if 0 ≤ a1 then (if a1 ≤ (l0.length : Int) then (digit_Run.l0 kj2 0 (l0.drop (a1 : Int).toNat) ((l0.drop (a1 : Int).toNat).length : Int) 0) else (none)) else (none)) = some r := by rw [if_neg (show ¬ (false = true) by decide)] at H; exact H
        clear H
        have H := H1
        clear H1
        by_cases c6 : 0 ≤ a1
        · rw [if_pos c6] at H
          have c6b0 := eq_true c6
          have c6b1 : decide (0 ≤ a1) = true := decide_eq_true c6
          clear c6
          by_cases c7 : a1 ≤ (l0.length : Int)
          · rw [if_pos c7] at H
            have c7b0 := eq_true c7
            have c7b1 : decide (a1 ≤ (l0.length : Int)) = true := decide_eq_true c7
            clear c7
            have H' := Aside0.mk H
            clear H
            obtain ⟨i08, hi08, _, hsz8, _⟩ := info_parts info5
            obtain ⟨A8, hcut8, hA8, hC8⟩ := print_drop_of (P := Try.prog) (Value.int .u8) 0 29 5 .i64 Try.underlying29 hi08 hsz8 A0 c0 l0 a1 (of_decide_eq_true (by first | (with_reducible assumption) | assumption)) (of_decide_eq_true (by first | (with_reducible assumption) | assumption)) HC0.out
            have HR214 := Aside0.mk (Kd.C_of_reads (h1 := fun _ => rfl) (hA8 _ (Kd.reads_of_C HR0.out)))
            have HC214 := Aside0.mk hC8
            clear hA8 hC8 hi08 hsz8
            go_wp2
            go_loopg [5, 20] kj2 (fun kq v5 v20 w' => ∃ (x5_2 : Int) (x20_2 : Int), v5 = .int .i64 x5_2 ∧ v20 = .int .i64 x20_2 ∧ Aside0 (digit_Run.l0 kq x5_2 (l0.drop (a1 : Int).toNat) ((l0.drop (a1 : Int).toNat).length : Int) x20_2 = some r) ∧ Aside0 (kq ≤ kj2) ∧ Drawn0 w w')
            case atStart => exact ⟨(0), (0), (by first | rfl | (simp; done) | (simp [*]; done)), (by first | rfl | (simp; done) | (simp [*]; done)), H', ⟨Nat.le_refl _⟩, by repeat (first | exact Drawn0.refl _ | apply Drawn0.step)⟩
            case round =>
              clear H'
              try clear c2
              try clear p2
              try clear c4
              try clear c4b0
              try clear c5
              try clear c6
              try clear c6b0
              try clear c6b1
              try clear c7
              try clear c7b0
              try clear c7b1
              try clear p2
              obtain ⟨x5_2, x20_2, rfl, rfl, HA, HK2, ⟨m2, rfl⟩⟩ := hrel
              cases gk with
              | zero => exact absurd HA.out (by simp [digit_Run.l0])
              | succ k2 =>
                have H := HA.out
                clear HA
                simp only [digit_Run.l0] at H
                by_cases c9 : x20_2 < ((l0.drop (a1 : Int).toNat).length : Int)
                · rw [if_pos c9] at H
                  have c9b0 : decide (x20_2 < ((l0.drop (a1 : Int).toNat).length : Int)) = true := decide_eq_true c9
                  (try (have c9b1 : decide (x20_2 < ((l0.length - (a1 : Int).toNat : Nat) : Int)) = true := by have h_ : decide (x20_2 < ((l0.drop (a1 : Int).toNat).length : Int)) = true := decide_eq_true c9; simpa only [List.length_drop] using h_))
                  clear c9
                  by_cases c10 : 0 ≤ x20_2
                  · rw [if_pos c10] at H
                    have c10b0 : decide (0 ≤ x20_2) = true := decide_eq_true c10
                    clear c10
                    by_cases c11 : x20_2 < ((l0.drop (a1 : Int).toNat).length : Int)
                    · rw [if_pos c11] at H
                      have c11b0 : decide (x20_2 < ((l0.drop (a1 : Int).toNat).length : Int)) = true := decide_eq_true c11
                      (try (have c11b1 : decide (x20_2 < ((l0.length - (a1 : Int).toNat : Nat) : Int)) = true := by have h_ : decide (x20_2 < ((l0.drop (a1 : Int).toNat).length : Int)) = true := decide_eq_true c11; simpa only [List.length_drop] using h_))
                      clear c11
                      replace H := Option.bind_eq_some_iff.mp H
                      obtain ⟨t216, A120, H⟩ := H
                      replace H : (if t216 = true then (digit_Run.l0 k2 (wrap64 (x5_2 + 1)) (l0.drop (a1 : Int).toNat) ((l0.drop (a1 : Int).toNat).length : Int) (wrap64 (x20_2 + 1))) else (some x5_2)) = some r := H
                      have A12 := Aside0.mk A120
                      clear A120
                      by_cases c13 : t216 = true
                      · subst c13
                        have H1 : (digit_Run.l0 k2 (wrap64 (x5_2 + 1)) (l0.drop (a1 : Int).toNat) ((l0.drop (a1 : Int).toNat).length : Int) (wrap64 (x20_2 + 1))) = some r := by rw [if_pos rfl] at H; exact H
                        clear H
                        have H := H1
                        clear H1
                        have H' := Aside0.mk H
                        clear H
                        have p215 : 0 ≤ (x20_2 : Int) := of_decide_eq_true (by first | (with_reducible assumption) | assumption)
                        have q215 : x20_2 < ((l0.drop (a1 : Int).toNat).length : Int) := of_decide_eq_true (by first | (with_reducible assumption) | assumption)
                        obtain ⟨ad215, e215, hx215_0⟩ := Kd.at_int HR214.out x20_2 p215 q215
                        cases e215
                        replace p215 := eq_true p215
                        replace q215 := eq_true q215
                        (try (have qd215 := q215; simp only [List.length_drop] at qd215))
                        go_wp2_with (first | ((with_reducible refine gate_callee (f := 57) rfl ?_); refine goesL_ (some 25) rfl rfl Try.func57 (by kernel_rfl) rfl #[.int .u8 (rd (l0.drop (a1 : Int).toNat) x20_2)] rfl (by (try simp only [List.map_toArray, List.map_cons, List.map_nil]); first | done | rfl | (simp only [List.length_drop, List.length_take]; rfl)) ?_; (with_reducible refine (digit_Is.calls (rd (l0.drop (a1 : Int).toNat) x20_2) true _ A12.out).mono ?_); rintro e w' ⟨rfl, ⟨nd, rfl⟩⟩; refine ⟨_, rfl, ?_⟩))
                        go_roundg k2
                        case measure => have := HJ2.out; have := HK2.out; omega
                        case rel => exact ⟨(wrap64 (x5_2 + 1)), (wrap64 (x20_2 + 1)), (by first | rfl | (simp; done) | (simp [*]; done)), (by first | rfl | (simp; done) | (simp [*]; done)), H', ⟨by have := HJ2.out; have := HK2.out; omega⟩, by repeat (first | exact Drawn0.refl _ | apply Drawn0.step)⟩
                      · replace c13 := Bool.eq_false_iff.mpr c13
                        subst c13
                        have H1 : (some x5_2) = some r := by rw [if_neg (show ¬ (false = true) by decide)] at H; exact H
                        clear H
                        have H := H1
                        clear H1
                        obtain rfl := Option.some.inj H
                        have p215 : 0 ≤ (x20_2 : Int) := of_decide_eq_true (by first | (with_reducible assumption) | assumption)
                        have q215 : x20_2 < ((l0.drop (a1 : Int).toNat).length : Int) := of_decide_eq_true (by first | (with_reducible assumption) | assumption)
                        obtain ⟨ad215, e215, hx215_0⟩ := Kd.at_int HR214.out x20_2 p215 q215
                        cases e215
                        replace p215 := eq_true p215
                        replace q215 := eq_true q215
                        (try (have qd215 := q215; simp only [List.length_drop] at qd215))
                        go_wp2_with (first | ((with_reducible refine gate_callee (f := 57) rfl ?_); refine goesL_ (some 25) rfl rfl Try.func57 (by kernel_rfl) rfl #[.int .u8 (rd (l0.drop (a1 : Int).toNat) x20_2)] rfl (by (try simp only [List.map_toArray, List.map_cons, List.map_nil]); first | done | rfl | (simp only [List.length_drop, List.length_take]; rfl)) ?_; (with_reducible refine (digit_Is.calls (rd (l0.drop (a1 : Int).toNat) x20_2) false _ A12.out).mono ?_); rintro e w' ⟨rfl, ⟨nd, rfl⟩⟩; refine ⟨_, rfl, ?_⟩))
                        go_ret
                        exact ⟨by first | rfl | (simp; done) | (simp [*]; done), by repeat (first | exact Drawn0.refl _ | apply Drawn0.step)⟩
                    · rw [if_neg c11] at H
                      exact absurd H (by simp)
                  · rw [if_neg c10] at H
                    exact absurd H (by simp)
                · rw [if_neg c9] at H
                  have c9b0 : decide (x20_2 < ((l0.drop (a1 : Int).toNat).length : Int)) = false := decide_eq_false c9
                  (try (have c9b1 : decide (x20_2 < ((l0.length - (a1 : Int).toNat : Nat) : Int)) = false := by have h_ : decide (x20_2 < ((l0.drop (a1 : Int).toNat).length : Int)) = false := decide_eq_false c9; simpa only [List.length_drop] using h_))
                  clear c9
                  obtain rfl := Option.some.inj H
                  go_wp2
                  go_ret
                  exact ⟨by first | rfl | (simp; done) | (simp [*]; done), by repeat (first | exact Drawn0.refl _ | apply Drawn0.step)⟩
          · rw [if_neg c7] at H
            exact absurd H (by simp)
        · rw [if_neg c6] at H
          exact absurd H (by simp)

end Go.Proofs.Ytobgpdmiiipmmaa.Q

namespace Go.Proofs.Ytobgpdmiiipmmaa.Q
open Go.RowKit Go.Proofs.YtobgpdmiiipmmaaW.PrintWords Go.Proofs.YtobgpdmiiipmmaaW.PrintLast Go.Proofs.YtobgpdmiiipmmaaW.PrintMore
attribute [local go_sem] max2_int min2_int max_two min_two max_three min_three max_four min_four   -- for this text's walks alone
set_option linter.unusedVariables false
set_option linter.unusedSimpArgs false

/-! ### digit_Value: function 60 -/
mutual
def digit_Value.j0 : Nat → List Int → Bool → Option (Int × Int)
  | 0, _, _ => none
  | k + 1, x0, x17 => if x17 = true then (some (0, 41)) else (digit_Value.l0 k x0)
def digit_Value.j2 : Nat → List Int → Option (Int × Int)
  | 0, _ => none
  | k + 1, x0 => if (x0.length : Int) > 20 then (some (0, 40)) else (digit_Value.l1 k x0 0)
def digit_Value.l1 : Nat → List Int → Int → Option (Int × Int)
  | 0, _, _ => none
  | k + 1, x0, x4 => if (x0.length : Int) > 0 then ((digit_Eight.f x0).bind fun bt224 => (if bt224.2 = true then (digit_Value.j4 k x0 x4 bt224.1 (decide (x4 < 10000000000))) else (digit_Value.j4 k x0 x4 bt224.1 false))) else (some (x4, 0))
def digit_Value.j4 : Nat → List Int → Int → Int → Bool → Option (Int × Int)
  | 0, _, _, _, _ => none
  | k + 1, x0, x4, x5, x44 => if x44 = true then (if 8 ≤ (x0.length : Int) then (digit_Value.l1 k (x0.drop 8) (IntKind.u64.wrap ((IntKind.u64.wrap (x4 * 100000000)) + x5))) else (none)) else (if 0 < (x0.length : Int) then (if x4 > ((18446744073709551615 - (((rd x0 0) - 48) % 256)) / 10) then (some (0, 40)) else (if 1 ≤ (x0.length : Int) then (digit_Value.l1 k (x0.drop 1) (IntKind.u64.wrap ((IntKind.u64.wrap (10 * x4)) + (((rd x0 0) - 48) % 256)))) else (none))) else (none))
def digit_Value.l0 : Nat → List Int → Option (Int × Int)
  | 0, _ => none
  | k + 1, x0 => if (x0.length : Int) > 0 then (if 0 < (x0.length : Int) then (if (rd x0 0) = 48 then (if 1 ≤ (x0.length : Int) then (digit_Value.l0 k (x0.drop 1)) else (none)) else (digit_Value.j2 k x0)) else (none)) else (digit_Value.j2 k x0)
end
def digit_Value.f (k : Nat) (l0 : List Int) : Option (Int × Int) := if (l0.length : Int) = 0 then (digit_Value.j0 k l0 true) else ((digit_Run.f k l0 0).bind fun t217 => (digit_Value.j0 k l0 (decide (t217 < (l0.length : Int)))))
theorem digit_Value.mono_l : ∀ k, (∀ y0 y1, LeO (digit_Value.j0 k y0 y1) (digit_Value.j0 (k + 1) y0 y1)) ∧ (∀ y0, LeO (digit_Value.j2 k y0) (digit_Value.j2 (k + 1) y0)) ∧ (∀ y0 y1, LeO (digit_Value.l1 k y0 y1) (digit_Value.l1 (k + 1) y0 y1)) ∧ (∀ y0 y1 y2 y3, LeO (digit_Value.j4 k y0 y1 y2 y3) (digit_Value.j4 (k + 1) y0 y1 y2 y3)) ∧ (∀ y0, LeO (digit_Value.l0 k y0) (digit_Value.l0 (k + 1) y0))
  | 0 => ⟨fun _ _ r h => by simp [digit_Value.j0] at h, fun _ r h => by simp [digit_Value.j2] at h, fun _ _ r h => by simp [digit_Value.l1] at h, fun _ _ _ _ r h => by simp [digit_Value.j4] at h, fun _ r h => by simp [digit_Value.l0] at h⟩
  | k + 1 => by
    obtain ⟨ih0, ih1, ih2, ih3, ih4⟩ := digit_Value.mono_l k
    refine ⟨?_, ?_, ?_, ?_, ?_⟩
    · intro y0 y1
      unfold digit_Value.j0
      repeat' first
      | (with_reducible exact ih0 _ _)
      | (with_reducible exact ih1 _)
      | (with_reducible exact ih2 _ _)
      | (with_reducible exact ih3 _ _ _ _)
      | (with_reducible exact ih4 _)
      | (with_reducible exact digit_Run.mono _ _ _)
      | (with_reducible exact LeO.refl _)
      | (with_reducible exact LeO.none _)
      | (with_reducible refine LeO.ite ?_ ?_)
      | (with_reducible refine LeO.bind ?_ (fun _ => ?_))
      | exact ih0 _ _
      | exact ih1 _
      | exact ih2 _ _
      | exact ih3 _ _ _ _
      | exact ih4 _
      | exact digit_Run.mono _ _ _
      | exact LeO.none _
      | refine LeO.ite ?_ ?_
      | refine LeO.bind ?_ (fun _ => ?_)
    · intro y0
      unfold digit_Value.j2
      repeat' first
      | (with_reducible exact ih0 _ _)
      | (with_reducible exact ih1 _)
      | (with_reducible exact ih2 _ _)
      | (with_reducible exact ih3 _ _ _ _)
      | (with_reducible exact ih4 _)
      | (with_reducible exact digit_Run.mono _ _ _)
      | (with_reducible exact LeO.refl _)
      | (with_reducible exact LeO.none _)
      | (with_reducible refine LeO.ite ?_ ?_)
      | (with_reducible refine LeO.bind ?_ (fun _ => ?_))
      | exact ih0 _ _
      | exact ih1 _
      | exact ih2 _ _
      | exact ih3 _ _ _ _
      | exact ih4 _
      | exact digit_Run.mono _ _ _
      | exact LeO.none _
      | refine LeO.ite ?_ ?_
      | refine LeO.bind ?_ (fun _ => ?_)
    · intro y0 y1
      unfold digit_Value.l1
      repeat' first
      | (with_reducible exact ih0 _ _)
      | (with_reducible exact ih1 _)
      | (with_reducible exact ih2 _ _)
      | (with_reducible exact ih3 _ _ _ _)
      | (with_reducible exact ih4 _)
      | (with_reducible exact digit_Run.mono _ _ _)
      | (with_reducible exact LeO.refl _)
      | (with_reducible exact LeO.none _)
      | (with_reducible refine LeO.ite ?_ ?_)
      | (with_reducible refine LeO.bind ?_ (fun _ => ?_))
      | exact ih0 _ _
      | exact ih1 _
      | exact ih2 _ _
      | exact ih3 _ _ _ _
      | exact ih4 _
      | exact digit_Run.mono _ _ _
      | exact LeO.none _
      | refine LeO.ite ?_ ?_
      | refine LeO.bind ?_ (fun _ => ?_)
    · intro y0 y1 y2 y3
      unfold digit_Value.j4
      repeat' first
      | (with_reducible exact ih0 _ _)
      | (with_reducible exact ih1 _)
      | (with_reducible exact ih2 _ _)
      | (with_reducible exact ih3 _ _ _ _)
      | (with_reducible exact ih4 _)
      | (with_reducible exact digit_Run.mono _ _ _)
      | (with_reducible exact LeO.refl _)
      | (with_reducible exact LeO.none _)
      | (with_reducible refine LeO.ite ?_ ?_)
      | (with_reducible refine LeO.bind ?_ (fun _ => ?_))
      | exact ih0 _ _
      | exact ih1 _
      | exact ih2 _ _
      | exact ih3 _ _ _ _
      | exact ih4 _
      | exact digit_Run.mono _ _ _
      | exact LeO.none _
      | refine LeO.ite ?_ ?_
      | refine LeO.bind ?_ (fun _ => ?_)
    · intro y0
      unfold digit_Value.l0
      repeat' first
      | (with_reducible exact ih0 _ _)
      | (with_reducible exact ih1 _)
      | (with_reducible exact ih2 _ _)
      | (with_reducible exact ih3 _ _ _ _)
      | (with_reducible exact ih4 _)
      | (with_reducible exact digit_Run.mono _ _ _)
      | (with_reducible exact LeO.refl _)
      | (with_reducible exact LeO.none _)
      | (with_reducible refine LeO.ite ?_ ?_)
      | (with_reducible refine LeO.bind ?_ (fun _ => ?_))
      | exact ih0 _ _
      | exact ih1 _
      | exact ih2 _ _
      | exact ih3 _ _ _ _
      | exact ih4 _
      | exact digit_Run.mono _ _ _
      | exact LeO.none _
      | refine LeO.ite ?_ ?_
      | refine LeO.bind ?_ (fun _ => ?_)
theorem digit_Value.mono : ∀ a0 k, LeO (digit_Value.f k a0) (digit_Value.f (k + 1) a0) := by
  intro a0 k
  obtain ⟨ih0, ih1, ih2, ih3, ih4⟩ := digit_Value.mono_l k
  unfold digit_Value.f
  repeat' first
      | (with_reducible exact ih0 _ _)
      | (with_reducible exact ih1 _)
      | (with_reducible exact ih2 _ _)
      | (with_reducible exact ih3 _ _ _ _)
      | (with_reducible exact ih4 _)
      | (with_reducible exact digit_Run.mono _ _ _)
      | (with_reducible exact LeO.refl _)
      | (with_reducible exact LeO.none _)
      | (with_reducible refine LeO.ite ?_ ?_)
      | (with_reducible refine LeO.bind ?_ (fun _ => ?_))
      | exact ih0 _ _
      | exact ih1 _
      | exact ih2 _ _
      | exact ih3 _ _ _ _
      | exact ih4 _
      | exact digit_Run.mono _ _ _
      | exact LeO.none _
      | refine LeO.ite ?_ ?_
      | refine LeO.bind ?_ (fun _ => ?_)
set_option maxHeartbeats 8000000 in
set_option maxRecDepth 100000 in
theorem digit_Value.calls (k : Nat) (P0_ : Nat → Prop) (A0 : Option Addr) (c0 : Nat) (l0 : List Int) (r1 : Int) (r2 : Int) (w : World) (hs0 : Kd.V (Kd.int .u8) 5 w w.heap.size (fun k_ => P0_ k_) (.slice A0 l0.length c0) l0) (h : digit_Value.f k l0 = some (r1, r2)) :
    Calls Try.prog 60 #[.slice A0 l0.length c0] w fun e w' => e = .returned (.tuple #[.int .u64 r1, .int .i64 r2]) ∧ Below w.heap.size w w' := by
  have HO0 := Aside0.mk (show Kd.V (Kd.int .u8) 5 w w.heap.size (fun k_ => (P0_ k_ ∨ w.heap.size ≤ k_)) (.slice A0 l0.length c0) l0 from Kd.V_mono hs0 (fun k_ hk => .inl hk))
  have HB := Aside0.mk (Below.refl w.heap.size w)
  have H : (if (l0.length : Int) = 0 then (digit_Value.j0 k l0 true) else ((digit_Run.f k l0 0).bind fun t217 => (digit_Value.j0 k l0 (decide (t217 < (l0.length : Int)))))) = some (r1, r2) := h
  clear h
  have HC2 := Aside0.mk H
  clear H
  go_enter Try.func60, Try.ntmps60
  go_upto_region 1 with (fail)
  go_cut [17] (fun v17 wc => ∃ (kq : Nat) (x17_1 : Bool), v17 = .bool x17_1 ∧ Aside0 (digit_Value.j0 kq l0 x17_1 = some (r1, r2)) ∧ Aside0 (kq ≤ k) ∧ Aside0 (Kd.V (Kd.int .u8) 5 wc w.heap.size (fun k_ => (P0_ k_ ∨ w.heap.size ≤ k_)) (.slice A0 l0.length c0) l0) ∧ Aside0 (Below w.heap.size w wc))
  case first =>
    have H := HC2.out
    clear HC2
    by_cases c3 : (l0.length : Int) = 0
    · rw [if_pos c3] at H
      have c3b0 : ((l0.length : Int) == 0) = true := beq_iff_eq.mpr c3
      have c3b1 : ((l0.length : Int) != 0) = false := bne_eq_false_iff_eq.mpr c3
      clear c3
      (first | rw [c3b0] | (simp only [i64_w, i32_w]; rw [c3b0]) | skip)
      have H' := Aside0.mk H
      clear H
      go_wp2
      go_meet
      case rel => exact ⟨_, (true), (by first | rfl | (simp; done) | (simp [*]; done)), H', ⟨by first | omega | exact Nat.le_refl _⟩, ⟨by (with_reducible repeat (first | apply Kd.V_alloc | apply Kd.V_drewN | apply Kd.V_drew)); exact HO0.out⟩, ⟨by repeat (first | (with_reducible first | exact HB.out | apply below_alloc | apply pw_below_drewN | apply below_drew1) | exact HB.out)⟩⟩
    · rw [if_neg c3] at H
      have c3b0 : ((l0.length : Int) == 0) = false := beq_eq_false_iff_ne.mpr c3
      have c3b1 : ((l0.length : Int) != 0) = true := bne_iff_ne.mpr c3
      have c3b2 : ¬ (l0 = []) := fun h_ => c3 (by rw [h_]; rfl)
      (first | rw [c3b0] | (simp only [i64_w, i32_w]; rw [c3b0]) | skip)
      replace H := Option.bind_eq_some_iff.mp H
      obtain ⟨t217, A40, H⟩ := H
      replace H : (digit_Value.j0 k l0 (decide (t217 < (l0.length : Int)))) = some (r1, r2) := H
      have A4 := Aside0.mk A40
      clear A40
      have H' := Aside0.mk H
      clear H
      go_wp2_with (first | (go_at_call 48; (with_reducible refine (digit_Run.calls k _ _ l0 0 t217 _ ?side1 ?side2 A4.out).mono ?_); (case side1 => repeat (first | exact (Kd.V_reads' HO0.out).2.2 | (with_reducible refine Kd.C_alloc ?_ _) | (with_reducible refine Kd.C_drewN ?_ _) | (with_reducible refine Kd.C_drew ?_))); (case side2 => exact (Kd.V_reads' HO0.out).2.1); rintro e w' ⟨rfl, ⟨nd, rfl⟩⟩))
      go_meet
      case rel => exact ⟨_, (decide (t217 < (l0.length : Int))), (by first | rfl | (simp; done) | (simp [*]; done)), H', ⟨by first | omega | exact Nat.le_refl _⟩, ⟨by (with_reducible repeat (first | apply Kd.V_alloc | apply Kd.V_drewN | apply Kd.V_drew)); exact HO0.out⟩, ⟨by repeat (first | (with_reducible first | exact HB.out | apply below_alloc | apply pw_below_drewN | apply below_drew1) | exact HB.out)⟩⟩
  case rest =>
    clear HC2
    try clear p2
    try clear c3
    try clear c3b0
    try clear c3b1
    try clear c3b2
    obtain ⟨kq, x17_1, rfl, HA, HJ1, HO_0, HB⟩ := hcut
    cases kq with
    | zero => exact absurd HA.out (by simp [digit_Value.j0])
    | succ kj1 =>
      have H := HA.out
      clear HA
      simp only [digit_Value.j0] at H
      by_cases c5 : x17_1 = true
      · subst c5
        have H1 : (some (0, 41)) = some (r1, r2) := by rw [if_pos rfl] at H; exact H
        clear H
        have H := H1
        clear H1
        simp only [Option.some.injEq, Prod.mk.injEq] at H
        obtain ⟨rfl, rfl⟩ := H
        go_wp2
        go_ret2
        exact ⟨by first | rfl | (simp [errW_none, errW_some] <;> rfl) | (simp [*, errW_none, errW_some] <;> rfl), by repeat (first | (with_reducible first | exact HB.out | apply below_alloc | apply pw_below_drewN | apply below_drew1) | exact HB.out)⟩
      · replace c5 := Bool.eq_false_iff.mpr c5
        subst c5
        have H1 : (digit_Value.l0 kj1 l0) = some (r1, r2) := by rw [if_neg (show ¬ (false = true) by decide)] at H; exact H
        clear H
        have H := H1
        clear H1
        have HC6 := Aside0.mk H
        clear H
        go_upto_block 0 with (fail)
        go_cut [0] (fun v0 wc => ∃ (kq : Nat) (x0_5 : List Int), Aside0 (digit_Value.j2 kq x0_5 = some (r1, r2)) ∧ Aside0 (kq ≤ kj1) ∧ Aside0 (Kd.V (Kd.int .u8) 5 wc w.heap.size (fun k_ => (P0_ k_ ∨ w.heap.size ≤ k_)) v0 x0_5) ∧ Aside0 (Below w.heap.size w wc))
        case first =>
          have H := HC6.out
          clear HC6
          have H' := Aside0.mk H
          clear H
          go_wp2
          go_loopg [0] kj1 (fun kq v0 w' => ∃ (x0_2 : List Int), Aside0 (digit_Value.l0 kq x0_2 = some (r1, r2)) ∧ Aside0 (kq ≤ kj1) ∧ Aside0 (Kd.V (Kd.int .u8) 5 w' w.heap.size (fun k_ => (P0_ k_ ∨ w.heap.size ≤ k_)) v0 x0_2) ∧ Aside0 (Below w.heap.size w w'))
          case atStart => exact ⟨(l0), H', ⟨Nat.le_refl _⟩, ⟨by (with_reducible repeat (first | apply Kd.V_alloc | apply Kd.V_drewN | apply Kd.V_drew)); exact HO_0.out⟩, ⟨by repeat (first | (with_reducible first | exact HB.out | apply below_alloc | apply pw_below_drewN | apply below_drew1) | exact HB.out)⟩⟩
          case round =>
            clear H'
            try clear p2
            try clear c3
            try clear c3b0
            try clear c3b1
            try clear c3b2
            try clear c5
            try clear c6
            try clear p2
            obtain ⟨x0_2, HA, HK2, HO_0, HB⟩ := hrel
            cases gk with
            | zero => exact absurd HA.out (by simp [digit_Value.l0])
            | succ k2 =>
              have H := HA.out
              clear HA
              simp only [digit_Value.l0] at H
              by_cases c7 : (x0_2.length : Int) > 0
              · rw [if_pos c7] at H
                have c7b0 : decide (0 < (x0_2.length : Int)) = true := decide_eq_true c7
                have c7b1 : decide (0 < x0_2.length) = true := decide_eq_true (by omega)
                clear c7
                (first | rw [c7b0] | (simp only [i64_w, i32_w]; rw [c7b0]) | skip)
                by_cases c8 : 0 < (x0_2.length : Int)
                · rw [if_pos c8] at H
                  have c8b0 : decide (0 < (x0_2.length : Int)) = true := decide_eq_true c8
                  have c8b1 : decide (0 < x0_2.length) = true := decide_eq_true (by omega)
                  clear c8
                  by_cases c9 : (rd x0_2 0) = 48
                  · rw [if_pos c9] at H
                    have c9b0 : ((rd x0_2 0) == 48) = true := beq_iff_eq.mpr c9
                    have c9b1 : ((rd x0_2 0) != 48) = false := bne_eq_false_iff_eq.mpr c9
                    clear c9
                    by_cases c10 : 1 ≤ (x0_2.length : Int)
                    · rw [if_pos c10] at H
                      have c10b0 := eq_true c10
                      have c10b1 : decide (1 ≤ (x0_2.length : Int)) = true := decide_eq_true c10
                      clear c10
                      obtain ⟨y219, hy219⟩ : ∃ y_ : List Int, y_ = (x0_2.drop 1) := ⟨_, rfl⟩
                      replace H : (digit_Value.l0 k2 y219) = some (r1, r2) := by first | (rw [hy219]; with_reducible exact H) | (have H2_ := (Option.bind_some _ _).symm.trans H; rw [hy219]; with_reducible exact H2_) | (have H2_ := (Option.bind_some _ _).symm.trans H; with_reducible exact H2_) | with_reducible exact H | (rw [hy219]; exact H) | exact H
                      have Ny219 := Aside0.mk hy219
                      clear hy219
                      have H' := Aside0.mk H
                      clear H
                      obtain ⟨Ao11, co11, eo11⟩ := Kd.V_slice HO_0.out
                      subst eo11
                      have p218 : 0 ≤ (0 : Int) := (by omega)
                      have q218 : 0 < (x0_2.length : Int) := of_decide_eq_true (by first | (with_reducible assumption) | assumption)
                      obtain ⟨ad218, e218, hx218_0⟩ := Kd.at_int (Kd.V_reads' HO_0.out).2.2 0 p218 q218
                      cases e218
                      have qi218 : (0 < x0_2.length) = True := eq_true (by omega)
                      (try rw [show ((0 : Int)).toNat = 0 from rfl] at hx218_0)
                      (try rw [Addr.add_zero'] at hx218_0)
                      replace p218 := eq_true p218
                      replace q218 := eq_true q218
                      (try (have qd218 := q218; simp only [List.length_drop] at qd218))
                      have q12 : (1 : Int) ≤ ((x0_2.length : Int) : Int) := of_decide_eq_true (by first | (with_reducible assumption) | assumption)
                      obtain ⟨i012, hi012, _, hsz12, _⟩ := info_parts info5
                      have hroom12 : x0_2.length ≤ co11 := (Kd.V_reads' HO_0.out).2.1
                      have hC12 : Kd.F (Kd.int .u8) _ _ (some ad218) x0_2.length x0_2 := (Kd.V_at (base := w.heap.size) HO_0.out).2.2
                      have hcut12 := cut_from (P := Try.prog) 29 5 .i64 Try.underlying29 hi012 1 hsz12 (some ad218) x0_2.length co11 1 (by omega) q12
                      have hr12 := Kd.F_cut (m := (1 : Int).toNat) (c := co11) hC12 (by omega) hroom12
                      obtain ⟨A12, hA12⟩ : ∃ A1, A1 = (if co11 = (1 : Int).toNat then (some ad218) else ((some ad218) : Option Addr).map (·.add ((1 : Int).toNat * 1))) := ⟨_, rfl⟩
                      obtain ⟨c12, hc12⟩ : ∃ c1, c1 = co11 - (1 : Int).toNat := ⟨_, rfl⟩
                      have hy12 : y219.length = x0_2.length - (1 : Int).toNat := (by rw [Ny219.out, List.length_drop] <;> omega)
                      rw [show (x0_2).drop (1 : Int).toNat = y219 from Ny219.out.symm] at hr12
                      replace hr12 : Kd.F (Kd.int .u8) _ _ A12 y219.length y219 := (by rw [hA12]; exact hr12)
                      rw [← hy12, ← hA12, ← hc12] at hcut12
                      have HO223 := Aside0.mk (show Kd.V (Kd.int .u8) 5 _ w.heap.size _ (.slice A12 y219.length c12) y219 from Kd.V_mk (by rw [hy12, hc12]; exact Nat.sub_le_sub_right hroom12 _) hr12)
                      have HC223 := Aside0.mk (show y219.length ≤ c12 from by rw [hy12, hc12]; exact Nat.sub_le_sub_right hroom12 _)
                      clear hr12 hC12 hroom12 hi012 hsz12 hc12
                      have KY12 := Aside0.mk hy12
                      have KA12 := Aside0.mk hA12
                      clear hy12 hA12
                      replace q12 := eq_true q12
                      (try (have qd12 := q12; simp only [List.length_drop] at qd12))
                      go_wp2
                      go_roundg k2
                      case measure => have := HJ1.out; have := HK2.out; omega
                      case rel => exact ⟨(y219), H', ⟨by have := HJ1.out; have := HK2.out; omega⟩, ⟨by (with_reducible repeat (first | apply Kd.V_alloc | apply Kd.V_drewN | apply Kd.V_drew)); exact HO223.out⟩, ⟨by repeat (first | (with_reducible first | exact HB.out | apply below_alloc | apply pw_below_drewN | apply below_drew1) | exact HB.out)⟩⟩
                    · rw [if_neg c10] at H
                      exact absurd H (by simp)
                  · rw [if_neg c9] at H
                    have c9b0 : ((rd x0_2 0) == 48) = false := beq_eq_false_iff_ne.mpr c9
                    have c9b1 : ((rd x0_2 0) != 48) = true := bne_iff_ne.mpr c9
                    have H' := Aside0.mk H
                    clear H
                    obtain ⟨Ao13, co13, eo13⟩ := Kd.V_slice HO_0.out
                    subst eo13
                    have p218 : 0 ≤ (0 : Int) := (by omega)
                    have q218 : 0 < (x0_2.length : Int) := of_decide_eq_true (by first | (with_reducible assumption) | assumption)
                    obtain ⟨ad218, e218, hx218_0⟩ := Kd.at_int (Kd.V_reads' HO_0.out).2.2 0 p218 q218
                    cases e218
                    have qi218 : (0 < x0_2.length) = True := eq_true (by omega)
                    (try rw [show ((0 : Int)).toNat = 0 from rfl] at hx218_0)
                    (try rw [Addr.add_zero'] at hx218_0)
                    replace p218 := eq_true p218
                    replace q218 := eq_true q218
                    (try (have qd218 := q218; simp only [List.length_drop] at qd218))
                    go_wp2
                    go_meet
                    case rel => exact ⟨_, (x0_2), H', ⟨by have := HJ1.out; have := HK2.out; first | omega | exact Nat.le_refl _⟩, ⟨by (with_reducible repeat (first | apply Kd.V_alloc | apply Kd.V_drewN | apply Kd.V_drew)); exact HO_0.out⟩, ⟨by repeat (first | (with_reducible first | exact HB.out | apply below_alloc | apply pw_below_drewN | apply below_drew1) | exact HB.out)⟩⟩
                · rw [if_neg c8] at H
                  exact absurd H (by simp)
              · rw [if_neg c7] at H
                have c7b0 : decide (0 < (x0_2.length : Int)) = false := decide_eq_false c7
                have c7b1 : decide (0 < x0_2.length) = false := decide_eq_false (by omega)
                clear c7
                (first | rw [c7b0] | (simp only [i64_w, i32_w]; rw [c7b0]) | skip)
                have H' := Aside0.mk H
                clear H
                obtain ⟨Ao14, co14, eo14⟩ := Kd.V_slice HO_0.out
                subst eo14
                go_wp2
                go_meet
                case rel => exact ⟨_, (x0_2), H', ⟨by have := HJ1.out; have := HK2.out; first | omega | exact Nat.le_refl _⟩, ⟨by (with_reducible repeat (first | apply Kd.V_alloc | apply Kd.V_drewN | apply Kd.V_drew)); exact HO_0.out⟩, ⟨by repeat (first | (with_reducible first | exact HB.out | apply below_alloc | apply pw_below_drewN | apply below_drew1) | exact HB.out)⟩⟩
        case rest =>
          clear HC6
          try clear c1
          try clear q1
          try clear p2
          try clear q2
          try clear hx2
          try clear qi2
          try clear c3
          try clear c3b0
          try clear c3b1
          try clear c3b2
          try clear c5
          try clear c6
          try clear c7
          try clear c7b0
          try clear c7b1
          try clear c8
          try clear c8b0
          try clear c8b1
          try clear c9
          try clear c9b0
          try clear c9b1
          try clear c10
          try clear c10b0
          try clear c10b1
          try clear c12
          try clear q12
          try clear hx218_0
          try clear p2
          try clear p218
          try clear q12
          try clear q218
          obtain ⟨kq, x0_5, HA, HJ5, HO_0, HB⟩ := hcut
          cases kq with
          | zero => exact absurd HA.out (by simp [digit_Value.j2])
          | succ kj5 =>
            have H := HA.out
            clear HA
            simp only [digit_Value.j2] at H
            by_cases c15 : (x0_5.length : Int) > 20
            · rw [if_pos c15] at H
              have c15b0 : decide (20 < (x0_5.length : Int)) = true := decide_eq_true c15
              have c15b1 : decide (20 < x0_5.length) = true := decide_eq_true (by omega)
              clear c15
              simp only [Option.some.injEq, Prod.mk.injEq] at H
              obtain ⟨rfl, rfl⟩ := H
              obtain ⟨Ao16, co16, eo16⟩ := Kd.V_slice HO_0.out
              subst eo16
              go_wp2
              go_ret2
              exact ⟨by first | rfl | (simp [errW_none, errW_some] <;> rfl) | (simp [*, errW_none, errW_some] <;> rfl), by repeat (first | (with_reducible first | exact HB.out | apply below_alloc | apply pw_below_drewN | apply below_drew1) | exact HB.out)⟩
            · rw [if_neg c15] at H
              have c15b0 : decide (20 < (x0_5.length : Int)) = false := decide_eq_false c15
              have c15b1 : decide (20 < x0_5.length) = false := decide_eq_false (by omega)
              clear c15
              have H' := Aside0.mk H
              clear H
              obtain ⟨Ao17, co17, eo17⟩ := Kd.V_slice HO_0.out
              subst eo17
              go_wp2
              go_loopg [0, 4] kj5 (fun kq v0 v4 w' => ∃ (x0_3 : List Int) (x4_3 : Int), v4 = .int .u64 x4_3 ∧ Aside0 (digit_Value.l1 kq x0_3 x4_3 = some (r1, r2)) ∧ Aside0 (kq ≤ kj5) ∧ Aside0 (Kd.V (Kd.int .u8) 5 w' w.heap.size (fun k_ => (P0_ k_ ∨ w.heap.size ≤ k_)) v0 x0_3) ∧ Aside0 (Below w.heap.size w w'))
              case atStart => exact ⟨(x0_5), (0), (by first | rfl | (simp; done) | (simp [*]; done)), H', ⟨Nat.le_refl _⟩, ⟨by (with_reducible repeat (first | apply Kd.V_alloc | apply Kd.V_drewN | apply Kd.V_drew)); exact HO_0.out⟩, ⟨by repeat (first | (with_reducible first | exact HB.out | apply below_alloc | apply pw_below_drewN | apply below_drew1) | exact HB.out)⟩⟩
              case round =>
                clear H'
                try clear c1
                try clear q1
                try clear p2
                try clear q2
                try clear hx2
                try clear qi2
                try clear c3
                try clear c3b0
                try clear c3b1
                try clear c3b2
                try clear c5
                try clear c6
                try clear c7
                try clear c7b0
                try clear c7b1
                try clear c8
                try clear c8b0
                try clear c8b1
                try clear c9
                try clear c9b0
                try clear c9b1
                try clear c10
                try clear c10b0
                try clear c10b1
                try clear c12
                try clear q12
                try clear c15
                try clear c15b0
                try clear c15b1
                try clear hx218_0
                try clear p2
                try clear p218
                try clear q1
                try clear q12
                try clear q2
                try clear q218
                obtain ⟨x0_3, x4_3, rfl, HA, HK3, HO_0, HB⟩ := hrel
                cases gk with
                | zero => exact absurd HA.out (by simp [digit_Value.l1])
                | succ k3 =>
                  have H := HA.out
                  clear HA
                  simp only [digit_Value.l1] at H
                  by_cases c18 : (x0_3.length : Int) > 0
                  · rw [if_pos c18] at H
                    have c18b0 : decide (0 < (x0_3.length : Int)) = true := decide_eq_true c18
                    have c18b1 : decide (0 < x0_3.length) = true := decide_eq_true (by omega)
                    clear c18
                    replace H := Option.bind_eq_some_iff.mp H
                    obtain ⟨⟨t224, t225⟩, A190, H⟩ := H
                    replace H : (if t225 = true then (digit_Value.j4 k3 x0_3 x4_3 t224 (decide (x4_3 < 10000000000))) else (digit_Value.j4 k3 x0_3 x4_3 t224 false)) = some (r1, r2) := H
                    have A19 := Aside0.mk A190
                    clear A190
                    have HC20 := Aside0.mk H
                    clear H
                    obtain ⟨Ao21, co21, eo21⟩ := Kd.V_slice HO_0.out
                    subst eo21
                    go_upto_region 10 with (first | ((with_reducible refine gate_callee (f := 62) rfl ?_); refine goesL_ (some 37) rfl rfl Try.func62 (by kernel_rfl) rfl #[.slice Ao21 x0_3.length co21] rfl (by (try simp only [List.map_toArray, List.map_cons, List.map_nil]); first | done | rfl | (simp only [List.length_drop, List.length_take]; rfl)) ?_; (with_reducible refine (digit_Eight.calls _ _ x0_3 t224 t225 _ ?side1 ?side2 A19.out).mono ?_); (case side1 => repeat (first | exact (Kd.V_reads' HO_0.out).2.2 | (with_reducible refine Kd.C_alloc ?_ _) | (with_reducible refine Kd.C_drewN ?_ _) | (with_reducible refine Kd.C_drew ?_))); (case side2 => exact (Kd.V_reads' HO_0.out).2.1); rintro e w22 ⟨rfl, hb⟩; refine ⟨_, rfl, ?_⟩; have n0_ := Aside0.mk (Kd.V_below (by (with_reducible repeat (first | apply Kd.V_alloc | apply Kd.V_drewN | apply Kd.V_drew)); exact HO_0.out) hb); have n1_ := Aside0.mk (below_step (by repeat (first | (with_reducible first | exact HB.out | apply below_alloc | apply pw_below_drewN | apply below_drew1) | exact HB.out)) hb); clear HO_0; clear HB; have HO_0 := n0_; have HB := n1_; clear n0_ n1_; (try clear hb); (try clear hb2); (try clear hk); (try clear hi)))
                    (try simp only [Act.put, List.setIfInBounds_toArray, List.set_cons_zero, List.set_cons_succ])
                    go_cut [44] (fun v44 wc => ∃ (kq : Nat) (x44_19 : Bool), v44 = .bool x44_19 ∧ Aside0 (digit_Value.j4 kq x0_3 x4_3 t224 x44_19 = some (r1, r2)) ∧ Aside0 (kq ≤ k3) ∧ Aside0 (Kd.V (Kd.int .u8) 5 wc w.heap.size (fun k_ => (P0_ k_ ∨ w.heap.size ≤ k_)) (.slice Ao21 x0_3.length co21) x0_3) ∧ Aside0 (Below w.heap.size w wc))
                    case first =>
                      have H := HC20.out
                      clear HC20
                      by_cases c23 : t225 = true
                      · subst c23
                        have H1 : (digit_Value.j4 k3 x0_3 x4_3 t224 (decide (x4_3 < 10000000000))) = some (r1, r2) := by rw [if_pos rfl] at H; exact H
                        clear H
                        have H := H1
                        clear H1
                        have H' := Aside0.mk H
                        clear H
                        go_wp2
                        go_meet
                        case rel => exact ⟨_, (decide (x4_3 < 10000000000)), (by first | rfl | (simp; done) | (simp [*]; done)), H', ⟨by have := HJ1.out; have := HJ5.out; have := HK3.out; first | omega | exact Nat.le_refl _⟩, ⟨by (with_reducible repeat (first | apply Kd.V_alloc | apply Kd.V_drewN | apply Kd.V_drew)); exact HO_0.out⟩, ⟨by repeat (first | (with_reducible first | exact HB.out | apply below_alloc | apply pw_below_drewN | apply below_drew1) | exact HB.out)⟩⟩
                      · replace c23 := Bool.eq_false_iff.mpr c23
                        subst c23
                        have H1 : (digit_Value.j4 k3 x0_3 x4_3 t224 false) = some (r1, r2) := by rw [if_neg (show ¬ (false = true) by decide)] at H; exact H
                        clear H
                        have H := H1
                        clear H1
                        have H' := Aside0.mk H
                        clear H
                        go_wp2
                        go_meet
                        case rel => exact ⟨_, (false), (by first | rfl | (simp; done) | (simp [*]; done)), H', ⟨by have := HJ1.out; have := HJ5.out; have := HK3.out; first | omega | exact Nat.le_refl _⟩, ⟨by (with_reducible repeat (first | apply Kd.V_alloc | apply Kd.V_drewN | apply Kd.V_drew)); exact HO_0.out⟩, ⟨by repeat (first | (with_reducible first | exact HB.out | apply below_alloc | apply pw_below_drewN | apply below_drew1) | exact HB.out)⟩⟩
                    case rest =>
                      clear HC20
                      try clear c1
                      try clear q1
                      try clear c2
                      try clear p2
                      try clear q2
                      try clear hx2
                      try clear qi2
                      try clear c3
                      try clear c3b0
                      try clear c3b1
                      try clear c3b2
                      try clear c5
                      try clear c6
                      try clear c7
                      try clear c7b0
                      try clear c7b1
                      try clear c8
                      try clear c8b0
                      try clear c8b1
                      try clear c9
                      try clear c9b0
                      try clear c9b1
                      try clear c10
                      try clear c10b0
                      try clear c10b1
                      try clear c12
                      try clear q12
                      try clear c15
                      try clear c15b0
                      try clear c15b1
                      try clear c18
                      try clear c18b0
                      try clear c18b1
                      try clear p21
                      try clear q21
                      try clear hx21
                      try clear qi21
                      try clear c23
                      try clear hx218_0
                      try clear p2
                      try clear p218
                      try clear q1
                      try clear q12
                      try clear q2
                      try clear q218
                      obtain ⟨kq, x44_19, rfl, HA, HJ19, HO_0, HB⟩ := hcut
                      cases kq with
                      | zero => exact absurd HA.out (by simp [digit_Value.j4])
                      | succ kj19 =>
                        have H := HA.out
                        clear HA
                        simp only [digit_Value.j4] at H
                        by_cases c24 : x44_19 = true
                        · subst c24
                          have H1 : (if 8 ≤ (x0_3.length : Int) then (digit_Value.l1 kj19 (x0_3.drop 8) (IntKind.u64.wrap ((IntKind.u64.wrap (x4_3 * 100000000)) + t224))) else (none)) = some (r1, r2) := by rw [if_pos rfl] at H; exact H
                          clear H
                          have H := H1
                          clear H1
                          by_cases c25 : 8 ≤ (x0_3.length : Int)
                          · rw [if_pos c25] at H
                            have c25b0 := eq_true c25
                            have c25b1 : decide (8 ≤ (x0_3.length : Int)) = true := decide_eq_true c25
                            clear c25
                            obtain ⟨y226, hy226⟩ : ∃ y_ : List Int, y_ = (x0_3.drop 8) := ⟨_, rfl⟩
                            replace H : (digit_Value.l1 kj19 y226 (IntKind.u64.wrap ((IntKind.u64.wrap (x4_3 * 100000000)) + t224))) = some (r1, r2) := by first | (rw [hy226]; with_reducible exact H) | (have H2_ := (Option.bind_some _ _).symm.trans H; rw [hy226]; with_reducible exact H2_) | (have H2_ := (Option.bind_some _ _).symm.trans H; with_reducible exact H2_) | with_reducible exact H | (rw [hy226]; exact H) | exact H
                            have Ny226 := Aside0.mk hy226
                            clear hy226
                            have H' := Aside0.mk H
                            clear H
                            have q26 : (8 : Int) ≤ ((x0_3.length : Int) : Int) := of_decide_eq_true (by first | (with_reducible assumption) | assumption)
                            obtain ⟨i026, hi026, _, hsz26, _⟩ := info_parts info5
                            have hroom26 : x0_3.length ≤ co21 := (Kd.V_reads' HO_0.out).2.1
                            have hC26 : Kd.F (Kd.int .u8) _ _ Ao21 x0_3.length x0_3 := (Kd.V_at (base := w.heap.size) HO_0.out).2.2
                            have hcut26 := cut_from (P := Try.prog) 29 5 .i64 Try.underlying29 hi026 1 hsz26 Ao21 x0_3.length co21 8 (by omega) q26
                            have hr26 := Kd.F_cut (m := (8 : Int).toNat) (c := co21) hC26 (by omega) hroom26
                            obtain ⟨A26, hA26⟩ : ∃ A1, A1 = (if co21 = (8 : Int).toNat then Ao21 else (Ao21 : Option Addr).map (·.add ((8 : Int).toNat * 1))) := ⟨_, rfl⟩
                            obtain ⟨c26, hc26⟩ : ∃ c1, c1 = co21 - (8 : Int).toNat := ⟨_, rfl⟩
                            have hy26 : y226.length = x0_3.length - (8 : Int).toNat := (by rw [Ny226.out, List.length_drop] <;> omega)
                            rw [show (x0_3).drop (8 : Int).toNat = y226 from Ny226.out.symm] at hr26
                            replace hr26 : Kd.F (Kd.int .u8) _ _ A26 y226.length y226 := (by rw [hA26]; exact hr26)
                            rw [← hy26, ← hA26, ← hc26] at hcut26
                            have HO230 := Aside0.mk (show Kd.V (Kd.int .u8) 5 _ w.heap.size _ (.slice A26 y226.length c26) y226 from Kd.V_mk (by rw [hy26, hc26]; exact Nat.sub_le_sub_right hroom26 _) hr26)
                            have HC230 := Aside0.mk (show y226.length ≤ c26 from by rw [hy26, hc26]; exact Nat.sub_le_sub_right hroom26 _)
                            clear hr26 hC26 hroom26 hi026 hsz26 hc26
                            have KY26 := Aside0.mk hy26
                            have KA26 := Aside0.mk hA26
                            clear hy26 hA26
                            replace q26 := eq_true q26
                            (try (have qd26 := q26; simp only [List.length_drop] at qd26))
                            go_wp2
                            go_roundg kj19
                            case measure => have := HJ1.out; have := HJ5.out; have := HK3.out; have := HJ19.out; omega
                            case rel => exact ⟨(y226), (IntKind.u64.wrap ((IntKind.u64.wrap (x4_3 * 100000000)) + t224)), (by first | rfl | (simp; done) | (simp [*]; done)), H', ⟨by have := HJ1.out; have := HJ5.out; have := HK3.out; have := HJ19.out; omega⟩, ⟨by (with_reducible repeat (first | apply Kd.V_alloc | apply Kd.V_drewN | apply Kd.V_drew)); exact HO230.out⟩, ⟨by repeat (first | (with_reducible first | exact HB.out | apply below_alloc | apply pw_below_drewN | apply below_drew1) | exact HB.out)⟩⟩
                          · rw [if_neg c25] at H
                            exact absurd H (by simp)
                        · replace c24 := Bool.eq_false_iff.mpr c24
                          subst c24
                          have H1 : (if 0 < (x0_3.length : Int) then (if x4_3 > ((18446744073709551615 - (((rd x0_3 0) - 48) % 256)) / 10) then (some (0, 40)) else (if 1 ≤ (x0_3.length : Int) then (digit_Value.l1 kj19 (x0_3.drop 1) (IntKind.u64.wrap ((IntKind.u64.wrap (10 * x4_3)) + (((rd x0_3 0) - 48) % 256)))) else (none))) else (none)) = some (r1, r2) := by rw [if_neg (show ¬ (false = true) by decide)] at H; exact H
                          clear H
                          have H := H1
                          clear H1
                          by_cases c27 : 0 < (x0_3.length : Int)
                          · rw [if_pos c27] at H
                            have c27b0 : decide (0 < (x0_3.length : Int)) = true := decide_eq_true c27
                            have c27b1 : decide (0 < x0_3.length) = true := decide_eq_true (by omega)
                            clear c27
                            by_cases c28 : x4_3 > ((18446744073709551615 - (((rd x0_3 0) - 48) % 256)) / 10)
                            · rw [if_pos c28] at H
                              have c28b0 : decide (((18446744073709551615 - (((rd x0_3 0) - 48) % 256)) / 10) < x4_3) = true := decide_eq_true c28
                              clear c28
                              simp only [Option.some.injEq, Prod.mk.injEq] at H
                              obtain ⟨rfl, rfl⟩ := H
                              have p231 : 0 ≤ (0 : Int) := (by omega)
                              have q231 : 0 < (x0_3.length : Int) := of_decide_eq_true (by first | (with_reducible assumption) | assumption)
                              obtain ⟨ad231, e231, hx231_0⟩ := Kd.at_int (Kd.V_reads' HO_0.out).2.2 0 p231 q231
                              cases e231
                              have qi231 : (0 < x0_3.length) = True := eq_true (by omega)
                              (try rw [show ((0 : Int)).toNat = 0 from rfl] at hx231_0)
                              (try rw [Addr.add_zero'] at hx231_0)
                              replace p231 := eq_true p231
                              replace q231 := eq_true q231
                              (try (have qd231 := q231; simp only [List.length_drop] at qd231))
                              go_wp2
                              go_ret2
                              exact ⟨by first | rfl | (simp [errW_none, errW_some] <;> rfl) | (simp [*, errW_none, errW_some] <;> rfl), by repeat (first | (with_reducible first | exact HB.out | apply below_alloc | apply pw_below_drewN | apply below_drew1) | exact HB.out)⟩
                            · rw [if_neg c28] at H
                              have c28b0 : decide (((18446744073709551615 - (((rd x0_3 0) - 48) % 256)) / 10) < x4_3) = false := decide_eq_false c28
                              clear c28
                              by_cases c29 : 1 ≤ (x0_3.length : Int)
                              · rw [if_pos c29] at H
                                have c29b0 := eq_true c29
                                have c29b1 : decide (1 ≤ (x0_3.length : Int)) = true := decide_eq_true c29
                                clear c29
                                obtain ⟨y232, hy232⟩ : ∃ y_ : List Int, y_ = (x0_3.drop 1) := ⟨_, rfl⟩
                                replace H : (digit_Value.l1 kj19 y232 (IntKind.u64.wrap ((IntKind.u64.wrap (10 * x4_3)) + (((rd x0_3 0) - 48) % 256)))) = some (r1, r2) := by first | (rw [hy232]; with_reducible exact H) | (have H2_ := (Option.bind_some _ _).symm.trans H; rw [hy232]; with_reducible exact H2_) | (have H2_ := (Option.bind_some _ _).symm.trans H; with_reducible exact H2_) | with_reducible exact H | (rw [hy232]; exact H) | exact H
                                have Ny232 := Aside0.mk hy232
                                clear hy232
                                have H' := Aside0.mk H
                                clear H
                                have p231 : 0 ≤ (0 : Int) := (by omega)
                                have q231 : 0 < (x0_3.length : Int) := of_decide_eq_true (by first | (with_reducible assumption) | assumption)
                                obtain ⟨ad231, e231, hx231_0⟩ := Kd.at_int (Kd.V_reads' HO_0.out).2.2 0 p231 q231
                                cases e231
                                have qi231 : (0 < x0_3.length) = True := eq_true (by omega)
                                (try rw [show ((0 : Int)).toNat = 0 from rfl] at hx231_0)
                                (try rw [Addr.add_zero'] at hx231_0)
                                replace p231 := eq_true p231
                                replace q231 := eq_true q231
                                (try (have qd231 := q231; simp only [List.length_drop] at qd231))
                                have q30 : (1 : Int) ≤ ((x0_3.length : Int) : Int) := of_decide_eq_true (by first | (with_reducible assumption) | assumption)
                                obtain ⟨i030, hi030, _, hsz30, _⟩ := info_parts info5
                                have hroom30 : x0_3.length ≤ co21 := (Kd.V_reads' HO_0.out).2.1
                                have hC30 : Kd.F (Kd.int .u8) _ _ (some ad231) x0_3.length x0_3 := (Kd.V_at (base := w.heap.size) HO_0.out).2.2
                                have hcut30 := cut_from (P := Try.prog) 29 5 .i64 Try.underlying29 hi030 1 hsz30 (some ad231) x0_3.length co21 1 (by omega) q30
                                have hr30 := Kd.F_cut (m := (1 : Int).toNat) (c := co21) hC30 (by omega) hroom30
                                obtain ⟨A30, hA30⟩ : ∃ A1, A1 = (if co21 = (1 : Int).toNat then (some ad231) else ((some ad231) : Option Addr).map (·.add ((1 : Int).toNat * 1))) := ⟨_, rfl⟩
                                obtain ⟨c30, hc30⟩ : ∃ c1, c1 = co21 - (1 : Int).toNat := ⟨_, rfl⟩
                                have hy30 : y232.length = x0_3.length - (1 : Int).toNat := (by rw [Ny232.out, List.length_drop] <;> omega)
                                rw [show (x0_3).drop (1 : Int).toNat = y232 from Ny232.out.symm] at hr30
                                replace hr30 : Kd.F (Kd.int .u8) _ _ A30 y232.length y232 := (by rw [hA30]; exact hr30)
                                rw [← hy30, ← hA30, ← hc30] at hcut30
                                have HO236 := Aside0.mk (show Kd.V (Kd.int .u8) 5 _ w.heap.size _ (.slice A30 y232.length c30) y232 from Kd.V_mk (by rw [hy30, hc30]; exact Nat.sub_le_sub_right hroom30 _) hr30)
                                have HC236 := Aside0.mk (show y232.length ≤ c30 from by rw [hy30, hc30]; exact Nat.sub_le_sub_right hroom30 _)
                                clear hr30 hC30 hroom30 hi030 hsz30 hc30
                                have KY30 := Aside0.mk hy30
                                have KA30 := Aside0.mk hA30
                                clear hy30 hA30
                                replace q30 := eq_true q30
                                (try (have qd30 := q30; simp only [List.length_drop] at qd30))
                                go_wp2
                                go_roundg kj19
                                case measure => have := HJ1.out; have := HJ5.out; have := HK3.out; have := HJ19.out; omega
                                case rel => exact ⟨(y232), (IntKind.u64.wrap ((IntKind.u64.wrap (10 * x4_3)) + (((rd x0_3 0) - 48) % 256))), (by first | rfl | (simp; done) | (simp [*]; done)), H', ⟨by have := HJ1.out; have := HJ5.out; have := HK3.out; have := HJ19.out; omega⟩, ⟨by (with_reducible repeat (first | apply Kd.V_alloc | apply Kd.V_drewN | apply Kd.V_drew)); exact HO236.out⟩, ⟨by repeat (first | (with_reducible first | exact HB.out | apply below_alloc | apply pw_below_drewN | apply below_drew1) | exact HB.out)⟩⟩
                              · rw [if_neg c29] at H
                                exact absurd H (by simp)
                          · rw [if_neg c27] at H
                            exact absurd H (by simp)
                  · rw [if_neg c18] at H
                    have c18b0 : decide (0 < (x0_3.length : Int)) = false := decide_eq_false c18
                    have c18b1 : decide (0 < x0_3.length) = false := decide_eq_false (by omega)
                    clear c18
                    simp only [Option.some.injEq, Prod.mk.injEq] at H
                    obtain ⟨rfl, rfl⟩ := H
                    obtain ⟨Ao31, co31, eo31⟩ := Kd.V_slice HO_0.out
                    subst eo31
                    go_wp2
                    go_ret2
                    exact ⟨by first | rfl | (simp [errW_none, errW_some] <;> rfl) | (simp [*, errW_none, errW_some] <;> rfl), by repeat (first | (with_reducible first | exact HB.out | apply below_alloc | apply pw_below_drewN | apply below_drew1) | exact HB.out)⟩

end Go.Proofs.Ytobgpdmiiipmmaa.Q

namespace Go.Proofs.Ytobgpdmiiipmmaa.Q
open Go.RowKit Go.Proofs.YtobgpdmiiipmmaaW.PrintWords Go.Proofs.YtobgpdmiiipmmaaW.PrintLast Go.Proofs.YtobgpdmiiipmmaaW.PrintMore
attribute [local go_sem] max2_int min2_int max_two min_two max_three min_three max_four min_four   -- for this text's walks alone
set_option linter.unusedVariables false
set_option linter.unusedSimpArgs false

/-! ### mintageref13_Leap: function 27 -/
def mintageref13_Leap.f (a0 : Int) : Option (Bool) := if a0 ≥ 0 then (if a0 ≤ 9999 then (if (Int.tmod a0 4) = 0 then (if (Int.tmod a0 100) = 0 then (some ((Int.tmod a0 400) == 0)) else (some true)) else (some false)) else (some false)) else (some false)
set_option maxHeartbeats 8000000 in
set_option maxRecDepth 100000 in
theorem mintageref13_Leap.calls (a0 : Int) (r : Bool) (w : World) (h : mintageref13_Leap.f a0 = some r) :
    Calls Try.prog 27 #[.int .i64 a0] w fun e w' => e = .returned (.bool r) ∧ Drawn0 w w' := by
  have H : (if a0 ≥ 0 then (if a0 ≤ 9999 then (if (Int.tmod a0 4) = 0 then (if (Int.tmod a0 100) = 0 then (some ((Int.tmod a0 400) == 0)) else (some true)) else (some false)) else (some false)) else (some false)) = some r := h
  clear h
  by_cases c2 : a0 ≥ 0
  · rw [if_pos c2] at H
    have c2b0 : decide (0 ≤ a0) = true := decide_eq_true c2
    clear c2
    by_cases c3 : a0 ≤ 9999
    · rw [if_pos c3] at H
      have c3b0 : decide (a0 ≤ 9999) = true := decide_eq_true c3
      clear c3
      by_cases c4 : (Int.tmod a0 4) = 0
      · rw [if_pos c4] at H
        have c4b0 : ((Int.tmod a0 4) == 0) = true := beq_iff_eq.mpr c4
        have c4b1 : ((Int.tmod a0 4) != 0) = false := bne_eq_false_iff_eq.mpr c4
        clear c4
        by_cases c5 : (Int.tmod a0 100) = 0
        · rw [if_pos c5] at H
          have c5b0 : ((Int.tmod a0 100) == 0) = true := beq_iff_eq.mpr c5
          have c5b1 : ((Int.tmod a0 100) != 0) = false := bne_eq_false_iff_eq.mpr c5
          clear c5
          obtain rfl := Option.some.inj H
          go_enter Try.func27, Try.ntmps27
          go_wp2
          go_ret
          exact ⟨by first | rfl | (simp; done) | (simp [*]; done), by repeat (first | exact Drawn0.refl _ | apply Drawn0.step)⟩
        · rw [if_neg c5] at H
          have c5b0 : ((Int.tmod a0 100) == 0) = false := beq_eq_false_iff_ne.mpr c5
          have c5b1 : ((Int.tmod a0 100) != 0) = true := bne_iff_ne.mpr c5
          obtain rfl := Option.some.inj H
          go_enter Try.func27, Try.ntmps27
          go_wp2
          go_ret
          exact ⟨by first | rfl | (simp; done) | (simp [*]; done), by repeat (first | exact Drawn0.refl _ | apply Drawn0.step)⟩
      · rw [if_neg c4] at H
        have c4b0 : ((Int.tmod a0 4) == 0) = false := beq_eq_false_iff_ne.mpr c4
        have c4b1 : ((Int.tmod a0 4) != 0) = true := bne_iff_ne.mpr c4
        obtain rfl := Option.some.inj H
        go_enter Try.func27, Try.ntmps27
        go_wp2
        go_ret
        exact ⟨by first | rfl | (simp; done) | (simp [*]; done), by repeat (first | exact Drawn0.refl _ | apply Drawn0.step)⟩
    · rw [if_neg c3] at H
      have c3b0 : decide (a0 ≤ 9999) = false := decide_eq_false c3
      clear c3
      obtain rfl := Option.some.inj H
      go_enter Try.func27, Try.ntmps27
      go_wp2
      go_ret
      exact ⟨by first | rfl | (simp; done) | (simp [*]; done), by repeat (first | exact Drawn0.refl _ | apply Drawn0.step)⟩
  · rw [if_neg c2] at H
    have c2b0 : decide (0 ≤ a0) = false := decide_eq_false c2
    clear c2
    obtain rfl := Option.some.inj H
    go_enter Try.func27, Try.ntmps27
    go_wp2
    go_ret
    exact ⟨by first | rfl | (simp; done) | (simp [*]; done), by repeat (first | exact Drawn0.refl _ | apply Drawn0.step)⟩

end Go.Proofs.Ytobgpdmiiipmmaa.Q

namespace Go.Proofs.Ytobgpdmiiipmmaa.Q
open Go.RowKit Go.Proofs.YtobgpdmiiipmmaaW.PrintWords Go.Proofs.YtobgpdmiiipmmaaW.PrintLast Go.Proofs.YtobgpdmiiipmmaaW.PrintMore
attribute [local go_sem] max2_int min2_int max_two min_two max_three min_three max_four min_four   -- for this text's walks alone
set_option linter.unusedVariables false
set_option linter.unusedSimpArgs false

/-! ### mintageref13_Length: function 28 -/
def mintageref13_Length.j0 : Nat → Int → Int → Bool → Option (Int)
  | 0, _, _, _ => none
  | k + 1, x0, x1, x18 => if x18 = true then (some 0) else (if x1 = 2 then ((mintageref13_Leap.f x0).bind fun t128 => (if t128 = true then (some 29) else (some 28))) else (if x1 = 4 then (some 30) else (if x1 = 6 then (some 30) else (if x1 = 9 then (some 30) else (if x1 = 11 then (some 30) else (some 31))))))
def mintageref13_Length.f (k : Nat) (a0 : Int) (a1 : Int) : Option (Int) := if a0 < 0 then (mintageref13_Length.j0 k a0 a1 true) else (if a0 > 9999 then (mintageref13_Length.j0 k a0 a1 true) else (if a1 < 1 then (mintageref13_Length.j0 k a0 a1 true) else (mintageref13_Length.j0 k a0 a1 (decide (a1 > 12)))))
theorem mintageref13_Length.mono_l : ∀ k, (∀ y0 y1 y2, LeO (mintageref13_Length.j0 k y0 y1 y2) (mintageref13_Length.j0 (k + 1) y0 y1 y2))
  | 0 => fun _ _ _ r h => by simp [mintageref13_Length.j0] at h
  | k + 1 => by
    have ih0 := mintageref13_Length.mono_l k
    · intro y0 y1 y2
      unfold mintageref13_Length.j0
      repeat' first
      | (with_reducible exact ih0 _ _ _)
      | (with_reducible exact LeO.refl _)
      | (with_reducible exact LeO.none _)
      | (with_reducible refine LeO.ite ?_ ?_)
      | (with_reducible refine LeO.bind ?_ (fun _ => ?_))
      | exact ih0 _ _ _
      | exact LeO.none _
      | refine LeO.ite ?_ ?_
      | refine LeO.bind ?_ (fun _ => ?_)
theorem mintageref13_Length.mono : ∀ a0 a1 k, LeO (mintageref13_Length.f k a0 a1) (mintageref13_Length.f (k + 1) a0 a1) := by
  intro a0 a1 k
  have ih0 := mintageref13_Length.mono_l k
  unfold mintageref13_Length.f
  repeat' first
      | (with_reducible exact ih0 _ _ _)
      | (with_reducible exact LeO.refl _)
      | (with_reducible exact LeO.none _)
      | (with_reducible refine LeO.ite ?_ ?_)
      | (with_reducible refine LeO.bind ?_ (fun _ => ?_))
      | exact ih0 _ _ _
      | exact LeO.none _
      | refine LeO.ite ?_ ?_
      | refine LeO.bind ?_ (fun _ => ?_)
set_option maxHeartbeats 8000000 in
set_option maxRecDepth 100000 in
theorem mintageref13_Length.calls (k : Nat) (a0 : Int) (a1 : Int) (r : Int) (w : World) (h : mintageref13_Length.f k a0 a1 = some r) :
    Calls Try.prog 28 #[.int .i64 a0, .int .i64 a1] w fun e w' => e = .returned (.int .i64 r) ∧ Drawn0 w w' := by
  have H : (if a0 < 0 then (mintageref13_Length.j0 k a0 a1 true) else (if a0 > 9999 then (mintageref13_Length.j0 k a0 a1 true) else (if a1 < 1 then (mintageref13_Length.j0 k a0 a1 true) else (mintageref13_Length.j0 k a0 a1 (decide (a1 > 12)))))) = some r := h
  clear h
  have HC3 := Aside0.mk H
  clear H
  go_enter Try.func28, Try.ntmps28
  go_upto_region 1 with (fail)
  go_cut [18] (fun v18 wc => ∃ (kq : Nat) (x18_2 : Bool), v18 = .bool x18_2 ∧ Aside0 (mintageref13_Length.j0 kq a0 a1 x18_2 = some r) ∧ Aside0 (kq ≤ k) ∧ Drawn0 w wc)
  case first =>
    have H := HC3.out
    clear HC3
    by_cases c4 : a0 < 0
    · rw [if_pos c4] at H
      have c4b0 : decide (a0 < 0) = true := decide_eq_true c4
      clear c4
      (first | rw [c4b0] | (simp only [i64_w, i32_w]; rw [c4b0]) | skip)
      have H' := Aside0.mk H
      clear H
      go_wp2
      go_meet
      case rel => exact ⟨_, (true), (by first | rfl | (simp; done) | (simp [*]; done)), H', ⟨by first | omega | exact Nat.le_refl _⟩, by repeat (first | exact Drawn0.refl _ | apply Drawn0.step)⟩
    · rw [if_neg c4] at H
      have c4b0 : decide (a0 < 0) = false := decide_eq_false c4
      clear c4
      (first | rw [c4b0] | (simp only [i64_w, i32_w]; rw [c4b0]) | skip)
      by_cases c5 : a0 > 9999
      · rw [if_pos c5] at H
        have c5b0 : decide (9999 < a0) = true := decide_eq_true c5
        clear c5
        have H' := Aside0.mk H
        clear H
        go_wp2
        go_meet
        case rel => exact ⟨_, (true), (by first | rfl | (simp; done) | (simp [*]; done)), H', ⟨by first | omega | exact Nat.le_refl _⟩, by repeat (first | exact Drawn0.refl _ | apply Drawn0.step)⟩
      · rw [if_neg c5] at H
        have c5b0 : decide (9999 < a0) = false := decide_eq_false c5
        clear c5
        by_cases c6 : a1 < 1
        · rw [if_pos c6] at H
          have c6b0 : decide (a1 < 1) = true := decide_eq_true c6
          clear c6
          have H' := Aside0.mk H
          clear H
          go_wp2
          go_meet
          case rel => exact ⟨_, (true), (by first | rfl | (simp; done) | (simp [*]; done)), H', ⟨by first | omega | exact Nat.le_refl _⟩, by repeat (first | exact Drawn0.refl _ | apply Drawn0.step)⟩
        · rw [if_neg c6] at H
          have c6b0 : decide (a1 < 1) = false := decide_eq_false c6
          clear c6
          have H' := Aside0.mk H
          clear H
          go_wp2
          go_meet
          case rel => exact ⟨_, (decide (a1 > 12)), (by first | rfl | (simp; done) | (simp [*]; done)), H', ⟨by first | omega | exact Nat.le_refl _⟩, by repeat (first | exact Drawn0.refl _ | apply Drawn0.step)⟩
  case rest =>
    clear HC3
    try clear c2
    try clear p2
    try clear c4
    try clear c4b0
    try clear c5
    try clear c5b0
    try clear c6
    try clear c6b0
    obtain ⟨kq, x18_2, rfl, HA, HJ2, ⟨mc2, rfl⟩⟩ := hcut
    cases kq with
    | zero => exact absurd HA.out (by simp [mintageref13_Length.j0])
    | succ kj2 =>
      have H := HA.out
      clear HA
      simp only [mintageref13_Length.j0] at H
      by_cases c7 : x18_2 = true
      · subst c7
        have H1 : (some 0) = some r := by rw [if_pos rfl] at H; exact H
        clear H
        have H := H1
        clear H1
        obtain rfl := Option.some.inj H
        go_wp2
        go_ret
        exact ⟨by first | rfl | (simp; done) | (simp [*]; done), by repeat (first | exact Drawn0.refl _ | apply Drawn0.step)⟩
      · replace c7 := Bool.eq_false_iff.mpr c7
        subst c7
        have H1 : (if a1 = 2 then ((mintageref13_Leap.f a0).bind fun t128 => (if t128 = true then (some 29) else (some 28))) else (if a1 = 4 then (some 30) else (if a1 = 6 then (some 30) else (if a1 = 9 then (some 30) else (if a1 = 11 then (some 30) else (some 31)))))) = some r := by rw [if_neg (show ¬ (false = true) by decide)] at H; exact H
        clear H
        have H := H1
        clear H1
        by_cases c8 : a1 = 2
        · rw [if_pos c8] at H
          have c8b0 : (a1 == 2) = true := beq_iff_eq.mpr c8
          have c8b1 : (a1 != 2) = false := bne_eq_false_iff_eq.mpr c8
          clear c8
          replace H := Option.bind_eq_some_iff.mp H
          obtain ⟨t128, A90, H⟩ := H
          replace H : (if t128 = true then (some 29) else (some 28)) = some r := H
          have A9 := Aside0.mk A90
          clear A90
          by_cases c10 : t128 = true
          · subst c10
            have H1 : (some 29) = some r := by rw [if_pos rfl] at H; exact H
            clear H
            have H := H1
            clear H1
            obtain rfl := Option.some.inj H
            go_wp2_with (first | ((with_reducible refine gate_callee (f := 27) rfl ?_); refine goesL_ (some 23) rfl rfl Try.func27 (by kernel_rfl) rfl #[.int .i64 a0] rfl (by (try simp only [List.map_toArray, List.map_cons, List.map_nil]); first | done | rfl | (simp only [List.length_drop, List.length_take]; rfl)) ?_; (with_reducible refine (mintageref13_Leap.calls a0 true _ A9.out).mono ?_); rintro e w' ⟨rfl, ⟨nd, rfl⟩⟩; refine ⟨_, rfl, ?_⟩))
            go_ret
            exact ⟨by first | rfl | (simp; done) | (simp [*]; done), by repeat (first | exact Drawn0.refl _ | apply Drawn0.step)⟩
          · replace c10 := Bool.eq_false_iff.mpr c10
            subst c10
            have H1 : (some 28) = some r := by rw [if_neg (show ¬ (false = true) by decide)] at H; exact H
            clear H
            have H := H1
            clear H1
            obtain rfl := Option.some.inj H
            go_wp2_with (first | ((with_reducible refine gate_callee (f := 27) rfl ?_); refine goesL_ (some 23) rfl rfl Try.func27 (by kernel_rfl) rfl #[.int .i64 a0] rfl (by (try simp only [List.map_toArray, List.map_cons, List.map_nil]); first | done | rfl | (simp only [List.length_drop, List.length_take]; rfl)) ?_; (with_reducible refine (mintageref13_Leap.calls a0 false _ A9.out).mono ?_); rintro e w' ⟨rfl, ⟨nd, rfl⟩⟩; refine ⟨_, rfl, ?_⟩))
            go_ret
            exact ⟨by first | rfl | (simp; done) | (simp [*]; done), by repeat (first | exact Drawn0.refl _ | apply Drawn0.step)⟩
        · rw [if_neg c8] at H
          have c8b0 : (a1 == 2) = false := beq_eq_false_iff_ne.mpr c8
          have c8b1 : (a1 != 2) = true := bne_iff_ne.mpr c8
          by_cases c11 : a1 = 4
          · rw [if_pos c11] at H
            have c11b0 : (a1 == 4) = true := beq_iff_eq.mpr c11
            have c11b1 : (a1 != 4) = false := bne_eq_false_iff_eq.mpr c11
            clear c11
            obtain rfl := Option.some.inj H
            go_wp2
            go_ret
            exact ⟨by first | rfl | (simp; done) | (simp [*]; done), by repeat (first | exact Drawn0.refl _ | apply Drawn0.step)⟩
          · rw [if_neg c11] at H
            have c11b0 : (a1 == 4) = false := beq_eq_false_iff_ne.mpr c11
            have c11b1 : (a1 != 4) = true := bne_iff_ne.mpr c11
            by_cases c12 : a1 = 6
            · rw [if_pos c12] at H
              have c12b0 : (a1 == 6) = true := beq_iff_eq.mpr c12
              have c12b1 : (a1 != 6) = false := bne_eq_false_iff_eq.mpr c12
              clear c12
              obtain rfl := Option.some.inj H
              go_wp2
              go_ret
              exact ⟨by first | rfl | (simp; done) | (simp [*]; done), by repeat (first | exact Drawn0.refl _ | apply Drawn0.step)⟩
            · rw [if_neg c12] at H
              have c12b0 : (a1 == 6) = false := beq_eq_false_iff_ne.mpr c12
              have c12b1 : (a1 != 6) = true := bne_iff_ne.mpr c12
              by_cases c13 : a1 = 9
              · rw [if_pos c13] at H
                have c13b0 : (a1 == 9) = true := beq_iff_eq.mpr c13
                have c13b1 : (a1 != 9) = false := bne_eq_false_iff_eq.mpr c13
                clear c13
                obtain rfl := Option.some.inj H
                go_wp2
                go_ret
                exact ⟨by first | rfl | (simp; done) | (simp [*]; done), by repeat (first | exact Drawn0.refl _ | apply Drawn0.step)⟩
              · rw [if_neg c13] at H
                have c13b0 : (a1 == 9) = false := beq_eq_false_iff_ne.mpr c13
                have c13b1 : (a1 != 9) = true := bne_iff_ne.mpr c13
                by_cases c14 : a1 = 11
                · rw [if_pos c14] at H
                  have c14b0 : (a1 == 11) = true := beq_iff_eq.mpr c14
                  have c14b1 : (a1 != 11) = false := bne_eq_false_iff_eq.mpr c14
                  clear c14
                  obtain rfl := Option.some.inj H
                  go_wp2
                  go_ret
                  exact ⟨by first | rfl | (simp; done) | (simp [*]; done), by repeat (first | exact Drawn0.refl _ | apply Drawn0.step)⟩
                · rw [if_neg c14] at H
                  have c14b0 : (a1 == 11) = false := beq_eq_false_iff_ne.mpr c14
                  have c14b1 : (a1 != 11) = true := bne_iff_ne.mpr c14
                  obtain rfl := Option.some.inj H
                  go_wp2
                  go_ret
                  exact ⟨by first | rfl | (simp; done) | (simp [*]; done), by repeat (first | exact Drawn0.refl _ | apply Drawn0.step)⟩

end Go.Proofs.Ytobgpdmiiipmmaa.Q

namespace Go.Proofs.Ytobgpdmiiipmmaa.Q
open Go.RowKit Go.Proofs.YtobgpdmiiipmmaaW.PrintWords Go.Proofs.YtobgpdmiiipmmaaW.PrintLast Go.Proofs.YtobgpdmiiipmmaaW.PrintMore
attribute [local go_sem] max2_int min2_int max_two min_two max_three min_three max_four min_four   -- for this text's walks alone
set_option linter.unusedVariables false
set_option linter.unusedSimpArgs false

/-! ### date_form: function 44 -/
def date_form.l0 : Nat → List Int → ByteArray → Int → Int → Option (Int)
  | 0, _, _, _, _ => none
  | k + 1, x0, x1, x11, x12 => if x12 < x11 then (if 0 ≤ x12 then (if x12 < (x0.length : Int) then (if x12 < (x1.size : Int) then (if (bt x1 x12) = 100 then ((digit_Is.f (rd x0 x12)).bind fun t213 => (if t213 = true then (date_form.l0 k x0 x1 x11 (wrap64 (x12 + 1))) else (some x12))) else (if ((rd x0 x12) = (bt x1 x12)) then (date_form.l0 k x0 x1 x11 (wrap64 (x12 + 1))) else (some x12))) else (none)) else (none)) else (none)) else (some (mn (x0.length : Int) (x1.size : Int)))
def date_form.f (k : Nat) (l0 : List Int) (a1 : ByteArray) : Option (Int) := date_form.l0 k l0 a1 (mn (l0.length : Int) (a1.size : Int)) 0
theorem date_form.mono_l : ∀ k, (∀ y0 y1 y2 y3, LeO (date_form.l0 k y0 y1 y2 y3) (date_form.l0 (k + 1) y0 y1 y2 y3))
  | 0 => fun _ _ _ _ r h => by simp [date_form.l0] at h
  | k + 1 => by
    have ih0 := date_form.mono_l k
    · intro y0 y1 y2 y3
      unfold date_form.l0
      repeat' first
      | (with_reducible exact ih0 _ _ _ _)
      | (with_reducible exact LeO.refl _)
      | (with_reducible exact LeO.none _)
      | (with_reducible refine LeO.ite ?_ ?_)
      | (with_reducible refine LeO.bind ?_ (fun _ => ?_))
      | exact ih0 _ _ _ _
      | exact LeO.none _
      | refine LeO.ite ?_ ?_
      | refine LeO.bind ?_ (fun _ => ?_)
theorem date_form.mono : ∀ a0 a1 k, LeO (date_form.f k a0 a1) (date_form.f (k + 1) a0 a1) := by
  intro a0 a1 k
  have ih0 := date_form.mono_l k
  unfold date_form.f
  repeat' first
      | (with_reducible exact ih0 _ _ _ _)
      | (with_reducible exact LeO.refl _)
      | (with_reducible exact LeO.none _)
      | (with_reducible refine LeO.ite ?_ ?_)
      | (with_reducible refine LeO.bind ?_ (fun _ => ?_))
      | exact ih0 _ _ _ _
      | exact LeO.none _
      | refine LeO.ite ?_ ?_
      | refine LeO.bind ?_ (fun _ => ?_)
set_option maxHeartbeats 8000000 in
set_option maxRecDepth 100000 in
theorem date_form.calls (k : Nat) (A0 : Option Addr) (c0 : Nat) (l0 : List Int) (a1 : ByteArray) (r : Int) (w : World) (hr0 : Kd.C (Kd.int .u8) w A0 l0.length l0) (hc0 : l0.length ≤ c0) (h : date_form.f k l0 a1 = some r) :
    Calls Try.prog 44 #[.slice A0 l0.length c0, .string a1] w fun e w' => e = .returned (.int .i64 r) ∧ Below w.heap.size w w' := by
  have HR0 := Aside0.mk hr0
  have HC0 := Aside0.mk hc0
  clear hr0 hc0
  have HB := Aside0.mk (Below.refl w.heap.size w)
  have H : (date_form.l0 k l0 a1 (mn (l0.length : Int) (a1.size : Int)) 0) = some r := h
  clear h
  obtain ⟨ji3, hji3⟩ : ∃ j_ : Int, (mn (l0.length : Int) (a1.size : Int)) = j_ := ⟨_, rfl⟩
  replace H : (date_form.l0 k l0 a1 ji3 0) = some r := by first | (rw [hji3] at H; exact H) | (simp only [hji3] at H ⊢; exact H)
  (try (have hji3l : 0 ≤ ji3 := by (rw [← hji3]; unfold mn; (repeat' split) <;> omega)))
  (try (have hji3m : 0 ≤ ji3 := by omega))
  have hji3_ : (if (a1.size : Int) < (l0.length : Int) then (a1.size : Int) else (l0.length : Int)) = ji3 := hji3
  (try (have hji3n_ : (if a1.size < l0.length then (a1.size : Int) else (l0.length : Int)) = ji3 := by rw [← hji3]; unfold mn; simp only [Int.ofNat_lt]))
  have H' := Aside0.mk H
  clear H
  go_enter Try.func44, Try.ntmps44
  go_wp2
  repeat (go_quiet (fail); try go_wp2)
  go_loopg [12] k (fun kq v12 w' => ∃ (x12_1 : Int), v12 = .int .i64 x12_1 ∧ Aside0 (date_form.l0 kq l0 a1 ji3 x12_1 = some r) ∧ Aside0 (kq ≤ k) ∧ Aside0 (Below w.heap.size w w'))
  case atStart => exact ⟨(0), (by first | rfl | (simp; done) | (simp [*]; done)), H', ⟨Nat.le_refl _⟩, ⟨by repeat (first | (with_reducible first | exact HB.out | apply below_alloc | apply pw_below_drewN | apply below_drew1) | exact HB.out)⟩⟩
  case round =>
    clear H'
    try clear p2
    obtain ⟨x12_1, rfl, HA, HK1, HB⟩ := hrel
    cases gk with
    | zero => exact absurd HA.out (by simp [date_form.l0])
    | succ k1 =>
      have H := HA.out
      clear HA
      simp only [date_form.l0] at H
      by_cases c4 : x12_1 < ji3
      · rw [if_pos c4] at H
        have c4b0 : decide (x12_1 < ji3) = true := decide_eq_true c4
        clear c4
        by_cases c5 : 0 ≤ x12_1
        · rw [if_pos c5] at H
          have c5b0 : decide (0 ≤ x12_1) = true := decide_eq_true c5
          clear c5
          by_cases c6 : x12_1 < (l0.length : Int)
          · rw [if_pos c6] at H
            have c6b0 : decide (x12_1 < (l0.length : Int)) = true := decide_eq_true c6
            clear c6
            by_cases c7 : x12_1 < (a1.size : Int)
            · rw [if_pos c7] at H
              have c7b0 : decide (x12_1 < (a1.size : Int)) = true := decide_eq_true c7
              clear c7
              by_cases c10 : (bt a1 x12_1) = 100
              · rw [if_pos c10] at H
                have c10b0 : ((bt a1 x12_1) == 100) = true := beq_iff_eq.mpr c10
                have c10b1 : ((bt a1 x12_1) != 100) = false := bne_eq_false_iff_eq.mpr c10
                clear c10
                replace H := Option.bind_eq_some_iff.mp H
                obtain ⟨t213, A110, H⟩ := H
                replace H : (if t213 = true then (date_form.l0 k1 l0 a1 ji3 (wrap64 (x12_1 + 1))) else (some x12_1)) = some r := H
                have A11 := Aside0.mk A110
                clear A110
                by_cases c12 : t213 = true
                · subst c12
                  have H1 : (date_form.l0 k1 l0 a1 ji3 (wrap64 (x12_1 + 1))) = some r := by rw [if_pos rfl] at H; exact H
                  clear H
                  have H := H1
                  clear H1
                  have H' := Aside0.mk H
                  clear H
                  have p211 : 0 ≤ (x12_1 : Int) := of_decide_eq_true (by first | (with_reducible assumption) | assumption)
                  have q211 : x12_1 < (l0.length : Int) := of_decide_eq_true (by first | (with_reducible assumption) | assumption)
                  obtain ⟨ad211, e211, hx211_0⟩ := Kd.at_int HR0.out x12_1 p211 q211
                  cases e211
                  replace hx211_0 := (HB.out.cell (World.block_lt_of_cell? w _ hx211_0)).trans hx211_0
                  replace p211 := eq_true p211
                  replace q211 := eq_true q211
                  (try (have qd211 := q211; simp only [List.length_drop] at qd211))
                  have p8 : 0 ≤ (x12_1 : Int) := of_decide_eq_true (by first | (with_reducible assumption) | assumption)
                  have q8 : x12_1 < (a1.size : Int) := of_decide_eq_true (by first | (with_reducible assumption) | assumption)
                  have hx8 := bt_at a1 x12_1
                  replace p8 := eq_true p8
                  replace q8 := eq_true q8
                  (try (have qd8 := q8; simp only [List.length_drop] at qd8))
                  have p9 : 0 ≤ (x12_1 : Int) := of_decide_eq_true (by first | (with_reducible assumption) | assumption)
                  have q9 : x12_1 < (a1.size : Int) := of_decide_eq_true (by first | (with_reducible assumption) | assumption)
                  have hx9 := bt_at a1 x12_1
                  replace p9 := eq_true p9
                  replace q9 := eq_true q9
                  (try (have qd9 := q9; simp only [List.length_drop] at qd9))
                  have p212 : 0 ≤ (x12_1 : Int) := of_decide_eq_true (by first | (with_reducible assumption) | assumption)
                  have q212 : x12_1 < (l0.length : Int) := of_decide_eq_true (by first | (with_reducible assumption) | assumption)
                  obtain ⟨ad212, e212, hx212_0⟩ := Kd.at_int HR0.out x12_1 p212 q212
                  obtain rfl : ad211 = ad212 := (by injection e212)
                  replace hx212_0 := (HB.out.cell (World.block_lt_of_cell? w _ hx212_0)).trans hx212_0
                  replace p212 := eq_true p212
                  replace q212 := eq_true q212
                  (try (have qd212 := q212; simp only [List.length_drop] at qd212))
                  go_wp2_with (first | (go_at_call 57; (with_reducible refine (digit_Is.calls (rd l0 x12_1) true _ A11.out).mono ?_); rintro e w' ⟨rfl, ⟨nd, rfl⟩⟩; (try first | exact ⟨rfl, _, World.drewN_drewN _ _ _⟩ | exact ⟨rfl, _, Eq.trans (World.drewN_drewN _ _ _) (congrArg (World.drewN _) (Nat.add_assoc _ _ _))⟩)))
                  repeat (go_quiet (first | (go_at_call 57; (with_reducible refine (digit_Is.calls (rd l0 x12_1) true _ A11.out).mono ?_); rintro e w' ⟨rfl, ⟨nd, rfl⟩⟩; (try first | exact ⟨rfl, _, World.drewN_drewN _ _ _⟩ | exact ⟨rfl, _, Eq.trans (World.drewN_drewN _ _ _) (congrArg (World.drewN _) (Nat.add_assoc _ _ _))⟩))); try go_wp2_with (first | (go_at_call 57; (with_reducible refine (digit_Is.calls (rd l0 x12_1) true _ A11.out).mono ?_); rintro e w' ⟨rfl, ⟨nd, rfl⟩⟩; (try first | exact ⟨rfl, _, World.drewN_drewN _ _ _⟩ | exact ⟨rfl, _, Eq.trans (World.drewN_drewN _ _ _) (congrArg (World.drewN _) (Nat.add_assoc _ _ _))⟩))))
                  go_roundg k1
                  case measure => have := HK1.out; omega
                  case rel => exact ⟨(wrap64 (x12_1 + 1)), (by first | rfl | (simp; done) | (simp [*]; done)), H', ⟨by have := HK1.out; omega⟩, ⟨by repeat (first | (with_reducible first | exact HB.out | apply below_alloc | apply pw_below_drewN | apply below_drew1) | exact HB.out)⟩⟩
                · replace c12 := Bool.eq_false_iff.mpr c12
                  subst c12
                  have H1 : (some x12_1) = some r := by rw [if_neg (show ¬ (false = true) by decide)] at H; exact H
                  clear H
                  have H := H1
                  clear H1
                  obtain rfl := Option.some.inj H
                  have p211 : 0 ≤ (x12_1 : Int) := of_decide_eq_true (by first | (with_reducible assumption) | assumption)
                  have q211 : x12_1 < (l0.length : Int) := of_decide_eq_true (by first | (with_reducible assumption) | assumption)
                  obtain ⟨ad211, e211, hx211_0⟩ := Kd.at_int HR0.out x12_1 p211 q211
                  cases e211
                  replace hx211_0 := (HB.out.cell (World.block_lt_of_cell? w _ hx211_0)).trans hx211_0
                  replace p211 := eq_true p211
                  replace q211 := eq_true q211
                  (try (have qd211 := q211; simp only [List.length_drop] at qd211))
                  have p8 : 0 ≤ (x12_1 : Int) := of_decide_eq_true (by first | (with_reducible assumption) | assumption)
                  have q8 : x12_1 < (a1.size : Int) := of_decide_eq_true (by first | (with_reducible assumption) | assumption)
                  have hx8 := bt_at a1 x12_1
                  replace p8 := eq_true p8
                  replace q8 := eq_true q8
                  (try (have qd8 := q8; simp only [List.length_drop] at qd8))
                  have p9 : 0 ≤ (x12_1 : Int) := of_decide_eq_true (by first | (with_reducible assumption) | assumption)
                  have q9 : x12_1 < (a1.size : Int) := of_decide_eq_true (by first | (with_reducible assumption) | assumption)
                  have hx9 := bt_at a1 x12_1
                  replace p9 := eq_true p9
                  replace q9 := eq_true q9
                  (try (have qd9 := q9; simp only [List.length_drop] at qd9))
                  have p212 : 0 ≤ (x12_1 : Int) := of_decide_eq_true (by first | (with_reducible assumption) | assumption)
                  have q212 : x12_1 < (l0.length : Int) := of_decide_eq_true (by first | (with_reducible assumption) | assumption)
                  obtain ⟨ad212, e212, hx212_0⟩ := Kd.at_int HR0.out x12_1 p212 q212
                  obtain rfl : ad211 = ad212 := (by injection e212)
                  replace hx212_0 := (HB.out.cell (World.block_lt_of_cell? w _ hx212_0)).trans hx212_0
                  replace p212 := eq_true p212
                  replace q212 := eq_true q212
                  (try (have qd212 := q212; simp only [List.length_drop] at qd212))
                  go_wp2_with (first | (go_at_call 57; (with_reducible refine (digit_Is.calls (rd l0 x12_1) false _ A11.out).mono ?_); rintro e w' ⟨rfl, ⟨nd, rfl⟩⟩; (try first | exact ⟨rfl, _, World.drewN_drewN _ _ _⟩ | exact ⟨rfl, _, Eq.trans (World.drewN_drewN _ _ _) (congrArg (World.drewN _) (Nat.add_assoc _ _ _))⟩)))
                  repeat (go_quiet (first | (go_at_call 57; (with_reducible refine (digit_Is.calls (rd l0 x12_1) false _ A11.out).mono ?_); rintro e w' ⟨rfl, ⟨nd, rfl⟩⟩; (try first | exact ⟨rfl, _, World.drewN_drewN _ _ _⟩ | exact ⟨rfl, _, Eq.trans (World.drewN_drewN _ _ _) (congrArg (World.drewN _) (Nat.add_assoc _ _ _))⟩))); try go_wp2_with (first | (go_at_call 57; (with_reducible refine (digit_Is.calls (rd l0 x12_1) false _ A11.out).mono ?_); rintro e w' ⟨rfl, ⟨nd, rfl⟩⟩; (try first | exact ⟨rfl, _, World.drewN_drewN _ _ _⟩ | exact ⟨rfl, _, Eq.trans (World.drewN_drewN _ _ _) (congrArg (World.drewN _) (Nat.add_assoc _ _ _))⟩))))
                  go_ret
                  exact ⟨by first | rfl | (simp [errW_none, errW_some] <;> rfl) | (simp only [← hji3]; first | rfl | (simp [errW_none, errW_some] <;> rfl)) | (simp [*, errW_none, errW_some] <;> rfl), by repeat (first | (with_reducible first | exact HB.out | apply below_alloc | apply pw_below_drewN | apply below_drew1) | exact HB.out)⟩
              · rw [if_neg c10] at H
                have c10b0 : ((bt a1 x12_1) == 100) = false := beq_eq_false_iff_ne.mpr c10
                have c10b1 : ((bt a1 x12_1) != 100) = true := bne_iff_ne.mpr c10
                by_cases c13 : ((rd l0 x12_1) = (bt a1 x12_1))
                · rw [if_pos c13] at H
                  have c13b0 : ((rd l0 x12_1) == (bt a1 x12_1)) = true := beq_iff_eq.mpr c13
                  have c13b1 : ((rd l0 x12_1) != (bt a1 x12_1)) = false := bne_eq_false_iff_eq.mpr c13
                  clear c13
                  have H' := Aside0.mk H
                  clear H
                  have p211 : 0 ≤ (x12_1 : Int) := of_decide_eq_true (by first | (with_reducible assumption) | assumption)
                  have q211 : x12_1 < (l0.length : Int) := of_decide_eq_true (by first | (with_reducible assumption) | assumption)
                  obtain ⟨ad211, e211, hx211_0⟩ := Kd.at_int HR0.out x12_1 p211 q211
                  cases e211
                  replace hx211_0 := (HB.out.cell (World.block_lt_of_cell? w _ hx211_0)).trans hx211_0
                  replace p211 := eq_true p211
                  replace q211 := eq_true q211
                  (try (have qd211 := q211; simp only [List.length_drop] at qd211))
                  have p8 : 0 ≤ (x12_1 : Int) := of_decide_eq_true (by first | (with_reducible assumption) | assumption)
                  have q8 : x12_1 < (a1.size : Int) := of_decide_eq_true (by first | (with_reducible assumption) | assumption)
                  have hx8 := bt_at a1 x12_1
                  replace p8 := eq_true p8
                  replace q8 := eq_true q8
                  (try (have qd8 := q8; simp only [List.length_drop] at qd8))
                  have p9 : 0 ≤ (x12_1 : Int) := of_decide_eq_true (by first | (with_reducible assumption) | assumption)
                  have q9 : x12_1 < (a1.size : Int) := of_decide_eq_true (by first | (with_reducible assumption) | assumption)
                  have hx9 := bt_at a1 x12_1
                  replace p9 := eq_true p9
                  replace q9 := eq_true q9
                  (try (have qd9 := q9; simp only [List.length_drop] at qd9))
                  go_wp2
                  repeat (go_quiet (fail); try go_wp2)
                  go_roundg k1
                  case measure => have := HK1.out; omega
                  case rel => exact ⟨(wrap64 (x12_1 + 1)), (by first | rfl | (simp; done) | (simp [*]; done)), H', ⟨by have := HK1.out; omega⟩, ⟨by repeat (first | (with_reducible first | exact HB.out | apply below_alloc | apply pw_below_drewN | apply below_drew1) | exact HB.out)⟩⟩
                · rw [if_neg c13] at H
                  have c13b0 : ((rd l0 x12_1) == (bt a1 x12_1)) = false := beq_eq_false_iff_ne.mpr c13
                  have c13b1 : ((rd l0 x12_1) != (bt a1 x12_1)) = true := bne_iff_ne.mpr c13
                  obtain rfl := Option.some.inj H
                  have p211 : 0 ≤ (x12_1 : Int) := of_decide_eq_true (by first | (with_reducible assumption) | assumption)
                  have q211 : x12_1 < (l0.length : Int) := of_decide_eq_true (by first | (with_reducible assumption) | assumption)
                  obtain ⟨ad211, e211, hx211_0⟩ := Kd.at_int HR0.out x12_1 p211 q211
                  cases e211
                  replace hx211_0 := (HB.out.cell (World.block_lt_of_cell? w _ hx211_0)).trans hx211_0
                  replace p211 := eq_true p211
                  replace q211 := eq_true q211
                  (try (have qd211 := q211; simp only [List.length_drop] at qd211))
                  have p8 : 0 ≤ (x12_1 : Int) := of_decide_eq_true (by first | (with_reducible assumption) | assumption)
                  have q8 : x12_1 < (a1.size : Int) := of_decide_eq_true (by first | (with_reducible assumption) | assumption)
                  have hx8 := bt_at a1 x12_1
                  replace p8 := eq_true p8
                  replace q8 := eq_true q8
                  (try (have qd8 := q8; simp only [List.length_drop] at qd8))
                  have p9 : 0 ≤ (x12_1 : Int) := of_decide_eq_true (by first | (with_reducible assumption) | assumption)
                  have q9 : x12_1 < (a1.size : Int) := of_decide_eq_true (by first | (with_reducible assumption) | assumption)
                  have hx9 := bt_at a1 x12_1
                  replace p9 := eq_true p9
                  replace q9 := eq_true q9
                  (try (have qd9 := q9; simp only [List.length_drop] at qd9))
                  go_wp2
                  repeat (go_quiet (fail); try go_wp2)
                  go_ret
                  exact ⟨by first | rfl | (simp [errW_none, errW_some] <;> rfl) | (simp only [← hji3]; first | rfl | (simp [errW_none, errW_some] <;> rfl)) | (simp [*, errW_none, errW_some] <;> rfl), by repeat (first | (with_reducible first | exact HB.out | apply below_alloc | apply pw_below_drewN | apply below_drew1) | exact HB.out)⟩
            · rw [if_neg c7] at H
              exact absurd H (by simp)
          · rw [if_neg c6] at H
            exact absurd H (by simp)
        · rw [if_neg c5] at H
          exact absurd H (by simp)
      · rw [if_neg c4] at H
        have c4b0 : decide (x12_1 < ji3) = false := decide_eq_false c4
        clear c4
        obtain ⟨ji14, hji14⟩ : ∃ j_ : Int, (mn (l0.length : Int) (a1.size : Int)) = j_ := ⟨_, rfl⟩
        replace H : (some ji14) = some r := by first | (rw [hji14] at H; exact H) | (simp only [hji14] at H ⊢; exact H)
        (try (have hji14l : 0 ≤ ji14 := by (rw [← hji14]; unfold mn; (repeat' split) <;> omega)))
        (try (have hji14m : 0 ≤ ji14 := by omega))
        have hji14_ : (if (a1.size : Int) < (l0.length : Int) then (a1.size : Int) else (l0.length : Int)) = ji14 := hji14
        (try (have hji14n_ : (if a1.size < l0.length then (a1.size : Int) else (l0.length : Int)) = ji14 := by rw [← hji14]; unfold mn; simp only [Int.ofNat_lt]))
        obtain rfl := Option.some.inj H
        go_wp2
        repeat (go_quiet (fail); try go_wp2)
        go_ret
        exact ⟨by first | rfl | (simp [errW_none, errW_some] <;> rfl) | (simp only [← hji3, ← hji14]; first | rfl | (simp [errW_none, errW_some] <;> rfl)) | (simp [*, errW_none, errW_some] <;> rfl), by repeat (first | (with_reducible first | exact HB.out | apply below_alloc | apply pw_below_drewN | apply below_drew1) | exact HB.out)⟩

end Go.Proofs.Ytobgpdmiiipmmaa.Q

namespace Go.Proofs.Ytobgpdmiiipmmaa.Q
open Go.RowKit Go.Proofs.YtobgpdmiiipmmaaW.PrintWords Go.Proofs.YtobgpdmiiipmmaaW.PrintLast Go.Proofs.YtobgpdmiiipmmaaW.PrintMore
attribute [local go_sem] max2_int min2_int max_two min_two max_three min_three max_four min_four   -- for this text's walks alone
set_option linter.unusedVariables false
set_option linter.unusedSimpArgs false

/-! ### date_number: function 49 -/
def date_number.f (k : Nat) (l0 : List Int) (a1 : Int) (a2 : Int) : Option (Int) := if 0 ≤ a1 then (if a1 ≤ a2 then (if a2 ≤ (l0.length : Int) then ((digit_Value.f k ((l0.take (a2 : Int).toNat).drop (a1 : Int).toNat)).bind fun bt238 => (some (wrap64 (bt238.1)))) else (none)) else (none)) else (none)
theorem date_number.mono : ∀ a0 a1 a2 k, LeO (date_number.f k a0 a1 a2) (date_number.f (k + 1) a0 a1 a2) := by
  intro a0 a1 a2 k
  unfold date_number.f
  repeat' first
      | (with_reducible exact digit_Value.mono _ _)
      | (with_reducible exact LeO.refl _)
      | (with_reducible exact LeO.none _)
      | (with_reducible refine LeO.ite ?_ ?_)
      | (with_reducible refine LeO.bind ?_ (fun _ => ?_))
      | exact digit_Value.mono _ _
      | exact LeO.none _
      | refine LeO.ite ?_ ?_
      | refine LeO.bind ?_ (fun _ => ?_)
set_option maxHeartbeats 8000000 in
set_option maxRecDepth 100000 in
theorem date_number.calls (k : Nat) (A0 : Option Addr) (c0 : Nat) (l0 : List Int) (a1 : Int) (a2 : Int) (r : Int) (w : World) (hr0 : Kd.C (Kd.int .u8) w A0 l0.length l0) (hc0 : l0.length ≤ c0) (h : date_number.f k l0 a1 a2 = some r) :
    Calls Try.prog 49 #[.slice A0 l0.length c0, .int .i64 a1, .int .i64 a2] w fun e w' => e = .returned (.int .i64 r) ∧ Below w.heap.size w w' := by
  have HR0 := Aside0.mk hr0
  have HC0 := Aside0.mk hc0
  clear hr0 hc0
  have HB := Aside0.mk (Below.refl w.heap.size w)
  have H : (if 0 ≤ a1 then (if a1 ≤ a2 then (if a2 ≤ (l0.length : Int) then ((digit_Value.f k ((l0.take (a2 : Int).toNat).drop (a1 : Int).toNat)).bind fun bt238 => (some (wrap64 (bt238.1)))) else (none)) else (none)) else (none)) = some r := h
  clear h
  by_cases c4 : 0 ≤ a1
  · rw [if_pos c4] at H
    have c4b0 := eq_true c4
    have c4b1 : decide (0 ≤ a1) = true := decide_eq_true c4
    clear c4
    by_cases c5 : a1 ≤ a2
    · rw [if_pos c5] at H
      have c5b0 := eq_true c5
      have c5b1 : decide (a1 ≤ a2) = true := decide_eq_true c5
      clear c5
      by_cases c6 : a2 ≤ (l0.length : Int)
      · rw [if_pos c6] at H
        have c6b0 := eq_true c6
        have c6b1 : decide (a2 ≤ (l0.length : Int)) = true := decide_eq_true c6
        clear c6
        replace H := Option.bind_eq_some_iff.mp H
        obtain ⟨⟨t238, t239⟩, A70, H⟩ := H
        replace H : (some (wrap64 (t238))) = some r := H
        have A7 := Aside0.mk A70
        clear A70
        obtain rfl := Option.some.inj H
        obtain ⟨i08, hi08, _, hsz8, _⟩ := info_parts info5
        obtain ⟨A8, hcut8, hA8, hC8⟩ := print_mid_of (P := Try.prog) (Value.int .u8) 0 29 5 .i64 .i64 Try.underlying29 hi08 hsz8 A0 c0 l0 a1 a2 (of_decide_eq_true (by first | (with_reducible assumption) | assumption)) (by first | omega | exact of_decide_eq_true (by first | (with_reducible assumption) | assumption)) (of_decide_eq_true (by first | (with_reducible assumption) | assumption)) HC0.out
        have HR237 := Aside0.mk (Kd.C_of_reads (h1 := fun _ => rfl) (hA8 _ (Kd.reads_of_C HR0.out)))
        have HC237 := Aside0.mk hC8
        clear hA8 hC8 hi08 hsz8
        go_enter Try.func49, Try.ntmps49
        go_wp2_with (first | ((with_reducible refine gate_callee (f := 60) rfl ?_); refine goesL_ (some 14) rfl rfl Try.func60 (by kernel_rfl) rfl #[.slice A8 ((l0.take (a2 : Int).toNat).drop (a1 : Int).toNat).length (c0 - a1.toNat)] rfl (by (try simp only [List.map_toArray, List.map_cons, List.map_nil]); first | done | (rw [show ((l0.take (a2 : Int).toNat).drop (a1 : Int).toNat).length = (a2.toNat - a1.toNat) from (by rw [List.length_drop, List.length_take]; have h_ : (a2 : Int) ≤ (l0.length : Int) := of_decide_eq_true (by first | (with_reducible assumption) | assumption); omega)] <;> rfl) | rfl | (simp only [List.length_drop, List.length_take]; rfl)) ?_; (with_reducible refine (digit_Value.calls k (fun k_ => k_ < w.heap.size) _ _ ((l0.take (a2 : Int).toNat).drop (a1 : Int).toNat) t238 t239 _ ?side1 A7.out).mono ?_); (case side1 => exact Kd.V_mk HC237.out (Kd.F_below (Kd.C_F (Kd.heap_int .u8) HR237.out) (by repeat (first | (with_reducible first | exact HB.out | apply below_alloc | apply pw_below_drewN | apply below_drew1) | exact HB.out)))); rintro e w9 ⟨rfl, hb⟩; refine ⟨_, rfl, ?_⟩; have n0_ := Aside0.mk (below_step (by repeat (first | (with_reducible first | exact HB.out | apply below_alloc | apply pw_below_drewN | apply below_drew1) | exact HB.out)) hb); clear HB; have HB := n0_; clear n0_; (try clear hb); (try clear hb2); (try clear hk); (try clear hi)))
        go_ret
        exact ⟨by first | rfl | (simp [errW_none, errW_some] <;> rfl) | (simp [*, errW_none, errW_some] <;> rfl), by repeat (first | (with_reducible first | exact HB.out | apply below_alloc | apply pw_below_drewN | apply below_drew1) | exact HB.out)⟩
      · rw [if_neg c6] at H
        exact absurd H (by simp)
    · rw [if_neg c5] at H
      exact absurd H (by simp)
  · rw [if_neg c4] at H
    exact absurd H (by simp)

end Go.Proofs.Ytobgpdmiiipmmaa.Q

namespace Go.Proofs.Ytobgpdmiiipmmaa.Q
open Go.RowKit Go.Proofs.YtobgpdmiiipmmaaW.PrintWords Go.Proofs.YtobgpdmiiipmmaaW.PrintLast Go.Proofs.YtobgpdmiiipmmaaW.PrintMore
attribute [local go_sem] max2_int min2_int max_two min_two max_three min_three max_four min_four   -- for this text's walks alone
set_option linter.unusedVariables false
set_option linter.unusedSimpArgs false

/-! ### date_days: function 45 -/
mutual
def date_days.j0 : Nat → Int → Int → Int → Bool → Option (Int × Int × Int)
  | 0, _, _, _, _ => none
  | k + 1, x5, x6, x7, x15 => if x15 = true then (some (0, 5, 131)) else (if x7 < 1 then (some (0, 8, 131)) else ((date_Length.f x5 x6).bind fun t243 => (if x7 > t243 then (some (0, 8, 131)) else ((date_ahead.f x5).bind fun t244 => (date_days.l0 k (wrap64 ((wrap64 ((wrap64 ((-719528) + t244)) + x7)) - 1)) x5 x6 1)))))
def date_days.l0 : Nat → Int → Int → Int → Int → Option (Int × Int × Int)
  | 0, _, _, _, _ => none
  | k + 1, x2, x5, x6, x8 => if x8 < x6 then ((date_Length.f x5 x8).bind fun t245 => (date_days.l0 k (wrap64 (x2 + t245)) x5 x6 (wrap64 (x8 + 1)))) else (some (x2, 0, 0))
end
def date_days.f (k : Nat) (l0 : List Int) : Option (Int × Int × Int) := (date_number.f k l0 0 4).bind fun t240 => ((date_number.f k l0 5 7).bind fun t241 => ((date_number.f k l0 8 10).bind fun t242 => (if t241 < 1 then (date_days.j0 k t240 t241 t242 true) else (date_days.j0 k t240 t241 t242 (decide (t241 > 12))))))
theorem date_days.mono_l : ∀ k, (∀ y0 y1 y2 y3, LeO (date_days.j0 k y0 y1 y2 y3) (date_days.j0 (k + 1) y0 y1 y2 y3)) ∧ (∀ y0 y1 y2 y3, LeO (date_days.l0 k y0 y1 y2 y3) (date_days.l0 (k + 1) y0 y1 y2 y3))
  | 0 => ⟨fun _ _ _ _ r h => by simp [date_days.j0] at h, fun _ _ _ _ r h => by simp [date_days.l0] at h⟩
  | k + 1 => by
    obtain ⟨ih0, ih1⟩ := date_days.mono_l k
    refine ⟨?_, ?_⟩
    · intro y0 y1 y2 y3
      unfold date_days.j0
      repeat' first
      | (with_reducible exact ih0 _ _ _ _)
      | (with_reducible exact ih1 _ _ _ _)
      | (with_reducible exact date_number.mono _ _ _ _)
      | (with_reducible exact LeO.refl _)
      | (with_reducible exact LeO.none _)
      | (with_reducible refine LeO.ite ?_ ?_)
      | (with_reducible refine LeO.bind ?_ (fun _ => ?_))
      | exact ih0 _ _ _ _
      | exact ih1 _ _ _ _
      | exact date_number.mono _ _ _ _
      | exact LeO.none _
      | refine LeO.ite ?_ ?_
      | refine LeO.bind ?_ (fun _ => ?_)
    · intro y0 y1 y2 y3
      unfold date_days.l0
      repeat' first
      | (with_reducible exact ih0 _ _ _ _)
      | (with_reducible exact ih1 _ _ _ _)
      | (with_reducible exact date_number.mono _ _ _ _)
      | (with_reducible exact LeO.refl _)
      | (with_reducible exact LeO.none _)
      | (with_reducible refine LeO.ite ?_ ?_)
      | (with_reducible refine LeO.bind ?_ (fun _ => ?_))
      | exact ih0 _ _ _ _
      | exact ih1 _ _ _ _
      | exact date_number.mono _ _ _ _
      | exact LeO.none _
      | refine LeO.ite ?_ ?_
      | refine LeO.bind ?_ (fun _ => ?_)
theorem date_days.mono : ∀ a0 k, LeO (date_days.f k a0) (date_days.f (k + 1) a0) := by
  intro a0 k
  obtain ⟨ih0, ih1⟩ := date_days.mono_l k
  unfold date_days.f
  repeat' first
      | (with_reducible exact ih0 _ _ _ _)
      | (with_reducible exact ih1 _ _ _ _)
      | (with_reducible exact date_number.mono _ _ _ _)
      | (with_reducible exact LeO.refl _)
      | (with_reducible exact LeO.none _)
      | (with_reducible refine LeO.ite ?_ ?_)
      | (with_reducible refine LeO.bind ?_ (fun _ => ?_))
      | exact ih0 _ _ _ _
      | exact ih1 _ _ _ _
      | exact date_number.mono _ _ _ _
      | exact LeO.none _
      | refine LeO.ite ?_ ?_
      | refine LeO.bind ?_ (fun _ => ?_)
set_option maxHeartbeats 8000000 in
set_option maxRecDepth 100000 in
theorem date_days.calls (k : Nat) (A0 : Option Addr) (c0 : Nat) (l0 : List Int) (r1 : Int) (r2 : Int) (r3 : Int) (w : World) (hr0 : Kd.C (Kd.int .u8) w A0 l0.length l0) (hc0 : l0.length ≤ c0) (h : date_days.f k l0 = some (r1, r2, r3)) :
    Calls Try.prog 45 #[.slice A0 l0.length c0] w fun e w' => e = .returned (.tuple #[.int .i64 r1, .int .i64 r2, .int .i64 r3]) ∧ Below w.heap.size w w' := by
  have HR0 := Aside0.mk hr0
  have HC0 := Aside0.mk hc0
  clear hr0 hc0
  have HB := Aside0.mk (Below.refl w.heap.size w)
  have H : ((date_number.f k l0 0 4).bind fun t240 => ((date_number.f k l0 5 7).bind fun t241 => ((date_number.f k l0 8 10).bind fun t242 => (if t241 < 1 then (date_days.j0 k t240 t241 t242 true) else (date_days.j0 k t240 t241 t242 (decide (t241 > 12))))))) = some (r1, r2, r3) := h
  clear h
  replace H := Option.bind_eq_some_iff.mp H
  obtain ⟨t240, A20, H⟩ := H
  replace H : ((date_number.f k l0 5 7).bind fun t241 => ((date_number.f k l0 8 10).bind fun t242 => (if t241 < 1 then (date_days.j0 k t240 t241 t242 true) else (date_days.j0 k t240 t241 t242 (decide (t241 > 12)))))) = some (r1, r2, r3) := H
  have A2 := Aside0.mk A20
  clear A20
  replace H := Option.bind_eq_some_iff.mp H
  obtain ⟨t241, A30, H⟩ := H
  replace H : ((date_number.f k l0 8 10).bind fun t242 => (if t241 < 1 then (date_days.j0 k t240 t241 t242 true) else (date_days.j0 k t240 t241 t242 (decide (t241 > 12))))) = some (r1, r2, r3) := H
  have A3 := Aside0.mk A30
  clear A30
  replace H := Option.bind_eq_some_iff.mp H
  obtain ⟨t242, A40, H⟩ := H
  replace H : (if t241 < 1 then (date_days.j0 k t240 t241 t242 true) else (date_days.j0 k t240 t241 t242 (decide (t241 > 12)))) = some (r1, r2, r3) := H
  have A4 := Aside0.mk A40
  clear A40
  have HC5 := Aside0.mk H
  clear H
  go_enter Try.func45, Try.ntmps45
  go_upto_region 2 with (first | ((with_reducible refine gate_callee (f := 49) rfl ?_); refine goesL_ (some 10) rfl rfl Try.func49 (by kernel_rfl) rfl #[.slice A0 l0.length c0, .int .i64 0, .int .i64 4] rfl (by (try simp only [List.map_toArray, List.map_cons, List.map_nil]); first | done | rfl | (simp only [List.length_drop, List.length_take]; rfl)) ?_; (with_reducible refine (date_number.calls k _ _ l0 0 4 t240 _ ?side1 ?side2 A2.out).mono ?_); (case side1 => repeat (first | exact HR0.out | (with_reducible refine Kd.C_alloc ?_ _) | (with_reducible refine Kd.C_drewN ?_ _) | (with_reducible refine Kd.C_drew ?_))); (case side2 => exact HC0.out); rintro e w6 ⟨rfl, hb⟩; refine ⟨_, rfl, ?_⟩; have n0_ := Aside0.mk (below_step (by repeat (first | (with_reducible first | exact HB.out | apply below_alloc | apply pw_below_drewN | apply below_drew1) | exact HB.out)) hb); clear HB; have HB := n0_; clear n0_; (try clear hb); (try clear hb2); (try clear hk); (try clear hi)) | ((with_reducible refine gate_callee (f := 49) rfl ?_); refine goesL_ (some 12) rfl rfl Try.func49 (by kernel_rfl) rfl #[.slice A0 l0.length c0, .int .i64 5, .int .i64 7] rfl (by (try simp only [List.map_toArray, List.map_cons, List.map_nil]); first | done | rfl | (simp only [List.length_drop, List.length_take]; rfl)) ?_; (with_reducible refine (date_number.calls k _ _ l0 5 7 t241 _ ?side1 ?side2 A3.out).mono ?_); (case side1 => repeat (first | exact (Kd.C_below HR0.out HB.out) | (with_reducible refine Kd.C_alloc ?_ _) | (with_reducible refine Kd.C_drewN ?_ _) | (with_reducible refine Kd.C_drew ?_))); (case side2 => exact HC0.out); rintro e w7 ⟨rfl, hb⟩; refine ⟨_, rfl, ?_⟩; have n0_ := Aside0.mk (below_step (by repeat (first | (with_reducible first | exact HB.out | apply below_alloc | apply pw_below_drewN | apply below_drew1) | exact HB.out)) hb); clear HB; have HB := n0_; clear n0_; (try clear hb); (try clear hb2); (try clear hk); (try clear hi)) | ((with_reducible refine gate_callee (f := 49) rfl ?_); refine goesL_ (some 14) rfl rfl Try.func49 (by kernel_rfl) rfl #[.slice A0 l0.length c0, .int .i64 8, .int .i64 10] rfl (by (try simp only [List.map_toArray, List.map_cons, List.map_nil]); first | done | rfl | (simp only [List.length_drop, List.length_take]; rfl)) ?_; (with_reducible refine (date_number.calls k _ _ l0 8 10 t242 _ ?side1 ?side2 A4.out).mono ?_); (case side1 => repeat (first | exact (Kd.C_below HR0.out HB.out) | (with_reducible refine Kd.C_alloc ?_ _) | (with_reducible refine Kd.C_drewN ?_ _) | (with_reducible refine Kd.C_drew ?_))); (case side2 => exact HC0.out); rintro e w8 ⟨rfl, hb⟩; refine ⟨_, rfl, ?_⟩; have n0_ := Aside0.mk (below_step (by repeat (first | (with_reducible first | exact HB.out | apply below_alloc | apply pw_below_drewN | apply below_drew1) | exact HB.out)) hb); clear HB; have HB := n0_; clear n0_; (try clear hb); (try clear hb2); (try clear hk); (try clear hi)))
  (try simp only [Act.put, List.setIfInBounds_toArray, List.set_cons_zero, List.set_cons_succ])
  go_cut [15] (fun v15 wc => ∃ (kq : Nat) (x15_4 : Bool), v15 = .bool x15_4 ∧ Aside0 (date_days.j0 kq t240 t241 t242 x15_4 = some (r1, r2, r3)) ∧ Aside0 (kq ≤ k) ∧ Aside0 (Below w.heap.size w wc))
  case first =>
    have H := HC5.out
    clear HC5
    by_cases c9 : t241 < 1
    · rw [if_pos c9] at H
      have c9b0 : decide (t241 < 1) = true := decide_eq_true c9
      clear c9
      (first | rw [c9b0] | (simp only [i64_w, i32_w]; rw [c9b0]) | skip)
      have H' := Aside0.mk H
      clear H
      go_wp2
      go_meet
      case rel => exact ⟨_, (true), (by first | rfl | (simp; done) | (simp [*]; done)), H', ⟨by first | omega | exact Nat.le_refl _⟩, ⟨by repeat (first | (with_reducible first | exact HB.out | apply below_alloc | apply pw_below_drewN | apply below_drew1) | exact HB.out)⟩⟩
    · rw [if_neg c9] at H
      have c9b0 : decide (t241 < 1) = false := decide_eq_false c9
      clear c9
      (first | rw [c9b0] | (simp only [i64_w, i32_w]; rw [c9b0]) | skip)
      have H' := Aside0.mk H
      clear H
      go_wp2
      go_meet
      case rel => exact ⟨_, (decide (t241 > 12)), (by first | rfl | (simp; done) | (simp [*]; done)), H', ⟨by first | omega | exact Nat.le_refl _⟩, ⟨by repeat (first | (with_reducible first | exact HB.out | apply below_alloc | apply pw_below_drewN | apply below_drew1) | exact HB.out)⟩⟩
  case rest =>
    clear HC5
    try clear p2
    try clear c4
    try clear c9
    try clear c9b0
    obtain ⟨kq, x15_4, rfl, HA, HJ4, HB⟩ := hcut
    cases kq with
    | zero => exact absurd HA.out (by simp [date_days.j0])
    | succ kj4 =>
      have H := HA.out
      clear HA
      simp only [date_days.j0] at H
      by_cases c10 : x15_4 = true
      · subst c10
        have H1 : (some (0, 5, 131)) = some (r1, r2, r3) := by rw [if_pos rfl] at H; exact H
        clear H
        have H := H1
        clear H1
        simp only [Option.some.injEq, Prod.mk.injEq] at H
        obtain ⟨rfl, rfl, rfl⟩ := H
        go_wp2
        go_ret3
        exact ⟨by first | rfl | (simp [errW_none, errW_some] <;> rfl) | (simp [*, errW_none, errW_some] <;> rfl), by repeat (first | (with_reducible first | exact HB.out | apply below_alloc | apply pw_below_drewN | apply below_drew1) | exact HB.out)⟩
      · replace c10 := Bool.eq_false_iff.mpr c10
        subst c10
        have H1 : (if t242 < 1 then (some (0, 8, 131)) else ((date_Length.f t240 t241).bind fun t243 => (if t242 > t243 then (some (0, 8, 131)) else ((date_ahead.f t240).bind fun t244 => (date_days.l0 kj4 (wrap64 ((wrap64 ((wrap64 ((-719528) + t244)) + t242)) - 1)) t240 t241 1))))) = some (r1, r2, r3) := by rw [if_neg (show ¬ (false = true) by decide)] at H; exact H
        clear H
        have H := H1
        clear H1
        by_cases c11 : t242 < 1
        · rw [if_pos c11] at H
          have c11b0 : decide (t242 < 1) = true := decide_eq_true c11
          clear c11
          simp only [Option.some.injEq, Prod.mk.injEq] at H
          obtain ⟨rfl, rfl, rfl⟩ := H
          go_wp2
          go_ret3
          exact ⟨by first | rfl | (simp [errW_none, errW_some] <;> rfl) | (simp [*, errW_none, errW_some] <;> rfl), by repeat (first | (with_reducible first | exact HB.out | apply below_alloc | apply pw_below_drewN | apply below_drew1) | exact HB.out)⟩
        · rw [if_neg c11] at H
          have c11b0 : decide (t242 < 1) = false := decide_eq_false c11
          clear c11
          replace H := Option.bind_eq_some_iff.mp H
          obtain ⟨t243, A120, H⟩ := H
          replace H : (if t242 > t243 then (some (0, 8, 131)) else ((date_ahead.f t240).bind fun t244 => (date_days.l0 kj4 (wrap64 ((wrap64 ((wrap64 ((-719528) + t244)) + t242)) - 1)) t240 t241 1))) = some (r1, r2, r3) := H
          have A12 := Aside0.mk A120
          clear A120
          by_cases c13 : t242 > t243
          · rw [if_pos c13] at H
            have c13b0 : decide (t243 < t242) = true := decide_eq_true c13
            clear c13
            simp only [Option.some.injEq, Prod.mk.injEq] at H
            obtain ⟨rfl, rfl, rfl⟩ := H
            go_wp2_with (first | (go_at_call 20; (with_reducible refine (date_Length.calls t240 t241 t243 _ A12.out).mono ?_); rintro e w14 ⟨rfl, hb⟩; have n0_ := Aside0.mk (below_step (by repeat (first | (with_reducible first | exact HB.out | apply below_alloc | apply pw_below_drewN | apply below_drew1) | exact HB.out)) hb); clear HB; have HB := n0_; clear n0_; (try clear hb); (try clear hb2); (try clear hk); (try clear hi)))
            go_ret3
            exact ⟨by first | rfl | (simp [errW_none, errW_some] <;> rfl) | (simp [*, errW_none, errW_some] <;> rfl), by repeat (first | (with_reducible first | exact HB.out | apply below_alloc | apply pw_below_drewN | apply below_drew1) | exact HB.out)⟩
          · rw [if_neg c13] at H
            have c13b0 : decide (t243 < t242) = false := decide_eq_false c13
            clear c13
            replace H := Option.bind_eq_some_iff.mp H
            obtain ⟨t244, A150, H⟩ := H
            replace H : (date_days.l0 kj4 (wrap64 ((wrap64 ((wrap64 ((-719528) + t244)) + t242)) - 1)) t240 t241 1) = some (r1, r2, r3) := H
            have A15 := Aside0.mk A150
            clear A150
            have H' := Aside0.mk H
            clear H
            go_wp2_with (first | (go_at_call 20; (with_reducible refine (date_Length.calls t240 t241 t243 _ A12.out).mono ?_); rintro e w16 ⟨rfl, hb⟩; have n0_ := Aside0.mk (below_step (by repeat (first | (with_reducible first | exact HB.out | apply below_alloc | apply pw_below_drewN | apply below_drew1) | exact HB.out)) hb); clear HB; have HB := n0_; clear n0_; (try clear hb); (try clear hb2); (try clear hk); (try clear hi)) | ((with_reducible refine gate_callee (f := 51) rfl ?_); refine goesL_ (some 33) rfl rfl Try.func51 (by kernel_rfl) rfl #[.int .i64 t240] rfl (by (try simp only [List.map_toArray, List.map_cons, List.map_nil]); first | done | rfl | (simp only [List.length_drop, List.length_take]; rfl)) ?_; (with_reducible refine (date_ahead.calls t240 t244 _ A15.out).mono ?_); rintro e w' ⟨rfl, ⟨nd, rfl⟩⟩; refine ⟨_, rfl, ?_⟩))
            go_loopg [2, 8] kj4 (fun kq v2 v8 w' => ∃ (x2_2 : Int) (x8_2 : Int), v2 = .int .i64 x2_2 ∧ v8 = .int .i64 x8_2 ∧ Aside0 (date_days.l0 kq x2_2 t240 t241 x8_2 = some (r1, r2, r3)) ∧ Aside0 (kq ≤ kj4) ∧ Aside0 (Below w.heap.size w w'))
            case atStart => exact ⟨(wrap64 ((wrap64 ((wrap64 ((-719528) + t244)) + t242)) - 1)), (1), (by first | rfl | (simp; done) | (simp [*]; done)), (by first | rfl | (simp; done) | (simp [*]; done)), H', ⟨Nat.le_refl _⟩, ⟨by repeat (first | (with_reducible first | exact HB.out | apply below_alloc | apply pw_below_drewN | apply below_drew1) | exact HB.out)⟩⟩
            case round =>
              clear H'
              try clear c1
              try clear p2
              try clear c4
              try clear c5
              try clear p6
              try clear c9
              try clear c9b0
              try clear c10
              try clear c11
              try clear c11b0
              try clear c13
              try clear c13b0
              try clear p2
              obtain ⟨x2_2, x8_2, rfl, rfl, HA, HK2, HB⟩ := hrel
              cases gk with
              | zero => exact absurd HA.out (by simp [date_days.l0])
              | succ k2 =>
                have H := HA.out
                clear HA
                simp only [date_days.l0] at H
                by_cases c17 : x8_2 < t241
                · rw [if_pos c17] at H
                  have c17b0 : decide (x8_2 < t241) = true := decide_eq_true c17
                  clear c17
                  replace H := Option.bind_eq_some_iff.mp H
                  obtain ⟨t245, A180, H⟩ := H
                  replace H : (date_days.l0 k2 (wrap64 (x2_2 + t245)) t240 t241 (wrap64 (x8_2 + 1))) = some (r1, r2, r3) := H
                  have A18 := Aside0.mk A180
                  clear A180
                  have H' := Aside0.mk H
                  clear H
                  go_wp2_with (first | ((with_reducible refine gate_callee (f := 20) rfl ?_); refine goesL_ (some 46) rfl rfl Try.func20 (by kernel_rfl) rfl #[.int .i64 t240, .int .i64 x8_2] rfl (by (try simp only [List.map_toArray, List.map_cons, List.map_nil]); first | done | rfl | (simp only [List.length_drop, List.length_take]; rfl)) ?_; (with_reducible refine (date_Length.calls t240 x8_2 t245 _ A18.out).mono ?_); rintro e w19 ⟨rfl, hb⟩; refine ⟨_, rfl, ?_⟩; have n0_ := Aside0.mk (below_step (by repeat (first | (with_reducible first | exact HB.out | apply below_alloc | apply pw_below_drewN | apply below_drew1) | exact HB.out)) hb); clear HB; have HB := n0_; clear n0_; (try clear hb); (try clear hb2); (try clear hk); (try clear hi)))
                  go_roundg k2
                  case measure => have := HJ4.out; have := HK2.out; omega
                  case rel => exact ⟨(wrap64 (x2_2 + t245)), (wrap64 (x8_2 + 1)), (by first | rfl | (simp; done) | (simp [*]; done)), (by first | rfl | (simp; done) | (simp [*]; done)), H', ⟨by have := HJ4.out; have := HK2.out; omega⟩, ⟨by repeat (first | (with_reducible first | exact HB.out | apply below_alloc | apply pw_below_drewN | apply below_drew1) | exact HB.out)⟩⟩
                · rw [if_neg c17] at H
                  have c17b0 : decide (x8_2 < t241) = false := decide_eq_false c17
                  clear c17
                  simp only [Option.some.injEq, Prod.mk.injEq] at H
                  obtain ⟨rfl, rfl, rfl⟩ := H
                  go_wp2
                  go_ret3
                  exact ⟨by first | rfl | (simp [errW_none, errW_some] <;> rfl) | (simp [*, errW_none, errW_some] <;> rfl), by repeat (first | (with_reducible first | exact HB.out | apply below_alloc | apply pw_below_drewN | apply below_drew1) | exact HB.out)⟩

end Go.Proofs.Ytobgpdmiiipmmaa.Q

namespace Go.Proofs.Ytobgpdmiiipmmaa.Q
open Go.RowKit Go.Proofs.YtobgpdmiiipmmaaW.PrintWords Go.Proofs.YtobgpdmiiipmmaaW.PrintLast Go.Proofs.YtobgpdmiiipmmaaW.PrintMore
attribute [local go_sem] max2_int min2_int max_two min_two max_three min_three max_four min_four   -- for this text's walks alone
set_option linter.unusedVariables false
set_option linter.unusedSimpArgs false

/-! ### date_Day: function 23 -/
def date_Day.f (k : Nat) (l0 : List Int) : Option (Int × Int × Int) := (date_form.f k l0 (⟨#[100, 100, 100, 100, 45, 100, 100, 45, 100, 100]⟩ : ByteArray)).bind fun t246 => (if t246 < 10 then (some (0, t246, 130)) else (if t246 < (l0.length : Int) then (some (0, t246, 130)) else ((date_days.f k l0).bind fun bt247 => (some (IntKind.u64.wrap (bt247.1), bt247.2.1, bt247.2.2)))))
theorem date_Day.mono : ∀ a0 k, LeO (date_Day.f k a0) (date_Day.f (k + 1) a0) := by
  intro a0 k
  unfold date_Day.f
  repeat' first
      | (with_reducible exact date_days.mono _ _)
      | (with_reducible exact date_form.mono _ _ _)
      | (with_reducible exact LeO.refl _)
      | (with_reducible exact LeO.none _)
      | (with_reducible refine LeO.ite ?_ ?_)
      | (with_reducible refine LeO.bind ?_ (fun _ => ?_))
      | exact date_days.mono _ _
      | exact date_form.mono _ _ _
      | exact LeO.none _
      | refine LeO.ite ?_ ?_
      | refine LeO.bind ?_ (fun _ => ?_)
set_option maxHeartbeats 8000000 in
set_option maxRecDepth 100000 in
theorem date_Day.calls (k : Nat) (A0 : Option Addr) (c0 : Nat) (l0 : List Int) (r1 : Int) (r2 : Int) (r3 : Int) (w : World) (hr0 : Kd.C (Kd.int .u8) w A0 l0.length l0) (hc0 : l0.length ≤ c0) (h : date_Day.f k l0 = some (r1, r2, r3)) :
    Calls Try.prog 23 #[.slice A0 l0.length c0] w fun e w' => e = .returned (.tuple #[.int .u64 r1, .int .i64 r2, .int .i64 r3]) ∧ Below w.heap.size w w' := by
  have HR0 := Aside0.mk hr0
  have HC0 := Aside0.mk hc0
  clear hr0 hc0
  have HB := Aside0.mk (Below.refl w.heap.size w)
  have H : ((date_form.f k l0 (⟨#[100, 100, 100, 100, 45, 100, 100, 45, 100, 100]⟩ : ByteArray)).bind fun t246 => (if t246 < 10 then (some (0, t246, 130)) else (if t246 < (l0.length : Int) then (some (0, t246, 130)) else ((date_days.f k l0).bind fun bt247 => (some (IntKind.u64.wrap (bt247.1), bt247.2.1, bt247.2.2)))))) = some (r1, r2, r3) := h
  clear h
  replace H := Option.bind_eq_some_iff.mp H
  obtain ⟨t246, A20, H⟩ := H
  replace H : (if t246 < 10 then (some (0, t246, 130)) else (if t246 < (l0.length : Int) then (some (0, t246, 130)) else ((date_days.f k l0).bind fun bt247 => (some (IntKind.u64.wrap (bt247.1), bt247.2.1, bt247.2.2))))) = some (r1, r2, r3) := H
  have A2 := Aside0.mk A20
  clear A20
  by_cases c3 : t246 < 10
  · rw [if_pos c3] at H
    have c3b0 : decide (t246 < 10) = true := decide_eq_true c3
    clear c3
    simp only [Option.some.injEq, Prod.mk.injEq] at H
    obtain ⟨rfl, rfl, rfl⟩ := H
    go_enter Try.func23, Try.ntmps23
    go_wp2_with (first | ((with_reducible refine gate_callee (f := 44) rfl ?_); refine goesL_ (some 8) rfl rfl Try.func44 (by kernel_rfl) rfl #[.slice A0 l0.length c0, .string (⟨#[100, 100, 100, 100, 45, 100, 100, 45, 100, 100]⟩ : ByteArray)] rfl (by (try simp only [List.map_toArray, List.map_cons, List.map_nil]); first | done | rfl | (simp only [List.length_drop, List.length_take]; rfl)) ?_; (with_reducible refine (date_form.calls k _ _ l0 (⟨#[100, 100, 100, 100, 45, 100, 100, 45, 100, 100]⟩ : ByteArray) t246 _ ?side1 ?side2 A2.out).mono ?_); (case side1 => repeat (first | exact HR0.out | (with_reducible refine Kd.C_alloc ?_ _) | (with_reducible refine Kd.C_drewN ?_ _) | (with_reducible refine Kd.C_drew ?_))); (case side2 => exact HC0.out); rintro e w4 ⟨rfl, hb⟩; refine ⟨_, rfl, ?_⟩; have n0_ := Aside0.mk (below_step (by repeat (first | (with_reducible first | exact HB.out | apply below_alloc | apply pw_below_drewN | apply below_drew1) | exact HB.out)) hb); clear HB; have HB := n0_; clear n0_; (try clear hb); (try clear hb2); (try clear hk); (try clear hi)))
    go_ret3
    exact ⟨by first | rfl | (simp [errW_none, errW_some] <;> rfl) | (simp [*, errW_none, errW_some] <;> rfl), by repeat (first | (with_reducible first | exact HB.out | apply below_alloc | apply pw_below_drewN | apply below_drew1) | exact HB.out)⟩
  · rw [if_neg c3] at H
    have c3b0 : decide (t246 < 10) = false := decide_eq_false c3
    clear c3
    by_cases c5 : t246 < (l0.length : Int)
    · rw [if_pos c5] at H
      have c5b0 : decide (t246 < (l0.length : Int)) = true := decide_eq_true c5
      clear c5
      simp only [Option.some.injEq, Prod.mk.injEq] at H
      obtain ⟨rfl, rfl, rfl⟩ := H
      go_enter Try.func23, Try.ntmps23
      go_wp2_with (first | ((with_reducible refine gate_callee (f := 44) rfl ?_); refine goesL_ (some 8) rfl rfl Try.func44 (by kernel_rfl) rfl #[.slice A0 l0.length c0, .string (⟨#[100, 100, 100, 100, 45, 100, 100, 45, 100, 100]⟩ : ByteArray)] rfl (by (try simp only [List.map_toArray, List.map_cons, List.map_nil]); first | done | rfl | (simp only [List.length_drop, List.length_take]; rfl)) ?_; (with_reducible refine (date_form.calls k _ _ l0 (⟨#[100, 100, 100, 100, 45, 100, 100, 45, 100, 100]⟩ : ByteArray) t246 _ ?side1 ?side2 A2.out).mono ?_); (case side1 => repeat (first | exact HR0.out | (with_reducible refine Kd.C_alloc ?_ _) | (with_reducible refine Kd.C_drewN ?_ _) | (with_reducible refine Kd.C_drew ?_))); (case side2 => exact HC0.out); rintro e w6 ⟨rfl, hb⟩; refine ⟨_, rfl, ?_⟩; have n0_ := Aside0.mk (below_step (by repeat (first | (with_reducible first | exact HB.out | apply below_alloc | apply pw_below_drewN | apply below_drew1) | exact HB.out)) hb); clear HB; have HB := n0_; clear n0_; (try clear hb); (try clear hb2); (try clear hk); (try clear hi)))
      go_ret3
      exact ⟨by first | rfl | (simp [errW_none, errW_some] <;> rfl) | (simp [*, errW_none, errW_some] <;> rfl), by repeat (first | (with_reducible first | exact HB.out | apply below_alloc | apply pw_below_drewN | apply below_drew1) | exact HB.out)⟩
    · rw [if_neg c5] at H
      have c5b0 : decide (t246 < (l0.length : Int)) = false := decide_eq_false c5
      clear c5
      replace H := Option.bind_eq_some_iff.mp H
      obtain ⟨⟨t247, t248, t249⟩, A70, H⟩ := H
      replace H : (some (IntKind.u64.wrap (t247), t248, t249)) = some (r1, r2, r3) := H
      have A7 := Aside0.mk A70
      clear A70
      simp only [Option.some.injEq, Prod.mk.injEq] at H
      obtain ⟨rfl, rfl, rfl⟩ := H
      go_enter Try.func23, Try.ntmps23
      go_wp2_with (first | ((with_reducible refine gate_callee (f := 44) rfl ?_); refine goesL_ (some 8) rfl rfl Try.func44 (by kernel_rfl) rfl #[.slice A0 l0.length c0, .string (⟨#[100, 100, 100, 100, 45, 100, 100, 45, 100, 100]⟩ : ByteArray)] rfl (by (try simp only [List.map_toArray, List.map_cons, List.map_nil]); first | done | rfl | (simp only [List.length_drop, List.length_take]; rfl)) ?_; (with_reducible refine (date_form.calls k _ _ l0 (⟨#[100, 100, 100, 100, 45, 100, 100, 45, 100, 100]⟩ : ByteArray) t246 _ ?side1 ?side2 A2.out).mono ?_); (case side1 => repeat (first | exact HR0.out | (with_reducible refine Kd.C_alloc ?_ _) | (with_reducible refine Kd.C_drewN ?_ _) | (with_reducible refine Kd.C_drew ?_))); (case side2 => exact HC0.out); rintro e w8 ⟨rfl, hb⟩; refine ⟨_, rfl, ?_⟩; have n0_ := Aside0.mk (below_step (by repeat (first | (with_reducible first | exact HB.out | apply below_alloc | apply pw_below_drewN | apply below_drew1) | exact HB.out)) hb); clear HB; have HB := n0_; clear n0_; (try clear hb); (try clear hb2); (try clear hk); (try clear hi)) | ((with_reducible refine gate_callee (f := 45) rfl ?_); refine goesL_ (some 20) rfl rfl Try.func45 (by kernel_rfl) rfl #[.slice A0 l0.length c0] rfl (by (try simp only [List.map_toArray, List.map_cons, List.map_nil]); first | done | rfl | (simp only [List.length_drop, List.length_take]; rfl)) ?_; (with_reducible refine (date_days.calls k _ _ l0 t247 t248 t249 _ ?side1 ?side2 A7.out).mono ?_); (case side1 => repeat (first | exact (Kd.C_below HR0.out HB.out) | (with_reducible refine Kd.C_alloc ?_ _) | (with_reducible refine Kd.C_drewN ?_ _) | (with_reducible refine Kd.C_drew ?_))); (case side2 => exact HC0.out); rintro e w9 ⟨rfl, hb⟩; refine ⟨_, rfl, ?_⟩; have n0_ := Aside0.mk (below_step (by repeat (first | (with_reducible first | exact HB.out | apply below_alloc | apply pw_below_drewN | apply below_drew1) | exact HB.out)) hb); clear HB; have HB := n0_; clear n0_; (try clear hb); (try clear hb2); (try clear hk); (try clear hi)))
      go_ret3
      exact ⟨by first | rfl | (simp [errW_none, errW_some] <;> rfl) | (simp [*, errW_none, errW_some] <;> rfl), by repeat (first | (with_reducible first | exact HB.out | apply below_alloc | apply pw_below_drewN | apply below_drew1) | exact HB.out)⟩

end Go.Proofs.Ytobgpdmiiipmmaa.Q

namespace Go.Proofs.Ytobgpdmiiipmmaa.Q
open Go.RowKit Go.Proofs.YtobgpdmiiipmmaaW.PrintWords Go.Proofs.YtobgpdmiiipmmaaW.PrintLast Go.Proofs.YtobgpdmiiipmmaaW.PrintMore
attribute [local go_sem] max2_int min2_int max_two min_two max_three min_three max_four min_four   -- for this text's walks alone
set_option linter.unusedVariables false
set_option linter.unusedSimpArgs false

/-! ### mintageref04_Is: function 58 -/
def mintageref04_Is.f (a0 : Int) : Option (Bool) := if a0 ≥ 48 then (some (decide (a0 ≤ 57))) else (some false)
set_option maxHeartbeats 8000000 in
set_option maxRecDepth 100000 in
theorem mintageref04_Is.calls (a0 : Int) (r : Bool) (w : World) (h : mintageref04_Is.f a0 = some r) :
    Calls Try.prog 58 #[.int .u8 a0] w fun e w' => e = .returned (.bool r) ∧ Drawn0 w w' := by
  have H : (if a0 ≥ 48 then (some (decide (a0 ≤ 57))) else (some false)) = some r := h
  clear h
  by_cases c2 : a0 ≥ 48
  · rw [if_pos c2] at H
    have c2b0 : decide (48 ≤ a0) = true := decide_eq_true c2
    clear c2
    obtain rfl := Option.some.inj H
    go_enter Try.func58, Try.ntmps58
    go_wp2
    go_ret
    exact ⟨by first | rfl | (simp; done) | (simp [*]; done), by repeat (first | exact Drawn0.refl _ | apply Drawn0.step)⟩
  · rw [if_neg c2] at H
    have c2b0 : decide (48 ≤ a0) = false := decide_eq_false c2
    clear c2
    obtain rfl := Option.some.inj H
    go_enter Try.func58, Try.ntmps58
    go_wp2
    go_ret
    exact ⟨by first | rfl | (simp; done) | (simp [*]; done), by repeat (first | exact Drawn0.refl _ | apply Drawn0.step)⟩

end Go.Proofs.Ytobgpdmiiipmmaa.Q
