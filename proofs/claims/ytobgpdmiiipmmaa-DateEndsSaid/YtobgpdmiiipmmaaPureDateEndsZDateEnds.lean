/- The pure statement of DateEnds: the first and the last days and moments, one beyond; how many days all months have. -/
import Derived.Test.YtobgpdmiiipmmaaCalpZDateEnds
import Derived.Test.YtobgpdmiiipmmaaQ1ZDateEnds
namespace Go.Proofs.Ytobgpdmiiipmmaa.Pure
set_option linter.unusedVariables false
open Go.RowKit Go.Proofs.Ytobgpdmiiipmmaa.Q Go.Proofs.Ytobgpdmiiipmmaa.Dig Go.Proofs.Ytobgpdmiiipmmaa.Cal Go.Proofs.YtobgpdmiiipmmaaW.PrintWords Go.Proofs.YtobgpdmiiipmmaaW.PrintLast

theorem l2_ev {b c : Bool} {a t : Nat} (hy : a + t ≤ 9999) {r : Bool} {s : Int} (hs : 0 ≤ s ∧ s ≤ 5000000)
    (h : Ev (fun k => mintagelaw13_DateEnds.l1 k b c (s + cum (leap ((a + t : Nat) : Int)) 12) (a : Int) ((t + 1 : Nat) : Int)) r) :
    ∀ (j m : Nat), m + j = 12 → Ev (fun k => mintagelaw13_DateEnds.l2 k b c (s + cum (leap ((a + t : Nat) : Int)) m) (a : Int) (t : Int) ((m : Int) + 1)) r
  | 0, m, hm => by
    obtain rfl : m = 12 := by omega
    refine Ev.step (fun k => by simp only [mintagelaw13_DateEnds.l2]; rw [if_neg (by omega), wrap64_id (x := (t : Int) + 1) (by omega) (by omega), show (t : Int) + 1 = ((t + 1 : Nat) : Int) from by omega]) h
  | j + 1, m, hm => by
    have hl := length_ok (y := ((a + t : Nat) : Int)) (m := m) (by omega) (by omega) (by omega)
    have hc := cum_bd (leap ((a + t : Nat) : Int)) m (by omega)
    have hn := len_lo (leap ((a + t : Nat) : Int)) m (by omega)
    have w1 : wrap64 ((a : Int) + (t : Int)) = ((a + t : Nat) : Int) := by rw [wrap64_id (by omega) (by omega)]; omega
    have cs := cum_succ (leap ((a + t : Nat) : Int)) m (by omega)
    have ih := l2_ev hy hs h j (m + 1) (by omega)
    rw [cs] at ih
    refine Ev.step (fun k => by simp only [mintagelaw13_DateEnds.l2]; rw [if_pos (by omega), w1, hl]; simp only [Option.bind_some]; rw [wrap64_id (x := s + cum (leap ((a + t : Nat) : Int)) m + len (leap ((a + t : Nat) : Int)) m) (by omega) (by omega), wrap64_id (x := (m : Int) + 1 + 1) (by omega) (by omega), Int.add_assoc s, show (m : Int) + 1 + 1 = ((m + 1 : Nat) : Int) + 1 from by omega]) ih
theorem l1_ev {b c : Bool} {a : Nat} (ha : a + 400 ≤ 10000) {r : Bool} (h : Ev (fun k => mintagelaw13_DateEnds.l0 k b c (A ((a + 400 : Nat) : Int)) ((a + 400 : Nat) : Int)) r) :
    ∀ (j t : Nat), t + j = 400 → Ev (fun k => mintagelaw13_DateEnds.l1 k b c (A ((a + t : Nat) : Int)) (a : Int) (t : Int)) r
  | 0, t, ht => by
    obtain rfl : t = 400 := by omega
    refine Ev.step (fun k => by simp only [mintagelaw13_DateEnds.l1]; rw [if_neg (by omega), wrap64_id (x := (a : Int) + 400) (by omega) (by omega), show (a : Int) + 400 = ((a + 400 : Nat) : Int) from by omega]) h
  | j + 1, t, ht => by
    have ih := l1_ev ha h j (t + 1) (by omega)
    have st := A_step (y := ((a + t : Nat) : Int)) (by omega)
    have hb := A_le (y := ((a + t : Nat) : Int)) (by omega)
    rw [show ((a + (t + 1) : Nat) : Int) = ((a + t : Nat) : Int) + 1 from by omega, st] at ih
    have h2 := l2_ev (a := a) (t := t) (s := A ((a + t : Nat) : Int)) (by omega) (by omega) ih 12 0 (by omega)
    have c0 : ∀ q : Bool, cum q 0 = 0 := by decide
    rw [c0, Int.add_zero] at h2
    refine Ev.step (fun k => by simp only [mintagelaw13_DateEnds.l1]; rw [if_pos (by omega)]; rfl) h2
theorem l0_ev {b c : Bool} {r : Bool} (h : Ev (fun k => mintagelaw13_DateEnds.l0 k b c (A ((10000 : Nat) : Int)) ((10000 : Nat) : Int)) r) :
    ∀ (j q : Nat), q + j = 25 → Ev (fun k => mintagelaw13_DateEnds.l0 k b c (A ((400 * q : Nat) : Int)) ((400 * q : Nat) : Int)) r
  | 0, q, hq => by
    obtain rfl : q = 25 := by omega
    exact h
  | j + 1, q, hq => by
    have ih := l0_ev h j (q + 1) (by omega)
    rw [show 400 * (q + 1) = 400 * q + 400 from by omega] at ih
    have h1 := l1_ev (a := 400 * q) (by omega) ih 400 0 (by omega)
    rw [Nat.add_zero] at h1
    refine Ev.step (fun k => by simp only [mintagelaw13_DateEnds.l0]; rw [if_pos (by omega)]; rfl) h1
theorem p1 : date_PrintDay.f 30 18446744073708832088 = some ([48, 48, 48, 48, 45, 48, 49, 45, 48, 49], 0) := by decide +kernel
theorem p2 : date_PrintDay.f 30 2932896 = some ([57, 57, 57, 57, 45, 49, 50, 45, 51, 49], 0) := by decide +kernel
theorem p3 : date_PrintDay.f 30 2932897 = some ([], 131) := by decide +kernel
theorem p4 : date_PrintDay.f 30 18446744073708832087 = some ([], 131) := by decide +kernel
theorem p5 : date_PrintMoment.f 40 253402300799999999 = some ([57, 57, 57, 57, 45, 49, 50, 45, 51, 49, 84, 50, 51, 58, 53, 57, 58, 53, 57, 46, 57, 57, 57, 57, 57, 57], 0) := by decide +kernel
theorem p6 : date_PrintMoment.f 40 253402300800000000 = some ([], 131) := by decide +kernel
theorem dayEv {x : Int} {k : Nat} {r : List Int × Int} (h : date_PrintDay.f k x = some r) : Ev (fun k => date_PrintDay.f k x) r := Ev.of (fun k => date_PrintDay.mono x k) h
theorem momEv {x : Int} {k : Nat} {r : List Int × Int} (h : date_PrintMoment.f k x = some r) : Ev (fun k => date_PrintMoment.f k x) r := Ev.of (fun k => date_PrintMoment.mono x k) h
theorem s1 : (strOfNums [48, 48, 48, 48, 45, 48, 49, 45, 48, 49]).toList = ([48, 48, 48, 48, 45, 48, 49, 45, 48, 49] : List UInt8) := by decide +kernel
theorem s2 : (strOfNums [57, 57, 57, 57, 45, 49, 50, 45, 51, 49]).toList = ([57, 57, 57, 57, 45, 49, 50, 45, 51, 49] : List UInt8) := by decide +kernel
theorem s3 : (strOfNums [57, 57, 57, 57, 45, 49, 50, 45, 51, 49, 84, 50, 51, 58, 53, 57, 58, 53, 57, 46, 57, 57, 57, 57, 57, 57]).toList = ([57, 57, 57, 57, 45, 49, 50, 45, 51, 49, 84, 50, 51, 58, 53, 57, 58, 53, 57, 46, 57, 57, 57, 57, 57, 57] : List UInt8) := by decide +kernel
theorem numf (x : Int) : mintagelaw13_num.f x = some x := by unfold mintagelaw13_num.f; rfl
theorem DateEnds : mintagelaw13_DateEnds.Pure := by
  refine Ev.rounds ?_
  unfold mintagelaw13_DateEnds.f
  refine Ev.bind (dayEv p1) ?_
  refine Ev.bind (dayEv p2) ?_
  refine Ev.bind (dayEv p3) ?_
  refine Ev.bind (dayEv p4) ?_
  refine Ev.bind (momEv p5) ?_
  refine Ev.bind (momEv p6) ?_
  simp only [numf, Option.bind_some, s1, s2, if_true, beq_self_eq_true]
  refine Ev.step (fun k => by simp only [mintagelaw13_DateEnds.j0, numf, Option.bind_some, s3, if_true, beq_self_eq_true]; rfl) ?_
  refine Ev.step (fun k => by simp only [mintagelaw13_DateEnds.j1]; rfl) ?_
  have a0 : A ((400 * 0 : Nat) : Int) = 0 := by decide
  have key : Ev (fun k => mintagelaw13_DateEnds.l0 k true true (A ((10000 : Nat) : Int)) ((10000 : Nat) : Int)) true := by
    have at_ : A ((10000 : Nat) : Int) = 3652425 := by decide
    rw [at_]
    have q1 : date_Length.f 10000 1 = some 0 := length_no (by omega)
    have q2 : date_Length.f 5 13 = some 0 := length_no (by omega)
    have q3 : date_Leap.f (-4) = some false := by decide
    have q4 : date_Leap.f 0 = some true := by decide
    have q5 : date_Leap.f 10000 = some false := by decide
    refine Ev.step (fun k => by simp only [mintagelaw13_DateEnds.l0]; rw [if_neg (by omega)]; simp only [if_true, q1, q2, q3, q4, q5, Option.bind_some, Bool.false_eq_true, if_false, mintagelaw13_wakes.f]) (Ev.now _)
  have := l0_ev key 25 0 (by omega)
  rw [a0] at this
  exact this
end Go.Proofs.Ytobgpdmiiipmmaa.Pure
