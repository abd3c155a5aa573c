-- Printed functions, merged (wip/tools/pack.py).
import Derived.Test.YtobgpdmiiipmmaaQ0ZDateEnds
namespace Go.Proofs.Ytobgpdmiiipmmaa.Q
open Go.RowKit Go.Proofs.YtobgpdmiiipmmaaW.PrintWords Go.Proofs.YtobgpdmiiipmmaaW.PrintLast Go.Proofs.YtobgpdmiiipmmaaW.PrintMore
attribute [local go_sem] max2_int min2_int max_two min_two max_three min_three max_four min_four   -- for this text's walks alone
set_option linter.unusedVariables false
set_option linter.unusedSimpArgs false

/-! ### mintagelaw13_DateEnds: function 6 -/
mutual
def mintagelaw13_DateEnds.j0 : Nat → List Int → Int → Int → Bool → Option (Bool)
  | 0, _, _, _, _ => none
  | k + 1, x9, x10, x12, x13 => (mintagelaw13_num.f x10).bind fun t357 => (if t357 = 0 then (if (strOfNums x9).toList = ([57, 57, 57, 57, 45, 49, 50, 45, 51, 49, 84, 50, 51, 58, 53, 57, 58, 53, 57, 46, 57, 57, 57, 57, 57, 57] : List UInt8) then ((mintagelaw13_num.f x12).bind fun t358 => (mintagelaw13_DateEnds.j1 k x13 (t358 == 131))) else (mintagelaw13_DateEnds.j1 k x13 false)) else (mintagelaw13_DateEnds.j1 k x13 false))
def mintagelaw13_DateEnds.j1 : Nat → Bool → Bool → Option (Bool)
  | 0, _, _ => none
  | k + 1, x13, x14 => mintagelaw13_DateEnds.l0 k x13 x14 0 0
def mintagelaw13_DateEnds.l0 : Nat → Bool → Bool → Int → Int → Option (Bool)
  | 0, _, _, _, _ => none
  | k + 1, x13, x14, x15, x16 => if x16 < 10000 then (mintagelaw13_DateEnds.l1 k x13 x14 x15 x16 0) else (if x13 = true then (if x14 = true then (if x15 = 3652425 then ((date_Length.f 10000 1).bind fun t360 => (if t360 = 0 then ((date_Length.f 5 13).bind fun t361 => (if t361 = 0 then ((date_Leap.f (-4)).bind fun t362 => (if t362 = true then (some false) else ((date_Leap.f 0).bind fun t363 => (if t363 = true then ((date_Leap.f 10000).bind fun t364 => (if t364 = true then (some false) else ((mintagelaw13_wakes.f).bind fun t365 => (some t365)))) else (some false))))) else (some false))) else (some false))) else (some false)) else (some false)) else (some false))
def mintagelaw13_DateEnds.l1 : Nat → Bool → Bool → Int → Int → Int → Option (Bool)
  | 0, _, _, _, _, _ => none
  | k + 1, x13, x14, x15, x16, x17 => if x17 < 400 then (mintagelaw13_DateEnds.l2 k x13 x14 x15 x16 x17 1) else (mintagelaw13_DateEnds.l0 k x13 x14 x15 (wrap64 (x16 + 400)))
def mintagelaw13_DateEnds.l2 : Nat → Bool → Bool → Int → Int → Int → Int → Option (Bool)
  | 0, _, _, _, _, _, _ => none
  | k + 1, x13, x14, x15, x16, x17, x18 => if x18 ≤ 12 then ((date_Length.f (wrap64 (x16 + x17)) x18).bind fun t359 => (mintagelaw13_DateEnds.l2 k x13 x14 (wrap64 (x15 + t359)) x16 x17 (wrap64 (x18 + 1)))) else (mintagelaw13_DateEnds.l1 k x13 x14 x15 x16 (wrap64 (x17 + 1)))
end
def mintagelaw13_DateEnds.f (k : Nat)  : Option (Bool) := (date_PrintDay.f k 18446744073708832088).bind fun bt329 => ((date_PrintDay.f k 2932896).bind fun bt333 => ((date_PrintDay.f k 2932897).bind fun bt337 => ((date_PrintDay.f k 18446744073708832087).bind fun bt341 => ((date_PrintMoment.f k 253402300799999999).bind fun bt345 => ((date_PrintMoment.f k 253402300800000000).bind fun bt349 => ((mintagelaw13_num.f bt329.2).bind fun t353 => (if t353 = 0 then (if (strOfNums bt329.1).toList = ([48, 48, 48, 48, 45, 48, 49, 45, 48, 49] : List UInt8) then ((mintagelaw13_num.f bt333.2).bind fun t354 => (if t354 = 0 then (if (strOfNums bt333.1).toList = ([57, 57, 57, 57, 45, 49, 50, 45, 51, 49] : List UInt8) then ((mintagelaw13_num.f bt337.2).bind fun t355 => (if t355 = 131 then ((mintagelaw13_num.f bt341.2).bind fun t356 => (mintagelaw13_DateEnds.j0 k bt345.1 bt345.2 bt349.2 (t356 == 131))) else (mintagelaw13_DateEnds.j0 k bt345.1 bt345.2 bt349.2 false))) else (mintagelaw13_DateEnds.j0 k bt345.1 bt345.2 bt349.2 false)) else (mintagelaw13_DateEnds.j0 k bt345.1 bt345.2 bt349.2 false))) else (mintagelaw13_DateEnds.j0 k bt345.1 bt345.2 bt349.2 false)) else (mintagelaw13_DateEnds.j0 k bt345.1 bt345.2 bt349.2 false))))))))
theorem mintagelaw13_DateEnds.mono_l : ∀ k, (∀ y0 y1 y2 y3, LeO (mintagelaw13_DateEnds.j0 k y0 y1 y2 y3) (mintagelaw13_DateEnds.j0 (k + 1) y0 y1 y2 y3)) ∧ (∀ y0 y1, LeO (mintagelaw13_DateEnds.j1 k y0 y1) (mintagelaw13_DateEnds.j1 (k + 1) y0 y1)) ∧ (∀ y0 y1 y2 y3, LeO (mintagelaw13_DateEnds.l0 k y0 y1 y2 y3) (mintagelaw13_DateEnds.l0 (k + 1) y0 y1 y2 y3)) ∧ (∀ y0 y1 y2 y3 y4, LeO (mintagelaw13_DateEnds.l1 k y0 y1 y2 y3 y4) (mintagelaw13_DateEnds.l1 (k + 1) y0 y1 y2 y3 y4)) ∧ (∀ y0 y1 y2 y3 y4 y5, LeO (mintagelaw13_DateEnds.l2 k y0 y1 y2 y3 y4 y5) (mintagelaw13_DateEnds.l2 (k + 1) y0 y1 y2 y3 y4 y5))
  | 0 => ⟨fun _ _ _ _ r h => by simp [mintagelaw13_DateEnds.j0] at h, fun _ _ r h => by simp [mintagelaw13_DateEnds.j1] at h, fun _ _ _ _ r h => by simp [mintagelaw13_DateEnds.l0] at h, fun _ _ _ _ _ r h => by simp [mintagelaw13_DateEnds.l1] at h, fun _ _ _ _ _ _ r h => by simp [mintagelaw13_DateEnds.l2] at h⟩
  | k + 1 => by
    obtain ⟨ih0, ih1, ih2, ih3, ih4⟩ := mintagelaw13_DateEnds.mono_l k
    refine ⟨?_, ?_, ?_, ?_, ?_⟩
    · intro y0 y1 y2 y3
      unfold mintagelaw13_DateEnds.j0
      repeat' first
      | (with_reducible exact ih0 _ _ _ _)
      | (with_reducible exact ih1 _ _)
      | (with_reducible exact ih2 _ _ _ _)
      | (with_reducible exact ih3 _ _ _ _ _)
      | (with_reducible exact ih4 _ _ _ _ _ _)
      | (with_reducible exact date_PrintDay.mono _ _)
      | (with_reducible exact date_PrintMoment.mono _ _)
      | (with_reducible exact LeO.refl _)
      | (with_reducible exact LeO.none _)
      | (with_reducible refine LeO.ite ?_ ?_)
      | (with_reducible refine LeO.bind ?_ (fun _ => ?_))
      | exact ih0 _ _ _ _
      | exact ih1 _ _
      | exact ih2 _ _ _ _
      | exact ih3 _ _ _ _ _
      | exact ih4 _ _ _ _ _ _
      | exact date_PrintDay.mono _ _
      | exact date_PrintMoment.mono _ _
      | exact LeO.none _
      | refine LeO.ite ?_ ?_
      | refine LeO.bind ?_ (fun _ => ?_)
    · intro y0 y1
      unfold mintagelaw13_DateEnds.j1
      repeat' first
      | (with_reducible exact ih0 _ _ _ _)
      | (with_reducible exact ih1 _ _)
      | (with_reducible exact ih2 _ _ _ _)
      | (with_reducible exact ih3 _ _ _ _ _)
      | (with_reducible exact ih4 _ _ _ _ _ _)
      | (with_reducible exact date_PrintDay.mono _ _)
      | (with_reducible exact date_PrintMoment.mono _ _)
      | (with_reducible exact LeO.refl _)
      | (with_reducible exact LeO.none _)
      | (with_reducible refine LeO.ite ?_ ?_)
      | (with_reducible refine LeO.bind ?_ (fun _ => ?_))
      | exact ih0 _ _ _ _
      | exact ih1 _ _
      | exact ih2 _ _ _ _
      | exact ih3 _ _ _ _ _
      | exact ih4 _ _ _ _ _ _
      | exact date_PrintDay.mono _ _
      | exact date_PrintMoment.mono _ _
      | exact LeO.none _
      | refine LeO.ite ?_ ?_
      | refine LeO.bind ?_ (fun _ => ?_)
    · intro y0 y1 y2 y3
      unfold mintagelaw13_DateEnds.l0
      repeat' first
      | (with_reducible exact ih0 _ _ _ _)
      | (with_reducible exact ih1 _ _)
      | (with_reducible exact ih2 _ _ _ _)
      | (with_reducible exact ih3 _ _ _ _ _)
      | (with_reducible exact ih4 _ _ _ _ _ _)
      | (with_reducible exact date_PrintDay.mono _ _)
      | (with_reducible exact date_PrintMoment.mono _ _)
      | (with_reducible exact LeO.refl _)
      | (with_reducible exact LeO.none _)
      | (with_reducible refine LeO.ite ?_ ?_)
      | (with_reducible refine LeO.bind ?_ (fun _ => ?_))
      | exact ih0 _ _ _ _
      | exact ih1 _ _
      | exact ih2 _ _ _ _
      | exact ih3 _ _ _ _ _
      | exact ih4 _ _ _ _ _ _
      | exact date_PrintDay.mono _ _
      | exact date_PrintMoment.mono _ _
      | exact LeO.none _
      | refine LeO.ite ?_ ?_
      | refine LeO.bind ?_ (fun _ => ?_)
    · intro y0 y1 y2 y3 y4
      unfold mintagelaw13_DateEnds.l1
      repeat' first
      | (with_reducible exact ih0 _ _ _ _)
      | (with_reducible exact ih1 _ _)
      | (with_reducible exact ih2 _ _ _ _)
      | (with_reducible exact ih3 _ _ _ _ _)
      | (with_reducible exact ih4 _ _ _ _ _ _)
      | (with_reducible exact date_PrintDay.mono _ _)
      | (with_reducible exact date_PrintMoment.mono _ _)
      | (with_reducible exact LeO.refl _)
      | (with_reducible exact LeO.none _)
      | (with_reducible refine LeO.ite ?_ ?_)
      | (with_reducible refine LeO.bind ?_ (fun _ => ?_))
      | exact ih0 _ _ _ _
      | exact ih1 _ _
      | exact ih2 _ _ _ _
      | exact ih3 _ _ _ _ _
      | exact ih4 _ _ _ _ _ _
      | exact date_PrintDay.mono _ _
      | exact date_PrintMoment.mono _ _
      | exact LeO.none _
      | refine LeO.ite ?_ ?_
      | refine LeO.bind ?_ (fun _ => ?_)
    · intro y0 y1 y2 y3 y4 y5
      unfold mintagelaw13_DateEnds.l2
      repeat' first
      | (with_reducible exact ih0 _ _ _ _)
      | (with_reducible exact ih1 _ _)
      | (with_reducible exact ih2 _ _ _ _)
      | (with_reducible exact ih3 _ _ _ _ _)
      | (with_reducible exact ih4 _ _ _ _ _ _)
      | (with_reducible exact date_PrintDay.mono _ _)
      | (with_reducible exact date_PrintMoment.mono _ _)
      | (with_reducible exact LeO.refl _)
      | (with_reducible exact LeO.none _)
      | (with_reducible refine LeO.ite ?_ ?_)
      | (with_reducible refine LeO.bind ?_ (fun _ => ?_))
      | exact ih0 _ _ _ _
      | exact ih1 _ _
      | exact ih2 _ _ _ _
      | exact ih3 _ _ _ _ _
      | exact ih4 _ _ _ _ _ _
      | exact date_PrintDay.mono _ _
      | exact date_PrintMoment.mono _ _
      | exact LeO.none _
      | refine LeO.ite ?_ ?_
      | refine LeO.bind ?_ (fun _ => ?_)
theorem mintagelaw13_DateEnds.mono : ∀ k, LeO (mintagelaw13_DateEnds.f k ) (mintagelaw13_DateEnds.f (k + 1) ) := by
  intro  k
  obtain ⟨ih0, ih1, ih2, ih3, ih4⟩ := mintagelaw13_DateEnds.mono_l k
  unfold mintagelaw13_DateEnds.f
  repeat' first
      | (with_reducible exact ih0 _ _ _ _)
      | (with_reducible exact ih1 _ _)
      | (with_reducible exact ih2 _ _ _ _)
      | (with_reducible exact ih3 _ _ _ _ _)
      | (with_reducible exact ih4 _ _ _ _ _ _)
      | (with_reducible exact date_PrintDay.mono _ _)
      | (with_reducible exact date_PrintMoment.mono _ _)
      | (with_reducible exact LeO.refl _)
      | (with_reducible exact LeO.none _)
      | (with_reducible refine LeO.ite ?_ ?_)
      | (with_reducible refine LeO.bind ?_ (fun _ => ?_))
      | exact ih0 _ _ _ _
      | exact ih1 _ _
      | exact ih2 _ _ _ _
      | exact ih3 _ _ _ _ _
      | exact ih4 _ _ _ _ _ _
      | exact date_PrintDay.mono _ _
      | exact date_PrintMoment.mono _ _
      | exact LeO.none _
      | refine LeO.ite ?_ ?_
      | refine LeO.bind ?_ (fun _ => ?_)
set_option maxHeartbeats 8000000 in
set_option maxRecDepth 100000 in
theorem mintagelaw13_DateEnds.calls (k : Nat)  (r : Bool) (w : World) (h : mintagelaw13_DateEnds.f k  = some r) (hT : r = true) :
    Calls Try.prog 6 #[] w fun e w' => e = .returned (.bool r) ∧ Below w.heap.size w w' := by
  have HT := Aside0.mk hT
  clear hT
  have HB := Aside0.mk (Below.refl w.heap.size w)
  have H : ((date_PrintDay.f k 18446744073708832088).bind fun bt329 => ((date_PrintDay.f k 2932896).bind fun bt333 => ((date_PrintDay.f k 2932897).bind fun bt337 => ((date_PrintDay.f k 18446744073708832087).bind fun bt341 => ((date_PrintMoment.f k 253402300799999999).bind fun bt345 => ((date_PrintMoment.f k 253402300800000000).bind fun bt349 => ((mintagelaw13_num.f bt329.2).bind fun t353 => (if t353 = 0 then (if (strOfNums bt329.1).toList = ([48, 48, 48, 48, 45, 48, 49, 45, 48, 49] : List UInt8) then ((mintagelaw13_num.f bt333.2).bind fun t354 => (if t354 = 0 then (if (strOfNums bt333.1).toList = ([57, 57, 57, 57, 45, 49, 50, 45, 51, 49] : List UInt8) then ((mintagelaw13_num.f bt337.2).bind fun t355 => (if t355 = 131 then ((mintagelaw13_num.f bt341.2).bind fun t356 => (mintagelaw13_DateEnds.j0 k bt345.1 bt345.2 bt349.2 (t356 == 131))) else (mintagelaw13_DateEnds.j0 k bt345.1 bt345.2 bt349.2 false))) else (mintagelaw13_DateEnds.j0 k bt345.1 bt345.2 bt349.2 false)) else (mintagelaw13_DateEnds.j0 k bt345.1 bt345.2 bt349.2 false))) else (mintagelaw13_DateEnds.j0 k bt345.1 bt345.2 bt349.2 false)) else (mintagelaw13_DateEnds.j0 k bt345.1 bt345.2 bt349.2 false))))))))) = some r := h
  clear h
  replace H := Option.bind_eq_some_iff.mp H
  obtain ⟨⟨t329, t330⟩, A10, H⟩ := H
  replace H : ((date_PrintDay.f k 2932896).bind fun bt333 => ((date_PrintDay.f k 2932897).bind fun bt337 => ((date_PrintDay.f k 18446744073708832087).bind fun bt341 => ((date_PrintMoment.f k 253402300799999999).bind fun bt345 => ((date_PrintMoment.f k 253402300800000000).bind fun bt349 => ((mintagelaw13_num.f t330).bind fun t353 => (if t353 = 0 then (if (strOfNums t329).toList = ([48, 48, 48, 48, 45, 48, 49, 45, 48, 49] : List UInt8) then ((mintagelaw13_num.f bt333.2).bind fun t354 => (if t354 = 0 then (if (strOfNums bt333.1).toList = ([57, 57, 57, 57, 45, 49, 50, 45, 51, 49] : List UInt8) then ((mintagelaw13_num.f bt337.2).bind fun t355 => (if t355 = 131 then ((mintagelaw13_num.f bt341.2).bind fun t356 => (mintagelaw13_DateEnds.j0 k bt345.1 bt345.2 bt349.2 (t356 == 131))) else (mintagelaw13_DateEnds.j0 k bt345.1 bt345.2 bt349.2 false))) else (mintagelaw13_DateEnds.j0 k bt345.1 bt345.2 bt349.2 false)) else (mintagelaw13_DateEnds.j0 k bt345.1 bt345.2 bt349.2 false))) else (mintagelaw13_DateEnds.j0 k bt345.1 bt345.2 bt349.2 false)) else (mintagelaw13_DateEnds.j0 k bt345.1 bt345.2 bt349.2 false)))))))) = some r := H
  have A1 := Aside0.mk A10
  clear A10
  replace H := Option.bind_eq_some_iff.mp H
  obtain ⟨⟨t333, t334⟩, A20, H⟩ := H
  replace H : ((date_PrintDay.f k 2932897).bind fun bt337 => ((date_PrintDay.f k 18446744073708832087).bind fun bt341 => ((date_PrintMoment.f k 253402300799999999).bind fun bt345 => ((date_PrintMoment.f k 253402300800000000).bind fun bt349 => ((mintagelaw13_num.f t330).bind fun t353 => (if t353 = 0 then (if (strOfNums t329).toList = ([48, 48, 48, 48, 45, 48, 49, 45, 48, 49] : List UInt8) then ((mintagelaw13_num.f t334).bind fun t354 => (if t354 = 0 then (if (strOfNums t333).toList = ([57, 57, 57, 57, 45, 49, 50, 45, 51, 49] : List UInt8) then ((mintagelaw13_num.f bt337.2).bind fun t355 => (if t355 = 131 then ((mintagelaw13_num.f bt341.2).bind fun t356 => (mintagelaw13_DateEnds.j0 k bt345.1 bt345.2 bt349.2 (t356 == 131))) else (mintagelaw13_DateEnds.j0 k bt345.1 bt345.2 bt349.2 false))) else (mintagelaw13_DateEnds.j0 k bt345.1 bt345.2 bt349.2 false)) else (mintagelaw13_DateEnds.j0 k bt345.1 bt345.2 bt349.2 false))) else (mintagelaw13_DateEnds.j0 k bt345.1 bt345.2 bt349.2 false)) else (mintagelaw13_DateEnds.j0 k bt345.1 bt345.2 bt349.2 false))))))) = some r := H
  have A2 := Aside0.mk A20
  clear A20
  replace H := Option.bind_eq_some_iff.mp H
  obtain ⟨⟨t337, t338⟩, A30, H⟩ := H
  replace H : ((date_PrintDay.f k 18446744073708832087).bind fun bt341 => ((date_PrintMoment.f k 253402300799999999).bind fun bt345 => ((date_PrintMoment.f k 253402300800000000).bind fun bt349 => ((mintagelaw13_num.f t330).bind fun t353 => (if t353 = 0 then (if (strOfNums t329).toList = ([48, 48, 48, 48, 45, 48, 49, 45, 48, 49] : List UInt8) then ((mintagelaw13_num.f t334).bind fun t354 => (if t354 = 0 then (if (strOfNums t333).toList = ([57, 57, 57, 57, 45, 49, 50, 45, 51, 49] : List UInt8) then ((mintagelaw13_num.f t338).bind fun t355 => (if t355 = 131 then ((mintagelaw13_num.f bt341.2).bind fun t356 => (mintagelaw13_DateEnds.j0 k bt345.1 bt345.2 bt349.2 (t356 == 131))) else (mintagelaw13_DateEnds.j0 k bt345.1 bt345.2 bt349.2 false))) else (mintagelaw13_DateEnds.j0 k bt345.1 bt345.2 bt349.2 false)) else (mintagelaw13_DateEnds.j0 k bt345.1 bt345.2 bt349.2 false))) else (mintagelaw13_DateEnds.j0 k bt345.1 bt345.2 bt349.2 false)) else (mintagelaw13_DateEnds.j0 k bt345.1 bt345.2 bt349.2 false)))))) = some r := H
  have A3 := Aside0.mk A30
  clear A30
  replace H := Option.bind_eq_some_iff.mp H
  obtain ⟨⟨t341, t342⟩, A40, H⟩ := H
  replace H : ((date_PrintMoment.f k 253402300799999999).bind fun bt345 => ((date_PrintMoment.f k 253402300800000000).bind fun bt349 => ((mintagelaw13_num.f t330).bind fun t353 => (if t353 = 0 then (if (strOfNums t329).toList = ([48, 48, 48, 48, 45, 48, 49, 45, 48, 49] : List UInt8) then ((mintagelaw13_num.f t334).bind fun t354 => (if t354 = 0 then (if (strOfNums t333).toList = ([57, 57, 57, 57, 45, 49, 50, 45, 51, 49] : List UInt8) then ((mintagelaw13_num.f t338).bind fun t355 => (if t355 = 131 then ((mintagelaw13_num.f t342).bind fun t356 => (mintagelaw13_DateEnds.j0 k bt345.1 bt345.2 bt349.2 (t356 == 131))) else (mintagelaw13_DateEnds.j0 k bt345.1 bt345.2 bt349.2 false))) else (mintagelaw13_DateEnds.j0 k bt345.1 bt345.2 bt349.2 false)) else (mintagelaw13_DateEnds.j0 k bt345.1 bt345.2 bt349.2 false))) else (mintagelaw13_DateEnds.j0 k bt345.1 bt345.2 bt349.2 false)) else (mintagelaw13_DateEnds.j0 k bt345.1 bt345.2 bt349.2 false))))) = some r := H
  have A4 := Aside0.mk A40
  clear A40
  replace H := Option.bind_eq_some_iff.mp H
  obtain ⟨⟨t345, t346⟩, A50, H⟩ := H
  replace H : ((date_PrintMoment.f k 253402300800000000).bind fun bt349 => ((mintagelaw13_num.f t330).bind fun t353 => (if t353 = 0 then (if (strOfNums t329).toList = ([48, 48, 48, 48, 45, 48, 49, 45, 48, 49] : List UInt8) then ((mintagelaw13_num.f t334).bind fun t354 => (if t354 = 0 then (if (strOfNums t333).toList = ([57, 57, 57, 57, 45, 49, 50, 45, 51, 49] : List UInt8) then ((mintagelaw13_num.f t338).bind fun t355 => (if t355 = 131 then ((mintagelaw13_num.f t342).bind fun t356 => (mintagelaw13_DateEnds.j0 k t345 t346 bt349.2 (t356 == 131))) else (mintagelaw13_DateEnds.j0 k t345 t346 bt349.2 false))) else (mintagelaw13_DateEnds.j0 k t345 t346 bt349.2 false)) else (mintagelaw13_DateEnds.j0 k t345 t346 bt349.2 false))) else (mintagelaw13_DateEnds.j0 k t345 t346 bt349.2 false)) else (mintagelaw13_DateEnds.j0 k t345 t346 bt349.2 false)))) = some r := H
  have A5 := Aside0.mk A50
  clear A50
  replace H := Option.bind_eq_some_iff.mp H
  obtain ⟨⟨t349, t350⟩, A60, H⟩ := H
  replace H : ((mintagelaw13_num.f t330).bind fun t353 => (if t353 = 0 then (if (strOfNums t329).toList = ([48, 48, 48, 48, 45, 48, 49, 45, 48, 49] : List UInt8) then ((mintagelaw13_num.f t334).bind fun t354 => (if t354 = 0 then (if (strOfNums t333).toList = ([57, 57, 57, 57, 45, 49, 50, 45, 51, 49] : List UInt8) then ((mintagelaw13_num.f t338).bind fun t355 => (if t355 = 131 then ((mintagelaw13_num.f t342).bind fun t356 => (mintagelaw13_DateEnds.j0 k t345 t346 t350 (t356 == 131))) else (mintagelaw13_DateEnds.j0 k t345 t346 t350 false))) else (mintagelaw13_DateEnds.j0 k t345 t346 t350 false)) else (mintagelaw13_DateEnds.j0 k t345 t346 t350 false))) else (mintagelaw13_DateEnds.j0 k t345 t346 t350 false)) else (mintagelaw13_DateEnds.j0 k t345 t346 t350 false))) = some r := H
  have A6 := Aside0.mk A60
  clear A60
  have HC7 := Aside0.mk H
  clear H
  go_enter Try.func6, Try.ntmps6
  go_upto_region 7 with (first | ((with_reducible refine gate_callee (f := 10) rfl ?_); refine goesL_ (some 20) rfl rfl Try.func10 (by kernel_rfl) rfl #[.int .u64 18446744073708832088] rfl (by (try simp only [List.map_toArray, List.map_cons, List.map_nil]); first | done | rfl | (simp only [List.length_drop, List.length_take]; rfl)) ?_; (with_reducible refine (date_PrintDay.calls k 18446744073708832088 t329 t330 _ A1.out).mono ?_); rintro e w8 ⟨v331, rfl, ho0, hb⟩; refine ⟨_, rfl, ?_⟩; have n0_ := Aside0.mk (Kd.R_lower ho0 (below_size (by repeat (first | (with_reducible first | exact HB.out | apply below_alloc | apply pw_below_drewN | apply below_drew1) | exact HB.out)))); have n1_ := Aside0.mk (below_step (by repeat (first | (with_reducible first | exact HB.out | apply below_alloc | apply pw_below_drewN | apply below_drew1) | exact HB.out)) hb); clear HB; have HO332 := n0_; have HB := n1_; clear n0_ n1_; (try clear hb); (try clear hb2); (try clear hk); (try clear hi); (try clear ho0)) | ((with_reducible refine gate_callee (f := 10) rfl ?_); refine goesL_ (some 24) rfl rfl Try.func10 (by kernel_rfl) rfl #[.int .u64 2932896] rfl (by (try simp only [List.map_toArray, List.map_cons, List.map_nil]); first | done | rfl | (simp only [List.length_drop, List.length_take]; rfl)) ?_; (with_reducible refine (date_PrintDay.calls k 2932896 t333 t334 _ A2.out).mono ?_); rintro e w9 ⟨v335, rfl, ho0, hb⟩; refine ⟨_, rfl, ?_⟩; have n0_ := Aside0.mk (Kd.R_elder' (by (with_reducible repeat (first | apply Kd.R_alloc | apply Kd.R_drewN | apply Kd.R_drew)); exact HO332.out) (Kd.R_base ho0) hb); have n1_ := Aside0.mk (Kd.R_lower (Kd.R_new' ho0 (Kd.R_lt (by (with_reducible repeat (first | apply Kd.R_alloc | apply Kd.R_drewN | apply Kd.R_drew)); exact HO332.out))) (below_size (by repeat (first | (with_reducible first | exact HB.out | apply below_alloc | apply pw_below_drewN | apply below_drew1) | exact HB.out)))); have n2_ := Aside0.mk (below_step (by repeat (first | (with_reducible first | exact HB.out | apply below_alloc | apply pw_below_drewN | apply below_drew1) | exact HB.out)) hb); clear HO332; clear HB; have HO332 := n0_; have HO336 := n1_; have HB := n2_; clear n0_ n1_ n2_; (try clear hb); (try clear hb2); (try clear hk); (try clear hi); (try clear ho0)) | ((with_reducible refine gate_callee (f := 10) rfl ?_); refine goesL_ (some 28) rfl rfl Try.func10 (by kernel_rfl) rfl #[.int .u64 2932897] rfl (by (try simp only [List.map_toArray, List.map_cons, List.map_nil]); first | done | rfl | (simp only [List.length_drop, List.length_take]; rfl)) ?_; (with_reducible refine (date_PrintDay.calls k 2932897 t337 t338 _ A3.out).mono ?_); rintro e w10 ⟨v339, rfl, ho0, hb⟩; refine ⟨_, rfl, ?_⟩; have n0_ := Aside0.mk (Kd.R_elder' (by (with_reducible repeat (first | apply Kd.R_alloc | apply Kd.R_drewN | apply Kd.R_drew)); exact HO332.out) (Kd.R_base ho0) hb); have n1_ := Aside0.mk (Kd.R_elder' (by (with_reducible repeat (first | apply Kd.R_alloc | apply Kd.R_drewN | apply Kd.R_drew)); exact HO336.out) (Kd.R_base ho0) hb); have n2_ := Aside0.mk (Kd.R_lower (Kd.R_new' (Kd.R_new' ho0 (Kd.R_lt (by (with_reducible repeat (first | apply Kd.R_alloc | apply Kd.R_drewN | apply Kd.R_drew)); exact HO332.out))) (Kd.R_lt (by (with_reducible repeat (first | apply Kd.R_alloc | apply Kd.R_drewN | apply Kd.R_drew)); exact HO336.out))) (below_size (by repeat (first | (with_reducible first | exact HB.out | apply below_alloc | apply pw_below_drewN | apply below_drew1) | exact HB.out)))); have n3_ := Aside0.mk (below_step (by repeat (first | (with_reducible first | exact HB.out | apply below_alloc | apply pw_below_drewN | apply below_drew1) | exact HB.out)) hb); clear HO332; clear HO336; clear HB; have HO332 := n0_; have HO336 := n1_; have HO340 := n2_; have HB := n3_; clear n0_ n1_ n2_ n3_; (try clear hb); (try clear hb2); (try clear hk); (try clear hi); (try clear ho0)) | ((with_reducible refine gate_callee (f := 10) rfl ?_); refine goesL_ (some 32) rfl rfl Try.func10 (by kernel_rfl) rfl #[.int .u64 18446744073708832087] rfl (by (try simp only [List.map_toArray, List.map_cons, List.map_nil]); first | done | rfl | (simp only [List.length_drop, List.length_take]; rfl)) ?_; (with_reducible refine (date_PrintDay.calls k 18446744073708832087 t341 t342 _ A4.out).mono ?_); rintro e w11 ⟨v343, rfl, ho0, hb⟩; refine ⟨_, rfl, ?_⟩; have n0_ := Aside0.mk (Kd.R_elder' (by (with_reducible repeat (first | apply Kd.R_alloc | apply Kd.R_drewN | apply Kd.R_drew)); exact HO332.out) (Kd.R_base ho0) hb); have n1_ := Aside0.mk (Kd.R_elder' (by (with_reducible repeat (first | apply Kd.R_alloc | apply Kd.R_drewN | apply Kd.R_drew)); exact HO336.out) (Kd.R_base ho0) hb); have n2_ := Aside0.mk (Kd.R_elder' (by (with_reducible repeat (first | apply Kd.R_alloc | apply Kd.R_drewN | apply Kd.R_drew)); exact HO340.out) (Kd.R_base ho0) hb); have n3_ := Aside0.mk (Kd.R_lower (Kd.R_new' (Kd.R_new' (Kd.R_new' ho0 (Kd.R_lt (by (with_reducible repeat (first | apply Kd.R_alloc | apply Kd.R_drewN | apply Kd.R_drew)); exact HO332.out))) (Kd.R_lt (by (with_reducible repeat (first | apply Kd.R_alloc | apply Kd.R_drewN | apply Kd.R_drew)); exact HO336.out))) (Kd.R_lt (by (with_reducible repeat (first | apply Kd.R_alloc | apply Kd.R_drewN | apply Kd.R_drew)); exact HO340.out))) (below_size (by repeat (first | (with_reducible first | exact HB.out | apply below_alloc | apply pw_below_drewN | apply below_drew1) | exact HB.out)))); have n4_ := Aside0.mk (below_step (by repeat (first | (with_reducible first | exact HB.out | apply below_alloc | apply pw_below_drewN | apply below_drew1) | exact HB.out)) hb); clear HO332; clear HO336; clear HO340; clear HB; have HO332 := n0_; have HO336 := n1_; have HO340 := n2_; have HO344 := n3_; have HB := n4_; clear n0_ n1_ n2_ n3_ n4_; (try clear hb); (try clear hb2); (try clear hk); (try clear hi); (try clear ho0)) | ((with_reducible refine gate_callee (f := 13) rfl ?_); refine goesL_ (some 36) rfl rfl Try.func13 (by kernel_rfl) rfl #[.int .u64 253402300799999999] rfl (by (try simp only [List.map_toArray, List.map_cons, List.map_nil]); first | done | rfl | (simp only [List.length_drop, List.length_take]; rfl)) ?_; (with_reducible refine (date_PrintMoment.calls k 253402300799999999 t345 t346 _ A5.out).mono ?_); rintro e w12 ⟨v347, rfl, ho0, hb⟩; refine ⟨_, rfl, ?_⟩; have n0_ := Aside0.mk (Kd.R_elder' (by (with_reducible repeat (first | apply Kd.R_alloc | apply Kd.R_drewN | apply Kd.R_drew)); exact HO332.out) (Kd.R_base ho0) hb); have n1_ := Aside0.mk (Kd.R_elder' (by (with_reducible repeat (first | apply Kd.R_alloc | apply Kd.R_drewN | apply Kd.R_drew)); exact HO336.out) (Kd.R_base ho0) hb); have n2_ := Aside0.mk (Kd.R_elder' (by (with_reducible repeat (first | apply Kd.R_alloc | apply Kd.R_drewN | apply Kd.R_drew)); exact HO340.out) (Kd.R_base ho0) hb); have n3_ := Aside0.mk (Kd.R_elder' (by (with_reducible repeat (first | apply Kd.R_alloc | apply Kd.R_drewN | apply Kd.R_drew)); exact HO344.out) (Kd.R_base ho0) hb); have n4_ := Aside0.mk (Kd.R_lower (Kd.R_new' (Kd.R_new' (Kd.R_new' (Kd.R_new' ho0 (Kd.R_lt (by (with_reducible repeat (first | apply Kd.R_alloc | apply Kd.R_drewN | apply Kd.R_drew)); exact HO332.out))) (Kd.R_lt (by (with_reducible repeat (first | apply Kd.R_alloc | apply Kd.R_drewN | apply Kd.R_drew)); exact HO336.out))) (Kd.R_lt (by (with_reducible repeat (first | apply Kd.R_alloc | apply Kd.R_drewN | apply Kd.R_drew)); exact HO340.out))) (Kd.R_lt (by (with_reducible repeat (first | apply Kd.R_alloc | apply Kd.R_drewN | apply Kd.R_drew)); exact HO344.out))) (below_size (by repeat (first | (with_reducible first | exact HB.out | apply below_alloc | apply pw_below_drewN | apply below_drew1) | exact HB.out)))); have n5_ := Aside0.mk (below_step (by repeat (first | (with_reducible first | exact HB.out | apply below_alloc | apply pw_below_drewN | apply below_drew1) | exact HB.out)) hb); clear HO332; clear HO336; clear HO340; clear HO344; clear HB; have HO332 := n0_; have HO336 := n1_; have HO340 := n2_; have HO344 := n3_; have HO348 := n4_; have HB := n5_; clear n0_ n1_ n2_ n3_ n4_ n5_; (try clear hb); (try clear hb2); (try clear hk); (try clear hi); (try clear ho0)) | ((with_reducible refine gate_callee (f := 13) rfl ?_); refine goesL_ (some 40) rfl rfl Try.func13 (by kernel_rfl) rfl #[.int .u64 253402300800000000] rfl (by (try simp only [List.map_toArray, List.map_cons, List.map_nil]); first | done | rfl | (simp only [List.length_drop, List.length_take]; rfl)) ?_; (with_reducible refine (date_PrintMoment.calls k 253402300800000000 t349 t350 _ A6.out).mono ?_); rintro e w13 ⟨v351, rfl, ho0, hb⟩; refine ⟨_, rfl, ?_⟩; have n0_ := Aside0.mk (Kd.R_elder' (by (with_reducible repeat (first | apply Kd.R_alloc | apply Kd.R_drewN | apply Kd.R_drew)); exact HO332.out) (Kd.R_base ho0) hb); have n1_ := Aside0.mk (Kd.R_elder' (by (with_reducible repeat (first | apply Kd.R_alloc | apply Kd.R_drewN | apply Kd.R_drew)); exact HO336.out) (Kd.R_base ho0) hb); have n2_ := Aside0.mk (Kd.R_elder' (by (with_reducible repeat (first | apply Kd.R_alloc | apply Kd.R_drewN | apply Kd.R_drew)); exact HO340.out) (Kd.R_base ho0) hb); have n3_ := Aside0.mk (Kd.R_elder' (by (with_reducible repeat (first | apply Kd.R_alloc | apply Kd.R_drewN | apply Kd.R_drew)); exact HO344.out) (Kd.R_base ho0) hb); have n4_ := Aside0.mk (Kd.R_elder' (by (with_reducible repeat (first | apply Kd.R_alloc | apply Kd.R_drewN | apply Kd.R_drew)); exact HO348.out) (Kd.R_base ho0) hb); have n5_ := Aside0.mk (Kd.R_lower (Kd.R_new' (Kd.R_new' (Kd.R_new' (Kd.R_new' (Kd.R_new' ho0 (Kd.R_lt (by (with_reducible repeat (first | apply Kd.R_alloc | apply Kd.R_drewN | apply Kd.R_drew)); exact HO332.out))) (Kd.R_lt (by (with_reducible repeat (first | apply Kd.R_alloc | apply Kd.R_drewN | apply Kd.R_drew)); exact HO336.out))) (Kd.R_lt (by (with_reducible repeat (first | apply Kd.R_alloc | apply Kd.R_drewN | apply Kd.R_drew)); exact HO340.out))) (Kd.R_lt (by (with_reducible repeat (first | apply Kd.R_alloc | apply Kd.R_drewN | apply Kd.R_drew)); exact HO344.out))) (Kd.R_lt (by (with_reducible repeat (first | apply Kd.R_alloc | apply Kd.R_drewN | apply Kd.R_drew)); exact HO348.out))) (below_size (by repeat (first | (with_reducible first | exact HB.out | apply below_alloc | apply pw_below_drewN | apply below_drew1) | exact HB.out)))); have n6_ := Aside0.mk (below_step (by repeat (first | (with_reducible first | exact HB.out | apply below_alloc | apply pw_below_drewN | apply below_drew1) | exact HB.out)) hb); clear HO332; clear HO336; clear HO340; clear HO344; clear HO348; clear HB; have HO332 := n0_; have HO336 := n1_; have HO340 := n2_; have HO344 := n3_; have HO348 := n4_; have HO352 := n5_; have HB := n6_; clear n0_ n1_ n2_ n3_ n4_ n5_ n6_; (try clear hb); (try clear hb2); (try clear hk); (try clear hi); (try clear ho0)))
  (try simp only [Act.put, List.setIfInBounds_toArray, List.set_cons_zero, List.set_cons_succ])
  go_cut [13] (fun v13 wc => ∃ (kq : Nat) (x13_6 : Bool), v13 = .bool x13_6 ∧ Aside0 (mintagelaw13_DateEnds.j0 kq t345 t346 t350 x13_6 = some r) ∧ Aside0 (kq ≤ k) ∧ Aside0 (Kd.R (Kd.int .u8) 5 wc w.heap.size (fun _ => True) v347 t345) ∧ Aside0 (Below w.heap.size w wc))
  case first =>
    have H := HC7.out
    clear HC7
    replace H := Option.bind_eq_some_iff.mp H
    obtain ⟨t353, A140, H⟩ := H
    replace H : (if t353 = 0 then (if (strOfNums t329).toList = ([48, 48, 48, 48, 45, 48, 49, 45, 48, 49] : List UInt8) then ((mintagelaw13_num.f t334).bind fun t354 => (if t354 = 0 then (if (strOfNums t333).toList = ([57, 57, 57, 57, 45, 49, 50, 45, 51, 49] : List UInt8) then ((mintagelaw13_num.f t338).bind fun t355 => (if t355 = 131 then ((mintagelaw13_num.f t342).bind fun t356 => (mintagelaw13_DateEnds.j0 k t345 t346 t350 (t356 == 131))) else (mintagelaw13_DateEnds.j0 k t345 t346 t350 false))) else (mintagelaw13_DateEnds.j0 k t345 t346 t350 false)) else (mintagelaw13_DateEnds.j0 k t345 t346 t350 false))) else (mintagelaw13_DateEnds.j0 k t345 t346 t350 false)) else (mintagelaw13_DateEnds.j0 k t345 t346 t350 false)) = some r := H
    have A14 := Aside0.mk A140
    clear A140
    by_cases c15 : t353 = 0
    · rw [if_pos c15] at H
      have c15b0 : (t353 == 0) = true := beq_iff_eq.mpr c15
      have c15b1 : (t353 != 0) = false := bne_eq_false_iff_eq.mpr c15
      clear c15
      (first | rw [c15b0] | (simp only [i64_w, i32_w]; rw [c15b0]) | skip)
      by_cases c16 : (strOfNums t329).toList = ([48, 48, 48, 48, 45, 48, 49, 45, 48, 49] : List UInt8)
      · rw [if_pos c16] at H
        have c16b0 : ((strOfNums t329).toList == ([48, 48, 48, 48, 45, 48, 49, 45, 48, 49] : List UInt8)) = true := beq_iff_eq.mpr c16
        have c16b1 : ((strOfNums t329).toList != ([48, 48, 48, 48, 45, 48, 49, 45, 48, 49] : List UInt8)) = false := bne_eq_false_iff_eq.mpr c16
        clear c16
        replace H := Option.bind_eq_some_iff.mp H
        obtain ⟨t354, A170, H⟩ := H
        replace H : (if t354 = 0 then (if (strOfNums t333).toList = ([57, 57, 57, 57, 45, 49, 50, 45, 51, 49] : List UInt8) then ((mintagelaw13_num.f t338).bind fun t355 => (if t355 = 131 then ((mintagelaw13_num.f t342).bind fun t356 => (mintagelaw13_DateEnds.j0 k t345 t346 t350 (t356 == 131))) else (mintagelaw13_DateEnds.j0 k t345 t346 t350 false))) else (mintagelaw13_DateEnds.j0 k t345 t346 t350 false)) else (mintagelaw13_DateEnds.j0 k t345 t346 t350 false)) = some r := H
        have A17 := Aside0.mk A170
        clear A170
        by_cases c18 : t354 = 0
        · rw [if_pos c18] at H
          have c18b0 : (t354 == 0) = true := beq_iff_eq.mpr c18
          have c18b1 : (t354 != 0) = false := bne_eq_false_iff_eq.mpr c18
          clear c18
          by_cases c19 : (strOfNums t333).toList = ([57, 57, 57, 57, 45, 49, 50, 45, 51, 49] : List UInt8)
          · rw [if_pos c19] at H
            have c19b0 : ((strOfNums t333).toList == ([57, 57, 57, 57, 45, 49, 50, 45, 51, 49] : List UInt8)) = true := beq_iff_eq.mpr c19
            have c19b1 : ((strOfNums t333).toList != ([57, 57, 57, 57, 45, 49, 50, 45, 51, 49] : List UInt8)) = false := bne_eq_false_iff_eq.mpr c19
            clear c19
            replace H := Option.bind_eq_some_iff.mp H
            obtain ⟨t355, A200, H⟩ := H
            replace H : (if t355 = 131 then ((mintagelaw13_num.f t342).bind fun t356 => (mintagelaw13_DateEnds.j0 k t345 t346 t350 (t356 == 131))) else (mintagelaw13_DateEnds.j0 k t345 t346 t350 false)) = some r := H
            have A20 := Aside0.mk A200
            clear A200
            by_cases c21 : t355 = 131
            · rw [if_pos c21] at H
              have c21b0 : (t355 == 131) = true := beq_iff_eq.mpr c21
              have c21b1 : (t355 != 131) = false := bne_eq_false_iff_eq.mpr c21
              clear c21
              replace H := Option.bind_eq_some_iff.mp H
              obtain ⟨t356, A220, H⟩ := H
              replace H : (mintagelaw13_DateEnds.j0 k t345 t346 t350 (t356 == 131)) = some r := H
              have A22 := Aside0.mk A220
              (try (have e22_17 := Option.some.inj (A220.symm.trans A17.out)))
              (try (have e22_20 := Option.some.inj (A220.symm.trans A20.out)))
              clear A220
              have H' := Aside0.mk H
              clear H
              go_wp2_with (first | ((with_reducible refine gate_callee (f := 16) rfl ?_); refine goesL_ (some 44) rfl rfl Try.func16 (by kernel_rfl) rfl #[.int .i64 t330] rfl (by (try simp only [List.map_toArray, List.map_cons, List.map_nil]); first | done | rfl | (simp only [List.length_drop, List.length_take]; rfl)) ?_; (with_reducible refine (mintagelaw13_num.calls t330 t353 _ A14.out).mono ?_); rintro e w' ⟨rfl, ⟨nd, rfl⟩⟩; refine ⟨_, rfl, ?_⟩; have hcv23 := own_string (P := Try.prog) Try.underlying29 Try.underlying5 Try.underlying9 (Kd.own_of_R HO332.out); (try (have hcv23n := fun n_ => own_string (P := Try.prog) Try.underlying29 Try.underlying5 Try.underlying9 (Kd.own_of_R (Kd.R_drewN HO332.out n_))))) | (go_at_call 16; (with_reducible refine (mintagelaw13_num.calls t334 t354 _ A17.out).mono ?_); rintro e w' ⟨rfl, ⟨nd, rfl⟩⟩; have hcv24 := own_string (P := Try.prog) Try.underlying29 Try.underlying5 Try.underlying9 (Kd.own_of_R HO336.out); (try (have hcv24n := fun n_ => own_string (P := Try.prog) Try.underlying29 Try.underlying5 Try.underlying9 (Kd.own_of_R (Kd.R_drewN HO336.out n_))))) | (go_at_call 16; (with_reducible refine (mintagelaw13_num.calls t338 t355 _ A20.out).mono ?_); rintro e w' ⟨rfl, ⟨nd, rfl⟩⟩) | (go_at_call 16; (with_reducible refine (mintagelaw13_num.calls t342 t356 _ A22.out).mono ?_); rintro e w' ⟨rfl, ⟨nd, rfl⟩⟩))
              go_meet
              case rel => exact ⟨_, ((t356 == 131)), (by first | rfl | (simp; done) | (simp [*]; done) | (rw [e22_17]; simp [*]; done) | (rw [e22_20]; simp [*]; done) ), H', ⟨by first | omega | exact Nat.le_refl _⟩, ⟨by (with_reducible repeat (first | apply Kd.R_alloc | apply Kd.R_drewN | apply Kd.R_drew)); exact Kd.R_mono HO348.out (fun _ hk => trivial)⟩, ⟨by repeat (first | (with_reducible first | exact HB.out | apply below_alloc | apply pw_below_drewN | apply below_drew1) | exact HB.out)⟩⟩
            · rw [if_neg c21] at H
              have c21b0 : (t355 == 131) = false := beq_eq_false_iff_ne.mpr c21
              have c21b1 : (t355 != 131) = true := bne_iff_ne.mpr c21
              have H' := Aside0.mk H
              clear H
              go_wp2_with (first | ((with_reducible refine gate_callee (f := 16) rfl ?_); refine goesL_ (some 44) rfl rfl Try.func16 (by kernel_rfl) rfl #[.int .i64 t330] rfl (by (try simp only [List.map_toArray, List.map_cons, List.map_nil]); first | done | rfl | (simp only [List.length_drop, List.length_take]; rfl)) ?_; (with_reducible refine (mintagelaw13_num.calls t330 t353 _ A14.out).mono ?_); rintro e w' ⟨rfl, ⟨nd, rfl⟩⟩; refine ⟨_, rfl, ?_⟩; have hcv25 := own_string (P := Try.prog) Try.underlying29 Try.underlying5 Try.underlying9 (Kd.own_of_R HO332.out); (try (have hcv25n := fun n_ => own_string (P := Try.prog) Try.underlying29 Try.underlying5 Try.underlying9 (Kd.own_of_R (Kd.R_drewN HO332.out n_))))) | (go_at_call 16; (with_reducible refine (mintagelaw13_num.calls t334 t354 _ A17.out).mono ?_); rintro e w' ⟨rfl, ⟨nd, rfl⟩⟩; have hcv26 := own_string (P := Try.prog) Try.underlying29 Try.underlying5 Try.underlying9 (Kd.own_of_R HO336.out); (try (have hcv26n := fun n_ => own_string (P := Try.prog) Try.underlying29 Try.underlying5 Try.underlying9 (Kd.own_of_R (Kd.R_drewN HO336.out n_))))) | (go_at_call 16; (with_reducible refine (mintagelaw13_num.calls t338 t355 _ A20.out).mono ?_); rintro e w' ⟨rfl, ⟨nd, rfl⟩⟩))
              go_meet
              case rel => exact ⟨_, (false), (by first | rfl | (simp; done) | (simp [*]; done)), H', ⟨by first | omega | exact Nat.le_refl _⟩, ⟨by (with_reducible repeat (first | apply Kd.R_alloc | apply Kd.R_drewN | apply Kd.R_drew)); exact Kd.R_mono HO348.out (fun _ hk => trivial)⟩, ⟨by repeat (first | (with_reducible first | exact HB.out | apply below_alloc | apply pw_below_drewN | apply below_drew1) | exact HB.out)⟩⟩
          · rw [if_neg c19] at H
            have c19b0 : ((strOfNums t333).toList == ([57, 57, 57, 57, 45, 49, 50, 45, 51, 49] : List UInt8)) = false := beq_eq_false_iff_ne.mpr c19
            have c19b1 : ((strOfNums t333).toList != ([57, 57, 57, 57, 45, 49, 50, 45, 51, 49] : List UInt8)) = true := bne_iff_ne.mpr c19
            have H' := Aside0.mk H
            clear H
            go_wp2_with (first | ((with_reducible refine gate_callee (f := 16) rfl ?_); refine goesL_ (some 44) rfl rfl Try.func16 (by kernel_rfl) rfl #[.int .i64 t330] rfl (by (try simp only [List.map_toArray, List.map_cons, List.map_nil]); first | done | rfl | (simp only [List.length_drop, List.length_take]; rfl)) ?_; (with_reducible refine (mintagelaw13_num.calls t330 t353 _ A14.out).mono ?_); rintro e w' ⟨rfl, ⟨nd, rfl⟩⟩; refine ⟨_, rfl, ?_⟩; have hcv27 := own_string (P := Try.prog) Try.underlying29 Try.underlying5 Try.underlying9 (Kd.own_of_R HO332.out); (try (have hcv27n := fun n_ => own_string (P := Try.prog) Try.underlying29 Try.underlying5 Try.underlying9 (Kd.own_of_R (Kd.R_drewN HO332.out n_))))) | (go_at_call 16; (with_reducible refine (mintagelaw13_num.calls t334 t354 _ A17.out).mono ?_); rintro e w' ⟨rfl, ⟨nd, rfl⟩⟩; have hcv28 := own_string (P := Try.prog) Try.underlying29 Try.underlying5 Try.underlying9 (Kd.own_of_R HO336.out); (try (have hcv28n := fun n_ => own_string (P := Try.prog) Try.underlying29 Try.underlying5 Try.underlying9 (Kd.own_of_R (Kd.R_drewN HO336.out n_))))))
            go_meet
            case rel => exact ⟨_, (false), (by first | rfl | (simp; done) | (simp [*]; done)), H', ⟨by first | omega | exact Nat.le_refl _⟩, ⟨by (with_reducible repeat (first | apply Kd.R_alloc | apply Kd.R_drewN | apply Kd.R_drew)); exact Kd.R_mono HO348.out (fun _ hk => trivial)⟩, ⟨by repeat (first | (with_reducible first | exact HB.out | apply below_alloc | apply pw_below_drewN | apply below_drew1) | exact HB.out)⟩⟩
        · rw [if_neg c18] at H
          have c18b0 : (t354 == 0) = false := beq_eq_false_iff_ne.mpr c18
          have c18b1 : (t354 != 0) = true := bne_iff_ne.mpr c18
          have H' := Aside0.mk H
          clear H
          go_wp2_with (first | ((with_reducible refine gate_callee (f := 16) rfl ?_); refine goesL_ (some 44) rfl rfl Try.func16 (by kernel_rfl) rfl #[.int .i64 t330] rfl (by (try simp only [List.map_toArray, List.map_cons, List.map_nil]); first | done | rfl | (simp only [List.length_drop, List.length_take]; rfl)) ?_; (with_reducible refine (mintagelaw13_num.calls t330 t353 _ A14.out).mono ?_); rintro e w' ⟨rfl, ⟨nd, rfl⟩⟩; refine ⟨_, rfl, ?_⟩; have hcv29 := own_string (P := Try.prog) Try.underlying29 Try.underlying5 Try.underlying9 (Kd.own_of_R HO332.out); (try (have hcv29n := fun n_ => own_string (P := Try.prog) Try.underlying29 Try.underlying5 Try.underlying9 (Kd.own_of_R (Kd.R_drewN HO332.out n_))))) | (go_at_call 16; (with_reducible refine (mintagelaw13_num.calls t334 t354 _ A17.out).mono ?_); rintro e w' ⟨rfl, ⟨nd, rfl⟩⟩))
          go_meet
          case rel => exact ⟨_, (false), (by first | rfl | (simp; done) | (simp [*]; done)), H', ⟨by first | omega | exact Nat.le_refl _⟩, ⟨by (with_reducible repeat (first | apply Kd.R_alloc | apply Kd.R_drewN | apply Kd.R_drew)); exact Kd.R_mono HO348.out (fun _ hk => trivial)⟩, ⟨by repeat (first | (with_reducible first | exact HB.out | apply below_alloc | apply pw_below_drewN | apply below_drew1) | exact HB.out)⟩⟩
      · rw [if_neg c16] at H
        have c16b0 : ((strOfNums t329).toList == ([48, 48, 48, 48, 45, 48, 49, 45, 48, 49] : List UInt8)) = false := beq_eq_false_iff_ne.mpr c16
        have c16b1 : ((strOfNums t329).toList != ([48, 48, 48, 48, 45, 48, 49, 45, 48, 49] : List UInt8)) = true := bne_iff_ne.mpr c16
        have H' := Aside0.mk H
        clear H
        go_wp2_with (first | ((with_reducible refine gate_callee (f := 16) rfl ?_); refine goesL_ (some 44) rfl rfl Try.func16 (by kernel_rfl) rfl #[.int .i64 t330] rfl (by (try simp only [List.map_toArray, List.map_cons, List.map_nil]); first | done | rfl | (simp only [List.length_drop, List.length_take]; rfl)) ?_; (with_reducible refine (mintagelaw13_num.calls t330 t353 _ A14.out).mono ?_); rintro e w' ⟨rfl, ⟨nd, rfl⟩⟩; refine ⟨_, rfl, ?_⟩; have hcv30 := own_string (P := Try.prog) Try.underlying29 Try.underlying5 Try.underlying9 (Kd.own_of_R HO332.out); (try (have hcv30n := fun n_ => own_string (P := Try.prog) Try.underlying29 Try.underlying5 Try.underlying9 (Kd.own_of_R (Kd.R_drewN HO332.out n_))))))
        go_meet
        case rel => exact ⟨_, (false), (by first | rfl | (simp; done) | (simp [*]; done)), H', ⟨by first | omega | exact Nat.le_refl _⟩, ⟨by (with_reducible repeat (first | apply Kd.R_alloc | apply Kd.R_drewN | apply Kd.R_drew)); exact Kd.R_mono HO348.out (fun _ hk => trivial)⟩, ⟨by repeat (first | (with_reducible first | exact HB.out | apply below_alloc | apply pw_below_drewN | apply below_drew1) | exact HB.out)⟩⟩
    · rw [if_neg c15] at H
      have c15b0 : (t353 == 0) = false := beq_eq_false_iff_ne.mpr c15
      have c15b1 : (t353 != 0) = true := bne_iff_ne.mpr c15
      (first | rw [c15b0] | (simp only [i64_w, i32_w]; rw [c15b0]) | skip)
      have H' := Aside0.mk H
      clear H
      go_wp2_with (first | ((with_reducible refine gate_callee (f := 16) rfl ?_); refine goesL_ (some 44) rfl rfl Try.func16 (by kernel_rfl) rfl #[.int .i64 t330] rfl (by (try simp only [List.map_toArray, List.map_cons, List.map_nil]); first | done | rfl | (simp only [List.length_drop, List.length_take]; rfl)) ?_; (with_reducible refine (mintagelaw13_num.calls t330 t353 _ A14.out).mono ?_); rintro e w' ⟨rfl, ⟨nd, rfl⟩⟩; refine ⟨_, rfl, ?_⟩))
      go_meet
      case rel => exact ⟨_, (false), (by first | rfl | (simp; done) | (simp [*]; done)), H', ⟨by first | omega | exact Nat.le_refl _⟩, ⟨by (with_reducible repeat (first | apply Kd.R_alloc | apply Kd.R_drewN | apply Kd.R_drew)); exact Kd.R_mono HO348.out (fun _ hk => trivial)⟩, ⟨by repeat (first | (with_reducible first | exact HB.out | apply below_alloc | apply pw_below_drewN | apply below_drew1) | exact HB.out)⟩⟩
  case rest =>
    clear HC7
    try clear c1
    try clear c2
    try clear p2
    try clear hcv2
    try clear hcv3
    try clear c6
    try clear c10
    try clear c13
    try clear c15
    try clear c15b0
    try clear c15b1
    try clear c16
    try clear c16b0
    try clear c16b1
    try clear c18
    try clear c18b0
    try clear c18b1
    try clear c19
    try clear c19b0
    try clear c19b1
    try clear c21
    try clear c21b0
    try clear c21b1
    try clear hcv23
    try clear hcv24
    try clear hcv25
    try clear hcv26
    try clear hcv27
    try clear hcv28
    try clear hcv29
    try clear hcv30
    obtain ⟨kq, x13_6, rfl, HA, HJ6, HO_9, HB⟩ := hcut
    cases kq with
    | zero => exact absurd HA.out (by simp [mintagelaw13_DateEnds.j0])
    | succ kj6 =>
      have H := HA.out
      clear HA
      simp only [mintagelaw13_DateEnds.j0] at H
      have HC31 := Aside0.mk H
      clear H
      go_upto_region 8 with (fail)
      go_cut [14] (fun v14 wc => ∃ (kq : Nat) (x14_30 : Bool), v14 = .bool x14_30 ∧ Aside0 (mintagelaw13_DateEnds.j1 kq x13_6 x14_30 = some r) ∧ Aside0 (kq ≤ kj6) ∧ Aside0 (Below w.heap.size w wc))
      case first =>
        have H := HC31.out
        clear HC31
        replace H := Option.bind_eq_some_iff.mp H
        obtain ⟨t357, A320, H⟩ := H
        replace H : (if t357 = 0 then (if (strOfNums t345).toList = ([57, 57, 57, 57, 45, 49, 50, 45, 51, 49, 84, 50, 51, 58, 53, 57, 58, 53, 57, 46, 57, 57, 57, 57, 57, 57] : List UInt8) then ((mintagelaw13_num.f t350).bind fun t358 => (mintagelaw13_DateEnds.j1 kj6 x13_6 (t358 == 131))) else (mintagelaw13_DateEnds.j1 kj6 x13_6 false)) else (mintagelaw13_DateEnds.j1 kj6 x13_6 false)) = some r := H
        have A32 := Aside0.mk A320
        clear A320
        by_cases c33 : t357 = 0
        · rw [if_pos c33] at H
          have c33b0 : (t357 == 0) = true := beq_iff_eq.mpr c33
          have c33b1 : (t357 != 0) = false := bne_eq_false_iff_eq.mpr c33
          clear c33
          (first | rw [c33b0] | (simp only [i64_w, i32_w]; rw [c33b0]) | skip)
          by_cases c34 : (strOfNums t345).toList = ([57, 57, 57, 57, 45, 49, 50, 45, 51, 49, 84, 50, 51, 58, 53, 57, 58, 53, 57, 46, 57, 57, 57, 57, 57, 57] : List UInt8)
          · rw [if_pos c34] at H
            have c34b0 : ((strOfNums t345).toList == ([57, 57, 57, 57, 45, 49, 50, 45, 51, 49, 84, 50, 51, 58, 53, 57, 58, 53, 57, 46, 57, 57, 57, 57, 57, 57] : List UInt8)) = true := beq_iff_eq.mpr c34
            have c34b1 : ((strOfNums t345).toList != ([57, 57, 57, 57, 45, 49, 50, 45, 51, 49, 84, 50, 51, 58, 53, 57, 58, 53, 57, 46, 57, 57, 57, 57, 57, 57] : List UInt8)) = false := bne_eq_false_iff_eq.mpr c34
            clear c34
            replace H := Option.bind_eq_some_iff.mp H
            obtain ⟨t358, A350, H⟩ := H
            replace H : (mintagelaw13_DateEnds.j1 kj6 x13_6 (t358 == 131)) = some r := H
            have A35 := Aside0.mk A350
            (try (have e35_17 := Option.some.inj (A350.symm.trans A17.out)))
            (try (have e35_32 := Option.some.inj (A350.symm.trans A32.out)))
            clear A350
            have H' := Aside0.mk H
            clear H
            go_wp2_with (first | ((with_reducible refine gate_callee (f := 16) rfl ?_); refine goesL_ (some 72) rfl rfl Try.func16 (by kernel_rfl) rfl #[.int .i64 t346] rfl (by (try simp only [List.map_toArray, List.map_cons, List.map_nil]); first | done | rfl | (simp only [List.length_drop, List.length_take]; rfl)) ?_; (with_reducible refine (mintagelaw13_num.calls t346 t357 _ A32.out).mono ?_); rintro e w' ⟨rfl, ⟨nd, rfl⟩⟩; refine ⟨_, rfl, ?_⟩; have hcv36 := own_string (P := Try.prog) Try.underlying29 Try.underlying5 Try.underlying9 (Kd.own_of_R HO_9.out); (try (have hcv36n := fun n_ => own_string (P := Try.prog) Try.underlying29 Try.underlying5 Try.underlying9 (Kd.own_of_R (Kd.R_drewN HO_9.out n_))))) | (go_at_call 16; (with_reducible refine (mintagelaw13_num.calls t350 t358 _ A35.out).mono ?_); rintro e w' ⟨rfl, ⟨nd, rfl⟩⟩))
            go_meet
            case rel => exact ⟨_, ((t358 == 131)), (by first | rfl | (simp; done) | (simp [*]; done) | (rw [e35_17]; simp [*]; done) | (rw [e35_32]; simp [*]; done) ), H', ⟨by have := HJ6.out; first | omega | exact Nat.le_refl _⟩, ⟨by repeat (first | (with_reducible first | exact HB.out | apply below_alloc | apply pw_below_drewN | apply below_drew1) | exact HB.out)⟩⟩
          · rw [if_neg c34] at H
            have c34b0 : ((strOfNums t345).toList == ([57, 57, 57, 57, 45, 49, 50, 45, 51, 49, 84, 50, 51, 58, 53, 57, 58, 53, 57, 46, 57, 57, 57, 57, 57, 57] : List UInt8)) = false := beq_eq_false_iff_ne.mpr c34
            have c34b1 : ((strOfNums t345).toList != ([57, 57, 57, 57, 45, 49, 50, 45, 51, 49, 84, 50, 51, 58, 53, 57, 58, 53, 57, 46, 57, 57, 57, 57, 57, 57] : List UInt8)) = true := bne_iff_ne.mpr c34
            have H' := Aside0.mk H
            clear H
            go_wp2_with (first | ((with_reducible refine gate_callee (f := 16) rfl ?_); refine goesL_ (some 72) rfl rfl Try.func16 (by kernel_rfl) rfl #[.int .i64 t346] rfl (by (try simp only [List.map_toArray, List.map_cons, List.map_nil]); first | done | rfl | (simp only [List.length_drop, List.length_take]; rfl)) ?_; (with_reducible refine (mintagelaw13_num.calls t346 t357 _ A32.out).mono ?_); rintro e w' ⟨rfl, ⟨nd, rfl⟩⟩; refine ⟨_, rfl, ?_⟩; have hcv37 := own_string (P := Try.prog) Try.underlying29 Try.underlying5 Try.underlying9 (Kd.own_of_R HO_9.out); (try (have hcv37n := fun n_ => own_string (P := Try.prog) Try.underlying29 Try.underlying5 Try.underlying9 (Kd.own_of_R (Kd.R_drewN HO_9.out n_))))))
            go_meet
            case rel => exact ⟨_, (false), (by first | rfl | (simp; done) | (simp [*]; done)), H', ⟨by have := HJ6.out; first | omega | exact Nat.le_refl _⟩, ⟨by repeat (first | (with_reducible first | exact HB.out | apply below_alloc | apply pw_below_drewN | apply below_drew1) | exact HB.out)⟩⟩
        · rw [if_neg c33] at H
          have c33b0 : (t357 == 0) = false := beq_eq_false_iff_ne.mpr c33
          have c33b1 : (t357 != 0) = true := bne_iff_ne.mpr c33
          (first | rw [c33b0] | (simp only [i64_w, i32_w]; rw [c33b0]) | skip)
          have H' := Aside0.mk H
          clear H
          go_wp2_with (first | ((with_reducible refine gate_callee (f := 16) rfl ?_); refine goesL_ (some 72) rfl rfl Try.func16 (by kernel_rfl) rfl #[.int .i64 t346] rfl (by (try simp only [List.map_toArray, List.map_cons, List.map_nil]); first | done | rfl | (simp only [List.length_drop, List.length_take]; rfl)) ?_; (with_reducible refine (mintagelaw13_num.calls t346 t357 _ A32.out).mono ?_); rintro e w' ⟨rfl, ⟨nd, rfl⟩⟩; refine ⟨_, rfl, ?_⟩))
          go_meet
          case rel => exact ⟨_, (false), (by first | rfl | (simp; done) | (simp [*]; done)), H', ⟨by have := HJ6.out; first | omega | exact Nat.le_refl _⟩, ⟨by repeat (first | (with_reducible first | exact HB.out | apply below_alloc | apply pw_below_drewN | apply below_drew1) | exact HB.out)⟩⟩
      case rest =>
        clear HC31
        try clear c1
        try clear c2
        try clear p2
        try clear hcv2
        try clear c3
        try clear hcv3
        try clear c6
        try clear c10
        try clear c13
        try clear c15
        try clear c15b0
        try clear c15b1
        try clear c16
        try clear c16b0
        try clear c16b1
        try clear c18
        try clear c18b0
        try clear c18b1
        try clear c19
        try clear c19b0
        try clear c19b1
        try clear c21
        try clear c21b0
        try clear c21b1
        try clear hcv23
        try clear hcv24
        try clear hcv25
        try clear hcv26
        try clear hcv27
        try clear hcv28
        try clear hcv29
        try clear hcv30
        try clear c33
        try clear c33b0
        try clear c33b1
        try clear c34
        try clear c34b0
        try clear c34b1
        try clear hcv36
        try clear hcv37
        try clear p2
        obtain ⟨kq, x14_30, rfl, HA, HJ30, HB⟩ := hcut
        cases kq with
        | zero => exact absurd HA.out (by simp [mintagelaw13_DateEnds.j1])
        | succ kj30 =>
          have H := HA.out
          clear HA
          simp only [mintagelaw13_DateEnds.j1] at H
          have H' := Aside0.mk H
          clear H
          go_wp2
          go_loopg [15, 16] kj30 (fun kq v15 v16 w' => ∃ (x15_3 : Int) (x16_3 : Int), v15 = .int .i64 x15_3 ∧ v16 = .int .i64 x16_3 ∧ Aside0 (mintagelaw13_DateEnds.l0 kq x13_6 x14_30 x15_3 x16_3 = some r) ∧ Aside0 (kq ≤ kj30) ∧ Aside0 (Below w.heap.size w w'))
          case atStart => exact ⟨(0), (0), (by first | rfl | (simp; done) | (simp [*]; done)), (by first | rfl | (simp; done) | (simp [*]; done)), H', ⟨Nat.le_refl _⟩, ⟨by repeat (first | (with_reducible first | exact HB.out | apply below_alloc | apply pw_below_drewN | apply below_drew1) | exact HB.out)⟩⟩
          case round =>
            clear H'
            try clear c1
            try clear c2
            try clear p2
            try clear hcv2
            try clear c3
            try clear hcv3
            try clear c6
            try clear c10
            try clear c13
            try clear c15
            try clear c15b0
            try clear c15b1
            try clear c16
            try clear c16b0
            try clear c16b1
            try clear c18
            try clear c18b0
            try clear c18b1
            try clear c19
            try clear c19b0
            try clear c19b1
            try clear c21
            try clear c21b0
            try clear c21b1
            try clear hcv23
            try clear hcv24
            try clear hcv25
            try clear hcv26
            try clear hcv27
            try clear hcv28
            try clear hcv29
            try clear hcv30
            try clear c33
            try clear c33b0
            try clear c33b1
            try clear c34
            try clear c34b0
            try clear c34b1
            try clear hcv36
            try clear hcv37
            try clear p2
            obtain ⟨x15_3, x16_3, rfl, rfl, HA, HK3, HB⟩ := hrel
            cases gk with
            | zero => exact absurd HA.out (by simp [mintagelaw13_DateEnds.l0])
            | succ k3 =>
              have H := HA.out
              clear HA
              simp only [mintagelaw13_DateEnds.l0] at H
              by_cases c38 : x16_3 < 10000
              · rw [if_pos c38] at H
                have c38b0 : decide (x16_3 < 10000) = true := decide_eq_true c38
                clear c38
                have H' := Aside0.mk H
                clear H
                go_wp2
                go_loopg [15, 17] k3 (fun kq v15 v17 w' => ∃ (x15_4 : Int) (x17_4 : Int), v15 = .int .i64 x15_4 ∧ v17 = .int .i64 x17_4 ∧ Aside0 (mintagelaw13_DateEnds.l1 kq x13_6 x14_30 x15_4 x16_3 x17_4 = some r) ∧ Aside0 (kq ≤ k3) ∧ Aside0 (Below w.heap.size w w'))
                case atStart => exact ⟨(x15_3), (0), (by first | rfl | (simp; done) | (simp [*]; done)), (by first | rfl | (simp; done) | (simp [*]; done)), H', ⟨Nat.le_refl _⟩, ⟨by repeat (first | (with_reducible first | exact HB.out | apply below_alloc | apply pw_below_drewN | apply below_drew1) | exact HB.out)⟩⟩
                case round =>
                  clear H'
                  try clear c1
                  try clear c2
                  try clear p2
                  try clear hcv2
                  try clear c3
                  try clear hcv3
                  try clear c6
                  try clear c10
                  try clear c13
                  try clear c15
                  try clear c15b0
                  try clear c15b1
                  try clear c16
                  try clear c16b0
                  try clear c16b1
                  try clear c18
                  try clear c18b0
                  try clear c18b1
                  try clear c19
                  try clear c19b0
                  try clear c19b1
                  try clear c21
                  try clear c21b0
                  try clear c21b1
                  try clear hcv23
                  try clear hcv24
                  try clear hcv25
                  try clear hcv26
                  try clear hcv27
                  try clear hcv28
                  try clear hcv29
                  try clear hcv30
                  try clear c33
                  try clear c33b0
                  try clear c33b1
                  try clear c34
                  try clear c34b0
                  try clear c34b1
                  try clear hcv36
                  try clear hcv37
                  try clear c38
                  try clear c38b0
                  try clear p2
                  obtain ⟨x15_4, x17_4, rfl, rfl, HA, HK4, HB⟩ := hrel
                  cases gk with
                  | zero => exact absurd HA.out (by simp [mintagelaw13_DateEnds.l1])
                  | succ k4 =>
                    have H := HA.out
                    clear HA
                    simp only [mintagelaw13_DateEnds.l1] at H
                    by_cases c39 : x17_4 < 400
                    · rw [if_pos c39] at H
                      have c39b0 : decide (x17_4 < 400) = true := decide_eq_true c39
                      clear c39
                      have H' := Aside0.mk H
                      clear H
                      go_wp2
                      go_loopg [15, 18] k4 (fun kq v15 v18 w' => ∃ (x15_5 : Int) (x18_5 : Int), v15 = .int .i64 x15_5 ∧ v18 = .int .i64 x18_5 ∧ Aside0 (mintagelaw13_DateEnds.l2 kq x13_6 x14_30 x15_5 x16_3 x17_4 x18_5 = some r) ∧ Aside0 (kq ≤ k4) ∧ Aside0 (Below w.heap.size w w'))
                      case atStart => exact ⟨(x15_4), (1), (by first | rfl | (simp; done) | (simp [*]; done)), (by first | rfl | (simp; done) | (simp [*]; done)), H', ⟨Nat.le_refl _⟩, ⟨by repeat (first | (with_reducible first | exact HB.out | apply below_alloc | apply pw_below_drewN | apply below_drew1) | exact HB.out)⟩⟩
                      case round =>
                        clear H'
                        try clear c1
                        try clear c2
                        try clear p2
                        try clear hcv2
                        try clear c3
                        try clear hcv3
                        try clear c6
                        try clear c10
                        try clear c13
                        try clear c15
                        try clear c15b0
                        try clear c15b1
                        try clear c16
                        try clear c16b0
                        try clear c16b1
                        try clear c18
                        try clear c18b0
                        try clear c18b1
                        try clear c19
                        try clear c19b0
                        try clear c19b1
                        try clear c21
                        try clear c21b0
                        try clear c21b1
                        try clear hcv23
                        try clear hcv24
                        try clear hcv25
                        try clear hcv26
                        try clear hcv27
                        try clear hcv28
                        try clear hcv29
                        try clear hcv30
                        try clear c33
                        try clear c33b0
                        try clear c33b1
                        try clear c34
                        try clear c34b0
                        try clear c34b1
                        try clear hcv36
                        try clear hcv37
                        try clear c38
                        try clear c38b0
                        try clear c39
                        try clear c39b0
                        try clear p2
                        obtain ⟨x15_5, x18_5, rfl, rfl, HA, HK5, HB⟩ := hrel
                        cases gk with
                        | zero => exact absurd HA.out (by simp [mintagelaw13_DateEnds.l2])
                        | succ k5 =>
                          have H := HA.out
                          clear HA
                          simp only [mintagelaw13_DateEnds.l2] at H
                          by_cases c40 : x18_5 ≤ 12
                          · rw [if_pos c40] at H
                            have c40b0 : decide (x18_5 ≤ 12) = true := decide_eq_true c40
                            clear c40
                            replace H := Option.bind_eq_some_iff.mp H
                            obtain ⟨t359, A410, H⟩ := H
                            replace H : (mintagelaw13_DateEnds.l2 k5 x13_6 x14_30 (wrap64 (x15_5 + t359)) x16_3 x17_4 (wrap64 (x18_5 + 1))) = some r := H
                            have A41 := Aside0.mk A410
                            (try (have e41_32 := Option.some.inj (A410.symm.trans A32.out)))
                            (try (have e41_35 := Option.some.inj (A410.symm.trans A35.out)))
                            clear A410
                            have H' := Aside0.mk H
                            clear H
                            go_wp2_with (first | ((with_reducible refine gate_callee (f := 20) rfl ?_); refine goesL_ (some 101) rfl rfl Try.func20 (by kernel_rfl) rfl #[.int .i64 (wrap64 (x16_3 + x17_4)), .int .i64 x18_5] rfl (by (try simp only [List.map_toArray, List.map_cons, List.map_nil]); first | done | rfl | (simp only [List.length_drop, List.length_take]; rfl)) ?_; (with_reducible refine (date_Length.calls (wrap64 (x16_3 + x17_4)) x18_5 t359 _ A41.out).mono ?_); rintro e w42 ⟨rfl, hb⟩; refine ⟨_, rfl, ?_⟩; have n0_ := Aside0.mk (below_step (by repeat (first | (with_reducible first | exact HB.out | apply below_alloc | apply pw_below_drewN | apply below_drew1) | exact HB.out)) hb); clear HB; have HB := n0_; clear n0_; (try clear hb); (try clear hb2); (try clear hk); (try clear hi)))
                            go_roundg k5
                            case measure => have := HJ6.out; have := HJ30.out; have := HK3.out; have := HK4.out; have := HK5.out; omega
                            case rel => exact ⟨(wrap64 (x15_5 + t359)), (wrap64 (x18_5 + 1)), (by first | rfl | (simp; done) | (simp [*]; done) | (rw [e41_32]; simp [*]; done) | (rw [e41_35]; simp [*]; done) ), (by first | rfl | (simp; done) | (simp [*]; done)), H', ⟨by have := HJ6.out; have := HJ30.out; have := HK3.out; have := HK4.out; have := HK5.out; omega⟩, ⟨by repeat (first | (with_reducible first | exact HB.out | apply below_alloc | apply pw_below_drewN | apply below_drew1) | exact HB.out)⟩⟩
                          · rw [if_neg c40] at H
                            have c40b0 : decide (x18_5 ≤ 12) = false := decide_eq_false c40
                            clear c40
                            have H' := Aside0.mk H
                            clear H
                            go_wp2
                            go_roundg k5
                            case measure => have := HJ6.out; have := HJ30.out; have := HK3.out; have := HK4.out; have := HK5.out; omega
                            case rel => exact ⟨(x15_5), (wrap64 (x17_4 + 1)), (by first | rfl | (simp; done) | (simp [*]; done)), (by first | rfl | (simp; done) | (simp [*]; done)), H', ⟨by have := HJ6.out; have := HJ30.out; have := HK3.out; have := HK4.out; have := HK5.out; omega⟩, ⟨by repeat (first | (with_reducible first | exact HB.out | apply below_alloc | apply pw_below_drewN | apply below_drew1) | exact HB.out)⟩⟩
                    · rw [if_neg c39] at H
                      have c39b0 : decide (x17_4 < 400) = false := decide_eq_false c39
                      clear c39
                      have H' := Aside0.mk H
                      clear H
                      go_wp2
                      go_roundg k4
                      case measure => have := HJ6.out; have := HJ30.out; have := HK3.out; have := HK4.out; omega
                      case rel => exact ⟨(x15_4), (wrap64 (x16_3 + 400)), (by first | rfl | (simp; done) | (simp [*]; done)), (by first | rfl | (simp; done) | (simp [*]; done)), H', ⟨by have := HJ6.out; have := HJ30.out; have := HK3.out; have := HK4.out; omega⟩, ⟨by repeat (first | (with_reducible first | exact HB.out | apply below_alloc | apply pw_below_drewN | apply below_drew1) | exact HB.out)⟩⟩
              · rw [if_neg c38] at H
                have c38b0 : decide (x16_3 < 10000) = false := decide_eq_false c38
                clear c38
                by_cases c43 : x13_6 = true
                · subst c43
                  have H1 : (if x14_30 = true then (if x15_3 = 3652425 then ((date_Length.f 10000 1).bind fun t360 => (if t360 = 0 then ((date_Length.f 5 13).bind fun t361 => (if t361 = 0 then ((date_Leap.f (-4)).bind fun t362 => (if t362 = true then (some false) else ((date_Leap.f 0).bind fun t363 => (if t363 = true then ((date_Leap.f 10000).bind fun t364 => (if t364 = true then (some false) else ((mintagelaw13_wakes.f).bind fun t365 => (some t365)))) else (some false))))) else (some false))) else (some false))) else (some false)) else (some false)) = some r := by rw [if_pos rfl] at H; exact H
                  clear H
                  have H := H1
                  clear H1
                  by_cases c44 : x14_30 = true
                  · subst c44
                    have H1 : (if x15_3 = 3652425 then ((date_Length.f 10000 1).bind fun t360 => (if t360 = 0 then ((date_Length.f 5 13).bind fun t361 => (if t361 = 0 then ((date_Leap.f (-4)).bind fun t362 => (if t362 = true then (some false) else ((date_Leap.f 0).bind fun t363 => (if t363 = true then ((date_Leap.f 10000).bind fun t364 => (if t364 = true then (some false) else ((mintagelaw13_wakes.f).bind fun t365 => (some t365)))) else (some false))))) else (some false))) else (some false))) else (some false)) = some r := by rw [if_pos rfl] at H; exact H
                    clear H
                    have H := H1
                    clear H1
                    by_cases c45 : x15_3 = 3652425
                    · rw [if_pos c45] at H
                      have c45b0 : (x15_3 == 3652425) = true := beq_iff_eq.mpr c45
                      have c45b1 : (x15_3 != 3652425) = false := bne_eq_false_iff_eq.mpr c45
                      clear c45
                      replace H := Option.bind_eq_some_iff.mp H
                      obtain ⟨t360, A460, H⟩ := H
                      replace H : (if t360 = 0 then ((date_Length.f 5 13).bind fun t361 => (if t361 = 0 then ((date_Leap.f (-4)).bind fun t362 => (if t362 = true then (some false) else ((date_Leap.f 0).bind fun t363 => (if t363 = true then ((date_Leap.f 10000).bind fun t364 => (if t364 = true then (some false) else ((mintagelaw13_wakes.f).bind fun t365 => (some t365)))) else (some false))))) else (some false))) else (some false)) = some r := H
                      have A46 := Aside0.mk A460
                      clear A460
                      by_cases c47 : t360 = 0
                      · rw [if_pos c47] at H
                        have c47b0 : (t360 == 0) = true := beq_iff_eq.mpr c47
                        have c47b1 : (t360 != 0) = false := bne_eq_false_iff_eq.mpr c47
                        clear c47
                        replace H := Option.bind_eq_some_iff.mp H
                        obtain ⟨t361, A480, H⟩ := H
                        replace H : (if t361 = 0 then ((date_Leap.f (-4)).bind fun t362 => (if t362 = true then (some false) else ((date_Leap.f 0).bind fun t363 => (if t363 = true then ((date_Leap.f 10000).bind fun t364 => (if t364 = true then (some false) else ((mintagelaw13_wakes.f).bind fun t365 => (some t365)))) else (some false))))) else (some false)) = some r := H
                        have A48 := Aside0.mk A480
                        clear A480
                        by_cases c49 : t361 = 0
                        · rw [if_pos c49] at H
                          have c49b0 : (t361 == 0) = true := beq_iff_eq.mpr c49
                          have c49b1 : (t361 != 0) = false := bne_eq_false_iff_eq.mpr c49
                          clear c49
                          replace H := Option.bind_eq_some_iff.mp H
                          obtain ⟨t362, A500, H⟩ := H
                          replace H : (if t362 = true then (some false) else ((date_Leap.f 0).bind fun t363 => (if t363 = true then ((date_Leap.f 10000).bind fun t364 => (if t364 = true then (some false) else ((mintagelaw13_wakes.f).bind fun t365 => (some t365)))) else (some false)))) = some r := H
                          have A50 := Aside0.mk A500
                          clear A500
                          by_cases c51 : t362 = true
                          · subst c51
                            have H1 : (some false) = some r := by rw [if_pos rfl] at H; exact H
                            clear H
                            have H := H1
                            clear H1
                            exact absurd ((Option.some.inj H).trans HT.out) (by decide)
                          · replace c51 := Bool.eq_false_iff.mpr c51
                            subst c51
                            have H1 : ((date_Leap.f 0).bind fun t363 => (if t363 = true then ((date_Leap.f 10000).bind fun t364 => (if t364 = true then (some false) else ((mintagelaw13_wakes.f).bind fun t365 => (some t365)))) else (some false))) = some r := by rw [if_neg (show ¬ (false = true) by decide)] at H; exact H
                            clear H
                            have H := H1
                            clear H1
                            replace H := Option.bind_eq_some_iff.mp H
                            obtain ⟨t363, A520, H⟩ := H
                            replace H : (if t363 = true then ((date_Leap.f 10000).bind fun t364 => (if t364 = true then (some false) else ((mintagelaw13_wakes.f).bind fun t365 => (some t365)))) else (some false)) = some r := H
                            have A52 := Aside0.mk A520
                            clear A520
                            by_cases c53 : t363 = true
                            · subst c53
                              have H1 : ((date_Leap.f 10000).bind fun t364 => (if t364 = true then (some false) else ((mintagelaw13_wakes.f).bind fun t365 => (some t365)))) = some r := by rw [if_pos rfl] at H; exact H
                              clear H
                              have H := H1
                              clear H1
                              replace H := Option.bind_eq_some_iff.mp H
                              obtain ⟨t364, A540, H⟩ := H
                              replace H : (if t364 = true then (some false) else ((mintagelaw13_wakes.f).bind fun t365 => (some t365))) = some r := H
                              have A54 := Aside0.mk A540
                              clear A540
                              by_cases c55 : t364 = true
                              · subst c55
                                have H1 : (some false) = some r := by rw [if_pos rfl] at H; exact H
                                clear H
                                have H := H1
                                clear H1
                                exact absurd ((Option.some.inj H).trans HT.out) (by decide)
                              · replace c55 := Bool.eq_false_iff.mpr c55
                                subst c55
                                have H1 : ((mintagelaw13_wakes.f).bind fun t365 => (some t365)) = some r := by rw [if_neg (show ¬ (false = true) by decide)] at H; exact H
                                clear H
                                have H := H1
                                clear H1
                                replace H := Option.bind_eq_some_iff.mp H
                                obtain ⟨t365, A560, H⟩ := H
                                replace H : (some t365) = some r := H
                                have A56 := Aside0.mk A560
                                clear A560
                                obtain rfl := Option.some.inj H
                                go_wp2_with (first | (go_at_call 20; (with_reducible refine (date_Length.calls 10000 1 t360 _ A46.out).mono ?_); rintro e w57 ⟨rfl, hb⟩; have n0_ := Aside0.mk (below_step (by repeat (first | (with_reducible first | exact HB.out | apply below_alloc | apply pw_below_drewN | apply below_drew1) | exact HB.out)) hb); clear HB; have HB := n0_; clear n0_; (try clear hb); (try clear hb2); (try clear hk); (try clear hi)) | (go_at_call 20; (with_reducible refine (date_Length.calls 5 13 t361 _ A48.out).mono ?_); rintro e w58 ⟨rfl, hb⟩; have n0_ := Aside0.mk (below_step (by repeat (first | (with_reducible first | exact HB.out | apply below_alloc | apply pw_below_drewN | apply below_drew1) | exact HB.out)) hb); clear HB; have HB := n0_; clear n0_; (try clear hb); (try clear hb2); (try clear hk); (try clear hi)) | (go_at_call 21; (with_reducible refine (date_Leap.calls (-4) false _ A50.out).mono ?_); rintro e w' ⟨rfl, ⟨nd, rfl⟩⟩) | (go_at_call 21; (with_reducible refine (date_Leap.calls 0 true _ A52.out).mono ?_); rintro e w' ⟨rfl, ⟨nd, rfl⟩⟩) | (go_at_call 21; (with_reducible refine (date_Leap.calls 10000 false _ A54.out).mono ?_); rintro e w' ⟨rfl, ⟨nd, rfl⟩⟩) | (go_at_call 18; (with_reducible refine (mintagelaw13_wakes.calls  t365 _ A56.out).mono ?_); rintro e w59 ⟨rfl, hb⟩; have n0_ := Aside0.mk (below_step (by repeat (first | (with_reducible first | exact HB.out | apply below_alloc | apply pw_below_drewN | apply below_drew1) | exact HB.out)) hb); clear HB; have HB := n0_; clear n0_; (try clear hb); (try clear hb2); (try clear hk); (try clear hi)))
                                go_ret
                                exact ⟨by first | rfl | (simp [errW_none, errW_some] <;> rfl) | (simp [*, errW_none, errW_some] <;> rfl), by repeat (first | (with_reducible first | exact HB.out | apply below_alloc | apply pw_below_drewN | apply below_drew1) | exact HB.out)⟩
                            · replace c53 := Bool.eq_false_iff.mpr c53
                              subst c53
                              have H1 : (some false) = some r := by rw [if_neg (show ¬ (false = true) by decide)] at H; exact H
                              clear H
                              have H := H1
                              clear H1
                              exact absurd ((Option.some.inj H).trans HT.out) (by decide)
                        · rw [if_neg c49] at H
                          have c49b0 : (t361 == 0) = false := beq_eq_false_iff_ne.mpr c49
                          have c49b1 : (t361 != 0) = true := bne_iff_ne.mpr c49
                          exact absurd ((Option.some.inj H).trans HT.out) (by decide)
                      · rw [if_neg c47] at H
                        have c47b0 : (t360 == 0) = false := beq_eq_false_iff_ne.mpr c47
                        have c47b1 : (t360 != 0) = true := bne_iff_ne.mpr c47
                        exact absurd ((Option.some.inj H).trans HT.out) (by decide)
                    · rw [if_neg c45] at H
                      have c45b0 : (x15_3 == 3652425) = false := beq_eq_false_iff_ne.mpr c45
                      have c45b1 : (x15_3 != 3652425) = true := bne_iff_ne.mpr c45
                      exact absurd ((Option.some.inj H).trans HT.out) (by decide)
                  · replace c44 := Bool.eq_false_iff.mpr c44
                    subst c44
                    have H1 : (some false) = some r := by rw [if_neg (show ¬ (false = true) by decide)] at H; exact H
                    clear H
                    have H := H1
                    clear H1
                    exact absurd ((Option.some.inj H).trans HT.out) (by decide)
                · replace c43 := Bool.eq_false_iff.mpr c43
                  subst c43
                  have H1 : (some false) = some r := by rw [if_neg (show ¬ (false = true) by decide)] at H; exact H
                  clear H
                  have H := H1
                  clear H1
                  exact absurd ((Option.some.inj H).trans HT.out) (by decide)

/-- THE ONE PURE STATEMENT of mintagelaw13_DateEnds: yours. -/
def mintagelaw13_DateEnds.Pure : Prop := ∃ k, mintagelaw13_DateEnds.f k  = some true
theorem mintagelaw13_DateEnds.walk (P : mintagelaw13_DateEnds.Pure)  (w : World)  :
    Calls Try.prog 6 #[] w fun e w' => e = .returned (.bool true) ∧ Below w.heap.size w w' := by
  obtain ⟨k, h⟩ := P  
  refine (mintagelaw13_DateEnds.calls k  true w h rfl).mono ?_
  rintro e w' ⟨rfl, hd⟩
  exact ⟨rfl, hd⟩

end Go.Proofs.Ytobgpdmiiipmmaa.Q
