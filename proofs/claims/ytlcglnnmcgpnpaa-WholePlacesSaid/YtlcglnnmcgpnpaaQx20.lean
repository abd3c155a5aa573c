-- PRINTED by print.py (a twelfth state) out of the translation. Not trusted: Lean checks it.
import Derived.Test.YtlcglnnmcgpnpaaQx0
import Derived.Test.YtlcglnnmcgpnpaaQx4
import Derived.Test.YtlcglnnmcgpnpaaQx17
import Derived.Test.YtlcglnnmcgpnpaaQx19
namespace Go.Proofs.Ytlcglnnmcgpnpaa.Q
open Go.RowKit Go.Proofs.YtlcglnnmcgpnpaaW.PrintWords Go.Proofs.YtlcglnnmcgpnpaaW.PrintLast Go.Proofs.YtlcglnnmcgpnpaaW.PrintMore
attribute [local go_sem] max2_int min2_int max_two min_two max_three min_three max_four min_four   -- for this text's walks alone
set_option linter.unusedVariables false
set_option linter.unusedSimpArgs false

/-! ### mintagelaw05_WholePlaces: function 4 -/
mutual
def mintagelaw05_WholePlaces.j0 : Nat → List Int → List Int → Int → Int → List Int → Bool → Option (Bool)
  | 0, _, _, _, _, _, _ => none
  | k + 1, x1, x2, x3, x9, x10, x36 => if x36 = true then (if x10.length < 140737488355328 then (mintagelaw05_WholePlaces.j1 k x1 x2 x3 x9 (x10 ++ [45])) else (none)) else (mintagelaw05_WholePlaces.j1 k x1 x2 x3 x9 x10)
def mintagelaw05_WholePlaces.j1 : Nat → List Int → List Int → Int → Int → List Int → Option (Bool)
  | 0, _, _, _, _, _ => none
  | k + 1, x1, x2, x3, x9, x10 => mintagelaw05_WholePlaces.l0 k x1 x2 x3 x9 x10 0
def mintagelaw05_WholePlaces.j3 : Nat → List Int → Int → Int → List Int → Option (Bool)
  | 0, _, _, _, _ => none
  | k + 1, x2, x3, x9, x10 => if (x10.length : Int) > 0 then (if 0 < (x10.length : Int) then (mintagelaw05_WholePlaces.j4 k x2 x3 x9 x10 ((rd x10 0) == 45)) else (none)) else (mintagelaw05_WholePlaces.j4 k x2 x3 x9 x10 false)
def mintagelaw05_WholePlaces.j4 : Nat → List Int → Int → Int → List Int → Bool → Option (Bool)
  | 0, _, _, _, _, _ => none
  | k + 1, x2, x3, x9, x10, x12 => (whole_Parse.f k x9 x10).bind fun bt282 => ((mintagelaw05_num.f bt282.2.2).bind fun t285 => (if t285 = 53 then (if 0 ≤ bt282.2.1 then (if bt282.2.1 ≤ (x10.length : Int) then ((whole_Parse.f k x9 (x10.take (bt282.2.1 : Int).toNat)).bind fun bt295 => ((mintagelaw05_num.f bt295.2.2).bind fun t298 => (if t298 = 0 then (if bt295.2.1 = 0 then (mintagelaw05_WholePlaces.j5 k x2 x3 x9 x10 bt282.2.1 false) else ((mintagelaw05_num.f bt295.2.2).bind fun t299 => (mintagelaw05_WholePlaces.j5 k x2 x3 x9 x10 bt282.2.1 (t299 == 0)))) else ((mintagelaw05_num.f bt295.2.2).bind fun t300 => (if t300 = 51 then (if bt295.2.1 = 0 then (mintagelaw05_WholePlaces.j5 k x2 x3 x9 x10 bt282.2.1 false) else ((mintagelaw05_num.f bt295.2.2).bind fun t301 => (mintagelaw05_WholePlaces.j5 k x2 x3 x9 x10 bt282.2.1 (t301 == 0)))) else (mintagelaw05_WholePlaces.j5 k x2 x3 x9 x10 bt282.2.1 true)))))) else (none)) else (none)) else ((mintagelaw05_num.f bt282.2.2).bind fun t286 => (if t286 = 0 then ((mintagelaw05_wakes.f).bind fun t287 => (some t287)) else ((mintagelaw05_num.f bt282.2.2).bind fun t288 => (if t288 = 51 then (if (x10.length : Int) = 0 then ((mintagelaw05_wakes.f).bind fun t289 => (some t289)) else (if x12 = true then (if (x10.length : Int) = 1 then ((mintagelaw05_wakes.f).bind fun t290 => (some t290)) else (some false)) else (some false))) else (some false)))))))
def mintagelaw05_WholePlaces.j5 : Nat → List Int → Int → Int → List Int → Int → Bool → Option (Bool)
  | 0, _, _, _, _, _, _ => none
  | k + 1, x2, x3, x9, x10, x14, x127 => if x127 = true then (some false) else ((some (([] : List Int) : List Int)).bind fun y302 => (if y302.length + x10.length < 140737488355328 then (mintagelaw05_WholePlaces.l1 k x2 x3 x9 x14 (y302 ++ x10) 0) else (none)))
def mintagelaw05_WholePlaces.j7 : Nat → Int → Int → Int → List Int → Option (Bool)
  | 0, _, _, _, _ => none
  | k + 1, x3, x9, x14, x19 => (whole_Parse.f k x9 x19).bind fun bt312 => ((mintagelaw05_num.f bt312.2.2).bind fun t315 => (if t315 = 53 then (mintagelaw05_WholePlaces.j8 k x3 x9 x19 (bt312.2.1 != x14)) else (mintagelaw05_WholePlaces.j8 k x3 x9 x19 true)))
def mintagelaw05_WholePlaces.j8 : Nat → Int → Int → List Int → Bool → Option (Bool)
  | 0, _, _, _, _ => none
  | k + 1, x3, x9, x19, x164 => if x164 = true then (some false) else (if x3 ≥ 48 then (mintagelaw05_WholePlaces.j9 k x3 x9 x19 (decide (x3 ≤ 57))) else (mintagelaw05_WholePlaces.j9 k x3 x9 x19 false))
def mintagelaw05_WholePlaces.j9 : Nat → Int → Int → List Int → Bool → Option (Bool)
  | 0, _, _, _, _ => none
  | k + 1, x3, x9, x19, x170 => if x170 = true then ((mintagelaw05_wakes.f).bind fun t316 => (some t316)) else (if x19.length < 140737488355328 then ((whole_Parse.f k x9 (x19 ++ [x3])).bind fun bt320 => ((mintagelaw05_num.f bt320.2.2).bind fun t323 => (if t323 = 52 then (if bt320.2.1 = (x19.length : Int) then ((mintagelaw05_wakes.f).bind fun t324 => (some t324)) else (some false)) else (some false)))) else (none))
def mintagelaw05_WholePlaces.l1 : Nat → List Int → Int → Int → Int → List Int → Int → Option (Bool)
  | 0, _, _, _, _, _, _ => none
  | k + 1, x2, x3, x9, x14, x19, x20 => if x20 < (x2.length : Int) then (if x20 < 60 then (if 0 ≤ x20 then (if x19.length < 140737488355328 then (mintagelaw05_WholePlaces.l1 k x2 x3 x9 x14 (x19 ++ [(48 + (Int.tmod (rd x2 x20) 10)) % 256]) (wrap64 (x20 + 1))) else (none)) else (none)) else (mintagelaw05_WholePlaces.j7 k x3 x9 x14 x19)) else (mintagelaw05_WholePlaces.j7 k x3 x9 x14 x19)
def mintagelaw05_WholePlaces.l0 : Nat → List Int → List Int → Int → Int → List Int → Int → Option (Bool)
  | 0, _, _, _, _, _, _ => none
  | k + 1, x1, x2, x3, x9, x10, x11 => if x11 < (x1.length : Int) then (if x11 < 60 then (if 0 ≤ x11 then (if x10.length < 140737488355328 then (mintagelaw05_WholePlaces.l0 k x1 x2 x3 x9 (x10 ++ [(48 + (Int.tmod (rd x1 x11) 10)) % 256]) (wrap64 (x11 + 1))) else (none)) else (none)) else (mintagelaw05_WholePlaces.j3 k x2 x3 x9 x10)) else (mintagelaw05_WholePlaces.j3 k x2 x3 x9 x10)
end
def mintagelaw05_WholePlaces.f (k : Nat) (a0 : Int) (l1 : List Int) (l2 : List Int) (a3 : Int) : Option (Bool) := if (Go.bits .and .i64 a0 8) = 8 then (mintagelaw05_WholePlaces.j0 k l1 l2 a3 (wrap64 (1 + (Go.bits .and .i64 a0 7))) ([] : List Int) (decide ((wrap64 (1 + (Go.bits .and .i64 a0 7))) ≤ 4))) else (mintagelaw05_WholePlaces.j0 k l1 l2 a3 (wrap64 (1 + (Go.bits .and .i64 a0 7))) ([] : List Int) false)
theorem mintagelaw05_WholePlaces.mono_l : ∀ k, (∀ y0 y1 y2 y3 y4 y5, LeO (mintagelaw05_WholePlaces.j0 k y0 y1 y2 y3 y4 y5) (mintagelaw05_WholePlaces.j0 (k + 1) y0 y1 y2 y3 y4 y5)) ∧ (∀ y0 y1 y2 y3 y4, LeO (mintagelaw05_WholePlaces.j1 k y0 y1 y2 y3 y4) (mintagelaw05_WholePlaces.j1 (k + 1) y0 y1 y2 y3 y4)) ∧ (∀ y0 y1 y2 y3, LeO (mintagelaw05_WholePlaces.j3 k y0 y1 y2 y3) (mintagelaw05_WholePlaces.j3 (k + 1) y0 y1 y2 y3)) ∧ (∀ y0 y1 y2 y3 y4, LeO (mintagelaw05_WholePlaces.j4 k y0 y1 y2 y3 y4) (mintagelaw05_WholePlaces.j4 (k + 1) y0 y1 y2 y3 y4)) ∧ (∀ y0 y1 y2 y3 y4 y5, LeO (mintagelaw05_WholePlaces.j5 k y0 y1 y2 y3 y4 y5) (mintagelaw05_WholePlaces.j5 (k + 1) y0 y1 y2 y3 y4 y5)) ∧ (∀ y0 y1 y2 y3, LeO (mintagelaw05_WholePlaces.j7 k y0 y1 y2 y3) (mintagelaw05_WholePlaces.j7 (k + 1) y0 y1 y2 y3)) ∧ (∀ y0 y1 y2 y3, LeO (mintagelaw05_WholePlaces.j8 k y0 y1 y2 y3) (mintagelaw05_WholePlaces.j8 (k + 1) y0 y1 y2 y3)) ∧ (∀ y0 y1 y2 y3, LeO (mintagelaw05_WholePlaces.j9 k y0 y1 y2 y3) (mintagelaw05_WholePlaces.j9 (k + 1) y0 y1 y2 y3)) ∧ (∀ y0 y1 y2 y3 y4 y5, LeO (mintagelaw05_WholePlaces.l1 k y0 y1 y2 y3 y4 y5) (mintagelaw05_WholePlaces.l1 (k + 1) y0 y1 y2 y3 y4 y5)) ∧ (∀ y0 y1 y2 y3 y4 y5, LeO (mintagelaw05_WholePlaces.l0 k y0 y1 y2 y3 y4 y5) (mintagelaw05_WholePlaces.l0 (k + 1) y0 y1 y2 y3 y4 y5))
  | 0 => ⟨fun _ _ _ _ _ _ r h => by simp [mintagelaw05_WholePlaces.j0] at h, fun _ _ _ _ _ r h => by simp [mintagelaw05_WholePlaces.j1] at h, fun _ _ _ _ r h => by simp [mintagelaw05_WholePlaces.j3] at h, fun _ _ _ _ _ r h => by simp [mintagelaw05_WholePlaces.j4] at h, fun _ _ _ _ _ _ r h => by simp [mintagelaw05_WholePlaces.j5] at h, fun _ _ _ _ r h => by simp [mintagelaw05_WholePlaces.j7] at h, fun _ _ _ _ r h => by simp [mintagelaw05_WholePlaces.j8] at h, fun _ _ _ _ r h => by simp [mintagelaw05_WholePlaces.j9] at h, fun _ _ _ _ _ _ r h => by simp [mintagelaw05_WholePlaces.l1] at h, fun _ _ _ _ _ _ r h => by simp [mintagelaw05_WholePlaces.l0] at h⟩
  | k + 1 => by
    obtain ⟨ih0, ih1, ih2, ih3, ih4, ih5, ih6, ih7, ih8, ih9⟩ := mintagelaw05_WholePlaces.mono_l k
    refine ⟨?_, ?_, ?_, ?_, ?_, ?_, ?_, ?_, ?_, ?_⟩
    · intro y0 y1 y2 y3 y4 y5
      unfold mintagelaw05_WholePlaces.j0
      repeat' first
      | (with_reducible exact ih0 _ _ _ _ _ _)
      | (with_reducible exact ih1 _ _ _ _ _)
      | (with_reducible exact ih2 _ _ _ _)
      | (with_reducible exact ih3 _ _ _ _ _)
      | (with_reducible exact ih4 _ _ _ _ _ _)
      | (with_reducible exact ih5 _ _ _ _)
      | (with_reducible exact ih6 _ _ _ _)
      | (with_reducible exact ih7 _ _ _ _)
      | (with_reducible exact ih8 _ _ _ _ _ _)
      | (with_reducible exact ih9 _ _ _ _ _ _)
      | (with_reducible exact whole_Parse.mono _ _ _)
      | (with_reducible exact LeO.refl _)
      | (with_reducible exact LeO.none _)
      | (with_reducible refine LeO.ite ?_ ?_)
      | (with_reducible refine LeO.bind ?_ (fun _ => ?_))
      | exact ih0 _ _ _ _ _ _
      | exact ih1 _ _ _ _ _
      | exact ih2 _ _ _ _
      | exact ih3 _ _ _ _ _
      | exact ih4 _ _ _ _ _ _
      | exact ih5 _ _ _ _
      | exact ih6 _ _ _ _
      | exact ih7 _ _ _ _
      | exact ih8 _ _ _ _ _ _
      | exact ih9 _ _ _ _ _ _
      | exact whole_Parse.mono _ _ _
      | exact LeO.none _
      | refine LeO.ite ?_ ?_
      | refine LeO.bind ?_ (fun _ => ?_)
    · intro y0 y1 y2 y3 y4
      unfold mintagelaw05_WholePlaces.j1
      repeat' first
      | (with_reducible exact ih0 _ _ _ _ _ _)
      | (with_reducible exact ih1 _ _ _ _ _)
      | (with_reducible exact ih2 _ _ _ _)
      | (with_reducible exact ih3 _ _ _ _ _)
      | (with_reducible exact ih4 _ _ _ _ _ _)
      | (with_reducible exact ih5 _ _ _ _)
      | (with_reducible exact ih6 _ _ _ _)
      | (with_reducible exact ih7 _ _ _ _)
      | (with_reducible exact ih8 _ _ _ _ _ _)
      | (with_reducible exact ih9 _ _ _ _ _ _)
      | (with_reducible exact whole_Parse.mono _ _ _)
      | (with_reducible exact LeO.refl _)
      | (with_reducible exact LeO.none _)
      | (with_reducible refine LeO.ite ?_ ?_)
      | (with_reducible refine LeO.bind ?_ (fun _ => ?_))
      | exact ih0 _ _ _ _ _ _
      | exact ih1 _ _ _ _ _
      | exact ih2 _ _ _ _
      | exact ih3 _ _ _ _ _
      | exact ih4 _ _ _ _ _ _
      | exact ih5 _ _ _ _
      | exact ih6 _ _ _ _
      | exact ih7 _ _ _ _
      | exact ih8 _ _ _ _ _ _
      | exact ih9 _ _ _ _ _ _
      | exact whole_Parse.mono _ _ _
      | exact LeO.none _
      | refine LeO.ite ?_ ?_
      | refine LeO.bind ?_ (fun _ => ?_)
    · intro y0 y1 y2 y3
      unfold mintagelaw05_WholePlaces.j3
      repeat' first
      | (with_reducible exact ih0 _ _ _ _ _ _)
      | (with_reducible exact ih1 _ _ _ _ _)
      | (with_reducible exact ih2 _ _ _ _)
      | (with_reducible exact ih3 _ _ _ _ _)
      | (with_reducible exact ih4 _ _ _ _ _ _)
      | (with_reducible exact ih5 _ _ _ _)
      | (with_reducible exact ih6 _ _ _ _)
      | (with_reducible exact ih7 _ _ _ _)
      | (with_reducible exact ih8 _ _ _ _ _ _)
      | (with_reducible exact ih9 _ _ _ _ _ _)
      | (with_reducible exact whole_Parse.mono _ _ _)
      | (with_reducible exact LeO.refl _)
      | (with_reducible exact LeO.none _)
      | (with_reducible refine LeO.ite ?_ ?_)
      | (with_reducible refine LeO.bind ?_ (fun _ => ?_))
      | exact ih0 _ _ _ _ _ _
      | exact ih1 _ _ _ _ _
      | exact ih2 _ _ _ _
      | exact ih3 _ _ _ _ _
      | exact ih4 _ _ _ _ _ _
      | exact ih5 _ _ _ _
      | exact ih6 _ _ _ _
      | exact ih7 _ _ _ _
      | exact ih8 _ _ _ _ _ _
      | exact ih9 _ _ _ _ _ _
      | exact whole_Parse.mono _ _ _
      | exact LeO.none _
      | refine LeO.ite ?_ ?_
      | refine LeO.bind ?_ (fun _ => ?_)
    · intro y0 y1 y2 y3 y4
      unfold mintagelaw05_WholePlaces.j4
      repeat' first
      | (with_reducible exact ih0 _ _ _ _ _ _)
      | (with_reducible exact ih1 _ _ _ _ _)
      | (with_reducible exact ih2 _ _ _ _)
      | (with_reducible exact ih3 _ _ _ _ _)
      | (with_reducible exact ih4 _ _ _ _ _ _)
      | (with_reducible exact ih5 _ _ _ _)
      | (with_reducible exact ih6 _ _ _ _)
      | (with_reducible exact ih7 _ _ _ _)
      | (with_reducible exact ih8 _ _ _ _ _ _)
      | (with_reducible exact ih9 _ _ _ _ _ _)
      | (with_reducible exact whole_Parse.mono _ _ _)
      | (with_reducible exact LeO.refl _)
      | (with_reducible exact LeO.none _)
      | (with_reducible refine LeO.ite ?_ ?_)
      | (with_reducible refine LeO.bind ?_ (fun _ => ?_))
      | exact ih0 _ _ _ _ _ _
      | exact ih1 _ _ _ _ _
      | exact ih2 _ _ _ _
      | exact ih3 _ _ _ _ _
      | exact ih4 _ _ _ _ _ _
      | exact ih5 _ _ _ _
      | exact ih6 _ _ _ _
      | exact ih7 _ _ _ _
      | exact ih8 _ _ _ _ _ _
      | exact ih9 _ _ _ _ _ _
      | exact whole_Parse.mono _ _ _
      | exact LeO.none _
      | refine LeO.ite ?_ ?_
      | refine LeO.bind ?_ (fun _ => ?_)
    · intro y0 y1 y2 y3 y4 y5
      unfold mintagelaw05_WholePlaces.j5
      repeat' first
      | (with_reducible exact ih0 _ _ _ _ _ _)
      | (with_reducible exact ih1 _ _ _ _ _)
      | (with_reducible exact ih2 _ _ _ _)
      | (with_reducible exact ih3 _ _ _ _ _)
      | (with_reducible exact ih4 _ _ _ _ _ _)
      | (with_reducible exact ih5 _ _ _ _)
      | (with_reducible exact ih6 _ _ _ _)
      | (with_reducible exact ih7 _ _ _ _)
      | (with_reducible exact ih8 _ _ _ _ _ _)
      | (with_reducible exact ih9 _ _ _ _ _ _)
      | (with_reducible exact whole_Parse.mono _ _ _)
      | (with_reducible exact LeO.refl _)
      | (with_reducible exact LeO.none _)
      | (with_reducible refine LeO.ite ?_ ?_)
      | (with_reducible refine LeO.bind ?_ (fun _ => ?_))
      | exact ih0 _ _ _ _ _ _
      | exact ih1 _ _ _ _ _
      | exact ih2 _ _ _ _
      | exact ih3 _ _ _ _ _
      | exact ih4 _ _ _ _ _ _
      | exact ih5 _ _ _ _
      | exact ih6 _ _ _ _
      | exact ih7 _ _ _ _
      | exact ih8 _ _ _ _ _ _
      | exact ih9 _ _ _ _ _ _
      | exact whole_Parse.mono _ _ _
      | exact LeO.none _
      | refine LeO.ite ?_ ?_
      | refine LeO.bind ?_ (fun _ => ?_)
    · intro y0 y1 y2 y3
      unfold mintagelaw05_WholePlaces.j7
      repeat' first
      | (with_reducible exact ih0 _ _ _ _ _ _)
      | (with_reducible exact ih1 _ _ _ _ _)
      | (with_reducible exact ih2 _ _ _ _)
      | (with_reducible exact ih3 _ _ _ _ _)
      | (with_reducible exact ih4 _ _ _ _ _ _)
      | (with_reducible exact ih5 _ _ _ _)
      | (with_reducible exact ih6 _ _ _ _)
      | (with_reducible exact ih7 _ _ _ _)
      | (with_reducible exact ih8 _ _ _ _ _ _)
      | (with_reducible exact ih9 _ _ _ _ _ _)
      | (with_reducible exact whole_Parse.mono _ _ _)
      | (with_reducible exact LeO.refl _)
      | (with_reducible exact LeO.none _)
      | (with_reducible refine LeO.ite ?_ ?_)
      | (with_reducible refine LeO.bind ?_ (fun _ => ?_))
      | exact ih0 _ _ _ _ _ _
      | exact ih1 _ _ _ _ _
      | exact ih2 _ _ _ _
      | exact ih3 _ _ _ _ _
      | exact ih4 _ _ _ _ _ _
      | exact ih5 _ _ _ _
      | exact ih6 _ _ _ _
      | exact ih7 _ _ _ _
      | exact ih8 _ _ _ _ _ _
      | exact ih9 _ _ _ _ _ _
      | exact whole_Parse.mono _ _ _
      | exact LeO.none _
      | refine LeO.ite ?_ ?_
      | refine LeO.bind ?_ (fun _ => ?_)
    · intro y0 y1 y2 y3
      unfold mintagelaw05_WholePlaces.j8
      repeat' first
      | (with_reducible exact ih0 _ _ _ _ _ _)
      | (with_reducible exact ih1 _ _ _ _ _)
      | (with_reducible exact ih2 _ _ _ _)
      | (with_reducible exact ih3 _ _ _ _ _)
      | (with_reducible exact ih4 _ _ _ _ _ _)
      | (with_reducible exact ih5 _ _ _ _)
      | (with_reducible exact ih6 _ _ _ _)
      | (with_reducible exact ih7 _ _ _ _)
      | (with_reducible exact ih8 _ _ _ _ _ _)
      | (with_reducible exact ih9 _ _ _ _ _ _)
      | (with_reducible exact whole_Parse.mono _ _ _)
      | (with_reducible exact LeO.refl _)
      | (with_reducible exact LeO.none _)
      | (with_reducible refine LeO.ite ?_ ?_)
      | (with_reducible refine LeO.bind ?_ (fun _ => ?_))
      | exact ih0 _ _ _ _ _ _
      | exact ih1 _ _ _ _ _
      | exact ih2 _ _ _ _
      | exact ih3 _ _ _ _ _
      | exact ih4 _ _ _ _ _ _
      | exact ih5 _ _ _ _
      | exact ih6 _ _ _ _
      | exact ih7 _ _ _ _
      | exact ih8 _ _ _ _ _ _
      | exact ih9 _ _ _ _ _ _
      | exact whole_Parse.mono _ _ _
      | exact LeO.none _
      | refine LeO.ite ?_ ?_
      | refine LeO.bind ?_ (fun _ => ?_)
    · intro y0 y1 y2 y3
      unfold mintagelaw05_WholePlaces.j9
      repeat' first
      | (with_reducible exact ih0 _ _ _ _ _ _)
      | (with_reducible exact ih1 _ _ _ _ _)
      | (with_reducible exact ih2 _ _ _ _)
      | (with_reducible exact ih3 _ _ _ _ _)
      | (with_reducible exact ih4 _ _ _ _ _ _)
      | (with_reducible exact ih5 _ _ _ _)
      | (with_reducible exact ih6 _ _ _ _)
      | (with_reducible exact ih7 _ _ _ _)
      | (with_reducible exact ih8 _ _ _ _ _ _)
      | (with_reducible exact ih9 _ _ _ _ _ _)
      | (with_reducible exact whole_Parse.mono _ _ _)
      | (with_reducible exact LeO.refl _)
      | (with_reducible exact LeO.none _)
      | (with_reducible refine LeO.ite ?_ ?_)
      | (with_reducible refine LeO.bind ?_ (fun _ => ?_))
      | exact ih0 _ _ _ _ _ _
      | exact ih1 _ _ _ _ _
      | exact ih2 _ _ _ _
      | exact ih3 _ _ _ _ _
      | exact ih4 _ _ _ _ _ _
      | exact ih5 _ _ _ _
      | exact ih6 _ _ _ _
      | exact ih7 _ _ _ _
      | exact ih8 _ _ _ _ _ _
      | exact ih9 _ _ _ _ _ _
      | exact whole_Parse.mono _ _ _
      | exact LeO.none _
      | refine LeO.ite ?_ ?_
      | refine LeO.bind ?_ (fun _ => ?_)
    · intro y0 y1 y2 y3 y4 y5
      unfold mintagelaw05_WholePlaces.l1
      repeat' first
      | (with_reducible exact ih0 _ _ _ _ _ _)
      | (with_reducible exact ih1 _ _ _ _ _)
      | (with_reducible exact ih2 _ _ _ _)
      | (with_reducible exact ih3 _ _ _ _ _)
      | (with_reducible exact ih4 _ _ _ _ _ _)
      | (with_reducible exact ih5 _ _ _ _)
      | (with_reducible exact ih6 _ _ _ _)
      | (with_reducible exact ih7 _ _ _ _)
      | (with_reducible exact ih8 _ _ _ _ _ _)
      | (with_reducible exact ih9 _ _ _ _ _ _)
      | (with_reducible exact whole_Parse.mono _ _ _)
      | (with_reducible exact LeO.refl _)
      | (with_reducible exact LeO.none _)
      | (with_reducible refine LeO.ite ?_ ?_)
      | (with_reducible refine LeO.bind ?_ (fun _ => ?_))
      | exact ih0 _ _ _ _ _ _
      | exact ih1 _ _ _ _ _
      | exact ih2 _ _ _ _
      | exact ih3 _ _ _ _ _
      | exact ih4 _ _ _ _ _ _
      | exact ih5 _ _ _ _
      | exact ih6 _ _ _ _
      | exact ih7 _ _ _ _
      | exact ih8 _ _ _ _ _ _
      | exact ih9 _ _ _ _ _ _
      | exact whole_Parse.mono _ _ _
      | exact LeO.none _
      | refine LeO.ite ?_ ?_
      | refine LeO.bind ?_ (fun _ => ?_)
    · intro y0 y1 y2 y3 y4 y5
      unfold mintagelaw05_WholePlaces.l0
      repeat' first
      | (with_reducible exact ih0 _ _ _ _ _ _)
      | (with_reducible exact ih1 _ _ _ _ _)
      | (with_reducible exact ih2 _ _ _ _)
      | (with_reducible exact ih3 _ _ _ _ _)
      | (with_reducible exact ih4 _ _ _ _ _ _)
      | (with_reducible exact ih5 _ _ _ _)
      | (with_reducible exact ih6 _ _ _ _)
      | (with_reducible exact ih7 _ _ _ _)
      | (with_reducible exact ih8 _ _ _ _ _ _)
      | (with_reducible exact ih9 _ _ _ _ _ _)
      | (with_reducible exact whole_Parse.mono _ _ _)
      | (with_reducible exact LeO.refl _)
      | (with_reducible exact LeO.none _)
      | (with_reducible refine LeO.ite ?_ ?_)
      | (with_reducible refine LeO.bind ?_ (fun _ => ?_))
      | exact ih0 _ _ _ _ _ _
      | exact ih1 _ _ _ _ _
      | exact ih2 _ _ _ _
      | exact ih3 _ _ _ _ _
      | exact ih4 _ _ _ _ _ _
      | exact ih5 _ _ _ _
      | exact ih6 _ _ _ _
      | exact ih7 _ _ _ _
      | exact ih8 _ _ _ _ _ _
      | exact ih9 _ _ _ _ _ _
      | exact whole_Parse.mono _ _ _
      | exact LeO.none _
      | refine LeO.ite ?_ ?_
      | refine LeO.bind ?_ (fun _ => ?_)
theorem mintagelaw05_WholePlaces.mono : ∀ a0 a1 a2 a3 k, LeO (mintagelaw05_WholePlaces.f k a0 a1 a2 a3) (mintagelaw05_WholePlaces.f (k + 1) a0 a1 a2 a3) := by
  intro a0 a1 a2 a3 k
  obtain ⟨ih0, ih1, ih2, ih3, ih4, ih5, ih6, ih7, ih8, ih9⟩ := mintagelaw05_WholePlaces.mono_l k
  unfold mintagelaw05_WholePlaces.f
  repeat' first
      | (with_reducible exact ih0 _ _ _ _ _ _)
      | (with_reducible exact ih1 _ _ _ _ _)
      | (with_reducible exact ih2 _ _ _ _)
      | (with_reducible exact ih3 _ _ _ _ _)
      | (with_reducible exact ih4 _ _ _ _ _ _)
      | (with_reducible exact ih5 _ _ _ _)
      | (with_reducible exact ih6 _ _ _ _)
      | (with_reducible exact ih7 _ _ _ _)
      | (with_reducible exact ih8 _ _ _ _ _ _)
      | (with_reducible exact ih9 _ _ _ _ _ _)
      | (with_reducible exact whole_Parse.mono _ _ _)
      | (with_reducible exact LeO.refl _)
      | (with_reducible exact LeO.none _)
      | (with_reducible refine LeO.ite ?_ ?_)
      | (with_reducible refine LeO.bind ?_ (fun _ => ?_))
      | exact ih0 _ _ _ _ _ _
      | exact ih1 _ _ _ _ _
      | exact ih2 _ _ _ _
      | exact ih3 _ _ _ _ _
      | exact ih4 _ _ _ _ _ _
      | exact ih5 _ _ _ _
      | exact ih6 _ _ _ _
      | exact ih7 _ _ _ _
      | exact ih8 _ _ _ _ _ _
      | exact ih9 _ _ _ _ _ _
      | exact whole_Parse.mono _ _ _
      | exact LeO.none _
      | refine LeO.ite ?_ ?_
      | refine LeO.bind ?_ (fun _ => ?_)
set_option maxHeartbeats 8000000 in
set_option maxRecDepth 100000 in
theorem mintagelaw05_WholePlaces.calls (k : Nat) (a0 : Int) (A1 : Option Addr) (c1 : Nat) (l1 : List Int) (A2 : Option Addr) (c2 : Nat) (l2 : List Int) (a3 : Int) (r : Bool) (w : World) (hr1 : Kd.C (Kd.int .u8) w A1 l1.length l1) (hc1 : l1.length ≤ c1) (hr2 : Kd.C (Kd.int .u8) w A2 l2.length l2) (hc2 : l2.length ≤ c2) (h : mintagelaw05_WholePlaces.f k a0 l1 l2 a3 = some r) :
    Calls Try.prog 4 #[.int .i64 a0, .slice A1 l1.length c1, .slice A2 l2.length c2, .int .u8 a3] w fun e w' => e = .returned (.bool r) ∧ Below w.heap.size w w' := by
  have HR1 := Aside0.mk hr1
  have HC1 := Aside0.mk hc1
  clear hr1 hc1
  have HR2 := Aside0.mk hr2
  have HC2 := Aside0.mk hc2
  clear hr2 hc2
  have HB := Aside0.mk (Below.refl w.heap.size w)
  have H : (if (Go.bits .and .i64 a0 8) = 8 then (mintagelaw05_WholePlaces.j0 k l1 l2 a3 (wrap64 (1 + (Go.bits .and .i64 a0 7))) ([] : List Int) (decide ((wrap64 (1 + (Go.bits .and .i64 a0 7))) ≤ 4))) else (mintagelaw05_WholePlaces.j0 k l1 l2 a3 (wrap64 (1 + (Go.bits .and .i64 a0 7))) ([] : List Int) false)) = some r := h
  clear h
  have HC5 := Aside0.mk H
  clear H
  go_enter Try.func4, Try.ntmps4
  go_upto_region 3 with (fail)
  go_cut [36] (fun v36 wc => ∃ (kq : Nat) (x36_4 : Bool), v36 = .bool x36_4 ∧ Aside0 (mintagelaw05_WholePlaces.j0 kq l1 l2 a3 (wrap64 (1 + (Go.bits .and .i64 a0 7))) ([] : List Int) x36_4 = some r) ∧ Aside0 (kq ≤ k) ∧ Aside0 (Kd.R (Kd.int .u8) 5 wc w.heap.size (fun _ => True) (.slice none 0 0) ([] : List Int)) ∧ Aside0 (Below w.heap.size w wc))
  case first => as_aux_lemma =>
    have H := HC5.out
    clear HC5
    by_cases c6 : (Go.bits .and .i64 a0 8) = 8
    · rw [if_pos c6] at H
      have c6b0 : ((Go.bits .and .i64 a0 8) == 8) = true := beq_iff_eq.mpr c6
      have c6b1 : ((Go.bits .and .i64 a0 8) != 8) = false := bne_eq_false_iff_eq.mpr c6
      clear c6
      (first | rw [c6b0] | (simp only [i64_w, i32_w]; rw [c6b0]) | skip)
      have H' := Aside0.mk H
      clear H
      go_wp2
      go_meet
      case rel => exact ⟨_, (decide ((wrap64 (1 + (Go.bits .and .i64 a0 7))) ≤ 4)), (by first | rfl | (simp; done) | (simp [*]; done)), H', ⟨by first | omega | exact Nat.le_refl _⟩, ⟨by first | exact Kd.R_nil _ _ _ _ _ | exact Kd.N_nil _ _ _ _ _ | exact Kd.V_nil _ _ _ _ _ | exact Kd.Q_nil _ _ _ _ _ | exact Kd.S_nil _ _ _ _ _⟩, ⟨by repeat (first | (with_reducible first | exact HB.out | apply below_alloc | apply pw_below_drewN | apply below_drew1) | exact HB.out)⟩⟩
    · rw [if_neg c6] at H
      have c6b0 : ((Go.bits .and .i64 a0 8) == 8) = false := beq_eq_false_iff_ne.mpr c6
      have c6b1 : ((Go.bits .and .i64 a0 8) != 8) = true := bne_iff_ne.mpr c6
      (first | rw [c6b0] | (simp only [i64_w, i32_w]; rw [c6b0]) | skip)
      have H' := Aside0.mk H
      clear H
      go_wp2
      go_meet
      case rel => exact ⟨_, (false), (by first | rfl | (simp; done) | (simp [*]; done)), H', ⟨by first | omega | exact Nat.le_refl _⟩, ⟨by first | exact Kd.R_nil _ _ _ _ _ | exact Kd.N_nil _ _ _ _ _ | exact Kd.V_nil _ _ _ _ _ | exact Kd.Q_nil _ _ _ _ _ | exact Kd.S_nil _ _ _ _ _⟩, ⟨by repeat (first | (with_reducible first | exact HB.out | apply below_alloc | apply pw_below_drewN | apply below_drew1) | exact HB.out)⟩⟩
  case rest => as_aux_lemma =>
    clear HC5
    try clear c1
    try clear c2
    try clear p2
    try clear c4
    try clear c6
    try clear c6b0
    try clear c6b1
    try clear p6
    obtain ⟨kq, x36_4, rfl, HA, HJ4, HO_10, HB⟩ := hcut
    cases kq with
    | zero => exact absurd HA.out (by simp [mintagelaw05_WholePlaces.j0])
    | succ kj4 =>
      have H := HA.out
      clear HA
      simp only [mintagelaw05_WholePlaces.j0] at H
      have HC7 := Aside0.mk H
      clear H
      go_upto_if 36 with (fail)
      go_cut [10] (fun v10 wc => ∃ (kq : Nat) (x10_6 : List Int), Aside0 (mintagelaw05_WholePlaces.j1 kq l1 l2 a3 (wrap64 (1 + (Go.bits .and .i64 a0 7))) x10_6 = some r) ∧ Aside0 (kq ≤ kj4) ∧ Aside0 (Kd.R (Kd.int .u8) 5 wc w.heap.size (fun _ => True) v10 x10_6) ∧ Aside0 (Below w.heap.size w wc))
      case first => as_aux_lemma =>
        have H := HC7.out
        clear HC7
        by_cases c8 : x36_4 = true
        · subst c8
          have H1 : (if ([] : List Int).length < 140737488355328 then (mintagelaw05_WholePlaces.j1 kj4 l1 l2 a3 (wrap64 (1 + (Go.bits .and .i64 a0 7))) (([] : List Int) ++ [45])) else (none)) = some r := by rw [if_pos rfl] at H; exact H
          clear H
          have H := H1
          clear H1
          by_cases c9 : ([] : List Int).length < 140737488355328
          · rw [if_pos c9] at H
            have LMc9 := Aside0.mk c9
            clear c9
            obtain ⟨y274, hy274⟩ : ∃ y_ : List Int, y_ = (([] : List Int) ++ [45]) := ⟨_, rfl⟩
            replace H : (mintagelaw05_WholePlaces.j1 kj4 l1 l2 a3 (wrap64 (1 + (Go.bits .and .i64 a0 7))) y274) = some r := by first | (rw [hy274]; with_reducible exact H) | (have H2_ := (Option.bind_some _ _).symm.trans H; rw [hy274]; with_reducible exact H2_) | (have H2_ := (Option.bind_some _ _).symm.trans H; with_reducible exact H2_) | with_reducible exact H | (rw [hy274]; exact H) | exact H
            have Ny274 := Aside0.mk hy274
            clear hy274
            have H' := Aside0.mk H
            clear H
            go_wp2_with (first | ((with_reducible refine gate_builtin (b := .append) (xs := #[.tmp 37, .tmp 38]) rfl ?_); (try (refine gate_guard (by rfl) ?_; dsimp only)); at_builtin; refine Kd.R_append (Kd.int .u8) (w0 := w) w.heap.size rfl (.tmp 37) (.tmp 38) 22 5 (.int .u8 0) 1 rfl Try.underlying22 info5 rfl (by decide) (by omega) (.slice none 0 0) ([] : List Int) 45 [.int .u8 45] (fun _ => True) (fun _ => False) rfl rfl ?aP (fun _ hk => hk.elim) ?aF ?aO ?aB ?aS ?aL ?_; (case aP => exact rfl); (case aB => exact (by repeat (first | (with_reducible first | exact HB.out | apply below_alloc | apply pw_below_drewN | apply below_drew1) | exact HB.out))); (case aF => exact (fun _ _ => trivial)); (case aO => exact (by (with_reducible repeat (first | apply Kd.R_alloc | apply Kd.R_drewN | apply Kd.R_drew)); exact HO_10.out)); (case aS => exact (below_size (by repeat (first | (with_reducible first | exact HB.out | apply below_alloc | apply pw_below_drewN | apply below_drew1) | exact HB.out)))); (case aL => have := LMc9.out; omega); intro v275 w10 ho hb hg hat; rw [← Ny274.out] at ho; have n0_ := Aside0.mk (hb); have n1_ := Aside0.mk (ho); clear HB; clear HO_10; have HB := n0_; have HO276 := n1_; clear n0_ n1_; clear ho hb hg hat))
            go_meet
            case rel => exact ⟨_, (y274), H', ⟨by have := HJ4.out; first | omega | exact Nat.le_refl _⟩, ⟨by (with_reducible repeat (first | apply Kd.R_alloc | apply Kd.R_drewN | apply Kd.R_drew)); exact HO276.out⟩, ⟨by repeat (first | (with_reducible first | exact HB.out | apply below_alloc | apply pw_below_drewN | apply below_drew1) | exact HB.out)⟩⟩
          · rw [if_neg c9] at H
            exact absurd H (by simp)
        · replace c8 := Bool.eq_false_iff.mpr c8
          subst c8
          have H1 : (mintagelaw05_WholePlaces.j1 kj4 l1 l2 a3 (wrap64 (1 + (Go.bits .and .i64 a0 7))) ([] : List Int)) = some r := by rw [if_neg (show ¬ (false = true) by decide)] at H; exact H
          clear H
          have H := H1
          clear H1
          have H' := Aside0.mk H
          clear H
          go_wp2
          go_meet
          case rel => exact ⟨_, (([] : List Int)), H', ⟨by have := HJ4.out; first | omega | exact Nat.le_refl _⟩, ⟨by (with_reducible repeat (first | apply Kd.R_alloc | apply Kd.R_drewN | apply Kd.R_drew)); exact HO_10.out⟩, ⟨by repeat (first | (with_reducible first | exact HB.out | apply below_alloc | apply pw_below_drewN | apply below_drew1) | exact HB.out)⟩⟩
      case rest => as_aux_lemma =>
        clear HC7
        try clear c1
        try clear c2
        try clear p2
        try clear c4
        try clear c6
        try clear c6b0
        try clear c6b1
        try clear p6
        try clear c8
        try clear c9
        try clear p2
        try clear p6
        obtain ⟨kq, x10_6, HA, HJ6, HO_10, HB⟩ := hcut
        cases kq with
        | zero => exact absurd HA.out (by simp [mintagelaw05_WholePlaces.j1])
        | succ kj6 =>
          have H := HA.out
          clear HA
          simp only [mintagelaw05_WholePlaces.j1] at H
          have HC11 := Aside0.mk H
          clear H
          go_upto_block 0 with (fail)
          go_cut [10] (fun v10 wc => ∃ (kq : Nat) (x10_10 : List Int), Aside0 (mintagelaw05_WholePlaces.j3 kq l2 a3 (wrap64 (1 + (Go.bits .and .i64 a0 7))) x10_10 = some r) ∧ Aside0 (kq ≤ kj6) ∧ Aside0 (Kd.R (Kd.int .u8) 5 wc w.heap.size (fun _ => True) v10 x10_10) ∧ Aside0 (Below w.heap.size w wc))
          case first => as_aux_lemma =>
            have H := HC11.out
            clear HC11
            have H' := Aside0.mk H
            clear H
            go_wp2
            go_loopg [10, 11] kj6 (fun kq v10 v11 w' => ∃ (x10_3 : List Int) (x11_3 : Int), v11 = .int .i64 x11_3 ∧ Aside0 (mintagelaw05_WholePlaces.l0 kq l1 l2 a3 (wrap64 (1 + (Go.bits .and .i64 a0 7))) x10_3 x11_3 = some r) ∧ Aside0 (kq ≤ kj6) ∧ Aside0 (Kd.R (Kd.int .u8) 5 w' w.heap.size (fun _ => True) v10 x10_3) ∧ Aside0 (Below w.heap.size w w'))
            case atStart => exact ⟨(x10_6), (0), (by first | rfl | (simp; done) | (simp [*]; done)), H', ⟨Nat.le_refl _⟩, ⟨by (with_reducible repeat (first | apply Kd.R_alloc | apply Kd.R_drewN | apply Kd.R_drew)); exact HO_10.out⟩, ⟨by repeat (first | (with_reducible first | exact HB.out | apply below_alloc | apply pw_below_drewN | apply below_drew1) | exact HB.out)⟩⟩
            case round =>
              clear H'
              try clear c1
              try clear c2
              try clear p2
              try clear c4
              try clear c6
              try clear c6b0
              try clear c6b1
              try clear p6
              try clear c8
              try clear c9
              try clear p2
              try clear p6
              obtain ⟨x10_3, x11_3, rfl, HA, HK3, HO_10, HB⟩ := hrel
              cases gk with
              | zero => exact absurd HA.out (by simp [mintagelaw05_WholePlaces.l0])
              | succ k3 =>
                have H := HA.out
                clear HA
                simp only [mintagelaw05_WholePlaces.l0] at H
                by_cases c12 : x11_3 < (l1.length : Int)
                · rw [if_pos c12] at H
                  have c12b0 : decide (x11_3 < (l1.length : Int)) = true := decide_eq_true c12
                  clear c12
                  (first | rw [c12b0] | (simp only [i64_w, i32_w]; rw [c12b0]) | skip)
                  by_cases c13 : x11_3 < 60
                  · rw [if_pos c13] at H
                    have c13b0 : decide (x11_3 < 60) = true := decide_eq_true c13
                    clear c13
                    by_cases c14 : 0 ≤ x11_3
                    · rw [if_pos c14] at H
                      have c14b0 : decide (0 ≤ x11_3) = true := decide_eq_true c14
                      clear c14
                      by_cases c15 : x10_3.length < 140737488355328
                      · rw [if_pos c15] at H
                        have LMc15 := Aside0.mk c15
                        clear c15
                        obtain ⟨y278, hy278⟩ : ∃ y_ : List Int, y_ = (x10_3 ++ [(48 + (Int.tmod (rd l1 x11_3) 10)) % 256]) := ⟨_, rfl⟩
                        replace H : (mintagelaw05_WholePlaces.l0 k3 l1 l2 a3 (wrap64 (1 + (Go.bits .and .i64 a0 7))) y278 (wrap64 (x11_3 + 1))) = some r := by first | (rw [hy278]; with_reducible exact H) | (have H2_ := (Option.bind_some _ _).symm.trans H; rw [hy278]; with_reducible exact H2_) | (have H2_ := (Option.bind_some _ _).symm.trans H; with_reducible exact H2_) | with_reducible exact H | (rw [hy278]; exact H) | exact H
                        have Ny278 := Aside0.mk hy278
                        clear hy278
                        have H' := Aside0.mk H
                        clear H
                        have p277 : 0 ≤ (x11_3 : Int) := of_decide_eq_true (by first | (with_reducible assumption) | assumption)
                        have q277 : x11_3 < (l1.length : Int) := of_decide_eq_true (by first | (with_reducible assumption) | assumption)
                        obtain ⟨ad277, e277, hx277_0⟩ := Kd.at_int HR1.out x11_3 p277 q277
                        cases e277
                        replace hx277_0 := (HB.out.cell (World.block_lt_of_cell? w _ hx277_0)).trans hx277_0
                        replace p277 := eq_true p277
                        replace q277 := eq_true q277
                        (try (have qd277 := q277; simp only [List.length_drop] at qd277))
                        go_wp2_with (first | ((with_reducible refine gate_builtin (b := .append) (xs := #[.tmp 50, .tmp 57]) rfl ?_); (try (refine gate_guard (by rfl) ?_; dsimp only)); at_builtin; refine Kd.R_append (Kd.int .u8) (w0 := w) w.heap.size rfl (.tmp 50) (.tmp 57) 22 5 (.int .u8 0) 1 rfl Try.underlying22 info5 rfl (by decide) (by omega) u10 x10_3 ((48 + (Int.tmod (rd l1 x11_3) 10)) % 256) [.int .u8 ((48 + (Int.tmod (rd l1 x11_3) 10)) % 256)] (fun _ => True) (fun _ => False) rfl rfl ?aP (fun _ hk => hk.elim) ?aF ?aO ?aB ?aS ?aL ?_; (case aP => exact rfl); (case aB => exact (by repeat (first | (with_reducible first | exact HB.out | apply below_alloc | apply pw_below_drewN | apply below_drew1) | exact HB.out))); (case aF => exact (fun _ _ => trivial)); (case aO => exact (by (with_reducible repeat (first | apply Kd.R_alloc | apply Kd.R_drewN | apply Kd.R_drew)); exact HO_10.out)); (case aS => exact (below_size (by repeat (first | (with_reducible first | exact HB.out | apply below_alloc | apply pw_below_drewN | apply below_drew1) | exact HB.out)))); (case aL => have := LMc15.out; omega); intro v279 w16 ho hb hg hat; rw [← Ny278.out] at ho; have n0_ := Aside0.mk (hb); have n1_ := Aside0.mk (ho); clear HB; clear HO_10; have HB := n0_; have HO280 := n1_; clear n0_ n1_; clear ho hb hg hat))
                        go_roundg k3
                        case measure => have := HJ4.out; have := HJ6.out; have := HK3.out; omega
                        case rel => exact ⟨(y278), (wrap64 (x11_3 + 1)), (by first | rfl | (simp; done) | (simp [*]; done)), H', ⟨by have := HJ4.out; have := HJ6.out; have := HK3.out; omega⟩, ⟨by (with_reducible repeat (first | apply Kd.R_alloc | apply Kd.R_drewN | apply Kd.R_drew)); exact HO280.out⟩, ⟨by repeat (first | (with_reducible first | exact HB.out | apply below_alloc | apply pw_below_drewN | apply below_drew1) | exact HB.out)⟩⟩
                      · rw [if_neg c15] at H
                        exact absurd H (by simp)
                    · rw [if_neg c14] at H
                      exact absurd H (by simp)
                  · rw [if_neg c13] at H
                    have c13b0 : decide (x11_3 < 60) = false := decide_eq_false c13
                    clear c13
                    have H' := Aside0.mk H
                    clear H
                    go_wp2
                    go_meet
                    case rel => exact ⟨_, (x10_3), H', ⟨by have := HJ4.out; have := HJ6.out; have := HK3.out; first | omega | exact Nat.le_refl _⟩, ⟨by (with_reducible repeat (first | apply Kd.R_alloc | apply Kd.R_drewN | apply Kd.R_drew)); exact HO_10.out⟩, ⟨by repeat (first | (with_reducible first | exact HB.out | apply below_alloc | apply pw_below_drewN | apply below_drew1) | exact HB.out)⟩⟩
                · rw [if_neg c12] at H
                  have c12b0 : decide (x11_3 < (l1.length : Int)) = false := decide_eq_false c12
                  clear c12
                  (first | rw [c12b0] | (simp only [i64_w, i32_w]; rw [c12b0]) | skip)
                  have H' := Aside0.mk H
                  clear H
                  go_wp2
                  go_meet
                  case rel => exact ⟨_, (x10_3), H', ⟨by have := HJ4.out; have := HJ6.out; have := HK3.out; first | omega | exact Nat.le_refl _⟩, ⟨by (with_reducible repeat (first | apply Kd.R_alloc | apply Kd.R_drewN | apply Kd.R_drew)); exact HO_10.out⟩, ⟨by repeat (first | (with_reducible first | exact HB.out | apply below_alloc | apply pw_below_drewN | apply below_drew1) | exact HB.out)⟩⟩
          case rest => as_aux_lemma =>
            clear HC11
            try clear c1
            try clear c2
            try clear p2
            try clear q2
            try clear hx2
            try clear c4
            try clear c6
            try clear c6b0
            try clear c6b1
            try clear p6
            try clear c8
            try clear c9
            try clear c12
            try clear c12b0
            try clear c13
            try clear c13b0
            try clear c14
            try clear c14b0
            try clear c15
            try clear hx277_0
            try clear p2
            try clear p277
            try clear p6
            try clear q277
            obtain ⟨kq, x10_10, HA, HJ10, HO_10, HB⟩ := hcut
            cases kq with
            | zero => exact absurd HA.out (by simp [mintagelaw05_WholePlaces.j3])
            | succ kj10 =>
              have H := HA.out
              clear HA
              simp only [mintagelaw05_WholePlaces.j3] at H
              have HC17 := Aside0.mk H
              clear H
              go_upto_region 9 with (fail)
              go_cut [12] (fun v12 wc => ∃ (kq : Nat) (x12_16 : Bool), v12 = .bool x12_16 ∧ Aside0 (mintagelaw05_WholePlaces.j4 kq l2 a3 (wrap64 (1 + (Go.bits .and .i64 a0 7))) x10_10 x12_16 = some r) ∧ Aside0 (kq ≤ kj10) ∧ Aside0 (Kd.R (Kd.int .u8) 5 wc w.heap.size (fun _ => True) u10 x10_10) ∧ Aside0 (Below w.heap.size w wc))
              case first => as_aux_lemma =>
                have H := HC17.out
                clear HC17
                by_cases c18 : (x10_10.length : Int) > 0
                · rw [if_pos c18] at H
                  have c18b0 : decide (0 < (x10_10.length : Int)) = true := decide_eq_true c18
                  have c18b1 : decide (0 < x10_10.length) = true := decide_eq_true (by omega)
                  clear c18
                  (first | rw [c18b0] | (simp only [i64_w, i32_w]; rw [c18b0]) | skip)
                  by_cases c19 : 0 < (x10_10.length : Int)
                  · rw [if_pos c19] at H
                    have c19b0 : decide (0 < (x10_10.length : Int)) = true := decide_eq_true c19
                    have c19b1 : decide (0 < x10_10.length) = true := decide_eq_true (by omega)
                    clear c19
                    have H' := Aside0.mk H
                    clear H
                    obtain ⟨Ao20, co20, eo20⟩ := Kd.R_slice HO_10.out
                    subst eo20
                    have p281 : 0 ≤ (0 : Int) := (by omega)
                    have q281 : 0 < (x10_10.length : Int) := of_decide_eq_true (by first | (with_reducible assumption) | assumption)
                    obtain ⟨ad281, e281, hx281_0⟩ := Kd.at_int (Kd.R_reads' HO_10.out).2.2 0 p281 q281
                    cases e281
                    have qi281 : (0 < x10_10.length) = True := eq_true (by omega)
                    (try rw [show ((0 : Int)).toNat = 0 from rfl] at hx281_0)
                    (try rw [Addr.add_zero'] at hx281_0)
                    replace p281 := eq_true p281
                    replace q281 := eq_true q281
                    (try (have qd281 := q281; simp only [List.length_drop] at qd281))
                    go_wp2
                    go_meet
                    case rel => exact ⟨_, (((rd x10_10 0) == 45)), (by first | rfl | (simp; done) | (simp [*]; done)), H', ⟨by have := HJ4.out; have := HJ6.out; have := HJ10.out; first | omega | exact Nat.le_refl _⟩, ⟨by (with_reducible repeat (first | apply Kd.R_alloc | apply Kd.R_drewN | apply Kd.R_drew)); exact HO_10.out⟩, ⟨by repeat (first | (with_reducible first | exact HB.out | apply below_alloc | apply pw_below_drewN | apply below_drew1) | exact HB.out)⟩⟩
                  · rw [if_neg c19] at H
                    exact absurd H (by simp)
                · rw [if_neg c18] at H
                  have c18b0 : decide (0 < (x10_10.length : Int)) = false := decide_eq_false c18
                  have c18b1 : decide (0 < x10_10.length) = false := decide_eq_false (by omega)
                  clear c18
                  (first | rw [c18b0] | (simp only [i64_w, i32_w]; rw [c18b0]) | skip)
                  have H' := Aside0.mk H
                  clear H
                  obtain ⟨Ao21, co21, eo21⟩ := Kd.R_slice HO_10.out
                  subst eo21
                  go_wp2
                  go_meet
                  case rel => exact ⟨_, (false), (by first | rfl | (simp; done) | (simp [*]; done)), H', ⟨by have := HJ4.out; have := HJ6.out; have := HJ10.out; first | omega | exact Nat.le_refl _⟩, ⟨by (with_reducible repeat (first | apply Kd.R_alloc | apply Kd.R_drewN | apply Kd.R_drew)); exact HO_10.out⟩, ⟨by repeat (first | (with_reducible first | exact HB.out | apply below_alloc | apply pw_below_drewN | apply below_drew1) | exact HB.out)⟩⟩
              case rest => as_aux_lemma =>
                clear HC17
                try clear c1
                try clear c2
                try clear p2
                try clear q2
                try clear hx2
                try clear qi2
                try clear c4
                try clear c6
                try clear c6b0
                try clear c6b1
                try clear p6
                try clear c8
                try clear c9
                try clear c12
                try clear c12b0
                try clear c13
                try clear c13b0
                try clear c14
                try clear c14b0
                try clear c15
                try clear c18
                try clear c18b0
                try clear c18b1
                try clear c19
                try clear c19b0
                try clear c19b1
                try clear hx277_0
                try clear hx281_0
                try clear p2
                try clear p277
                try clear p281
                try clear p6
                try clear q2
                try clear q277
                try clear q281
                obtain ⟨kq, x12_16, rfl, HA, HJ16, HO_10, HB⟩ := hcut
                cases kq with
                | zero => exact absurd HA.out (by simp [mintagelaw05_WholePlaces.j4])
                | succ kj16 =>
                  have H := HA.out
                  clear HA
                  simp only [mintagelaw05_WholePlaces.j4] at H
                  replace H := Option.bind_eq_some_iff.mp H
                  obtain ⟨⟨t282, t283, t284⟩, A220, H⟩ := H
                  replace H : ((mintagelaw05_num.f t284).bind fun t285 => (if t285 = 53 then (if 0 ≤ t283 then (if t283 ≤ (x10_10.length : Int) then ((whole_Parse.f kj16 (wrap64 (1 + (Go.bits .and .i64 a0 7))) (x10_10.take (t283 : Int).toNat)).bind fun bt295 => ((mintagelaw05_num.f bt295.2.2).bind fun t298 => (if t298 = 0 then (if bt295.2.1 = 0 then (mintagelaw05_WholePlaces.j5 kj16 l2 a3 (wrap64 (1 + (Go.bits .and .i64 a0 7))) x10_10 t283 false) else ((mintagelaw05_num.f bt295.2.2).bind fun t299 => (mintagelaw05_WholePlaces.j5 kj16 l2 a3 (wrap64 (1 + (Go.bits .and .i64 a0 7))) x10_10 t283 (t299 == 0)))) else ((mintagelaw05_num.f bt295.2.2).bind fun t300 => (if t300 = 51 then (if bt295.2.1 = 0 then (mintagelaw05_WholePlaces.j5 kj16 l2 a3 (wrap64 (1 + (Go.bits .and .i64 a0 7))) x10_10 t283 false) else ((mintagelaw05_num.f bt295.2.2).bind fun t301 => (mintagelaw05_WholePlaces.j5 kj16 l2 a3 (wrap64 (1 + (Go.bits .and .i64 a0 7))) x10_10 t283 (t301 == 0)))) else (mintagelaw05_WholePlaces.j5 kj16 l2 a3 (wrap64 (1 + (Go.bits .and .i64 a0 7))) x10_10 t283 true)))))) else (none)) else (none)) else ((mintagelaw05_num.f t284).bind fun t286 => (if t286 = 0 then ((mintagelaw05_wakes.f).bind fun t287 => (some t287)) else ((mintagelaw05_num.f t284).bind fun t288 => (if t288 = 51 then (if (x10_10.length : Int) = 0 then ((mintagelaw05_wakes.f).bind fun t289 => (some t289)) else (if x12_16 = true then (if (x10_10.length : Int) = 1 then ((mintagelaw05_wakes.f).bind fun t290 => (some t290)) else (some false)) else (some false))) else (some false))))))) = some r := H
                  have A22 := Aside0.mk A220
                  clear A220
                  replace H := Option.bind_eq_some_iff.mp H
                  obtain ⟨t285, A230, H⟩ := H
                  replace H : (if t285 = 53 then (if 0 ≤ t283 then (if t283 ≤ (x10_10.length : Int) then ((whole_Parse.f kj16 (wrap64 (1 + (Go.bits .and .i64 a0 7))) (x10_10.take (t283 : Int).toNat)).bind fun bt295 => ((mintagelaw05_num.f bt295.2.2).bind fun t298 => (if t298 = 0 then (if bt295.2.1 = 0 then (mintagelaw05_WholePlaces.j5 kj16 l2 a3 (wrap64 (1 + (Go.bits .and .i64 a0 7))) x10_10 t283 false) else ((mintagelaw05_num.f bt295.2.2).bind fun t299 => (mintagelaw05_WholePlaces.j5 kj16 l2 a3 (wrap64 (1 + (Go.bits .and .i64 a0 7))) x10_10 t283 (t299 == 0)))) else ((mintagelaw05_num.f bt295.2.2).bind fun t300 => (if t300 = 51 then (if bt295.2.1 = 0 then (mintagelaw05_WholePlaces.j5 kj16 l2 a3 (wrap64 (1 + (Go.bits .and .i64 a0 7))) x10_10 t283 false) else ((mintagelaw05_num.f bt295.2.2).bind fun t301 => (mintagelaw05_WholePlaces.j5 kj16 l2 a3 (wrap64 (1 + (Go.bits .and .i64 a0 7))) x10_10 t283 (t301 == 0)))) else (mintagelaw05_WholePlaces.j5 kj16 l2 a3 (wrap64 (1 + (Go.bits .and .i64 a0 7))) x10_10 t283 true)))))) else (none)) else (none)) else ((mintagelaw05_num.f t284).bind fun t286 => (if t286 = 0 then ((mintagelaw05_wakes.f).bind fun t287 => (some t287)) else ((mintagelaw05_num.f t284).bind fun t288 => (if t288 = 51 then (if (x10_10.length : Int) = 0 then ((mintagelaw05_wakes.f).bind fun t289 => (some t289)) else (if x12_16 = true then (if (x10_10.length : Int) = 1 then ((mintagelaw05_wakes.f).bind fun t290 => (some t290)) else (some false)) else (some false))) else (some false)))))) = some r := H
                  have A23 := Aside0.mk A230
                  clear A230
                  by_cases c24 : t285 = 53
                  · rw [if_pos c24] at H
                    have c24b0 : (t285 == 53) = true := beq_iff_eq.mpr c24
                    have c24b1 : (t285 != 53) = false := bne_eq_false_iff_eq.mpr c24
                    clear c24
                    by_cases c25 : 0 ≤ t283
                    · rw [if_pos c25] at H
                      have c25b0 := eq_true c25
                      have c25b1 : decide (0 ≤ t283) = true := decide_eq_true c25
                      clear c25
                      by_cases c26 : t283 ≤ (x10_10.length : Int)
                      · rw [if_pos c26] at H
                        have c26b0 := eq_true c26
                        have c26b1 : decide (t283 ≤ (x10_10.length : Int)) = true := decide_eq_true c26
                        clear c26
                        obtain ⟨y291, hy291⟩ : ∃ y_ : List Int, y_ = (x10_10.take (t283 : Int).toNat) := ⟨_, rfl⟩
                        replace H : ((whole_Parse.f kj16 (wrap64 (1 + (Go.bits .and .i64 a0 7))) y291).bind fun bt295 => ((mintagelaw05_num.f bt295.2.2).bind fun t298 => (if t298 = 0 then (if bt295.2.1 = 0 then (mintagelaw05_WholePlaces.j5 kj16 l2 a3 (wrap64 (1 + (Go.bits .and .i64 a0 7))) x10_10 t283 false) else ((mintagelaw05_num.f bt295.2.2).bind fun t299 => (mintagelaw05_WholePlaces.j5 kj16 l2 a3 (wrap64 (1 + (Go.bits .and .i64 a0 7))) x10_10 t283 (t299 == 0)))) else ((mintagelaw05_num.f bt295.2.2).bind fun t300 => (if t300 = 51 then (if bt295.2.1 = 0 then (mintagelaw05_WholePlaces.j5 kj16 l2 a3 (wrap64 (1 + (Go.bits .and .i64 a0 7))) x10_10 t283 false) else ((mintagelaw05_num.f bt295.2.2).bind fun t301 => (mintagelaw05_WholePlaces.j5 kj16 l2 a3 (wrap64 (1 + (Go.bits .and .i64 a0 7))) x10_10 t283 (t301 == 0)))) else (mintagelaw05_WholePlaces.j5 kj16 l2 a3 (wrap64 (1 + (Go.bits .and .i64 a0 7))) x10_10 t283 true)))))) = some r := by first | (rw [hy291]; with_reducible exact H) | (have H2_ := (Option.bind_some _ _).symm.trans H; rw [hy291]; with_reducible exact H2_) | (have H2_ := (Option.bind_some _ _).symm.trans H; with_reducible exact H2_) | with_reducible exact H | (rw [hy291]; exact H) | exact H
                        have Ny291 := Aside0.mk hy291
                        clear hy291
                        replace H := Option.bind_eq_some_iff.mp H
                        obtain ⟨⟨t295, t296, t297⟩, A270, H⟩ := H
                        replace H : ((mintagelaw05_num.f t297).bind fun t298 => (if t298 = 0 then (if t296 = 0 then (mintagelaw05_WholePlaces.j5 kj16 l2 a3 (wrap64 (1 + (Go.bits .and .i64 a0 7))) x10_10 t283 false) else ((mintagelaw05_num.f t297).bind fun t299 => (mintagelaw05_WholePlaces.j5 kj16 l2 a3 (wrap64 (1 + (Go.bits .and .i64 a0 7))) x10_10 t283 (t299 == 0)))) else ((mintagelaw05_num.f t297).bind fun t300 => (if t300 = 51 then (if t296 = 0 then (mintagelaw05_WholePlaces.j5 kj16 l2 a3 (wrap64 (1 + (Go.bits .and .i64 a0 7))) x10_10 t283 false) else ((mintagelaw05_num.f t297).bind fun t301 => (mintagelaw05_WholePlaces.j5 kj16 l2 a3 (wrap64 (1 + (Go.bits .and .i64 a0 7))) x10_10 t283 (t301 == 0)))) else (mintagelaw05_WholePlaces.j5 kj16 l2 a3 (wrap64 (1 + (Go.bits .and .i64 a0 7))) x10_10 t283 true))))) = some r := H
                        have A27 := Aside0.mk A270
                        clear A270
                        have HC28 := Aside0.mk H
                        clear H
                        obtain ⟨Ao29, co29, eo29⟩ := Kd.R_slice HO_10.out
                        subst eo29
                        go_upto_region 14 with (first | ((with_reducible refine gate_callee (f := 11) rfl ?_); refine goesL_ (some 71) rfl rfl Try.func11 (by kernel_rfl) rfl #[.int .i64 (wrap64 (1 + (Go.bits .and .i64 a0 7))), .slice Ao29 x10_10.length co29] rfl (by (try simp only [List.map_toArray, List.map_cons, List.map_nil]); first | done | rfl | (simp only [List.length_drop, List.length_take]; rfl)) ?_; (with_reducible refine (whole_Parse.calls kj16 (wrap64 (1 + (Go.bits .and .i64 a0 7))) _ _ x10_10 t282 t283 t284 _ ?side1 ?side2 A22.out).mono ?_); (case side1 => repeat (first | exact (Kd.R_reads' HO_10.out).2.2 | (with_reducible refine Kd.C_alloc ?_ _) | (with_reducible refine Kd.C_drewN ?_ _) | (with_reducible refine Kd.C_drew ?_))); (case side2 => exact (Kd.R_reads' HO_10.out).2.1); rintro e w30 ⟨rfl, hb⟩; refine ⟨_, rfl, ?_⟩; have n0_ := Aside0.mk (Kd.R_below (by (with_reducible repeat (first | apply Kd.R_alloc | apply Kd.R_drewN | apply Kd.R_drew)); exact HO_10.out) hb); have n1_ := Aside0.mk (below_step (by repeat (first | (with_reducible first | exact HB.out | apply below_alloc | apply pw_below_drewN | apply below_drew1) | exact HB.out)) hb); clear HO_10; clear HB; have HO_10 := n0_; have HB := n1_; clear n0_ n1_; (try clear hb); (try clear hb2); (try clear hk); (try clear hi)) | ((with_reducible refine gate_callee (f := 14) rfl ?_); refine goesL_ (some 76) rfl rfl Try.func14 (by kernel_rfl) rfl #[.int .i64 t284] rfl (by (try simp only [List.map_toArray, List.map_cons, List.map_nil]); first | done | rfl | (simp only [List.length_drop, List.length_take]; rfl)) ?_; (with_reducible refine (mintagelaw05_num.calls t284 t285 _ A23.out).mono ?_); rintro e w' ⟨rfl, ⟨nd, rfl⟩⟩; refine ⟨_, rfl, ?_⟩; have q31 : (t283 : Int) ≤ ((x10_10.length : Int) : Int) := of_decide_eq_true (by first | (with_reducible assumption) | assumption); obtain ⟨i031, hi031, _, hsz31, _⟩ := info_parts info5; have hroom31 : x10_10.length ≤ co29 := (Kd.R_reads' HO_10.out).2.1; have hC31 : Kd.C (Kd.int .u8) _ Ao29 x10_10.length x10_10 := (Kd.R_reads' HO_10.out).2.2; have hcut31 := cut_to (P := Try.prog) 22 5 .i64 Try.underlying22 hi031 Ao29 x10_10.length co29 t283 (of_decide_eq_true (by first | (with_reducible assumption) | assumption)) q31 hroom31; have hr31 := Kd.C_take (m := (t283 : Int).toNat) hC31 (by omega); have hy31 : y291.length = (t283 : Int).toNat := (by rw [Ny291.out, List.length_take]; omega); rw [← Ny291.out] at hr31; rw [← hy31] at hcut31; have HR294 := Aside0.mk hr31; have HC294 := Aside0.mk (show y291.length ≤ co29 from by omega); clear hr31 hC31 hroom31 hi031 hsz31; have KY31 := Aside0.mk hy31; clear hy31; have KL31 := Aside0.mk (show (t283 : Int).toNat ≤ x10_10.length from by omega); replace q31 := eq_true q31; (try (have qd31 := q31; simp only [List.length_drop] at qd31))) | ((with_reducible refine gate_callee (f := 11) rfl ?_); refine goesL_ (some 107) rfl rfl Try.func11 (by kernel_rfl) rfl #[.int .i64 (wrap64 (1 + (Go.bits .and .i64 a0 7))), .slice Ao29 y291.length co29] rfl (by (try simp only [List.map_toArray, List.map_cons, List.map_nil]); first | done | rfl | (simp only [List.length_drop, List.length_take]; rfl)) ?_; (with_reducible refine (whole_Parse.calls kj16 (wrap64 (1 + (Go.bits .and .i64 a0 7))) _ _ y291 t295 t296 t297 _ ?side1 ?side2 A27.out).mono ?_); (case side1 => repeat (first | exact (by repeat (first | (with_reducible exact HR294.out) | (with_reducible refine Kd.C_alloc ?_ _) | (with_reducible refine Kd.C_drewN ?_ _) | (with_reducible refine Kd.C_drew ?_) | exact HR294.out)) | (with_reducible refine Kd.C_alloc ?_ _) | (with_reducible refine Kd.C_drewN ?_ _) | (with_reducible refine Kd.C_drew ?_))); (case side2 => exact HC294.out); rintro e w32 ⟨rfl, hb⟩; refine ⟨_, rfl, ?_⟩; have n0_ := Aside0.mk (Kd.R_below (by (with_reducible repeat (first | apply Kd.R_alloc | apply Kd.R_drewN | apply Kd.R_drew)); exact HO_10.out) hb); have n1_ := Aside0.mk (Kd.C_below (by repeat (first | (with_reducible exact HR294.out) | (with_reducible refine Kd.C_alloc ?_ _) | (with_reducible refine Kd.C_drewN ?_ _) | (with_reducible refine Kd.C_drew ?_) | exact HR294.out)) hb); have n2_ := Aside0.mk (below_step (by repeat (first | (with_reducible first | exact HB.out | apply below_alloc | apply pw_below_drewN | apply below_drew1) | exact HB.out)) hb); clear HO_10; clear HR294; clear HB; have HO_10 := n0_; have HR294 := n1_; have HB := n2_; clear n0_ n1_ n2_; (try clear hb); (try clear hb2); (try clear hk); (try clear hi)))
                        (try simp only [Act.put, List.setIfInBounds_toArray, List.set_cons_zero, List.set_cons_succ])
                        go_cut [127] (fun v127 wc => ∃ (kq : Nat) (x127_27 : Bool), v127 = .bool x127_27 ∧ Aside0 (mintagelaw05_WholePlaces.j5 kq l2 a3 (wrap64 (1 + (Go.bits .and .i64 a0 7))) x10_10 t283 x127_27 = some r) ∧ Aside0 (kq ≤ kj16) ∧ Aside0 (Kd.R (Kd.int .u8) 5 wc w.heap.size (fun _ => True) (.slice Ao29 x10_10.length co29) x10_10) ∧ Aside0 (Kd.C (Kd.int .u8) wc Ao29 y291.length y291) ∧ Aside0 (Below w.heap.size w wc))
                        case first => as_aux_lemma =>
                          have H := HC28.out
                          clear HC28
                          replace H := Option.bind_eq_some_iff.mp H
                          obtain ⟨t298, A330, H⟩ := H
                          replace H : (if t298 = 0 then (if t296 = 0 then (mintagelaw05_WholePlaces.j5 kj16 l2 a3 (wrap64 (1 + (Go.bits .and .i64 a0 7))) x10_10 t283 false) else ((mintagelaw05_num.f t297).bind fun t299 => (mintagelaw05_WholePlaces.j5 kj16 l2 a3 (wrap64 (1 + (Go.bits .and .i64 a0 7))) x10_10 t283 (t299 == 0)))) else ((mintagelaw05_num.f t297).bind fun t300 => (if t300 = 51 then (if t296 = 0 then (mintagelaw05_WholePlaces.j5 kj16 l2 a3 (wrap64 (1 + (Go.bits .and .i64 a0 7))) x10_10 t283 false) else ((mintagelaw05_num.f t297).bind fun t301 => (mintagelaw05_WholePlaces.j5 kj16 l2 a3 (wrap64 (1 + (Go.bits .and .i64 a0 7))) x10_10 t283 (t301 == 0)))) else (mintagelaw05_WholePlaces.j5 kj16 l2 a3 (wrap64 (1 + (Go.bits .and .i64 a0 7))) x10_10 t283 true)))) = some r := H
                          have A33 := Aside0.mk A330
                          clear A330
                          by_cases c34 : t298 = 0
                          · rw [if_pos c34] at H
                            have c34b0 : (t298 == 0) = true := beq_iff_eq.mpr c34
                            have c34b1 : (t298 != 0) = false := bne_eq_false_iff_eq.mpr c34
                            clear c34
                            (first | rw [c34b0] | (simp only [i64_w, i32_w]; rw [c34b0]) | skip)
                            by_cases c35 : t296 = 0
                            · rw [if_pos c35] at H
                              have c35b0 : (t296 == 0) = true := beq_iff_eq.mpr c35
                              have c35b1 : (t296 != 0) = false := bne_eq_false_iff_eq.mpr c35
                              clear c35
                              have H' := Aside0.mk H
                              clear H
                              go_wp2_with (first | ((with_reducible refine gate_callee (f := 14) rfl ?_); refine goesL_ (some 112) rfl rfl Try.func14 (by kernel_rfl) rfl #[.int .i64 t297] rfl (by (try simp only [List.map_toArray, List.map_cons, List.map_nil]); first | done | rfl | (simp only [List.length_drop, List.length_take]; rfl)) ?_; (with_reducible refine (mintagelaw05_num.calls t297 t298 _ A33.out).mono ?_); rintro e w' ⟨rfl, ⟨nd, rfl⟩⟩; refine ⟨_, rfl, ?_⟩))
                              go_meet
                              case rel => exact ⟨_, (false), (by first | rfl | (simp; done) | (simp [*]; done)), H', ⟨by have := HJ4.out; have := HJ6.out; have := HJ10.out; have := HJ16.out; first | omega | exact Nat.le_refl _⟩, ⟨by (with_reducible repeat (first | apply Kd.R_alloc | apply Kd.R_drewN | apply Kd.R_drew)); exact HO_10.out⟩, ⟨by repeat (first | (with_reducible exact HR294.out) | (with_reducible refine Kd.C_alloc ?_ _) | (with_reducible refine Kd.C_drewN ?_ _) | (with_reducible refine Kd.C_drew ?_) | exact HR294.out)⟩, ⟨by repeat (first | (with_reducible first | exact HB.out | apply below_alloc | apply pw_below_drewN | apply below_drew1) | exact HB.out)⟩⟩
                            · rw [if_neg c35] at H
                              have c35b0 : (t296 == 0) = false := beq_eq_false_iff_ne.mpr c35
                              have c35b1 : (t296 != 0) = true := bne_iff_ne.mpr c35
                              replace H := Option.bind_eq_some_iff.mp H
                              obtain ⟨t299, A360, H⟩ := H
                              replace H : (mintagelaw05_WholePlaces.j5 kj16 l2 a3 (wrap64 (1 + (Go.bits .and .i64 a0 7))) x10_10 t283 (t299 == 0)) = some r := H
                              have A36 := Aside0.mk A360
                              (try (have e36_27 := Option.some.inj (A360.symm.trans A27.out)))
                              (try (have e36_33 := Option.some.inj (A360.symm.trans A33.out)))
                              clear A360
                              have H' := Aside0.mk H
                              clear H
                              go_wp2_with (first | ((with_reducible refine gate_callee (f := 14) rfl ?_); refine goesL_ (some 112) rfl rfl Try.func14 (by kernel_rfl) rfl #[.int .i64 t297] rfl (by (try simp only [List.map_toArray, List.map_cons, List.map_nil]); first | done | rfl | (simp only [List.length_drop, List.length_take]; rfl)) ?_; (with_reducible refine (mintagelaw05_num.calls t297 t298 _ A33.out).mono ?_); rintro e w' ⟨rfl, ⟨nd, rfl⟩⟩; refine ⟨_, rfl, ?_⟩) | (go_at_call 14; (with_reducible refine (mintagelaw05_num.calls t297 t299 _ A36.out).mono ?_); rintro e w' ⟨rfl, ⟨nd, rfl⟩⟩))
                              go_meet
                              case rel => exact ⟨_, ((t299 == 0)), (by first | rfl | (simp; done) | (simp [*]; done)), H', ⟨by have := HJ4.out; have := HJ6.out; have := HJ10.out; have := HJ16.out; first | omega | exact Nat.le_refl _⟩, ⟨by (with_reducible repeat (first | apply Kd.R_alloc | apply Kd.R_drewN | apply Kd.R_drew)); exact HO_10.out⟩, ⟨by repeat (first | (with_reducible exact HR294.out) | (with_reducible refine Kd.C_alloc ?_ _) | (with_reducible refine Kd.C_drewN ?_ _) | (with_reducible refine Kd.C_drew ?_) | exact HR294.out)⟩, ⟨by repeat (first | (with_reducible first | exact HB.out | apply below_alloc | apply pw_below_drewN | apply below_drew1) | exact HB.out)⟩⟩
                          · rw [if_neg c34] at H
                            have c34b0 : (t298 == 0) = false := beq_eq_false_iff_ne.mpr c34
                            have c34b1 : (t298 != 0) = true := bne_iff_ne.mpr c34
                            (first | rw [c34b0] | (simp only [i64_w, i32_w]; rw [c34b0]) | skip)
                            replace H := Option.bind_eq_some_iff.mp H
                            obtain ⟨t300, A370, H⟩ := H
                            replace H : (if t300 = 51 then (if t296 = 0 then (mintagelaw05_WholePlaces.j5 kj16 l2 a3 (wrap64 (1 + (Go.bits .and .i64 a0 7))) x10_10 t283 false) else ((mintagelaw05_num.f t297).bind fun t301 => (mintagelaw05_WholePlaces.j5 kj16 l2 a3 (wrap64 (1 + (Go.bits .and .i64 a0 7))) x10_10 t283 (t301 == 0)))) else (mintagelaw05_WholePlaces.j5 kj16 l2 a3 (wrap64 (1 + (Go.bits .and .i64 a0 7))) x10_10 t283 true)) = some r := H
                            have A37 := Aside0.mk A370
                            clear A370
                            by_cases c38 : t300 = 51
                            · rw [if_pos c38] at H
                              have c38b0 : (t300 == 51) = true := beq_iff_eq.mpr c38
                              have c38b1 : (t300 != 51) = false := bne_eq_false_iff_eq.mpr c38
                              clear c38
                              by_cases c39 : t296 = 0
                              · rw [if_pos c39] at H
                                have c39b0 : (t296 == 0) = true := beq_iff_eq.mpr c39
                                have c39b1 : (t296 != 0) = false := bne_eq_false_iff_eq.mpr c39
                                clear c39
                                have H' := Aside0.mk H
                                clear H
                                go_wp2_with (first | ((with_reducible refine gate_callee (f := 14) rfl ?_); refine goesL_ (some 112) rfl rfl Try.func14 (by kernel_rfl) rfl #[.int .i64 t297] rfl (by (try simp only [List.map_toArray, List.map_cons, List.map_nil]); first | done | rfl | (simp only [List.length_drop, List.length_take]; rfl)) ?_; (with_reducible refine (mintagelaw05_num.calls t297 t298 _ A33.out).mono ?_); rintro e w' ⟨rfl, ⟨nd, rfl⟩⟩; refine ⟨_, rfl, ?_⟩) | (go_at_call 14; (with_reducible refine (mintagelaw05_num.calls t297 t300 _ A37.out).mono ?_); rintro e w' ⟨rfl, ⟨nd, rfl⟩⟩))
                                go_meet
                                case rel => exact ⟨_, (false), (by first | rfl | (simp; done) | (simp [*]; done)), H', ⟨by have := HJ4.out; have := HJ6.out; have := HJ10.out; have := HJ16.out; first | omega | exact Nat.le_refl _⟩, ⟨by (with_reducible repeat (first | apply Kd.R_alloc | apply Kd.R_drewN | apply Kd.R_drew)); exact HO_10.out⟩, ⟨by repeat (first | (with_reducible exact HR294.out) | (with_reducible refine Kd.C_alloc ?_ _) | (with_reducible refine Kd.C_drewN ?_ _) | (with_reducible refine Kd.C_drew ?_) | exact HR294.out)⟩, ⟨by repeat (first | (with_reducible first | exact HB.out | apply below_alloc | apply pw_below_drewN | apply below_drew1) | exact HB.out)⟩⟩
                              · rw [if_neg c39] at H
                                have c39b0 : (t296 == 0) = false := beq_eq_false_iff_ne.mpr c39
                                have c39b1 : (t296 != 0) = true := bne_iff_ne.mpr c39
                                replace H := Option.bind_eq_some_iff.mp H
                                obtain ⟨t301, A400, H⟩ := H
                                replace H : (mintagelaw05_WholePlaces.j5 kj16 l2 a3 (wrap64 (1 + (Go.bits .and .i64 a0 7))) x10_10 t283 (t301 == 0)) = some r := H
                                have A40 := Aside0.mk A400
                                (try (have e40_33 := Option.some.inj (A400.symm.trans A33.out)))
                                (try (have e40_37 := Option.some.inj (A400.symm.trans A37.out)))
                                clear A400
                                have H' := Aside0.mk H
                                clear H
                                go_wp2_with (first | ((with_reducible refine gate_callee (f := 14) rfl ?_); refine goesL_ (some 112) rfl rfl Try.func14 (by kernel_rfl) rfl #[.int .i64 t297] rfl (by (try simp only [List.map_toArray, List.map_cons, List.map_nil]); first | done | rfl | (simp only [List.length_drop, List.length_take]; rfl)) ?_; (with_reducible refine (mintagelaw05_num.calls t297 t298 _ A33.out).mono ?_); rintro e w' ⟨rfl, ⟨nd, rfl⟩⟩; refine ⟨_, rfl, ?_⟩) | (go_at_call 14; (with_reducible refine (mintagelaw05_num.calls t297 t300 _ A37.out).mono ?_); rintro e w' ⟨rfl, ⟨nd, rfl⟩⟩) | (go_at_call 14; (with_reducible refine (mintagelaw05_num.calls t297 t301 _ A40.out).mono ?_); rintro e w' ⟨rfl, ⟨nd, rfl⟩⟩))
                                go_meet
                                case rel => exact ⟨_, ((t301 == 0)), (by first | rfl | (simp; done) | (simp [*]; done) | (rw [e40_37, beq_iff_eq.mp c38b0])), H', ⟨by have := HJ4.out; have := HJ6.out; have := HJ10.out; have := HJ16.out; first | omega | exact Nat.le_refl _⟩, ⟨by (with_reducible repeat (first | apply Kd.R_alloc | apply Kd.R_drewN | apply Kd.R_drew)); exact HO_10.out⟩, ⟨by repeat (first | (with_reducible exact HR294.out) | (with_reducible refine Kd.C_alloc ?_ _) | (with_reducible refine Kd.C_drewN ?_ _) | (with_reducible refine Kd.C_drew ?_) | exact HR294.out)⟩, ⟨by repeat (first | (with_reducible first | exact HB.out | apply below_alloc | apply pw_below_drewN | apply below_drew1) | exact HB.out)⟩⟩
                            · rw [if_neg c38] at H
                              have c38b0 : (t300 == 51) = false := beq_eq_false_iff_ne.mpr c38
                              have c38b1 : (t300 != 51) = true := bne_iff_ne.mpr c38
                              have H' := Aside0.mk H
                              clear H
                              go_wp2_with (first | ((with_reducible refine gate_callee (f := 14) rfl ?_); refine goesL_ (some 112) rfl rfl Try.func14 (by kernel_rfl) rfl #[.int .i64 t297] rfl (by (try simp only [List.map_toArray, List.map_cons, List.map_nil]); first | done | rfl | (simp only [List.length_drop, List.length_take]; rfl)) ?_; (with_reducible refine (mintagelaw05_num.calls t297 t298 _ A33.out).mono ?_); rintro e w' ⟨rfl, ⟨nd, rfl⟩⟩; refine ⟨_, rfl, ?_⟩) | (go_at_call 14; (with_reducible refine (mintagelaw05_num.calls t297 t300 _ A37.out).mono ?_); rintro e w' ⟨rfl, ⟨nd, rfl⟩⟩))
                              go_meet
                              case rel => exact ⟨_, (true), (by first | rfl | (simp; done) | (simp [*]; done)), H', ⟨by have := HJ4.out; have := HJ6.out; have := HJ10.out; have := HJ16.out; first | omega | exact Nat.le_refl _⟩, ⟨by (with_reducible repeat (first | apply Kd.R_alloc | apply Kd.R_drewN | apply Kd.R_drew)); exact HO_10.out⟩, ⟨by repeat (first | (with_reducible exact HR294.out) | (with_reducible refine Kd.C_alloc ?_ _) | (with_reducible refine Kd.C_drewN ?_ _) | (with_reducible refine Kd.C_drew ?_) | exact HR294.out)⟩, ⟨by repeat (first | (with_reducible first | exact HB.out | apply below_alloc | apply pw_below_drewN | apply below_drew1) | exact HB.out)⟩⟩
                        case rest => as_aux_lemma =>
                          clear HC28
                          try clear c1
                          try clear c2
                          try clear p2
                          try clear q2
                          try clear hx2
                          try clear qi2
                          try clear c3
                          try clear q3
                          try clear c4
                          try clear c6
                          try clear c6b0
                          try clear c6b1
                          try clear p6
                          try clear c8
                          try clear c9
                          try clear c11
                          try clear c12
                          try clear c12b0
                          try clear c13
                          try clear c13b0
                          try clear c14
                          try clear c14b0
                          try clear c15
                          try clear c18
                          try clear c18b0
                          try clear c18b1
                          try clear c19
                          try clear c19b0
                          try clear c19b1
                          try clear c24
                          try clear c24b0
                          try clear c24b1
                          try clear c25
                          try clear c25b0
                          try clear c25b1
                          try clear c26
                          try clear c26b0
                          try clear c26b1
                          try clear p27
                          try clear q27
                          try clear hx27
                          try clear p28
                          try clear q28
                          try clear hx28
                          try clear qi28
                          try clear q31
                          try clear c34
                          try clear c34b0
                          try clear c34b1
                          try clear c35
                          try clear c35b0
                          try clear c35b1
                          try clear c38
                          try clear c38b0
                          try clear c38b1
                          try clear c39
                          try clear c39b0
                          try clear c39b1
                          try clear hx277_0
                          try clear hx281_0
                          try clear p2
                          try clear p277
                          try clear p281
                          try clear p6
                          try clear q2
                          try clear q277
                          try clear q281
                          try clear q31
                          obtain ⟨kq, x127_27, rfl, HA, HJ27, HO_10, HR294, HB⟩ := hcut
                          cases kq with
                          | zero => exact absurd HA.out (by simp [mintagelaw05_WholePlaces.j5])
                          | succ kj27 =>
                            have H := HA.out
                            clear HA
                            simp only [mintagelaw05_WholePlaces.j5] at H
                            by_cases c41 : x127_27 = true
                            · subst c41
                              have H1 : (some false) = some r := by rw [if_pos rfl] at H; exact H
                              clear H
                              have H := H1
                              clear H1
                              obtain rfl := Option.some.inj H
                              go_wp2
                              go_ret
                              exact ⟨by first | rfl | (simp [errW_none, errW_some] <;> rfl) | (simp [*, errW_none, errW_some] <;> rfl), by repeat (first | (with_reducible first | exact HB.out | apply below_alloc | apply pw_below_drewN | apply below_drew1) | exact HB.out)⟩
                            · replace c41 := Bool.eq_false_iff.mpr c41
                              subst c41
                              have H1 : ((some (([] : List Int) : List Int)).bind fun y302 => (if y302.length + x10_10.length < 140737488355328 then (mintagelaw05_WholePlaces.l1 kj27 l2 a3 (wrap64 (1 + (Go.bits .and .i64 a0 7))) t283 (y302 ++ x10_10) 0) else (none))) = some r := by rw [if_neg (show ¬ (false = true) by decide)] at H; exact H
                              clear H
                              have H := H1
                              clear H1
                              obtain ⟨y302, hy302⟩ : ∃ y_ : List Int, y_ = (([] : List Int)) := ⟨_, rfl⟩
                              replace H : (if y302.length + x10_10.length < 140737488355328 then (mintagelaw05_WholePlaces.l1 kj27 l2 a3 (wrap64 (1 + (Go.bits .and .i64 a0 7))) t283 (y302 ++ x10_10) 0) else (none)) = some r := by first | (rw [hy302]; with_reducible exact H) | (have H2_ := (Option.bind_some _ _).symm.trans H; rw [hy302]; with_reducible exact H2_) | (have H2_ := (Option.bind_some _ _).symm.trans H; with_reducible exact H2_) | with_reducible exact H | (rw [hy302]; exact H) | exact H
                              have Ny302 := Aside0.mk hy302
                              clear hy302
                              by_cases c42 : y302.length + x10_10.length < 140737488355328
                              · rw [if_pos c42] at H
                                have LMc42 := Aside0.mk c42
                                clear c42
                                obtain ⟨y305, hy305⟩ : ∃ y_ : List Int, y_ = (y302 ++ x10_10) := ⟨_, rfl⟩
                                replace H : (mintagelaw05_WholePlaces.l1 kj27 l2 a3 (wrap64 (1 + (Go.bits .and .i64 a0 7))) t283 y305 0) = some r := by first | (rw [hy305]; with_reducible exact H) | (have H2_ := (Option.bind_some _ _).symm.trans H; rw [hy305]; with_reducible exact H2_) | (have H2_ := (Option.bind_some _ _).symm.trans H; with_reducible exact H2_) | with_reducible exact H | (rw [hy305]; exact H) | exact H
                                have Ny305 := Aside0.mk hy305
                                clear hy305
                                have HC43 := Aside0.mk H
                                clear H
                                go_upto_block 2 with (first | ((with_reducible refine gate_dst (N := 128) rfl ?_); (try (refine gate_guard (by rfl) ?_; dsimp only)); refine Kd.R_lit (Kd.int .u8) _ 5 ?hg (N := 128) ?hd (xs := ([] : List Int)) (inner := []) (ok := fun _ => True) (okp := fun _ => True) ?hr ?hp (fun _ hk => hk) trivial (Below.refl _ _) (Nat.le_refl _) (by simp) ?_; (case hd => rfl); (case hg => rfl); (case hr => first | (go_simp; done) | (go_simp; rfl) | (go_simp; simp only [u64_of_u8, i64_of_u8]; done) | (go_simp; simp only [u64_of_u8, i64_of_u8]; rfl)); (case hp => exact (Reps.none _ _)); intro v303 w44 ho45 hb hg_ hnew_; clear hg_ hnew_; (first | rw [← Ny302.out] at ho45 | (simp only [Int.reduceToNat] at ho45; rw [← Ny302.out] at ho45)); have n0_ := Aside0.mk (Kd.R_elder' (by (with_reducible repeat (first | apply Kd.R_alloc | apply Kd.R_drewN | apply Kd.R_drew)); exact HO_10.out) (Kd.R_base ho45) hb); have n1_ := Aside0.mk (Kd.R_lower (Kd.R_new' ho45 (Kd.R_lt (by (with_reducible repeat (first | apply Kd.R_alloc | apply Kd.R_drewN | apply Kd.R_drew)); exact HO_10.out))) (below_size (by repeat (first | (with_reducible first | exact HB.out | apply below_alloc | apply pw_below_drewN | apply below_drew1) | exact HB.out)))); have n2_ := Aside0.mk (Kd.C_below (by repeat (first | (with_reducible exact HR294.out) | (with_reducible refine Kd.C_alloc ?_ _) | (with_reducible refine Kd.C_drewN ?_ _) | (with_reducible refine Kd.C_drew ?_) | exact HR294.out)) hb); have n3_ := Aside0.mk (below_step (by repeat (first | (with_reducible first | exact HB.out | apply below_alloc | apply pw_below_drewN | apply below_drew1) | exact HB.out)) hb); clear HO_10; clear HR294; clear HB; have HO_10 := n0_; have HO304 := n1_; have HR294 := n2_; have HB := n3_; clear n0_ n1_ n2_ n3_; clear hb ho45) | ((with_reducible refine gate_builtin (b := .append) (xs := #[.tmp 128, .tmp 129]) rfl ?_); (try (refine gate_guard (by rfl) ?_; dsimp only)); at_builtin; refine Kd.R_append_rows (Kd.int .u8) (w0 := w) w.heap.size rfl (.tmp 128) (.tmp 129) 22 5 (.int .u8 0) 1 rfl Try.underlying22 info5 rfl (by decide) (by omega) v303 y302 x10_10 _ _ _ (fun k_ => some k_ ≠ (.slice Ao29 x10_10.length co29 : Value).ownBlock) (fun _ => False) rfl rfl ?aO ?aR (fun _ _ h => h) (fun _ h => h.elim) ?aF ?aB ?aS ?aL ?_; (case aR => repeat (first | exact (Kd.R_reads' HO_10.out).2.2 | (with_reducible refine Kd.C_alloc ?_ _) | (with_reducible refine Kd.C_drewN ?_ _) | (with_reducible refine Kd.C_drew ?_))); (case aB => exact (by repeat (first | (with_reducible first | exact HB.out | apply below_alloc | apply pw_below_drewN | apply below_drew1) | exact HB.out))); (case aF => exact (fun k_ hk => Kd.fresh' (Kd.R_lt (by (with_reducible repeat (first | apply Kd.R_alloc | apply Kd.R_drewN | apply Kd.R_drew)); exact HO_10.out)) k_ hk)); (case aO => exact (by (with_reducible repeat (first | apply Kd.R_alloc | apply Kd.R_drewN | apply Kd.R_drew)); exact Kd.R_mono HO304.out (fun _ hk => hk.2))); (case aS => exact (below_size (by repeat (first | (with_reducible first | exact HB.out | apply below_alloc | apply pw_below_drewN | apply below_drew1) | exact HB.out)))); (case aL => have := LMc42.out; omega); intro v306 w46 ho hb hg hat; rw [← Ny305.out] at ho; have n0_ := Aside0.mk (Kd.R_after (ok := (fun _ => True)) (by (with_reducible repeat (first | apply Kd.R_alloc | apply Kd.R_drewN | apply Kd.R_drew)); exact HO_10.out) hg hat); have n1_ := Aside0.mk (hb); have n2_ := Aside0.mk ((show Kd.C (Kd.int .u8) w46 Ao29 y291.length y291 from by rw [Ny291.out]; exact Kd.C_take (m := (t283 : Int).toNat) ((Kd.R_reads' (Kd.R_after (ok := (fun _ => True)) (by (with_reducible repeat (first | apply Kd.R_alloc | apply Kd.R_drewN | apply Kd.R_drew)); exact HO_10.out) hg hat)).2.2) KL31.out)); have n3_ := Aside0.mk (ho); clear HO_10; clear HB; clear HR294; clear HO304; have HO_10 := n0_; have HB := n1_; have HR294 := n2_; have HO307 := n3_; clear n0_ n1_ n2_ n3_; clear ho hb hg hat))
                                (try simp only [Act.put, List.setIfInBounds_toArray, List.set_cons_zero, List.set_cons_succ])
                                go_cut [19] (fun v19 wc => ∃ (kq : Nat) (x19_42 : List Int), Aside0 (mintagelaw05_WholePlaces.j7 kq a3 (wrap64 (1 + (Go.bits .and .i64 a0 7))) t283 x19_42 = some r) ∧ Aside0 (kq ≤ kj27) ∧ Aside0 (Kd.R (Kd.int .u8) 5 wc w.heap.size (fun _ => True) v19 x19_42) ∧ Aside0 (Below w.heap.size w wc))
                                case first => as_aux_lemma =>
                                  have H := HC43.out
                                  clear HC43
                                  have H' := Aside0.mk H
                                  clear H
                                  go_wp2
                                  go_loopg [19, 20] kj27 (fun kq v19 v20 w' => ∃ (x19_6 : List Int) (x20_6 : Int), v20 = .int .i64 x20_6 ∧ Aside0 (mintagelaw05_WholePlaces.l1 kq l2 a3 (wrap64 (1 + (Go.bits .and .i64 a0 7))) t283 x19_6 x20_6 = some r) ∧ Aside0 (kq ≤ kj27) ∧ Aside0 (Kd.R (Kd.int .u8) 5 w' w.heap.size (fun _ => True) v19 x19_6) ∧ Aside0 (Below w.heap.size w w'))
                                  case atStart => exact ⟨(y305), (0), (by first | rfl | (simp; done) | (simp [*]; done)), H', ⟨Nat.le_refl _⟩, ⟨by (with_reducible repeat (first | apply Kd.R_alloc | apply Kd.R_drewN | apply Kd.R_drew)); exact Kd.R_mono HO307.out (fun _ hk => trivial)⟩, ⟨by repeat (first | (with_reducible first | exact HB.out | apply below_alloc | apply pw_below_drewN | apply below_drew1) | exact HB.out)⟩⟩
                                  case round =>
                                    clear H'
                                    try clear c1
                                    try clear c2
                                    try clear p2
                                    try clear q2
                                    try clear hx2
                                    try clear qi2
                                    try clear c3
                                    try clear q3
                                    try clear c4
                                    try clear c6
                                    try clear c6b0
                                    try clear c6b1
                                    try clear p6
                                    try clear c8
                                    try clear c9
                                    try clear c11
                                    try clear c12
                                    try clear c12b0
                                    try clear c13
                                    try clear c13b0
                                    try clear c14
                                    try clear c14b0
                                    try clear c15
                                    try clear c18
                                    try clear c18b0
                                    try clear c18b1
                                    try clear c19
                                    try clear c19b0
                                    try clear c19b1
                                    try clear c24
                                    try clear c24b0
                                    try clear c24b1
                                    try clear c25
                                    try clear c25b0
                                    try clear c25b1
                                    try clear c26
                                    try clear c26b0
                                    try clear c26b1
                                    try clear p27
                                    try clear q27
                                    try clear hx27
                                    try clear p28
                                    try clear q28
                                    try clear hx28
                                    try clear qi28
                                    try clear q31
                                    try clear c34
                                    try clear c34b0
                                    try clear c34b1
                                    try clear c35
                                    try clear c35b0
                                    try clear c35b1
                                    try clear c38
                                    try clear c38b0
                                    try clear c38b1
                                    try clear c39
                                    try clear c39b0
                                    try clear c39b1
                                    try clear c41
                                    try clear c42
                                    try clear hx277_0
                                    try clear hx281_0
                                    try clear p2
                                    try clear p27
                                    try clear p277
                                    try clear p28
                                    try clear p281
                                    try clear p6
                                    try clear q2
                                    try clear q27
                                    try clear q277
                                    try clear q28
                                    try clear q281
                                    try clear q3
                                    try clear q31
                                    obtain ⟨x19_6, x20_6, rfl, HA, HK6, HO_19, HB⟩ := hrel
                                    cases gk with
                                    | zero => exact absurd HA.out (by simp [mintagelaw05_WholePlaces.l1])
                                    | succ k6 =>
                                      have H := HA.out
                                      clear HA
                                      simp only [mintagelaw05_WholePlaces.l1] at H
                                      by_cases c47 : x20_6 < (l2.length : Int)
                                      · rw [if_pos c47] at H
                                        have c47b0 : decide (x20_6 < (l2.length : Int)) = true := decide_eq_true c47
                                        clear c47
                                        (first | rw [c47b0] | (simp only [i64_w, i32_w]; rw [c47b0]) | skip)
                                        by_cases c48 : x20_6 < 60
                                        · rw [if_pos c48] at H
                                          have c48b0 : decide (x20_6 < 60) = true := decide_eq_true c48
                                          clear c48
                                          by_cases c49 : 0 ≤ x20_6
                                          · rw [if_pos c49] at H
                                            have c49b0 : decide (0 ≤ x20_6) = true := decide_eq_true c49
                                            clear c49
                                            by_cases c50 : x19_6.length < 140737488355328
                                            · rw [if_pos c50] at H
                                              have LMc50 := Aside0.mk c50
                                              clear c50
                                              obtain ⟨y309, hy309⟩ : ∃ y_ : List Int, y_ = (x19_6 ++ [(48 + (Int.tmod (rd l2 x20_6) 10)) % 256]) := ⟨_, rfl⟩
                                              replace H : (mintagelaw05_WholePlaces.l1 k6 l2 a3 (wrap64 (1 + (Go.bits .and .i64 a0 7))) t283 y309 (wrap64 (x20_6 + 1))) = some r := by first | (rw [hy309]; with_reducible exact H) | (have H2_ := (Option.bind_some _ _).symm.trans H; rw [hy309]; with_reducible exact H2_) | (have H2_ := (Option.bind_some _ _).symm.trans H; with_reducible exact H2_) | with_reducible exact H | (rw [hy309]; exact H) | exact H
                                              have Ny309 := Aside0.mk hy309
                                              clear hy309
                                              have H' := Aside0.mk H
                                              clear H
                                              have p308 : 0 ≤ (x20_6 : Int) := of_decide_eq_true (by first | (with_reducible assumption) | assumption)
                                              have q308 : x20_6 < (l2.length : Int) := of_decide_eq_true (by first | (with_reducible assumption) | assumption)
                                              obtain ⟨ad308, e308, hx308_0⟩ := Kd.at_int HR2.out x20_6 p308 q308
                                              cases e308
                                              replace hx308_0 := (HB.out.cell (World.block_lt_of_cell? w _ hx308_0)).trans hx308_0
                                              replace p308 := eq_true p308
                                              replace q308 := eq_true q308
                                              (try (have qd308 := q308; simp only [List.length_drop] at qd308))
                                              go_wp2_with (first | ((with_reducible refine gate_builtin (b := .append) (xs := #[.tmp 141, .tmp 148]) rfl ?_); (try (refine gate_guard (by rfl) ?_; dsimp only)); at_builtin; refine Kd.R_append (Kd.int .u8) (w0 := w) w.heap.size rfl (.tmp 141) (.tmp 148) 22 5 (.int .u8 0) 1 rfl Try.underlying22 info5 rfl (by decide) (by omega) u19 x19_6 ((48 + (Int.tmod (rd l2 x20_6) 10)) % 256) [.int .u8 ((48 + (Int.tmod (rd l2 x20_6) 10)) % 256)] (fun _ => True) (fun _ => False) rfl rfl ?aP (fun _ hk => hk.elim) ?aF ?aO ?aB ?aS ?aL ?_; (case aP => exact rfl); (case aB => exact (by repeat (first | (with_reducible first | exact HB.out | apply below_alloc | apply pw_below_drewN | apply below_drew1) | exact HB.out))); (case aF => exact (fun _ _ => trivial)); (case aO => exact (by (with_reducible repeat (first | apply Kd.R_alloc | apply Kd.R_drewN | apply Kd.R_drew)); exact HO_19.out)); (case aS => exact (below_size (by repeat (first | (with_reducible first | exact HB.out | apply below_alloc | apply pw_below_drewN | apply below_drew1) | exact HB.out)))); (case aL => have := LMc50.out; omega); intro v310 w51 ho hb hg hat; rw [← Ny309.out] at ho; have n0_ := Aside0.mk (hb); have n1_ := Aside0.mk (ho); clear HB; clear HO_19; have HB := n0_; have HO311 := n1_; clear n0_ n1_; clear ho hb hg hat))
                                              go_roundg k6
                                              case measure => have := HJ4.out; have := HJ6.out; have := HJ10.out; have := HJ16.out; have := HJ27.out; have := HK6.out; omega
                                              case rel => exact ⟨(y309), (wrap64 (x20_6 + 1)), (by first | rfl | (simp; done) | (simp [*]; done)), H', ⟨by have := HJ4.out; have := HJ6.out; have := HJ10.out; have := HJ16.out; have := HJ27.out; have := HK6.out; omega⟩, ⟨by (with_reducible repeat (first | apply Kd.R_alloc | apply Kd.R_drewN | apply Kd.R_drew)); exact HO311.out⟩, ⟨by repeat (first | (with_reducible first | exact HB.out | apply below_alloc | apply pw_below_drewN | apply below_drew1) | exact HB.out)⟩⟩
                                            · rw [if_neg c50] at H
                                              exact absurd H (by simp)
                                          · rw [if_neg c49] at H
                                            exact absurd H (by simp)
                                        · rw [if_neg c48] at H
                                          have c48b0 : decide (x20_6 < 60) = false := decide_eq_false c48
                                          clear c48
                                          have H' := Aside0.mk H
                                          clear H
                                          go_wp2
                                          go_meet
                                          case rel => exact ⟨_, (x19_6), H', ⟨by have := HJ4.out; have := HJ6.out; have := HJ10.out; have := HJ16.out; have := HJ27.out; have := HK6.out; first | omega | exact Nat.le_refl _⟩, ⟨by (with_reducible repeat (first | apply Kd.R_alloc | apply Kd.R_drewN | apply Kd.R_drew)); exact HO_19.out⟩, ⟨by repeat (first | (with_reducible first | exact HB.out | apply below_alloc | apply pw_below_drewN | apply below_drew1) | exact HB.out)⟩⟩
                                      · rw [if_neg c47] at H
                                        have c47b0 : decide (x20_6 < (l2.length : Int)) = false := decide_eq_false c47
                                        clear c47
                                        (first | rw [c47b0] | (simp only [i64_w, i32_w]; rw [c47b0]) | skip)
                                        have H' := Aside0.mk H
                                        clear H
                                        go_wp2
                                        go_meet
                                        case rel => exact ⟨_, (x19_6), H', ⟨by have := HJ4.out; have := HJ6.out; have := HJ10.out; have := HJ16.out; have := HJ27.out; have := HK6.out; first | omega | exact Nat.le_refl _⟩, ⟨by (with_reducible repeat (first | apply Kd.R_alloc | apply Kd.R_drewN | apply Kd.R_drew)); exact HO_19.out⟩, ⟨by repeat (first | (with_reducible first | exact HB.out | apply below_alloc | apply pw_below_drewN | apply below_drew1) | exact HB.out)⟩⟩
                                case rest => as_aux_lemma =>
                                  clear HC43
                                  try clear c1
                                  try clear c2
                                  try clear p2
                                  try clear q2
                                  try clear hx2
                                  try clear qi2
                                  try clear c3
                                  try clear p3
                                  try clear q3
                                  try clear hx3
                                  try clear c4
                                  try clear c5
                                  try clear c6
                                  try clear c6b0
                                  try clear c6b1
                                  try clear p6
                                  try clear c8
                                  try clear c9
                                  try clear c11
                                  try clear c12
                                  try clear c12b0
                                  try clear c13
                                  try clear c13b0
                                  try clear c14
                                  try clear c14b0
                                  try clear c15
                                  try clear c18
                                  try clear c18b0
                                  try clear c18b1
                                  try clear c19
                                  try clear c19b0
                                  try clear c19b1
                                  try clear c24
                                  try clear c24b0
                                  try clear c24b1
                                  try clear c25
                                  try clear c25b0
                                  try clear c25b1
                                  try clear c26
                                  try clear c26b0
                                  try clear c26b1
                                  try clear p27
                                  try clear q27
                                  try clear hx27
                                  try clear p28
                                  try clear q28
                                  try clear hx28
                                  try clear qi28
                                  try clear p30
                                  try clear q30
                                  try clear hx30
                                  try clear q31
                                  try clear c34
                                  try clear c34b0
                                  try clear c34b1
                                  try clear c35
                                  try clear c35b0
                                  try clear c35b1
                                  try clear c38
                                  try clear c38b0
                                  try clear c38b1
                                  try clear c39
                                  try clear c39b0
                                  try clear c39b1
                                  try clear c41
                                  try clear c42
                                  try clear c47
                                  try clear c47b0
                                  try clear c48
                                  try clear c48b0
                                  try clear c49
                                  try clear c49b0
                                  try clear c50
                                  try clear hx277_0
                                  try clear hx281_0
                                  try clear hx308_0
                                  try clear p2
                                  try clear p27
                                  try clear p277
                                  try clear p28
                                  try clear p281
                                  try clear p308
                                  try clear p6
                                  try clear q2
                                  try clear q27
                                  try clear q277
                                  try clear q28
                                  try clear q281
                                  try clear q3
                                  try clear q308
                                  try clear q31
                                  obtain ⟨kq, x19_42, HA, HJ42, HO_19, HB⟩ := hcut
                                  cases kq with
                                  | zero => exact absurd HA.out (by simp [mintagelaw05_WholePlaces.j7])
                                  | succ kj42 =>
                                    have H := HA.out
                                    clear HA
                                    simp only [mintagelaw05_WholePlaces.j7] at H
                                    replace H := Option.bind_eq_some_iff.mp H
                                    obtain ⟨⟨t312, t313, t314⟩, A520, H⟩ := H
                                    replace H : ((mintagelaw05_num.f t314).bind fun t315 => (if t315 = 53 then (mintagelaw05_WholePlaces.j8 kj42 a3 (wrap64 (1 + (Go.bits .and .i64 a0 7))) x19_42 (t313 != t283)) else (mintagelaw05_WholePlaces.j8 kj42 a3 (wrap64 (1 + (Go.bits .and .i64 a0 7))) x19_42 true))) = some r := H
                                    have A52 := Aside0.mk A520
                                    clear A520
                                    have HC53 := Aside0.mk H
                                    clear H
                                    obtain ⟨Ao54, co54, eo54⟩ := Kd.R_slice HO_19.out
                                    subst eo54
                                    go_upto_region 22 with (first | ((with_reducible refine gate_callee (f := 11) rfl ?_); refine goesL_ (some 153) rfl rfl Try.func11 (by kernel_rfl) rfl #[.int .i64 (wrap64 (1 + (Go.bits .and .i64 a0 7))), .slice Ao54 x19_42.length co54] rfl (by (try simp only [List.map_toArray, List.map_cons, List.map_nil]); first | done | rfl | (simp only [List.length_drop, List.length_take]; rfl)) ?_; (with_reducible refine (whole_Parse.calls kj42 (wrap64 (1 + (Go.bits .and .i64 a0 7))) _ _ x19_42 t312 t313 t314 _ ?side1 ?side2 A52.out).mono ?_); (case side1 => repeat (first | exact (Kd.R_reads' HO_19.out).2.2 | (with_reducible refine Kd.C_alloc ?_ _) | (with_reducible refine Kd.C_drewN ?_ _) | (with_reducible refine Kd.C_drew ?_))); (case side2 => exact (Kd.R_reads' HO_19.out).2.1); rintro e w55 ⟨rfl, hb⟩; refine ⟨_, rfl, ?_⟩; have n0_ := Aside0.mk (Kd.R_below (by (with_reducible repeat (first | apply Kd.R_alloc | apply Kd.R_drewN | apply Kd.R_drew)); exact HO_19.out) hb); have n1_ := Aside0.mk (below_step (by repeat (first | (with_reducible first | exact HB.out | apply below_alloc | apply pw_below_drewN | apply below_drew1) | exact HB.out)) hb); clear HO_19; clear HB; have HO_19 := n0_; have HB := n1_; clear n0_ n1_; (try clear hb); (try clear hb2); (try clear hk); (try clear hi)))
                                    (try simp only [Act.put, List.setIfInBounds_toArray, List.set_cons_zero, List.set_cons_succ])
                                    go_cut [164] (fun v164 wc => ∃ (kq : Nat) (x164_52 : Bool), v164 = .bool x164_52 ∧ Aside0 (mintagelaw05_WholePlaces.j8 kq a3 (wrap64 (1 + (Go.bits .and .i64 a0 7))) x19_42 x164_52 = some r) ∧ Aside0 (kq ≤ kj42) ∧ Aside0 (Kd.R (Kd.int .u8) 5 wc w.heap.size (fun _ => True) (.slice Ao54 x19_42.length co54) x19_42) ∧ Aside0 (Below w.heap.size w wc))
                                    case first => as_aux_lemma =>
                                      have H := HC53.out
                                      clear HC53
                                      replace H := Option.bind_eq_some_iff.mp H
                                      obtain ⟨t315, A560, H⟩ := H
                                      replace H : (if t315 = 53 then (mintagelaw05_WholePlaces.j8 kj42 a3 (wrap64 (1 + (Go.bits .and .i64 a0 7))) x19_42 (t313 != t283)) else (mintagelaw05_WholePlaces.j8 kj42 a3 (wrap64 (1 + (Go.bits .and .i64 a0 7))) x19_42 true)) = some r := H
                                      have A56 := Aside0.mk A560
                                      (try (have e56_40 := Option.some.inj (A560.symm.trans A40.out)))
                                      (try (have e56_52 := Option.some.inj (A560.symm.trans A52.out)))
                                      clear A560
                                      by_cases c57 : t315 = 53
                                      · rw [if_pos c57] at H
                                        have c57b0 : (t315 == 53) = true := beq_iff_eq.mpr c57
                                        have c57b1 : (t315 != 53) = false := bne_eq_false_iff_eq.mpr c57
                                        clear c57
                                        (first | rw [c57b0] | (simp only [i64_w, i32_w]; rw [c57b0]) | skip)
                                        have H' := Aside0.mk H
                                        clear H
                                        go_wp2_with (first | ((with_reducible refine gate_callee (f := 14) rfl ?_); refine goesL_ (some 158) rfl rfl Try.func14 (by kernel_rfl) rfl #[.int .i64 t314] rfl (by (try simp only [List.map_toArray, List.map_cons, List.map_nil]); first | done | rfl | (simp only [List.length_drop, List.length_take]; rfl)) ?_; (with_reducible refine (mintagelaw05_num.calls t314 t315 _ A56.out).mono ?_); rintro e w' ⟨rfl, ⟨nd, rfl⟩⟩; refine ⟨_, rfl, ?_⟩))
                                        go_meet
                                        case rel => exact ⟨_, ((t313 != t283)), (by first | rfl | (simp; done) | (simp [*]; done)), H', ⟨by have := HJ4.out; have := HJ6.out; have := HJ10.out; have := HJ16.out; have := HJ27.out; have := HJ42.out; first | omega | exact Nat.le_refl _⟩, ⟨by (with_reducible repeat (first | apply Kd.R_alloc | apply Kd.R_drewN | apply Kd.R_drew)); exact HO_19.out⟩, ⟨by repeat (first | (with_reducible first | exact HB.out | apply below_alloc | apply pw_below_drewN | apply below_drew1) | exact HB.out)⟩⟩
                                      · rw [if_neg c57] at H
                                        have c57b0 : (t315 == 53) = false := beq_eq_false_iff_ne.mpr c57
                                        have c57b1 : (t315 != 53) = true := bne_iff_ne.mpr c57
                                        (first | rw [c57b0] | (simp only [i64_w, i32_w]; rw [c57b0]) | skip)
                                        have H' := Aside0.mk H
                                        clear H
                                        go_wp2_with (first | ((with_reducible refine gate_callee (f := 14) rfl ?_); refine goesL_ (some 158) rfl rfl Try.func14 (by kernel_rfl) rfl #[.int .i64 t314] rfl (by (try simp only [List.map_toArray, List.map_cons, List.map_nil]); first | done | rfl | (simp only [List.length_drop, List.length_take]; rfl)) ?_; (with_reducible refine (mintagelaw05_num.calls t314 t315 _ A56.out).mono ?_); rintro e w' ⟨rfl, ⟨nd, rfl⟩⟩; refine ⟨_, rfl, ?_⟩))
                                        go_meet
                                        case rel => exact ⟨_, (true), (by first | rfl | (simp; done) | (simp [*]; done)), H', ⟨by have := HJ4.out; have := HJ6.out; have := HJ10.out; have := HJ16.out; have := HJ27.out; have := HJ42.out; first | omega | exact Nat.le_refl _⟩, ⟨by (with_reducible repeat (first | apply Kd.R_alloc | apply Kd.R_drewN | apply Kd.R_drew)); exact HO_19.out⟩, ⟨by repeat (first | (with_reducible first | exact HB.out | apply below_alloc | apply pw_below_drewN | apply below_drew1) | exact HB.out)⟩⟩
                                    case rest => as_aux_lemma =>
                                      clear HC53
                                      try clear c1
                                      try clear c2
                                      try clear p2
                                      try clear q2
                                      try clear hx2
                                      try clear qi2
                                      try clear c3
                                      try clear p3
                                      try clear q3
                                      try clear hx3
                                      try clear c4
                                      try clear c5
                                      try clear c6
                                      try clear c6b0
                                      try clear c6b1
                                      try clear p6
                                      try clear c8
                                      try clear c9
                                      try clear c11
                                      try clear c12
                                      try clear c12b0
                                      try clear c13
                                      try clear c13b0
                                      try clear c14
                                      try clear c14b0
                                      try clear c15
                                      try clear c18
                                      try clear c18b0
                                      try clear c18b1
                                      try clear c19
                                      try clear c19b0
                                      try clear c19b1
                                      try clear c24
                                      try clear c24b0
                                      try clear c24b1
                                      try clear c25
                                      try clear c25b0
                                      try clear c25b1
                                      try clear c26
                                      try clear c26b0
                                      try clear c26b1
                                      try clear p27
                                      try clear q27
                                      try clear hx27
                                      try clear p28
                                      try clear q28
                                      try clear hx28
                                      try clear qi28
                                      try clear p30
                                      try clear q30
                                      try clear hx30
                                      try clear q31
                                      try clear c34
                                      try clear c34b0
                                      try clear c34b1
                                      try clear c35
                                      try clear c35b0
                                      try clear c35b1
                                      try clear c38
                                      try clear c38b0
                                      try clear c38b1
                                      try clear c39
                                      try clear c39b0
                                      try clear c39b1
                                      try clear c41
                                      try clear c42
                                      try clear c47
                                      try clear c47b0
                                      try clear c48
                                      try clear c48b0
                                      try clear c49
                                      try clear c49b0
                                      try clear c50
                                      try clear c57
                                      try clear c57b0
                                      try clear c57b1
                                      try clear hx277_0
                                      try clear hx281_0
                                      try clear hx308_0
                                      try clear p2
                                      try clear p27
                                      try clear p277
                                      try clear p28
                                      try clear p281
                                      try clear p3
                                      try clear p30
                                      try clear p308
                                      try clear p6
                                      try clear q2
                                      try clear q27
                                      try clear q277
                                      try clear q28
                                      try clear q281
                                      try clear q3
                                      try clear q30
                                      try clear q308
                                      try clear q31
                                      obtain ⟨kq, x164_52, rfl, HA, HJ52, HO_19, HB⟩ := hcut
                                      cases kq with
                                      | zero => exact absurd HA.out (by simp [mintagelaw05_WholePlaces.j8])
                                      | succ kj52 =>
                                        have H := HA.out
                                        clear HA
                                        simp only [mintagelaw05_WholePlaces.j8] at H
                                        by_cases c58 : x164_52 = true
                                        · subst c58
                                          have H1 : (some false) = some r := by rw [if_pos rfl] at H; exact H
                                          clear H
                                          have H := H1
                                          clear H1
                                          obtain rfl := Option.some.inj H
                                          go_wp2
                                          go_ret
                                          exact ⟨by first | rfl | (simp [errW_none, errW_some] <;> rfl) | (simp [*, errW_none, errW_some] <;> rfl), by repeat (first | (with_reducible first | exact HB.out | apply below_alloc | apply pw_below_drewN | apply below_drew1) | exact HB.out)⟩
                                        · replace c58 := Bool.eq_false_iff.mpr c58
                                          subst c58
                                          have H1 : (if a3 ≥ 48 then (mintagelaw05_WholePlaces.j9 kj52 a3 (wrap64 (1 + (Go.bits .and .i64 a0 7))) x19_42 (decide (a3 ≤ 57))) else (mintagelaw05_WholePlaces.j9 kj52 a3 (wrap64 (1 + (Go.bits .and .i64 a0 7))) x19_42 false)) = some r := by rw [if_neg (show ¬ (false = true) by decide)] at H; exact H
                                          clear H
                                          have H := H1
                                          clear H1
                                          have HC59 := Aside0.mk H
                                          clear H
                                          go_upto_region 24 with (fail)
                                          go_cut [170] (fun v170 wc => ∃ (kq : Nat) (x170_58 : Bool), v170 = .bool x170_58 ∧ Aside0 (mintagelaw05_WholePlaces.j9 kq a3 (wrap64 (1 + (Go.bits .and .i64 a0 7))) x19_42 x170_58 = some r) ∧ Aside0 (kq ≤ kj52) ∧ Aside0 (Kd.R (Kd.int .u8) 5 wc w.heap.size (fun _ => True) (.slice Ao54 x19_42.length co54) x19_42) ∧ Aside0 (Below w.heap.size w wc))
                                          case first => as_aux_lemma =>
                                            have H := HC59.out
                                            clear HC59
                                            by_cases c60 : a3 ≥ 48
                                            · rw [if_pos c60] at H
                                              have c60b0 : decide (48 ≤ a3) = true := decide_eq_true c60
                                              clear c60
                                              (first | rw [c60b0] | (simp only [i64_w, i32_w]; rw [c60b0]) | skip)
                                              have H' := Aside0.mk H
                                              clear H
                                              go_wp2
                                              go_meet
                                              case rel => exact ⟨_, (decide (a3 ≤ 57)), (by first | rfl | (simp; done) | (simp [*]; done)), H', ⟨by have := HJ4.out; have := HJ6.out; have := HJ10.out; have := HJ16.out; have := HJ27.out; have := HJ42.out; have := HJ52.out; first | omega | exact Nat.le_refl _⟩, ⟨by (with_reducible repeat (first | apply Kd.R_alloc | apply Kd.R_drewN | apply Kd.R_drew)); exact HO_19.out⟩, ⟨by repeat (first | (with_reducible first | exact HB.out | apply below_alloc | apply pw_below_drewN | apply below_drew1) | exact HB.out)⟩⟩
                                            · rw [if_neg c60] at H
                                              have c60b0 : decide (48 ≤ a3) = false := decide_eq_false c60
                                              clear c60
                                              (first | rw [c60b0] | (simp only [i64_w, i32_w]; rw [c60b0]) | skip)
                                              have H' := Aside0.mk H
                                              clear H
                                              go_wp2
                                              go_meet
                                              case rel => exact ⟨_, (false), (by first | rfl | (simp; done) | (simp [*]; done)), H', ⟨by have := HJ4.out; have := HJ6.out; have := HJ10.out; have := HJ16.out; have := HJ27.out; have := HJ42.out; have := HJ52.out; first | omega | exact Nat.le_refl _⟩, ⟨by (with_reducible repeat (first | apply Kd.R_alloc | apply Kd.R_drewN | apply Kd.R_drew)); exact HO_19.out⟩, ⟨by repeat (first | (with_reducible first | exact HB.out | apply below_alloc | apply pw_below_drewN | apply below_drew1) | exact HB.out)⟩⟩
                                          case rest => as_aux_lemma =>
                                            clear HC59
                                            try clear c1
                                            try clear c2
                                            try clear p2
                                            try clear q2
                                            try clear hx2
                                            try clear qi2
                                            try clear c3
                                            try clear p3
                                            try clear q3
                                            try clear hx3
                                            try clear c4
                                            try clear c5
                                            try clear c6
                                            try clear c6b0
                                            try clear c6b1
                                            try clear p6
                                            try clear c8
                                            try clear c9
                                            try clear c11
                                            try clear c12
                                            try clear c12b0
                                            try clear c13
                                            try clear c13b0
                                            try clear c14
                                            try clear c14b0
                                            try clear c15
                                            try clear c18
                                            try clear c18b0
                                            try clear c18b1
                                            try clear c19
                                            try clear c19b0
                                            try clear c19b1
                                            try clear c24
                                            try clear c24b0
                                            try clear c24b1
                                            try clear c25
                                            try clear c25b0
                                            try clear c25b1
                                            try clear c26
                                            try clear c26b0
                                            try clear c26b1
                                            try clear p27
                                            try clear q27
                                            try clear hx27
                                            try clear p28
                                            try clear q28
                                            try clear hx28
                                            try clear qi28
                                            try clear p30
                                            try clear q30
                                            try clear hx30
                                            try clear q31
                                            try clear c34
                                            try clear c34b0
                                            try clear c34b1
                                            try clear c35
                                            try clear c35b0
                                            try clear c35b1
                                            try clear c38
                                            try clear c38b0
                                            try clear c38b1
                                            try clear c39
                                            try clear c39b0
                                            try clear c39b1
                                            try clear c41
                                            try clear c42
                                            try clear c47
                                            try clear c47b0
                                            try clear c48
                                            try clear c48b0
                                            try clear c49
                                            try clear c49b0
                                            try clear c50
                                            try clear c57
                                            try clear c57b0
                                            try clear c57b1
                                            try clear c58
                                            try clear c60
                                            try clear c60b0
                                            try clear hx277_0
                                            try clear hx281_0
                                            try clear hx308_0
                                            try clear p2
                                            try clear p27
                                            try clear p277
                                            try clear p28
                                            try clear p281
                                            try clear p3
                                            try clear p30
                                            try clear p308
                                            try clear p6
                                            try clear q2
                                            try clear q27
                                            try clear q277
                                            try clear q28
                                            try clear q281
                                            try clear q3
                                            try clear q30
                                            try clear q308
                                            try clear q31
                                            obtain ⟨kq, x170_58, rfl, HA, HJ58, HO_19, HB⟩ := hcut
                                            cases kq with
                                            | zero => exact absurd HA.out (by simp [mintagelaw05_WholePlaces.j9])
                                            | succ kj58 =>
                                              have H := HA.out
                                              clear HA
                                              simp only [mintagelaw05_WholePlaces.j9] at H
                                              by_cases c61 : x170_58 = true
                                              · subst c61
                                                have H1 : ((mintagelaw05_wakes.f).bind fun t316 => (some t316)) = some r := by rw [if_pos rfl] at H; exact H
                                                clear H
                                                have H := H1
                                                clear H1
                                                replace H := Option.bind_eq_some_iff.mp H
                                                obtain ⟨t316, A620, H⟩ := H
                                                replace H : (some t316) = some r := H
                                                have A62 := Aside0.mk A620
                                                clear A620
                                                obtain rfl := Option.some.inj H
                                                go_wp2_with (first | ((with_reducible refine gate_callee (f := 16) rfl ?_); refine goesL_ (some 171) rfl rfl Try.func16 (by kernel_rfl) rfl #[] rfl (by (try simp only [List.map_toArray, List.map_cons, List.map_nil]); first | done | rfl | (simp only [List.length_drop, List.length_take]; rfl)) ?_; (with_reducible refine (mintagelaw05_wakes.calls  t316 _ A62.out).mono ?_); rintro e w63 ⟨rfl, hb⟩; refine ⟨_, rfl, ?_⟩; have n0_ := Aside0.mk (Kd.R_below (by (with_reducible repeat (first | apply Kd.R_alloc | apply Kd.R_drewN | apply Kd.R_drew)); exact HO_19.out) hb); have n1_ := Aside0.mk (below_step (by repeat (first | (with_reducible first | exact HB.out | apply below_alloc | apply pw_below_drewN | apply below_drew1) | exact HB.out)) hb); clear HO_19; clear HB; have HO_19 := n0_; have HB := n1_; clear n0_ n1_; (try clear hb); (try clear hb2); (try clear hk); (try clear hi)))
                                                go_ret
                                                exact ⟨by first | rfl | (simp [errW_none, errW_some] <;> rfl) | (simp [*, errW_none, errW_some] <;> rfl), by repeat (first | (with_reducible first | exact HB.out | apply below_alloc | apply pw_below_drewN | apply below_drew1) | exact HB.out)⟩
                                              · replace c61 := Bool.eq_false_iff.mpr c61
                                                subst c61
                                                have H1 : (if x19_42.length < 140737488355328 then ((whole_Parse.f kj58 (wrap64 (1 + (Go.bits .and .i64 a0 7))) (x19_42 ++ [a3])).bind fun bt320 => ((mintagelaw05_num.f bt320.2.2).bind fun t323 => (if t323 = 52 then (if bt320.2.1 = (x19_42.length : Int) then ((mintagelaw05_wakes.f).bind fun t324 => (some t324)) else (some false)) else (some false)))) else (none)) = some r := by rw [if_neg (show ¬ (false = true) by decide)] at H; exact H
                                                clear H
                                                have H := H1
                                                clear H1
                                                by_cases c64 : x19_42.length < 140737488355328
                                                · rw [if_pos c64] at H
                                                  have LMc64 := Aside0.mk c64
                                                  clear c64
                                                  obtain ⟨y317, hy317⟩ : ∃ y_ : List Int, y_ = (x19_42 ++ [a3]) := ⟨_, rfl⟩
                                                  replace H : ((whole_Parse.f kj58 (wrap64 (1 + (Go.bits .and .i64 a0 7))) y317).bind fun bt320 => ((mintagelaw05_num.f bt320.2.2).bind fun t323 => (if t323 = 52 then (if bt320.2.1 = (x19_42.length : Int) then ((mintagelaw05_wakes.f).bind fun t324 => (some t324)) else (some false)) else (some false)))) = some r := by first | (rw [hy317]; with_reducible exact H) | (have H2_ := (Option.bind_some _ _).symm.trans H; rw [hy317]; with_reducible exact H2_) | (have H2_ := (Option.bind_some _ _).symm.trans H; with_reducible exact H2_) | with_reducible exact H | (rw [hy317]; exact H) | exact H
                                                  have Ny317 := Aside0.mk hy317
                                                  clear hy317
                                                  replace H := Option.bind_eq_some_iff.mp H
                                                  obtain ⟨⟨t320, t321, t322⟩, A650, H⟩ := H
                                                  replace H : ((mintagelaw05_num.f t322).bind fun t323 => (if t323 = 52 then (if t321 = (x19_42.length : Int) then ((mintagelaw05_wakes.f).bind fun t324 => (some t324)) else (some false)) else (some false))) = some r := H
                                                  have A65 := Aside0.mk A650
                                                  clear A650
                                                  replace H := Option.bind_eq_some_iff.mp H
                                                  obtain ⟨t323, A660, H⟩ := H
                                                  replace H : (if t323 = 52 then (if t321 = (x19_42.length : Int) then ((mintagelaw05_wakes.f).bind fun t324 => (some t324)) else (some false)) else (some false)) = some r := H
                                                  have A66 := Aside0.mk A660
                                                  clear A660
                                                  by_cases c67 : t323 = 52
                                                  · rw [if_pos c67] at H
                                                    have c67b0 : (t323 == 52) = true := beq_iff_eq.mpr c67
                                                    have c67b1 : (t323 != 52) = false := bne_eq_false_iff_eq.mpr c67
                                                    clear c67
                                                    by_cases c68 : t321 = (x19_42.length : Int)
                                                    · rw [if_pos c68] at H
                                                      have c68b0 : (t321 == (x19_42.length : Int)) = true := beq_iff_eq.mpr c68
                                                      have c68b1 : (t321 != (x19_42.length : Int)) = false := bne_eq_false_iff_eq.mpr c68
                                                      clear c68
                                                      replace H := Option.bind_eq_some_iff.mp H
                                                      obtain ⟨t324, A690, H⟩ := H
                                                      replace H : (some t324) = some r := H
                                                      have A69 := Aside0.mk A690
                                                      clear A690
                                                      obtain rfl := Option.some.inj H
                                                      go_wp2_with (first | ((with_reducible refine gate_builtin (b := .append) (xs := #[.tmp 174, .tmp 176]) rfl ?_); (try (refine gate_guard (by rfl) ?_; dsimp only)); at_builtin; refine Kd.R_append (Kd.int .u8) (w0 := w) w.heap.size rfl (.tmp 174) (.tmp 176) 22 5 (.int .u8 0) 1 rfl Try.underlying22 info5 rfl (by decide) (by omega) (.slice Ao54 x19_42.length co54) x19_42 a3 [.int .u8 a3] (fun _ => True) (fun _ => False) rfl rfl ?aP (fun _ hk => hk.elim) ?aF ?aO ?aB ?aS ?aL ?_; (case aP => exact rfl); (case aB => exact (by repeat (first | (with_reducible first | exact HB.out | apply below_alloc | apply pw_below_drewN | apply below_drew1) | exact HB.out))); (case aF => exact (fun _ _ => trivial)); (case aO => exact (by (with_reducible repeat (first | apply Kd.R_alloc | apply Kd.R_drewN | apply Kd.R_drew)); exact HO_19.out)); (case aS => exact (below_size (by repeat (first | (with_reducible first | exact HB.out | apply below_alloc | apply pw_below_drewN | apply below_drew1) | exact HB.out)))); (case aL => have := LMc64.out; omega); intro v318 w70 ho hb hg hat; rw [← Ny317.out] at ho; have n0_ := Aside0.mk (hb); have n1_ := Aside0.mk (ho); clear HB; clear HO_19; have HB := n0_; have HO319 := n1_; clear n0_ n1_; clear ho hb hg hat; obtain ⟨Ao71, co71, eo71⟩ := Kd.R_slice HO319.out; subst eo71) | ((with_reducible refine gate_callee (f := 11) rfl ?_); refine goesL_ (some 178) rfl rfl Try.func11 (by kernel_rfl) rfl #[.int .i64 (wrap64 (1 + (Go.bits .and .i64 a0 7))), .slice Ao71 y317.length co71] rfl (by (try simp only [List.map_toArray, List.map_cons, List.map_nil]); first | done | rfl | (simp only [List.length_drop, List.length_take]; rfl)) ?_; (with_reducible refine (whole_Parse.calls kj58 (wrap64 (1 + (Go.bits .and .i64 a0 7))) _ _ y317 t320 t321 t322 _ ?side1 ?side2 A65.out).mono ?_); (case side1 => repeat (first | exact (Kd.R_reads' HO319.out).2.2 | (with_reducible refine Kd.C_alloc ?_ _) | (with_reducible refine Kd.C_drewN ?_ _) | (with_reducible refine Kd.C_drew ?_))); (case side2 => exact (Kd.R_reads' HO319.out).2.1); rintro e w72 ⟨rfl, hb⟩; refine ⟨_, rfl, ?_⟩; have n0_ := Aside0.mk (Kd.R_below (by (with_reducible repeat (first | apply Kd.R_alloc | apply Kd.R_drewN | apply Kd.R_drew)); exact HO319.out) hb); have n1_ := Aside0.mk (below_step (by repeat (first | (with_reducible first | exact HB.out | apply below_alloc | apply pw_below_drewN | apply below_drew1) | exact HB.out)) hb); clear HO319; clear HB; have HO319 := n0_; have HB := n1_; clear n0_ n1_; (try clear hb); (try clear hb2); (try clear hk); (try clear hi)) | ((with_reducible refine gate_callee (f := 14) rfl ?_); refine goesL_ (some 183) rfl rfl Try.func14 (by kernel_rfl) rfl #[.int .i64 t322] rfl (by (try simp only [List.map_toArray, List.map_cons, List.map_nil]); first | done | rfl | (simp only [List.length_drop, List.length_take]; rfl)) ?_; (with_reducible refine (mintagelaw05_num.calls t322 t323 _ A66.out).mono ?_); rintro e w' ⟨rfl, ⟨nd, rfl⟩⟩; refine ⟨_, rfl, ?_⟩) | (go_at_call 16; (with_reducible refine (mintagelaw05_wakes.calls  t324 _ A69.out).mono ?_); rintro e w73 ⟨rfl, hb⟩; have n0_ := Aside0.mk (Kd.R_below (by (with_reducible repeat (first | apply Kd.R_alloc | apply Kd.R_drewN | apply Kd.R_drew)); exact HO319.out) hb); have n1_ := Aside0.mk (below_step (by repeat (first | (with_reducible first | exact HB.out | apply below_alloc | apply pw_below_drewN | apply below_drew1) | exact HB.out)) hb); clear HO319; clear HB; have HO319 := n0_; have HB := n1_; clear n0_ n1_; (try clear hb); (try clear hb2); (try clear hk); (try clear hi)))
                                                      go_ret
                                                      exact ⟨by first | rfl | (simp [errW_none, errW_some] <;> rfl) | (simp [*, errW_none, errW_some] <;> rfl), by repeat (first | (with_reducible first | exact HB.out | apply below_alloc | apply pw_below_drewN | apply below_drew1) | exact HB.out)⟩
                                                    · rw [if_neg c68] at H
                                                      have c68b0 : (t321 == (x19_42.length : Int)) = false := beq_eq_false_iff_ne.mpr c68
                                                      have c68b1 : (t321 != (x19_42.length : Int)) = true := bne_iff_ne.mpr c68
                                                      obtain rfl := Option.some.inj H
                                                      go_wp2_with (first | ((with_reducible refine gate_builtin (b := .append) (xs := #[.tmp 174, .tmp 176]) rfl ?_); (try (refine gate_guard (by rfl) ?_; dsimp only)); at_builtin; refine Kd.R_append (Kd.int .u8) (w0 := w) w.heap.size rfl (.tmp 174) (.tmp 176) 22 5 (.int .u8 0) 1 rfl Try.underlying22 info5 rfl (by decide) (by omega) (.slice Ao54 x19_42.length co54) x19_42 a3 [.int .u8 a3] (fun _ => True) (fun _ => False) rfl rfl ?aP (fun _ hk => hk.elim) ?aF ?aO ?aB ?aS ?aL ?_; (case aP => exact rfl); (case aB => exact (by repeat (first | (with_reducible first | exact HB.out | apply below_alloc | apply pw_below_drewN | apply below_drew1) | exact HB.out))); (case aF => exact (fun _ _ => trivial)); (case aO => exact (by (with_reducible repeat (first | apply Kd.R_alloc | apply Kd.R_drewN | apply Kd.R_drew)); exact HO_19.out)); (case aS => exact (below_size (by repeat (first | (with_reducible first | exact HB.out | apply below_alloc | apply pw_below_drewN | apply below_drew1) | exact HB.out)))); (case aL => have := LMc64.out; omega); intro v318 w74 ho hb hg hat; rw [← Ny317.out] at ho; have n0_ := Aside0.mk (hb); have n1_ := Aside0.mk (ho); clear HB; clear HO_19; have HB := n0_; have HO319 := n1_; clear n0_ n1_; clear ho hb hg hat; obtain ⟨Ao75, co75, eo75⟩ := Kd.R_slice HO319.out; subst eo75) | ((with_reducible refine gate_callee (f := 11) rfl ?_); refine goesL_ (some 178) rfl rfl Try.func11 (by kernel_rfl) rfl #[.int .i64 (wrap64 (1 + (Go.bits .and .i64 a0 7))), .slice Ao75 y317.length co75] rfl (by (try simp only [List.map_toArray, List.map_cons, List.map_nil]); first | done | rfl | (simp only [List.length_drop, List.length_take]; rfl)) ?_; (with_reducible refine (whole_Parse.calls kj58 (wrap64 (1 + (Go.bits .and .i64 a0 7))) _ _ y317 t320 t321 t322 _ ?side1 ?side2 A65.out).mono ?_); (case side1 => repeat (first | exact (Kd.R_reads' HO319.out).2.2 | (with_reducible refine Kd.C_alloc ?_ _) | (with_reducible refine Kd.C_drewN ?_ _) | (with_reducible refine Kd.C_drew ?_))); (case side2 => exact (Kd.R_reads' HO319.out).2.1); rintro e w76 ⟨rfl, hb⟩; refine ⟨_, rfl, ?_⟩; have n0_ := Aside0.mk (Kd.R_below (by (with_reducible repeat (first | apply Kd.R_alloc | apply Kd.R_drewN | apply Kd.R_drew)); exact HO319.out) hb); have n1_ := Aside0.mk (below_step (by repeat (first | (with_reducible first | exact HB.out | apply below_alloc | apply pw_below_drewN | apply below_drew1) | exact HB.out)) hb); clear HO319; clear HB; have HO319 := n0_; have HB := n1_; clear n0_ n1_; (try clear hb); (try clear hb2); (try clear hk); (try clear hi)) | ((with_reducible refine gate_callee (f := 14) rfl ?_); refine goesL_ (some 183) rfl rfl Try.func14 (by kernel_rfl) rfl #[.int .i64 t322] rfl (by (try simp only [List.map_toArray, List.map_cons, List.map_nil]); first | done | rfl | (simp only [List.length_drop, List.length_take]; rfl)) ?_; (with_reducible refine (mintagelaw05_num.calls t322 t323 _ A66.out).mono ?_); rintro e w' ⟨rfl, ⟨nd, rfl⟩⟩; refine ⟨_, rfl, ?_⟩))
                                                      go_ret
                                                      exact ⟨by first | rfl | (simp [errW_none, errW_some] <;> rfl) | (simp [*, errW_none, errW_some] <;> rfl), by repeat (first | (with_reducible first | exact HB.out | apply below_alloc | apply pw_below_drewN | apply below_drew1) | exact HB.out)⟩
                                                  · rw [if_neg c67] at H
                                                    have c67b0 : (t323 == 52) = false := beq_eq_false_iff_ne.mpr c67
                                                    have c67b1 : (t323 != 52) = true := bne_iff_ne.mpr c67
                                                    obtain rfl := Option.some.inj H
                                                    go_wp2_with (first | ((with_reducible refine gate_builtin (b := .append) (xs := #[.tmp 174, .tmp 176]) rfl ?_); (try (refine gate_guard (by rfl) ?_; dsimp only)); at_builtin; refine Kd.R_append (Kd.int .u8) (w0 := w) w.heap.size rfl (.tmp 174) (.tmp 176) 22 5 (.int .u8 0) 1 rfl Try.underlying22 info5 rfl (by decide) (by omega) (.slice Ao54 x19_42.length co54) x19_42 a3 [.int .u8 a3] (fun _ => True) (fun _ => False) rfl rfl ?aP (fun _ hk => hk.elim) ?aF ?aO ?aB ?aS ?aL ?_; (case aP => exact rfl); (case aB => exact (by repeat (first | (with_reducible first | exact HB.out | apply below_alloc | apply pw_below_drewN | apply below_drew1) | exact HB.out))); (case aF => exact (fun _ _ => trivial)); (case aO => exact (by (with_reducible repeat (first | apply Kd.R_alloc | apply Kd.R_drewN | apply Kd.R_drew)); exact HO_19.out)); (case aS => exact (below_size (by repeat (first | (with_reducible first | exact HB.out | apply below_alloc | apply pw_below_drewN | apply below_drew1) | exact HB.out)))); (case aL => have := LMc64.out; omega); intro v318 w77 ho hb hg hat; rw [← Ny317.out] at ho; have n0_ := Aside0.mk (hb); have n1_ := Aside0.mk (ho); clear HB; clear HO_19; have HB := n0_; have HO319 := n1_; clear n0_ n1_; clear ho hb hg hat; obtain ⟨Ao78, co78, eo78⟩ := Kd.R_slice HO319.out; subst eo78) | ((with_reducible refine gate_callee (f := 11) rfl ?_); refine goesL_ (some 178) rfl rfl Try.func11 (by kernel_rfl) rfl #[.int .i64 (wrap64 (1 + (Go.bits .and .i64 a0 7))), .slice Ao78 y317.length co78] rfl (by (try simp only [List.map_toArray, List.map_cons, List.map_nil]); first | done | rfl | (simp only [List.length_drop, List.length_take]; rfl)) ?_; (with_reducible refine (whole_Parse.calls kj58 (wrap64 (1 + (Go.bits .and .i64 a0 7))) _ _ y317 t320 t321 t322 _ ?side1 ?side2 A65.out).mono ?_); (case side1 => repeat (first | exact (Kd.R_reads' HO319.out).2.2 | (with_reducible refine Kd.C_alloc ?_ _) | (with_reducible refine Kd.C_drewN ?_ _) | (with_reducible refine Kd.C_drew ?_))); (case side2 => exact (Kd.R_reads' HO319.out).2.1); rintro e w79 ⟨rfl, hb⟩; refine ⟨_, rfl, ?_⟩; have n0_ := Aside0.mk (Kd.R_below (by (with_reducible repeat (first | apply Kd.R_alloc | apply Kd.R_drewN | apply Kd.R_drew)); exact HO319.out) hb); have n1_ := Aside0.mk (below_step (by repeat (first | (with_reducible first | exact HB.out | apply below_alloc | apply pw_below_drewN | apply below_drew1) | exact HB.out)) hb); clear HO319; clear HB; have HO319 := n0_; have HB := n1_; clear n0_ n1_; (try clear hb); (try clear hb2); (try clear hk); (try clear hi)) | ((with_reducible refine gate_callee (f := 14) rfl ?_); refine goesL_ (some 183) rfl rfl Try.func14 (by kernel_rfl) rfl #[.int .i64 t322] rfl (by (try simp only [List.map_toArray, List.map_cons, List.map_nil]); first | done | rfl | (simp only [List.length_drop, List.length_take]; rfl)) ?_; (with_reducible refine (mintagelaw05_num.calls t322 t323 _ A66.out).mono ?_); rintro e w' ⟨rfl, ⟨nd, rfl⟩⟩; refine ⟨_, rfl, ?_⟩))
                                                    go_ret
                                                    exact ⟨by first | rfl | (simp [errW_none, errW_some] <;> rfl) | (simp [*, errW_none, errW_some] <;> rfl), by repeat (first | (with_reducible first | exact HB.out | apply below_alloc | apply pw_below_drewN | apply below_drew1) | exact HB.out)⟩
                                                · rw [if_neg c64] at H
                                                  exact absurd H (by simp)
                              · rw [if_neg c42] at H
                                exact absurd H (by simp)
                      · rw [if_neg c26] at H
                        exact absurd H (by simp)
                    · rw [if_neg c25] at H
                      exact absurd H (by simp)
                  · rw [if_neg c24] at H
                    have c24b0 : (t285 == 53) = false := beq_eq_false_iff_ne.mpr c24
                    have c24b1 : (t285 != 53) = true := bne_iff_ne.mpr c24
                    replace H := Option.bind_eq_some_iff.mp H
                    obtain ⟨t286, A800, H⟩ := H
                    replace H : (if t286 = 0 then ((mintagelaw05_wakes.f).bind fun t287 => (some t287)) else ((mintagelaw05_num.f t284).bind fun t288 => (if t288 = 51 then (if (x10_10.length : Int) = 0 then ((mintagelaw05_wakes.f).bind fun t289 => (some t289)) else (if x12_16 = true then (if (x10_10.length : Int) = 1 then ((mintagelaw05_wakes.f).bind fun t290 => (some t290)) else (some false)) else (some false))) else (some false)))) = some r := H
                    have A80 := Aside0.mk A800
                    clear A800
                    by_cases c81 : t286 = 0
                    · rw [if_pos c81] at H
                      have c81b0 : (t286 == 0) = true := beq_iff_eq.mpr c81
                      have c81b1 : (t286 != 0) = false := bne_eq_false_iff_eq.mpr c81
                      clear c81
                      replace H := Option.bind_eq_some_iff.mp H
                      obtain ⟨t287, A820, H⟩ := H
                      replace H : (some t287) = some r := H
                      have A82 := Aside0.mk A820
                      clear A820
                      obtain rfl := Option.some.inj H
                      obtain ⟨Ao83, co83, eo83⟩ := Kd.R_slice HO_10.out
                      subst eo83
                      go_wp2_with (first | ((with_reducible refine gate_callee (f := 11) rfl ?_); refine goesL_ (some 71) rfl rfl Try.func11 (by kernel_rfl) rfl #[.int .i64 (wrap64 (1 + (Go.bits .and .i64 a0 7))), .slice Ao83 x10_10.length co83] rfl (by (try simp only [List.map_toArray, List.map_cons, List.map_nil]); first | done | rfl | (simp only [List.length_drop, List.length_take]; rfl)) ?_; (with_reducible refine (whole_Parse.calls kj16 (wrap64 (1 + (Go.bits .and .i64 a0 7))) _ _ x10_10 t282 t283 t284 _ ?side1 ?side2 A22.out).mono ?_); (case side1 => repeat (first | exact (Kd.R_reads' HO_10.out).2.2 | (with_reducible refine Kd.C_alloc ?_ _) | (with_reducible refine Kd.C_drewN ?_ _) | (with_reducible refine Kd.C_drew ?_))); (case side2 => exact (Kd.R_reads' HO_10.out).2.1); rintro e w84 ⟨rfl, hb⟩; refine ⟨_, rfl, ?_⟩; have n0_ := Aside0.mk (Kd.R_below (by (with_reducible repeat (first | apply Kd.R_alloc | apply Kd.R_drewN | apply Kd.R_drew)); exact HO_10.out) hb); have n1_ := Aside0.mk (below_step (by repeat (first | (with_reducible first | exact HB.out | apply below_alloc | apply pw_below_drewN | apply below_drew1) | exact HB.out)) hb); clear HO_10; clear HB; have HO_10 := n0_; have HB := n1_; clear n0_ n1_; (try clear hb); (try clear hb2); (try clear hk); (try clear hi)) | ((with_reducible refine gate_callee (f := 14) rfl ?_); refine goesL_ (some 76) rfl rfl Try.func14 (by kernel_rfl) rfl #[.int .i64 t284] rfl (by (try simp only [List.map_toArray, List.map_cons, List.map_nil]); first | done | rfl | (simp only [List.length_drop, List.length_take]; rfl)) ?_; (with_reducible refine (mintagelaw05_num.calls t284 t285 _ A23.out).mono ?_); rintro e w' ⟨rfl, ⟨nd, rfl⟩⟩; refine ⟨_, rfl, ?_⟩) | ((with_reducible refine gate_callee (f := 14) rfl ?_); refine goesL_ (some 79) rfl rfl Try.func14 (by kernel_rfl) rfl #[.int .i64 t284] rfl (by (try simp only [List.map_toArray, List.map_cons, List.map_nil]); first | done | rfl | (simp only [List.length_drop, List.length_take]; rfl)) ?_; (with_reducible refine (mintagelaw05_num.calls t284 t286 _ A80.out).mono ?_); rintro e w' ⟨rfl, ⟨nd, rfl⟩⟩; refine ⟨_, rfl, ?_⟩) | (go_at_call 16; (with_reducible refine (mintagelaw05_wakes.calls  t287 _ A82.out).mono ?_); rintro e w85 ⟨rfl, hb⟩; have n0_ := Aside0.mk (Kd.R_below (by (with_reducible repeat (first | apply Kd.R_alloc | apply Kd.R_drewN | apply Kd.R_drew)); exact HO_10.out) hb); have n1_ := Aside0.mk (below_step (by repeat (first | (with_reducible first | exact HB.out | apply below_alloc | apply pw_below_drewN | apply below_drew1) | exact HB.out)) hb); clear HO_10; clear HB; have HO_10 := n0_; have HB := n1_; clear n0_ n1_; (try clear hb); (try clear hb2); (try clear hk); (try clear hi)))
                      go_ret
                      exact ⟨by first | rfl | (simp [errW_none, errW_some] <;> rfl) | (simp [*, errW_none, errW_some] <;> rfl), by repeat (first | (with_reducible first | exact HB.out | apply below_alloc | apply pw_below_drewN | apply below_drew1) | exact HB.out)⟩
                    · rw [if_neg c81] at H
                      have c81b0 : (t286 == 0) = false := beq_eq_false_iff_ne.mpr c81
                      have c81b1 : (t286 != 0) = true := bne_iff_ne.mpr c81
                      replace H := Option.bind_eq_some_iff.mp H
                      obtain ⟨t288, A860, H⟩ := H
                      replace H : (if t288 = 51 then (if (x10_10.length : Int) = 0 then ((mintagelaw05_wakes.f).bind fun t289 => (some t289)) else (if x12_16 = true then (if (x10_10.length : Int) = 1 then ((mintagelaw05_wakes.f).bind fun t290 => (some t290)) else (some false)) else (some false))) else (some false)) = some r := H
                      have A86 := Aside0.mk A860
                      clear A860
                      by_cases c87 : t288 = 51
                      · rw [if_pos c87] at H
                        have c87b0 : (t288 == 51) = true := beq_iff_eq.mpr c87
                        have c87b1 : (t288 != 51) = false := bne_eq_false_iff_eq.mpr c87
                        clear c87
                        by_cases c88 : (x10_10.length : Int) = 0
                        · rw [if_pos c88] at H
                          have c88b0 : ((x10_10.length : Int) == 0) = true := beq_iff_eq.mpr c88
                          have c88b1 : ((x10_10.length : Int) != 0) = false := bne_eq_false_iff_eq.mpr c88
                          clear c88
                          replace H := Option.bind_eq_some_iff.mp H
                          obtain ⟨t289, A890, H⟩ := H
                          replace H : (some t289) = some r := H
                          have A89 := Aside0.mk A890
                          clear A890
                          obtain rfl := Option.some.inj H
                          obtain ⟨Ao90, co90, eo90⟩ := Kd.R_slice HO_10.out
                          subst eo90
                          go_wp2_with (first | ((with_reducible refine gate_callee (f := 11) rfl ?_); refine goesL_ (some 71) rfl rfl Try.func11 (by kernel_rfl) rfl #[.int .i64 (wrap64 (1 + (Go.bits .and .i64 a0 7))), .slice Ao90 x10_10.length co90] rfl (by (try simp only [List.map_toArray, List.map_cons, List.map_nil]); first | done | rfl | (simp only [List.length_drop, List.length_take]; rfl)) ?_; (with_reducible refine (whole_Parse.calls kj16 (wrap64 (1 + (Go.bits .and .i64 a0 7))) _ _ x10_10 t282 t283 t284 _ ?side1 ?side2 A22.out).mono ?_); (case side1 => repeat (first | exact (Kd.R_reads' HO_10.out).2.2 | (with_reducible refine Kd.C_alloc ?_ _) | (with_reducible refine Kd.C_drewN ?_ _) | (with_reducible refine Kd.C_drew ?_))); (case side2 => exact (Kd.R_reads' HO_10.out).2.1); rintro e w91 ⟨rfl, hb⟩; refine ⟨_, rfl, ?_⟩; have n0_ := Aside0.mk (Kd.R_below (by (with_reducible repeat (first | apply Kd.R_alloc | apply Kd.R_drewN | apply Kd.R_drew)); exact HO_10.out) hb); have n1_ := Aside0.mk (below_step (by repeat (first | (with_reducible first | exact HB.out | apply below_alloc | apply pw_below_drewN | apply below_drew1) | exact HB.out)) hb); clear HO_10; clear HB; have HO_10 := n0_; have HB := n1_; clear n0_ n1_; (try clear hb); (try clear hb2); (try clear hk); (try clear hi)) | ((with_reducible refine gate_callee (f := 14) rfl ?_); refine goesL_ (some 76) rfl rfl Try.func14 (by kernel_rfl) rfl #[.int .i64 t284] rfl (by (try simp only [List.map_toArray, List.map_cons, List.map_nil]); first | done | rfl | (simp only [List.length_drop, List.length_take]; rfl)) ?_; (with_reducible refine (mintagelaw05_num.calls t284 t285 _ A23.out).mono ?_); rintro e w' ⟨rfl, ⟨nd, rfl⟩⟩; refine ⟨_, rfl, ?_⟩) | ((with_reducible refine gate_callee (f := 14) rfl ?_); refine goesL_ (some 79) rfl rfl Try.func14 (by kernel_rfl) rfl #[.int .i64 t284] rfl (by (try simp only [List.map_toArray, List.map_cons, List.map_nil]); first | done | rfl | (simp only [List.length_drop, List.length_take]; rfl)) ?_; (with_reducible refine (mintagelaw05_num.calls t284 t286 _ A80.out).mono ?_); rintro e w' ⟨rfl, ⟨nd, rfl⟩⟩; refine ⟨_, rfl, ?_⟩) | (go_at_call 14; (with_reducible refine (mintagelaw05_num.calls t284 t288 _ A86.out).mono ?_); rintro e w' ⟨rfl, ⟨nd, rfl⟩⟩) | (go_at_call 16; (with_reducible refine (mintagelaw05_wakes.calls  t289 _ A89.out).mono ?_); rintro e w92 ⟨rfl, hb⟩; have n0_ := Aside0.mk (Kd.R_below (by (with_reducible repeat (first | apply Kd.R_alloc | apply Kd.R_drewN | apply Kd.R_drew)); exact HO_10.out) hb); have n1_ := Aside0.mk (below_step (by repeat (first | (with_reducible first | exact HB.out | apply below_alloc | apply pw_below_drewN | apply below_drew1) | exact HB.out)) hb); clear HO_10; clear HB; have HO_10 := n0_; have HB := n1_; clear n0_ n1_; (try clear hb); (try clear hb2); (try clear hk); (try clear hi)))
                          go_ret
                          exact ⟨by first | rfl | (simp [errW_none, errW_some] <;> rfl) | (simp [*, errW_none, errW_some] <;> rfl), by repeat (first | (with_reducible first | exact HB.out | apply below_alloc | apply pw_below_drewN | apply below_drew1) | exact HB.out)⟩
                        · rw [if_neg c88] at H
                          have c88b0 : ((x10_10.length : Int) == 0) = false := beq_eq_false_iff_ne.mpr c88
                          have c88b1 : ((x10_10.length : Int) != 0) = true := bne_iff_ne.mpr c88
                          have c88b2 : ¬ (x10_10 = []) := fun h_ => c88 (by rw [h_]; rfl)
                          by_cases c93 : x12_16 = true
                          · subst c93
                            have H1 : (if (x10_10.length : Int) = 1 then ((mintagelaw05_wakes.f).bind fun t290 => (some t290)) else (some false)) = some r := by rw [if_pos rfl] at H; exact H
                            clear H
                            have H := H1
                            clear H1
                            by_cases c94 : (x10_10.length : Int) = 1
                            · rw [if_pos c94] at H
                              have c94b0 : ((x10_10.length : Int) == 1) = true := beq_iff_eq.mpr c94
                              have c94b1 : ((x10_10.length : Int) != 1) = false := bne_eq_false_iff_eq.mpr c94
                              clear c94
                              replace H := Option.bind_eq_some_iff.mp H
                              obtain ⟨t290, A950, H⟩ := H
                              replace H : (some t290) = some r := H
                              have A95 := Aside0.mk A950
                              clear A950
                              obtain rfl := Option.some.inj H
                              obtain ⟨Ao96, co96, eo96⟩ := Kd.R_slice HO_10.out
                              subst eo96
                              go_wp2_with (first | ((with_reducible refine gate_callee (f := 11) rfl ?_); refine goesL_ (some 71) rfl rfl Try.func11 (by kernel_rfl) rfl #[.int .i64 (wrap64 (1 + (Go.bits .and .i64 a0 7))), .slice Ao96 x10_10.length co96] rfl (by (try simp only [List.map_toArray, List.map_cons, List.map_nil]); first | done | rfl | (simp only [List.length_drop, List.length_take]; rfl)) ?_; (with_reducible refine (whole_Parse.calls kj16 (wrap64 (1 + (Go.bits .and .i64 a0 7))) _ _ x10_10 t282 t283 t284 _ ?side1 ?side2 A22.out).mono ?_); (case side1 => repeat (first | exact (Kd.R_reads' HO_10.out).2.2 | (with_reducible refine Kd.C_alloc ?_ _) | (with_reducible refine Kd.C_drewN ?_ _) | (with_reducible refine Kd.C_drew ?_))); (case side2 => exact (Kd.R_reads' HO_10.out).2.1); rintro e w97 ⟨rfl, hb⟩; refine ⟨_, rfl, ?_⟩; have n0_ := Aside0.mk (Kd.R_below (by (with_reducible repeat (first | apply Kd.R_alloc | apply Kd.R_drewN | apply Kd.R_drew)); exact HO_10.out) hb); have n1_ := Aside0.mk (below_step (by repeat (first | (with_reducible first | exact HB.out | apply below_alloc | apply pw_below_drewN | apply below_drew1) | exact HB.out)) hb); clear HO_10; clear HB; have HO_10 := n0_; have HB := n1_; clear n0_ n1_; (try clear hb); (try clear hb2); (try clear hk); (try clear hi)) | ((with_reducible refine gate_callee (f := 14) rfl ?_); refine goesL_ (some 76) rfl rfl Try.func14 (by kernel_rfl) rfl #[.int .i64 t284] rfl (by (try simp only [List.map_toArray, List.map_cons, List.map_nil]); first | done | rfl | (simp only [List.length_drop, List.length_take]; rfl)) ?_; (with_reducible refine (mintagelaw05_num.calls t284 t285 _ A23.out).mono ?_); rintro e w' ⟨rfl, ⟨nd, rfl⟩⟩; refine ⟨_, rfl, ?_⟩) | ((with_reducible refine gate_callee (f := 14) rfl ?_); refine goesL_ (some 79) rfl rfl Try.func14 (by kernel_rfl) rfl #[.int .i64 t284] rfl (by (try simp only [List.map_toArray, List.map_cons, List.map_nil]); first | done | rfl | (simp only [List.length_drop, List.length_take]; rfl)) ?_; (with_reducible refine (mintagelaw05_num.calls t284 t286 _ A80.out).mono ?_); rintro e w' ⟨rfl, ⟨nd, rfl⟩⟩; refine ⟨_, rfl, ?_⟩) | (go_at_call 14; (with_reducible refine (mintagelaw05_num.calls t284 t288 _ A86.out).mono ?_); rintro e w' ⟨rfl, ⟨nd, rfl⟩⟩) | (go_at_call 16; (with_reducible refine (mintagelaw05_wakes.calls  t290 _ A95.out).mono ?_); rintro e w98 ⟨rfl, hb⟩; have n0_ := Aside0.mk (Kd.R_below (by (with_reducible repeat (first | apply Kd.R_alloc | apply Kd.R_drewN | apply Kd.R_drew)); exact HO_10.out) hb); have n1_ := Aside0.mk (below_step (by repeat (first | (with_reducible first | exact HB.out | apply below_alloc | apply pw_below_drewN | apply below_drew1) | exact HB.out)) hb); clear HO_10; clear HB; have HO_10 := n0_; have HB := n1_; clear n0_ n1_; (try clear hb); (try clear hb2); (try clear hk); (try clear hi)))
                              go_ret
                              exact ⟨by first | rfl | (simp [errW_none, errW_some] <;> rfl) | (simp [*, errW_none, errW_some] <;> rfl), by repeat (first | (with_reducible first | exact HB.out | apply below_alloc | apply pw_below_drewN | apply below_drew1) | exact HB.out)⟩
                            · rw [if_neg c94] at H
                              have c94b0 : ((x10_10.length : Int) == 1) = false := beq_eq_false_iff_ne.mpr c94
                              have c94b1 : ((x10_10.length : Int) != 1) = true := bne_iff_ne.mpr c94
                              obtain rfl := Option.some.inj H
                              obtain ⟨Ao99, co99, eo99⟩ := Kd.R_slice HO_10.out
                              subst eo99
                              go_wp2_with (first | ((with_reducible refine gate_callee (f := 11) rfl ?_); refine goesL_ (some 71) rfl rfl Try.func11 (by kernel_rfl) rfl #[.int .i64 (wrap64 (1 + (Go.bits .and .i64 a0 7))), .slice Ao99 x10_10.length co99] rfl (by (try simp only [List.map_toArray, List.map_cons, List.map_nil]); first | done | rfl | (simp only [List.length_drop, List.length_take]; rfl)) ?_; (with_reducible refine (whole_Parse.calls kj16 (wrap64 (1 + (Go.bits .and .i64 a0 7))) _ _ x10_10 t282 t283 t284 _ ?side1 ?side2 A22.out).mono ?_); (case side1 => repeat (first | exact (Kd.R_reads' HO_10.out).2.2 | (with_reducible refine Kd.C_alloc ?_ _) | (with_reducible refine Kd.C_drewN ?_ _) | (with_reducible refine Kd.C_drew ?_))); (case side2 => exact (Kd.R_reads' HO_10.out).2.1); rintro e w100 ⟨rfl, hb⟩; refine ⟨_, rfl, ?_⟩; have n0_ := Aside0.mk (Kd.R_below (by (with_reducible repeat (first | apply Kd.R_alloc | apply Kd.R_drewN | apply Kd.R_drew)); exact HO_10.out) hb); have n1_ := Aside0.mk (below_step (by repeat (first | (with_reducible first | exact HB.out | apply below_alloc | apply pw_below_drewN | apply below_drew1) | exact HB.out)) hb); clear HO_10; clear HB; have HO_10 := n0_; have HB := n1_; clear n0_ n1_; (try clear hb); (try clear hb2); (try clear hk); (try clear hi)) | ((with_reducible refine gate_callee (f := 14) rfl ?_); refine goesL_ (some 76) rfl rfl Try.func14 (by kernel_rfl) rfl #[.int .i64 t284] rfl (by (try simp only [List.map_toArray, List.map_cons, List.map_nil]); first | done | rfl | (simp only [List.length_drop, List.length_take]; rfl)) ?_; (with_reducible refine (mintagelaw05_num.calls t284 t285 _ A23.out).mono ?_); rintro e w' ⟨rfl, ⟨nd, rfl⟩⟩; refine ⟨_, rfl, ?_⟩) | ((with_reducible refine gate_callee (f := 14) rfl ?_); refine goesL_ (some 79) rfl rfl Try.func14 (by kernel_rfl) rfl #[.int .i64 t284] rfl (by (try simp only [List.map_toArray, List.map_cons, List.map_nil]); first | done | rfl | (simp only [List.length_drop, List.length_take]; rfl)) ?_; (with_reducible refine (mintagelaw05_num.calls t284 t286 _ A80.out).mono ?_); rintro e w' ⟨rfl, ⟨nd, rfl⟩⟩; refine ⟨_, rfl, ?_⟩) | (go_at_call 14; (with_reducible refine (mintagelaw05_num.calls t284 t288 _ A86.out).mono ?_); rintro e w' ⟨rfl, ⟨nd, rfl⟩⟩))
                              go_ret
                              exact ⟨by first | rfl | (simp [errW_none, errW_some] <;> rfl) | (simp [*, errW_none, errW_some] <;> rfl), by repeat (first | (with_reducible first | exact HB.out | apply below_alloc | apply pw_below_drewN | apply below_drew1) | exact HB.out)⟩
                          · replace c93 := Bool.eq_false_iff.mpr c93
                            subst c93
                            have H1 : (some false) = some r := by rw [if_neg (show ¬ (false = true) by decide)] at H; exact H
                            clear H
                            have H := H1
                            clear H1
                            obtain rfl := Option.some.inj H
                            obtain ⟨Ao101, co101, eo101⟩ := Kd.R_slice HO_10.out
                            subst eo101
                            go_wp2_with (first | ((with_reducible refine gate_callee (f := 11) rfl ?_); refine goesL_ (some 71) rfl rfl Try.func11 (by kernel_rfl) rfl #[.int .i64 (wrap64 (1 + (Go.bits .and .i64 a0 7))), .slice Ao101 x10_10.length co101] rfl (by (try simp only [List.map_toArray, List.map_cons, List.map_nil]); first | done | rfl | (simp only [List.length_drop, List.length_take]; rfl)) ?_; (with_reducible refine (whole_Parse.calls kj16 (wrap64 (1 + (Go.bits .and .i64 a0 7))) _ _ x10_10 t282 t283 t284 _ ?side1 ?side2 A22.out).mono ?_); (case side1 => repeat (first | exact (Kd.R_reads' HO_10.out).2.2 | (with_reducible refine Kd.C_alloc ?_ _) | (with_reducible refine Kd.C_drewN ?_ _) | (with_reducible refine Kd.C_drew ?_))); (case side2 => exact (Kd.R_reads' HO_10.out).2.1); rintro e w102 ⟨rfl, hb⟩; refine ⟨_, rfl, ?_⟩; have n0_ := Aside0.mk (Kd.R_below (by (with_reducible repeat (first | apply Kd.R_alloc | apply Kd.R_drewN | apply Kd.R_drew)); exact HO_10.out) hb); have n1_ := Aside0.mk (below_step (by repeat (first | (with_reducible first | exact HB.out | apply below_alloc | apply pw_below_drewN | apply below_drew1) | exact HB.out)) hb); clear HO_10; clear HB; have HO_10 := n0_; have HB := n1_; clear n0_ n1_; (try clear hb); (try clear hb2); (try clear hk); (try clear hi)) | ((with_reducible refine gate_callee (f := 14) rfl ?_); refine goesL_ (some 76) rfl rfl Try.func14 (by kernel_rfl) rfl #[.int .i64 t284] rfl (by (try simp only [List.map_toArray, List.map_cons, List.map_nil]); first | done | rfl | (simp only [List.length_drop, List.length_take]; rfl)) ?_; (with_reducible refine (mintagelaw05_num.calls t284 t285 _ A23.out).mono ?_); rintro e w' ⟨rfl, ⟨nd, rfl⟩⟩; refine ⟨_, rfl, ?_⟩) | ((with_reducible refine gate_callee (f := 14) rfl ?_); refine goesL_ (some 79) rfl rfl Try.func14 (by kernel_rfl) rfl #[.int .i64 t284] rfl (by (try simp only [List.map_toArray, List.map_cons, List.map_nil]); first | done | rfl | (simp only [List.length_drop, List.length_take]; rfl)) ?_; (with_reducible refine (mintagelaw05_num.calls t284 t286 _ A80.out).mono ?_); rintro e w' ⟨rfl, ⟨nd, rfl⟩⟩; refine ⟨_, rfl, ?_⟩) | (go_at_call 14; (with_reducible refine (mintagelaw05_num.calls t284 t288 _ A86.out).mono ?_); rintro e w' ⟨rfl, ⟨nd, rfl⟩⟩))
                            go_ret
                            exact ⟨by first | rfl | (simp [errW_none, errW_some] <;> rfl) | (simp [*, errW_none, errW_some] <;> rfl), by repeat (first | (with_reducible first | exact HB.out | apply below_alloc | apply pw_below_drewN | apply below_drew1) | exact HB.out)⟩
                      · rw [if_neg c87] at H
                        have c87b0 : (t288 == 51) = false := beq_eq_false_iff_ne.mpr c87
                        have c87b1 : (t288 != 51) = true := bne_iff_ne.mpr c87
                        obtain rfl := Option.some.inj H
                        obtain ⟨Ao103, co103, eo103⟩ := Kd.R_slice HO_10.out
                        subst eo103
                        go_wp2_with (first | ((with_reducible refine gate_callee (f := 11) rfl ?_); refine goesL_ (some 71) rfl rfl Try.func11 (by kernel_rfl) rfl #[.int .i64 (wrap64 (1 + (Go.bits .and .i64 a0 7))), .slice Ao103 x10_10.length co103] rfl (by (try simp only [List.map_toArray, List.map_cons, List.map_nil]); first | done | rfl | (simp only [List.length_drop, List.length_take]; rfl)) ?_; (with_reducible refine (whole_Parse.calls kj16 (wrap64 (1 + (Go.bits .and .i64 a0 7))) _ _ x10_10 t282 t283 t284 _ ?side1 ?side2 A22.out).mono ?_); (case side1 => repeat (first | exact (Kd.R_reads' HO_10.out).2.2 | (with_reducible refine Kd.C_alloc ?_ _) | (with_reducible refine Kd.C_drewN ?_ _) | (with_reducible refine Kd.C_drew ?_))); (case side2 => exact (Kd.R_reads' HO_10.out).2.1); rintro e w104 ⟨rfl, hb⟩; refine ⟨_, rfl, ?_⟩; have n0_ := Aside0.mk (Kd.R_below (by (with_reducible repeat (first | apply Kd.R_alloc | apply Kd.R_drewN | apply Kd.R_drew)); exact HO_10.out) hb); have n1_ := Aside0.mk (below_step (by repeat (first | (with_reducible first | exact HB.out | apply below_alloc | apply pw_below_drewN | apply below_drew1) | exact HB.out)) hb); clear HO_10; clear HB; have HO_10 := n0_; have HB := n1_; clear n0_ n1_; (try clear hb); (try clear hb2); (try clear hk); (try clear hi)) | ((with_reducible refine gate_callee (f := 14) rfl ?_); refine goesL_ (some 76) rfl rfl Try.func14 (by kernel_rfl) rfl #[.int .i64 t284] rfl (by (try simp only [List.map_toArray, List.map_cons, List.map_nil]); first | done | rfl | (simp only [List.length_drop, List.length_take]; rfl)) ?_; (with_reducible refine (mintagelaw05_num.calls t284 t285 _ A23.out).mono ?_); rintro e w' ⟨rfl, ⟨nd, rfl⟩⟩; refine ⟨_, rfl, ?_⟩) | ((with_reducible refine gate_callee (f := 14) rfl ?_); refine goesL_ (some 79) rfl rfl Try.func14 (by kernel_rfl) rfl #[.int .i64 t284] rfl (by (try simp only [List.map_toArray, List.map_cons, List.map_nil]); first | done | rfl | (simp only [List.length_drop, List.length_take]; rfl)) ?_; (with_reducible refine (mintagelaw05_num.calls t284 t286 _ A80.out).mono ?_); rintro e w' ⟨rfl, ⟨nd, rfl⟩⟩; refine ⟨_, rfl, ?_⟩) | (go_at_call 14; (with_reducible refine (mintagelaw05_num.calls t284 t288 _ A86.out).mono ?_); rintro e w' ⟨rfl, ⟨nd, rfl⟩⟩))
                        go_ret
                        exact ⟨by first | rfl | (simp [errW_none, errW_some] <;> rfl) | (simp [*, errW_none, errW_some] <;> rfl), by repeat (first | (with_reducible first | exact HB.out | apply below_alloc | apply pw_below_drewN | apply below_drew1) | exact HB.out)⟩

/-- THE ONE PURE STATEMENT of mintagelaw05_WholePlaces: yours. -/
def mintagelaw05_WholePlaces.Pure : Prop := ∀ (a0 : Int) (l1 : List Int) (l2 : List Int) (a3 : Int), (Lit.int .i64 a0).wf = true → l1.length ≤ maxLen → l1.length * 1 ≤ 140737488351232 → (∀ x ∈ l1, (Lit.int .u8 x).wf = true) → l2.length ≤ maxLen → l2.length * 1 ≤ 140737488351232 → (∀ x ∈ l2, (Lit.int .u8 x).wf = true) → (Lit.int .u8 a3).wf = true → ∃ k, mintagelaw05_WholePlaces.f k a0 l1 l2 a3 = some true
theorem mintagelaw05_WholePlaces.walk (P : mintagelaw05_WholePlaces.Pure) (a0 : Int) (a1 : Option Addr) (len1 cap1 : Nat) (z1 : List Int) (a2 : Option Addr) (len2 cap2 : Nat) (z2 : List Int) (a3 : Int) (w : World) (w0 : (Lit.int .i64 a0).wf = true) (w1 : (a1 = none ∧ len1 = 0 ∧ cap1 = 0 ∧ z1 = []) ∨ ∃ x, a1 = some x ∧ len1 ≤ cap1 ∧ cap1 ≤ maxLen ∧ z1.length = cap1 ∧ (∀ i, i < z1.length → w.cell? (x.add i) = some (.int .u8 (z1.getD i 0))) ∧ ∀ n ∈ z1, (Lit.int .u8 n).wf = true) (y1 : len1 * 1 ≤ 140737488351232) (w2 : (a2 = none ∧ len2 = 0 ∧ cap2 = 0 ∧ z2 = []) ∨ ∃ x, a2 = some x ∧ len2 ≤ cap2 ∧ cap2 ≤ maxLen ∧ z2.length = cap2 ∧ (∀ i, i < z2.length → w.cell? (x.add i) = some (.int .u8 (z2.getD i 0))) ∧ ∀ n ∈ z2, (Lit.int .u8 n).wf = true) (y2 : len2 * 1 ≤ 140737488351232) (w3 : (Lit.int .u8 a3).wf = true) :
    Calls Try.prog 4 #[.int .i64 a0, .slice a1 len1 cap1, .slice a2 len2 cap2, .int .u8 a3] w fun e w' => e = .returned (.bool true) ∧ Below w.heap.size w w' := by
  obtain ⟨l1, rfl, hr1, hm1, hw1, hc1⟩ := ReadsInt.ofRowC w1
  obtain ⟨l2, rfl, hr2, hm2, hw2, hc2⟩ := ReadsInt.ofRowC w2
  obtain ⟨k, h⟩ := P a0 l1 l2 a3 w0 hm1 y1 hw1 hm2 y2 hw2 w3
  refine (mintagelaw05_WholePlaces.calls k a0 _ _ l1 _ _ l2 a3 true w (Kd.C_of_reads (d := (0 : Int)) (h1 := fun _ => rfl) hr1) hc1 (Kd.C_of_reads (d := (0 : Int)) (h1 := fun _ => rfl) hr2) hc2 h).mono ?_
  rintro e w' ⟨rfl, hd⟩
  exact ⟨rfl, hd⟩

end Go.Proofs.Ytlcglnnmcgpnpaa.Q
