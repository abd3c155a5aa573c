-- PRINTED by print.py (a twelfth state) out of the translation. Not trusted: Lean checks it.
import Derived.Test.YtlcglnnmcgpnpaaQx0
import Derived.Test.YtlcglnnmcgpnpaaQx4
import Derived.Test.YtlcglnnmcgpnpaaQx17
import Derived.Test.YtlcglnnmcgpnpaaQx19
import Derived.Test.YtlcglnnmcgpnpaaQx21
import Derived.Test.YtlcglnnmcgpnpaaQx23
namespace Go.Proofs.Ytlcglnnmcgpnpaa.Q
open Go.RowKit Go.Proofs.YtlcglnnmcgpnpaaW.PrintWords Go.Proofs.YtlcglnnmcgpnpaaW.PrintLast Go.Proofs.YtlcglnnmcgpnpaaW.PrintMore
attribute [local go_sem] max2_int min2_int max_two min_two max_three min_three max_four min_four   -- for this text's walks alone
set_option linter.unusedVariables false
set_option linter.unusedSimpArgs false

/-! ### mintagelaw05_WholeBack: function 5 -/
mutual
def mintagelaw05_WholeBack.j0 : Nat → Int → Int → Int → List Int → Bool → Option (Bool)
  | 0, _, _, _, _, _ => none
  | k + 1, x1, x2, x7, x8, x76 => if x76 = true then (some false) else (if 0 < (x8.length : Int) then (if (rd x8 0) = 45 then (if ([] : List Int).length < 140737488355328 then (if 1 ≤ (x8.length : Int) then (mintagelaw05_WholeBack.j1 k x1 x2 x7 (x8.drop (1 : Int).toNat) (([] : List Int) ++ [45])) else (none)) else (none)) else (if (Go.bits .and .i64 x2 1) = 1 then (if ([] : List Int).length < 140737488355328 then (mintagelaw05_WholeBack.j1 k x1 x2 x7 x8 (([] : List Int) ++ [43])) else (none)) else (mintagelaw05_WholeBack.j1 k x1 x2 x7 x8 ([] : List Int)))) else (none))
def mintagelaw05_WholeBack.j1 : Nat → Int → Int → Int → List Int → List Int → Option (Bool)
  | 0, _, _, _, _, _ => none
  | k + 1, x1, x2, x7, x8, x13 => mintagelaw05_WholeBack.l0 k x1 x2 x7 x8 x13 0
def mintagelaw05_WholeBack.l0 : Nat → Int → Int → Int → List Int → List Int → Int → Option (Bool)
  | 0, _, _, _, _, _, _ => none
  | k + 1, x1, x2, x7, x8, x13, x14 => if x14 < x2 then (if x14 < 300 then (if x13.length < 140737488355328 then (mintagelaw05_WholeBack.l0 k x1 x2 x7 x8 (x13 ++ [48]) (wrap64 (x14 + 1))) else (none)) else (if x13.length + x8.length < 140737488355328 then ((whole_Parse.f k x7 (x13 ++ x8)).bind fun bt383 => ((mintagelaw05_num.f bt383.2.2).bind fun t386 => (if t386 = 0 then (if bt383.1 = x1 then ((mintagelaw05_wakes.f).bind fun t387 => (some t387)) else (some false)) else (some false)))) else (none))) else (if x13.length + x8.length < 140737488355328 then ((whole_Parse.f k x7 (x13 ++ x8)).bind fun bt391 => ((mintagelaw05_num.f bt391.2.2).bind fun t394 => (if t394 = 0 then (if bt391.1 = x1 then ((mintagelaw05_wakes.f).bind fun t395 => (some t395)) else (some false)) else (some false)))) else (none))
end
def mintagelaw05_WholeBack.f (k : Nat) (a0 : Int) (a1 : Int) (a2 : Int) : Option (Bool) := if 0 ≤ (IntKind.u64.wrap (Go.bits .and .i64 (a0 / 8) 63)) then ((whole_Print.f k (wrap64 (1 + (Go.bits .and .i64 a0 7))) (shr .u64 a1 (IntKind.u64.wrap (Go.bits .and .i64 (a0 / 8) 63)))).bind fun bt355 => ((whole_Fits.f (wrap64 (1 + (Go.bits .and .i64 a0 7))) (shr .u64 a1 (IntKind.u64.wrap (Go.bits .and .i64 (a0 / 8) 63)))).bind fun t359 => (if t359 = true then ((whole_Parse.f k (wrap64 (1 + (Go.bits .and .i64 a0 7))) bt355.1).bind fun bt362 => ((mintagelaw05_num.f bt355.2).bind fun t365 => (if t365 = 0 then ((mintagelaw05_num.f bt362.2.2).bind fun t366 => (if t366 = 0 then (if bt362.1 = (shr .u64 a1 (IntKind.u64.wrap (Go.bits .and .i64 (a0 / 8) 63))) then (if bt362.2.1 = 0 then (mintagelaw05_WholeBack.j0 k (shr .u64 a1 (IntKind.u64.wrap (Go.bits .and .i64 (a0 / 8) 63))) a2 (wrap64 (1 + (Go.bits .and .i64 a0 7))) bt355.1 ((bt355.1.length : Int) == 0)) else (mintagelaw05_WholeBack.j0 k (shr .u64 a1 (IntKind.u64.wrap (Go.bits .and .i64 (a0 / 8) 63))) a2 (wrap64 (1 + (Go.bits .and .i64 a0 7))) bt355.1 true)) else (mintagelaw05_WholeBack.j0 k (shr .u64 a1 (IntKind.u64.wrap (Go.bits .and .i64 (a0 / 8) 63))) a2 (wrap64 (1 + (Go.bits .and .i64 a0 7))) bt355.1 true)) else (mintagelaw05_WholeBack.j0 k (shr .u64 a1 (IntKind.u64.wrap (Go.bits .and .i64 (a0 / 8) 63))) a2 (wrap64 (1 + (Go.bits .and .i64 a0 7))) bt355.1 true))) else (mintagelaw05_WholeBack.j0 k (shr .u64 a1 (IntKind.u64.wrap (Go.bits .and .i64 (a0 / 8) 63))) a2 (wrap64 (1 + (Go.bits .and .i64 a0 7))) bt355.1 true)))) else ((mintagelaw05_num.f bt355.2).bind fun t360 => (if t360 = 53 then (if (bt355.1.length : Int) = 0 then ((mintagelaw05_wakes.f).bind fun t361 => (some t361)) else (some false)) else (some false)))))) else (none)
theorem mintagelaw05_WholeBack.mono_l : ∀ k, (∀ y0 y1 y2 y3 y4, LeO (mintagelaw05_WholeBack.j0 k y0 y1 y2 y3 y4) (mintagelaw05_WholeBack.j0 (k + 1) y0 y1 y2 y3 y4)) ∧ (∀ y0 y1 y2 y3 y4, LeO (mintagelaw05_WholeBack.j1 k y0 y1 y2 y3 y4) (mintagelaw05_WholeBack.j1 (k + 1) y0 y1 y2 y3 y4)) ∧ (∀ y0 y1 y2 y3 y4 y5, LeO (mintagelaw05_WholeBack.l0 k y0 y1 y2 y3 y4 y5) (mintagelaw05_WholeBack.l0 (k + 1) y0 y1 y2 y3 y4 y5))
  | 0 => ⟨fun _ _ _ _ _ r h => by simp [mintagelaw05_WholeBack.j0] at h, fun _ _ _ _ _ r h => by simp [mintagelaw05_WholeBack.j1] at h, fun _ _ _ _ _ _ r h => by simp [mintagelaw05_WholeBack.l0] at h⟩
  | k + 1 => by
    obtain ⟨ih0, ih1, ih2⟩ := mintagelaw05_WholeBack.mono_l k
    refine ⟨?_, ?_, ?_⟩
    · intro y0 y1 y2 y3 y4
      unfold mintagelaw05_WholeBack.j0
      repeat' first
      | (with_reducible exact ih0 _ _ _ _ _)
      | (with_reducible exact ih1 _ _ _ _ _)
      | (with_reducible exact ih2 _ _ _ _ _ _)
      | (with_reducible exact whole_Parse.mono _ _ _)
      | (with_reducible exact whole_Print.mono _ _ _)
      | (with_reducible exact LeO.refl _)
      | (with_reducible exact LeO.none _)
      | (with_reducible refine LeO.ite ?_ ?_)
      | (with_reducible refine LeO.bind ?_ (fun _ => ?_))
      | exact ih0 _ _ _ _ _
      | exact ih1 _ _ _ _ _
      | exact ih2 _ _ _ _ _ _
      | exact whole_Parse.mono _ _ _
      | exact whole_Print.mono _ _ _
      | exact LeO.none _
      | refine LeO.ite ?_ ?_
      | refine LeO.bind ?_ (fun _ => ?_)
    · intro y0 y1 y2 y3 y4
      unfold mintagelaw05_WholeBack.j1
      repeat' first
      | (with_reducible exact ih0 _ _ _ _ _)
      | (with_reducible exact ih1 _ _ _ _ _)
      | (with_reducible exact ih2 _ _ _ _ _ _)
      | (with_reducible exact whole_Parse.mono _ _ _)
      | (with_reducible exact whole_Print.mono _ _ _)
      | (with_reducible exact LeO.refl _)
      | (with_reducible exact LeO.none _)
      | (with_reducible refine LeO.ite ?_ ?_)
      | (with_reducible refine LeO.bind ?_ (fun _ => ?_))
      | exact ih0 _ _ _ _ _
      | exact ih1 _ _ _ _ _
      | exact ih2 _ _ _ _ _ _
      | exact whole_Parse.mono _ _ _
      | exact whole_Print.mono _ _ _
      | exact LeO.none _
      | refine LeO.ite ?_ ?_
      | refine LeO.bind ?_ (fun _ => ?_)
    · intro y0 y1 y2 y3 y4 y5
      unfold mintagelaw05_WholeBack.l0
      repeat' first
      | (with_reducible exact ih0 _ _ _ _ _)
      | (with_reducible exact ih1 _ _ _ _ _)
      | (with_reducible exact ih2 _ _ _ _ _ _)
      | (with_reducible exact whole_Parse.mono _ _ _)
      | (with_reducible exact whole_Print.mono _ _ _)
      | (with_reducible exact LeO.refl _)
      | (with_reducible exact LeO.none _)
      | (with_reducible refine LeO.ite ?_ ?_)
      | (with_reducible refine LeO.bind ?_ (fun _ => ?_))
      | exact ih0 _ _ _ _ _
      | exact ih1 _ _ _ _ _
      | exact ih2 _ _ _ _ _ _
      | exact whole_Parse.mono _ _ _
      | exact whole_Print.mono _ _ _
      | exact LeO.none _
      | refine LeO.ite ?_ ?_
      | refine LeO.bind ?_ (fun _ => ?_)
theorem mintagelaw05_WholeBack.mono : ∀ a0 a1 a2 k, LeO (mintagelaw05_WholeBack.f k a0 a1 a2) (mintagelaw05_WholeBack.f (k + 1) a0 a1 a2) := by
  intro a0 a1 a2 k
  obtain ⟨ih0, ih1, ih2⟩ := mintagelaw05_WholeBack.mono_l k
  unfold mintagelaw05_WholeBack.f
  repeat' first
      | (with_reducible exact ih0 _ _ _ _ _)
      | (with_reducible exact ih1 _ _ _ _ _)
      | (with_reducible exact ih2 _ _ _ _ _ _)
      | (with_reducible exact whole_Parse.mono _ _ _)
      | (with_reducible exact whole_Print.mono _ _ _)
      | (with_reducible exact LeO.refl _)
      | (with_reducible exact LeO.none _)
      | (with_reducible refine LeO.ite ?_ ?_)
      | (with_reducible refine LeO.bind ?_ (fun _ => ?_))
      | exact ih0 _ _ _ _ _
      | exact ih1 _ _ _ _ _
      | exact ih2 _ _ _ _ _ _
      | exact whole_Parse.mono _ _ _
      | exact whole_Print.mono _ _ _
      | exact LeO.none _
      | refine LeO.ite ?_ ?_
      | refine LeO.bind ?_ (fun _ => ?_)
set_option maxHeartbeats 8000000 in
set_option maxRecDepth 100000 in
theorem mintagelaw05_WholeBack.calls (k : Nat) (a0 : Int) (a1 : Int) (a2 : Int) (r : Bool) (w : World) (h : mintagelaw05_WholeBack.f k a0 a1 a2 = some r) :
    Calls Try.prog 5 #[.int .i64 a0, .int .u64 a1, .int .i64 a2] w fun e w' => e = .returned (.bool r) ∧ Below w.heap.size w w' := by
  have HB := Aside0.mk (Below.refl w.heap.size w)
  have H : (if 0 ≤ (IntKind.u64.wrap (Go.bits .and .i64 (a0 / 8) 63)) then ((whole_Print.f k (wrap64 (1 + (Go.bits .and .i64 a0 7))) (shr .u64 a1 (IntKind.u64.wrap (Go.bits .and .i64 (a0 / 8) 63)))).bind fun bt355 => ((whole_Fits.f (wrap64 (1 + (Go.bits .and .i64 a0 7))) (shr .u64 a1 (IntKind.u64.wrap (Go.bits .and .i64 (a0 / 8) 63)))).bind fun t359 => (if t359 = true then ((whole_Parse.f k (wrap64 (1 + (Go.bits .and .i64 a0 7))) bt355.1).bind fun bt362 => ((mintagelaw05_num.f bt355.2).bind fun t365 => (if t365 = 0 then ((mintagelaw05_num.f bt362.2.2).bind fun t366 => (if t366 = 0 then (if bt362.1 = (shr .u64 a1 (IntKind.u64.wrap (Go.bits .and .i64 (a0 / 8) 63))) then (if bt362.2.1 = 0 then (mintagelaw05_WholeBack.j0 k (shr .u64 a1 (IntKind.u64.wrap (Go.bits .and .i64 (a0 / 8) 63))) a2 (wrap64 (1 + (Go.bits .and .i64 a0 7))) bt355.1 ((bt355.1.length : Int) == 0)) else (mintagelaw05_WholeBack.j0 k (shr .u64 a1 (IntKind.u64.wrap (Go.bits .and .i64 (a0 / 8) 63))) a2 (wrap64 (1 + (Go.bits .and .i64 a0 7))) bt355.1 true)) else (mintagelaw05_WholeBack.j0 k (shr .u64 a1 (IntKind.u64.wrap (Go.bits .and .i64 (a0 / 8) 63))) a2 (wrap64 (1 + (Go.bits .and .i64 a0 7))) bt355.1 true)) else (mintagelaw05_WholeBack.j0 k (shr .u64 a1 (IntKind.u64.wrap (Go.bits .and .i64 (a0 / 8) 63))) a2 (wrap64 (1 + (Go.bits .and .i64 a0 7))) bt355.1 true))) else (mintagelaw05_WholeBack.j0 k (shr .u64 a1 (IntKind.u64.wrap (Go.bits .and .i64 (a0 / 8) 63))) a2 (wrap64 (1 + (Go.bits .and .i64 a0 7))) bt355.1 true)))) else ((mintagelaw05_num.f bt355.2).bind fun t360 => (if t360 = 53 then (if (bt355.1.length : Int) = 0 then ((mintagelaw05_wakes.f).bind fun t361 => (some t361)) else (some false)) else (some false)))))) else (none)) = some r := h
  clear h
  obtain ⟨ji4, hji4⟩ : ∃ j_ : Int, (IntKind.u64.wrap (Go.bits .and .i64 (a0 / 8) 63)) = j_ := ⟨_, rfl⟩
  replace H : (if 0 ≤ (ji4) then ((whole_Print.f k (wrap64 (1 + (Go.bits .and .i64 a0 7))) (shr .u64 a1 (ji4))).bind fun bt355 => ((whole_Fits.f (wrap64 (1 + (Go.bits .and .i64 a0 7))) (shr .u64 a1 (ji4))).bind fun t359 => (if t359 = true then ((whole_Parse.f k (wrap64 (1 + (Go.bits .and .i64 a0 7))) bt355.1).bind fun bt362 => ((mintagelaw05_num.f bt355.2).bind fun t365 => (if t365 = 0 then ((mintagelaw05_num.f bt362.2.2).bind fun t366 => (if t366 = 0 then (if bt362.1 = (shr .u64 a1 (ji4)) then (if bt362.2.1 = 0 then (mintagelaw05_WholeBack.j0 k (shr .u64 a1 (ji4)) a2 (wrap64 (1 + (Go.bits .and .i64 a0 7))) bt355.1 ((bt355.1.length : Int) == 0)) else (mintagelaw05_WholeBack.j0 k (shr .u64 a1 (ji4)) a2 (wrap64 (1 + (Go.bits .and .i64 a0 7))) bt355.1 true)) else (mintagelaw05_WholeBack.j0 k (shr .u64 a1 (ji4)) a2 (wrap64 (1 + (Go.bits .and .i64 a0 7))) bt355.1 true)) else (mintagelaw05_WholeBack.j0 k (shr .u64 a1 (ji4)) a2 (wrap64 (1 + (Go.bits .and .i64 a0 7))) bt355.1 true))) else (mintagelaw05_WholeBack.j0 k (shr .u64 a1 (ji4)) a2 (wrap64 (1 + (Go.bits .and .i64 a0 7))) bt355.1 true)))) else ((mintagelaw05_num.f bt355.2).bind fun t360 => (if t360 = 53 then (if (bt355.1.length : Int) = 0 then ((mintagelaw05_wakes.f).bind fun t361 => (some t361)) else (some false)) else (some false)))))) else (none)) = some r := by first | (rw [hji4] at H; exact H) | (simp only [hji4] at H ⊢; exact H)
  by_cases c5 : 0 ≤ (ji4)
  · rw [if_pos c5] at H
    have c5b0 := eq_true c5
    have c5b1 : decide (0 ≤ (ji4)) = true := decide_eq_true c5
    clear c5
    obtain ⟨ji6, hji6⟩ : ∃ j_ : Int, (shr .u64 a1 (ji4)) = j_ := ⟨_, rfl⟩
    replace H : ((whole_Print.f k (wrap64 (1 + (Go.bits .and .i64 a0 7))) (ji6)).bind fun bt355 => ((whole_Fits.f (wrap64 (1 + (Go.bits .and .i64 a0 7))) (ji6)).bind fun t359 => (if t359 = true then ((whole_Parse.f k (wrap64 (1 + (Go.bits .and .i64 a0 7))) bt355.1).bind fun bt362 => ((mintagelaw05_num.f bt355.2).bind fun t365 => (if t365 = 0 then ((mintagelaw05_num.f bt362.2.2).bind fun t366 => (if t366 = 0 then (if bt362.1 = (ji6) then (if bt362.2.1 = 0 then (mintagelaw05_WholeBack.j0 k ji6 a2 (wrap64 (1 + (Go.bits .and .i64 a0 7))) bt355.1 ((bt355.1.length : Int) == 0)) else (mintagelaw05_WholeBack.j0 k ji6 a2 (wrap64 (1 + (Go.bits .and .i64 a0 7))) bt355.1 true)) else (mintagelaw05_WholeBack.j0 k ji6 a2 (wrap64 (1 + (Go.bits .and .i64 a0 7))) bt355.1 true)) else (mintagelaw05_WholeBack.j0 k ji6 a2 (wrap64 (1 + (Go.bits .and .i64 a0 7))) bt355.1 true))) else (mintagelaw05_WholeBack.j0 k ji6 a2 (wrap64 (1 + (Go.bits .and .i64 a0 7))) bt355.1 true)))) else ((mintagelaw05_num.f bt355.2).bind fun t360 => (if t360 = 53 then (if (bt355.1.length : Int) = 0 then ((mintagelaw05_wakes.f).bind fun t361 => (some t361)) else (some false)) else (some false)))))) = some r := by first | (rw [hji6] at H; exact H) | (simp only [hji6] at H ⊢; exact H)
    have hji6_ : (a1 / 2 ^ min (ji4).toNat 64) = ji6 := hji6
    have hji6z : (ji4) ≤ 64 → (a1 / 2 ^ (ji4).toNat) = ji6 := shr_small hji6
    replace H := Option.bind_eq_some_iff.mp H
    obtain ⟨⟨t355, t356⟩, A70, H⟩ := H
    replace H : ((whole_Fits.f (wrap64 (1 + (Go.bits .and .i64 a0 7))) (ji6)).bind fun t359 => (if t359 = true then ((whole_Parse.f k (wrap64 (1 + (Go.bits .and .i64 a0 7))) t355).bind fun bt362 => ((mintagelaw05_num.f t356).bind fun t365 => (if t365 = 0 then ((mintagelaw05_num.f bt362.2.2).bind fun t366 => (if t366 = 0 then (if bt362.1 = (ji6) then (if bt362.2.1 = 0 then (mintagelaw05_WholeBack.j0 k ji6 a2 (wrap64 (1 + (Go.bits .and .i64 a0 7))) t355 ((t355.length : Int) == 0)) else (mintagelaw05_WholeBack.j0 k ji6 a2 (wrap64 (1 + (Go.bits .and .i64 a0 7))) t355 true)) else (mintagelaw05_WholeBack.j0 k ji6 a2 (wrap64 (1 + (Go.bits .and .i64 a0 7))) t355 true)) else (mintagelaw05_WholeBack.j0 k ji6 a2 (wrap64 (1 + (Go.bits .and .i64 a0 7))) t355 true))) else (mintagelaw05_WholeBack.j0 k ji6 a2 (wrap64 (1 + (Go.bits .and .i64 a0 7))) t355 true)))) else ((mintagelaw05_num.f t356).bind fun t360 => (if t360 = 53 then (if (t355.length : Int) = 0 then ((mintagelaw05_wakes.f).bind fun t361 => (some t361)) else (some false)) else (some false))))) = some r := H
    have A7 := Aside0.mk A70
    clear A70
    replace H := Option.bind_eq_some_iff.mp H
    obtain ⟨t359, A80, H⟩ := H
    replace H : (if t359 = true then ((whole_Parse.f k (wrap64 (1 + (Go.bits .and .i64 a0 7))) t355).bind fun bt362 => ((mintagelaw05_num.f t356).bind fun t365 => (if t365 = 0 then ((mintagelaw05_num.f bt362.2.2).bind fun t366 => (if t366 = 0 then (if bt362.1 = (ji6) then (if bt362.2.1 = 0 then (mintagelaw05_WholeBack.j0 k ji6 a2 (wrap64 (1 + (Go.bits .and .i64 a0 7))) t355 ((t355.length : Int) == 0)) else (mintagelaw05_WholeBack.j0 k ji6 a2 (wrap64 (1 + (Go.bits .and .i64 a0 7))) t355 true)) else (mintagelaw05_WholeBack.j0 k ji6 a2 (wrap64 (1 + (Go.bits .and .i64 a0 7))) t355 true)) else (mintagelaw05_WholeBack.j0 k ji6 a2 (wrap64 (1 + (Go.bits .and .i64 a0 7))) t355 true))) else (mintagelaw05_WholeBack.j0 k ji6 a2 (wrap64 (1 + (Go.bits .and .i64 a0 7))) t355 true)))) else ((mintagelaw05_num.f t356).bind fun t360 => (if t360 = 53 then (if (t355.length : Int) = 0 then ((mintagelaw05_wakes.f).bind fun t361 => (some t361)) else (some false)) else (some false)))) = some r := H
    have A8 := Aside0.mk A80
    clear A80
    by_cases c9 : t359 = true
    · subst c9
      have H1 : ((whole_Parse.f k (wrap64 (1 + (Go.bits .and .i64 a0 7))) t355).bind fun bt362 => ((mintagelaw05_num.f t356).bind fun t365 => (if t365 = 0 then ((mintagelaw05_num.f bt362.2.2).bind fun t366 => (if t366 = 0 then (if bt362.1 = (ji6) then (if bt362.2.1 = 0 then (mintagelaw05_WholeBack.j0 k ji6 a2 (wrap64 (1 + (Go.bits .and .i64 a0 7))) t355 ((t355.length : Int) == 0)) else (mintagelaw05_WholeBack.j0 k ji6 a2 (wrap64 (1 + (Go.bits .and .i64 a0 7))) t355 true)) else (mintagelaw05_WholeBack.j0 k ji6 a2 (wrap64 (1 + (Go.bits .and .i64 a0 7))) t355 true)) else (mintagelaw05_WholeBack.j0 k ji6 a2 (wrap64 (1 + (Go.bits .and .i64 a0 7))) t355 true))) else (mintagelaw05_WholeBack.j0 k ji6 a2 (wrap64 (1 + (Go.bits .and .i64 a0 7))) t355 true)))) = some r := by rw [if_pos rfl] at H; exact H
      clear H
      have H := H1
      clear H1
      replace H := Option.bind_eq_some_iff.mp H
      obtain ⟨⟨t362, t363, t364⟩, A100, H⟩ := H
      replace H : ((mintagelaw05_num.f t356).bind fun t365 => (if t365 = 0 then ((mintagelaw05_num.f t364).bind fun t366 => (if t366 = 0 then (if t362 = (ji6) then (if t363 = 0 then (mintagelaw05_WholeBack.j0 k ji6 a2 (wrap64 (1 + (Go.bits .and .i64 a0 7))) t355 ((t355.length : Int) == 0)) else (mintagelaw05_WholeBack.j0 k ji6 a2 (wrap64 (1 + (Go.bits .and .i64 a0 7))) t355 true)) else (mintagelaw05_WholeBack.j0 k ji6 a2 (wrap64 (1 + (Go.bits .and .i64 a0 7))) t355 true)) else (mintagelaw05_WholeBack.j0 k ji6 a2 (wrap64 (1 + (Go.bits .and .i64 a0 7))) t355 true))) else (mintagelaw05_WholeBack.j0 k ji6 a2 (wrap64 (1 + (Go.bits .and .i64 a0 7))) t355 true))) = some r := H
      have A10 := Aside0.mk A100
      clear A100
      have HC11 := Aside0.mk H
      clear H
      go_enter Try.func5, Try.ntmps5
      go_upto_region 7 with (first | ((with_reducible refine gate_callee (f := 17) rfl ?_); refine goesL_ (some 30) rfl rfl Try.func17 (by kernel_rfl) rfl #[.int .i64 (wrap64 (1 + (Go.bits .and .i64 a0 7))), .int .u64 ji6] rfl (by (try simp only [List.map_toArray, List.map_cons, List.map_nil]); first | done | (simp only [hji6]; rfl) | rfl | (simp only [List.length_drop, List.length_take]; rfl)) ?_; (with_reducible refine (whole_Print.calls k (wrap64 (1 + (Go.bits .and .i64 a0 7))) ji6 t355 t356 _ A7.out).mono ?_); rintro e w12 ⟨v357, rfl, ho0, hb⟩; refine ⟨_, rfl, ?_⟩; have n0_ := Aside0.mk (Kd.R_lower ho0 (below_size (by repeat (first | (with_reducible first | exact HB.out | apply below_alloc | apply pw_below_drewN | apply below_drew1) | exact HB.out)))); have n1_ := Aside0.mk (below_step (by repeat (first | (with_reducible first | exact HB.out | apply below_alloc | apply pw_below_drewN | apply below_drew1) | exact HB.out)) hb); clear HB; have HO358 := n0_; have HB := n1_; clear n0_ n1_; (try clear hb); (try clear hb2); (try clear hk); (try clear hi); (try clear ho0)) | ((with_reducible refine gate_callee (f := 18) rfl ?_); refine goesL_ (some 35) rfl rfl Try.func18 (by kernel_rfl) rfl #[.int .i64 (wrap64 (1 + (Go.bits .and .i64 a0 7))), .int .u64 ji6] rfl (by (try simp only [List.map_toArray, List.map_cons, List.map_nil]); first | done | (simp only [hji6]; rfl) | rfl | (simp only [List.length_drop, List.length_take]; rfl)) ?_; (with_reducible refine (whole_Fits.calls (wrap64 (1 + (Go.bits .and .i64 a0 7))) ji6 true _ A8.out).mono ?_); rintro e w13 ⟨rfl, hb⟩; refine ⟨_, rfl, ?_⟩; have n0_ := Aside0.mk (Kd.R_below (by (with_reducible repeat (first | apply Kd.R_alloc | apply Kd.R_drewN | apply Kd.R_drew)); exact HO358.out) hb); have n1_ := Aside0.mk (below_step (by repeat (first | (with_reducible first | exact HB.out | apply below_alloc | apply pw_below_drewN | apply below_drew1) | exact HB.out)) hb); clear HO358; clear HB; have HO358 := n0_; have HB := n1_; clear n0_ n1_; (try clear hb); (try clear hb2); (try clear hk); (try clear hi); obtain ⟨Ao14, co14, eo14⟩ := Kd.R_slice HO358.out; subst eo14) | ((with_reducible refine gate_callee (f := 11) rfl ?_); refine goesL_ (some 51) rfl rfl Try.func11 (by kernel_rfl) rfl #[.int .i64 (wrap64 (1 + (Go.bits .and .i64 a0 7))), .slice Ao14 t355.length co14] rfl (by (try simp only [List.map_toArray, List.map_cons, List.map_nil]); first | done | rfl | (simp only [List.length_drop, List.length_take]; rfl)) ?_; (with_reducible refine (whole_Parse.calls k (wrap64 (1 + (Go.bits .and .i64 a0 7))) _ _ t355 t362 t363 t364 _ ?side1 ?side2 A10.out).mono ?_); (case side1 => repeat (first | exact (Kd.R_reads' HO358.out).2.2 | (with_reducible refine Kd.C_alloc ?_ _) | (with_reducible refine Kd.C_drewN ?_ _) | (with_reducible refine Kd.C_drew ?_))); (case side2 => exact (Kd.R_reads' HO358.out).2.1); rintro e w15 ⟨rfl, hb⟩; refine ⟨_, rfl, ?_⟩; have n0_ := Aside0.mk (Kd.R_below (by (with_reducible repeat (first | apply Kd.R_alloc | apply Kd.R_drewN | apply Kd.R_drew)); exact HO358.out) hb); have n1_ := Aside0.mk (below_step (by repeat (first | (with_reducible first | exact HB.out | apply below_alloc | apply pw_below_drewN | apply below_drew1) | exact HB.out)) hb); clear HO358; clear HB; have HO358 := n0_; have HB := n1_; clear n0_ n1_; (try clear hb); (try clear hb2); (try clear hk); (try clear hi)))
      (try simp only [Act.put, List.setIfInBounds_toArray, List.set_cons_zero, List.set_cons_succ])
      go_cut [76] (fun v76 wc => ∃ (kq : Nat) (x76_10 : Bool), v76 = .bool x76_10 ∧ Aside0 (mintagelaw05_WholeBack.j0 kq ji6 a2 (wrap64 (1 + (Go.bits .and .i64 a0 7))) t355 x76_10 = some r) ∧ Aside0 (kq ≤ k) ∧ Aside0 (Kd.Q (Kd.int .u8) 5 wc w.heap.size (fun _ => True) (.slice Ao14 t355.length co14) t355) ∧ Aside0 (Below w.heap.size w wc))
      case first =>
        have H := HC11.out
        clear HC11
        replace H := Option.bind_eq_some_iff.mp H
        obtain ⟨t365, A160, H⟩ := H
        replace H : (if t365 = 0 then ((mintagelaw05_num.f t364).bind fun t366 => (if t366 = 0 then (if t362 = (ji6) then (if t363 = 0 then (mintagelaw05_WholeBack.j0 k ji6 a2 (wrap64 (1 + (Go.bits .and .i64 a0 7))) t355 ((t355.length : Int) == 0)) else (mintagelaw05_WholeBack.j0 k ji6 a2 (wrap64 (1 + (Go.bits .and .i64 a0 7))) t355 true)) else (mintagelaw05_WholeBack.j0 k ji6 a2 (wrap64 (1 + (Go.bits .and .i64 a0 7))) t355 true)) else (mintagelaw05_WholeBack.j0 k ji6 a2 (wrap64 (1 + (Go.bits .and .i64 a0 7))) t355 true))) else (mintagelaw05_WholeBack.j0 k ji6 a2 (wrap64 (1 + (Go.bits .and .i64 a0 7))) t355 true)) = some r := H
        have A16 := Aside0.mk A160
        clear A160
        by_cases c17 : t365 = 0
        · rw [if_pos c17] at H
          have c17b0 : (t365 == 0) = true := beq_iff_eq.mpr c17
          have c17b1 : (t365 != 0) = false := bne_eq_false_iff_eq.mpr c17
          clear c17
          (first | rw [c17b0] | (simp only [i64_w, i32_w]; rw [c17b0]) | skip)
          replace H := Option.bind_eq_some_iff.mp H
          obtain ⟨t366, A180, H⟩ := H
          replace H : (if t366 = 0 then (if t362 = (ji6) then (if t363 = 0 then (mintagelaw05_WholeBack.j0 k ji6 a2 (wrap64 (1 + (Go.bits .and .i64 a0 7))) t355 ((t355.length : Int) == 0)) else (mintagelaw05_WholeBack.j0 k ji6 a2 (wrap64 (1 + (Go.bits .and .i64 a0 7))) t355 true)) else (mintagelaw05_WholeBack.j0 k ji6 a2 (wrap64 (1 + (Go.bits .and .i64 a0 7))) t355 true)) else (mintagelaw05_WholeBack.j0 k ji6 a2 (wrap64 (1 + (Go.bits .and .i64 a0 7))) t355 true)) = some r := H
          have A18 := Aside0.mk A180
          clear A180
          by_cases c19 : t366 = 0
          · rw [if_pos c19] at H
            have c19b0 : (t366 == 0) = true := beq_iff_eq.mpr c19
            have c19b1 : (t366 != 0) = false := bne_eq_false_iff_eq.mpr c19
            clear c19
            by_cases c20 : t362 = (ji6)
            · rw [if_pos c20] at H
              have c20b0 : (t362 == (ji6)) = true := beq_iff_eq.mpr c20
              have c20b1 : (t362 != (ji6)) = false := bne_eq_false_iff_eq.mpr c20
              clear c20
              by_cases c21 : t363 = 0
              · rw [if_pos c21] at H
                have c21b0 : (t363 == 0) = true := beq_iff_eq.mpr c21
                have c21b1 : (t363 != 0) = false := bne_eq_false_iff_eq.mpr c21
                clear c21
                have H' := Aside0.mk H
                clear H
                go_wp2_with (first | ((with_reducible refine gate_callee (f := 14) rfl ?_); refine goesL_ (some 56) rfl rfl Try.func14 (by kernel_rfl) rfl #[.int .i64 t356] rfl (by (try simp only [List.map_toArray, List.map_cons, List.map_nil]); first | done | rfl | (simp only [List.length_drop, List.length_take]; rfl)) ?_; (with_reducible refine (mintagelaw05_num.calls t356 t365 _ A16.out).mono ?_); rintro e w' ⟨rfl, ⟨nd, rfl⟩⟩; refine ⟨_, rfl, ?_⟩) | (go_at_call 14; (with_reducible refine (mintagelaw05_num.calls t364 t366 _ A18.out).mono ?_); rintro e w' ⟨rfl, ⟨nd, rfl⟩⟩))
                go_meet
                case rel => exact ⟨_, (((t355.length : Int) == 0)), (by first | rfl | (simp; done) | (simp [*]; done)), H', ⟨by first | omega | exact Nat.le_refl _⟩, ⟨Kd.Q_of_R (by (with_reducible repeat (first | apply Kd.R_alloc | apply Kd.R_drewN | apply Kd.R_drew)); exact HO358.out)⟩, ⟨by repeat (first | (with_reducible first | exact HB.out | apply below_alloc | apply pw_below_drewN | apply below_drew1) | exact HB.out)⟩⟩
              · rw [if_neg c21] at H
                have c21b0 : (t363 == 0) = false := beq_eq_false_iff_ne.mpr c21
                have c21b1 : (t363 != 0) = true := bne_iff_ne.mpr c21
                have H' := Aside0.mk H
                clear H
                go_wp2_with (first | ((with_reducible refine gate_callee (f := 14) rfl ?_); refine goesL_ (some 56) rfl rfl Try.func14 (by kernel_rfl) rfl #[.int .i64 t356] rfl (by (try simp only [List.map_toArray, List.map_cons, List.map_nil]); first | done | rfl | (simp only [List.length_drop, List.length_take]; rfl)) ?_; (with_reducible refine (mintagelaw05_num.calls t356 t365 _ A16.out).mono ?_); rintro e w' ⟨rfl, ⟨nd, rfl⟩⟩; refine ⟨_, rfl, ?_⟩) | (go_at_call 14; (with_reducible refine (mintagelaw05_num.calls t364 t366 _ A18.out).mono ?_); rintro e w' ⟨rfl, ⟨nd, rfl⟩⟩))
                go_meet
                case rel => exact ⟨_, (true), (by first | rfl | (simp; done) | (simp [*]; done)), H', ⟨by first | omega | exact Nat.le_refl _⟩, ⟨Kd.Q_of_R (by (with_reducible repeat (first | apply Kd.R_alloc | apply Kd.R_drewN | apply Kd.R_drew)); exact HO358.out)⟩, ⟨by repeat (first | (with_reducible first | exact HB.out | apply below_alloc | apply pw_below_drewN | apply below_drew1) | exact HB.out)⟩⟩
            · rw [if_neg c20] at H
              have c20b0 : (t362 == (ji6)) = false := beq_eq_false_iff_ne.mpr c20
              have c20b1 : (t362 != (ji6)) = true := bne_iff_ne.mpr c20
              have H' := Aside0.mk H
              clear H
              go_wp2_with (first | ((with_reducible refine gate_callee (f := 14) rfl ?_); refine goesL_ (some 56) rfl rfl Try.func14 (by kernel_rfl) rfl #[.int .i64 t356] rfl (by (try simp only [List.map_toArray, List.map_cons, List.map_nil]); first | done | rfl | (simp only [List.length_drop, List.length_take]; rfl)) ?_; (with_reducible refine (mintagelaw05_num.calls t356 t365 _ A16.out).mono ?_); rintro e w' ⟨rfl, ⟨nd, rfl⟩⟩; refine ⟨_, rfl, ?_⟩) | (go_at_call 14; (with_reducible refine (mintagelaw05_num.calls t364 t366 _ A18.out).mono ?_); rintro e w' ⟨rfl, ⟨nd, rfl⟩⟩))
              go_meet
              case rel => exact ⟨_, (true), (by first | rfl | (simp; done) | (simp [*]; done)), H', ⟨by first | omega | exact Nat.le_refl _⟩, ⟨Kd.Q_of_R (by (with_reducible repeat (first | apply Kd.R_alloc | apply Kd.R_drewN | apply Kd.R_drew)); exact HO358.out)⟩, ⟨by repeat (first | (with_reducible first | exact HB.out | apply below_alloc | apply pw_below_drewN | apply below_drew1) | exact HB.out)⟩⟩
          · rw [if_neg c19] at H
            have c19b0 : (t366 == 0) = false := beq_eq_false_iff_ne.mpr c19
            have c19b1 : (t366 != 0) = true := bne_iff_ne.mpr c19
            have H' := Aside0.mk H
            clear H
            go_wp2_with (first | ((with_reducible refine gate_callee (f := 14) rfl ?_); refine goesL_ (some 56) rfl rfl Try.func14 (by kernel_rfl) rfl #[.int .i64 t356] rfl (by (try simp only [List.map_toArray, List.map_cons, List.map_nil]); first | done | rfl | (simp only [List.length_drop, List.length_take]; rfl)) ?_; (with_reducible refine (mintagelaw05_num.calls t356 t365 _ A16.out).mono ?_); rintro e w' ⟨rfl, ⟨nd, rfl⟩⟩; refine ⟨_, rfl, ?_⟩) | (go_at_call 14; (with_reducible refine (mintagelaw05_num.calls t364 t366 _ A18.out).mono ?_); rintro e w' ⟨rfl, ⟨nd, rfl⟩⟩))
            go_meet
            case rel => exact ⟨_, (true), (by first | rfl | (simp; done) | (simp [*]; done)), H', ⟨by first | omega | exact Nat.le_refl _⟩, ⟨Kd.Q_of_R (by (with_reducible repeat (first | apply Kd.R_alloc | apply Kd.R_drewN | apply Kd.R_drew)); exact HO358.out)⟩, ⟨by repeat (first | (with_reducible first | exact HB.out | apply below_alloc | apply pw_below_drewN | apply below_drew1) | exact HB.out)⟩⟩
        · rw [if_neg c17] at H
          have c17b0 : (t365 == 0) = false := beq_eq_false_iff_ne.mpr c17
          have c17b1 : (t365 != 0) = true := bne_iff_ne.mpr c17
          (first | rw [c17b0] | (simp only [i64_w, i32_w]; rw [c17b0]) | skip)
          have H' := Aside0.mk H
          clear H
          go_wp2_with (first | ((with_reducible refine gate_callee (f := 14) rfl ?_); refine goesL_ (some 56) rfl rfl Try.func14 (by kernel_rfl) rfl #[.int .i64 t356] rfl (by (try simp only [List.map_toArray, List.map_cons, List.map_nil]); first | done | rfl | (simp only [List.length_drop, List.length_take]; rfl)) ?_; (with_reducible refine (mintagelaw05_num.calls t356 t365 _ A16.out).mono ?_); rintro e w' ⟨rfl, ⟨nd, rfl⟩⟩; refine ⟨_, rfl, ?_⟩))
          go_meet
          case rel => exact ⟨_, (true), (by first | rfl | (simp; done) | (simp [*]; done)), H', ⟨by first | omega | exact Nat.le_refl _⟩, ⟨Kd.Q_of_R (by (with_reducible repeat (first | apply Kd.R_alloc | apply Kd.R_drewN | apply Kd.R_drew)); exact HO358.out)⟩, ⟨by repeat (first | (with_reducible first | exact HB.out | apply below_alloc | apply pw_below_drewN | apply below_drew1) | exact HB.out)⟩⟩
      case rest =>
        clear HC11
        try clear c1
        try clear c2
        try clear p2
        try clear c5
        try clear c5b0
        try clear c5b1
        try clear p6
        try clear c9
        try clear c11
        try clear c14
        try clear c17
        try clear c17b0
        try clear c17b1
        try clear c18
        try clear c19
        try clear c19b0
        try clear c19b1
        try clear c20
        try clear c20b0
        try clear c20b1
        try clear c21
        try clear c21b0
        try clear c21b1
        obtain ⟨kq, x76_10, rfl, HA, HJ10, HO_8, HB⟩ := hcut
        cases kq with
        | zero => exact absurd HA.out (by simp [mintagelaw05_WholeBack.j0])
        | succ kj10 =>
          have H := HA.out
          clear HA
          simp only [mintagelaw05_WholeBack.j0] at H
          by_cases c22 : x76_10 = true
          · subst c22
            have H1 : (some false) = some r := by rw [if_pos rfl] at H; exact H
            clear H
            have H := H1
            clear H1
            obtain rfl := Option.some.inj H
            go_wp2
            go_ret
            exact ⟨by first | rfl | (simp [errW_none, errW_some] <;> rfl) | (simp only [← hji4, ← hji6]; first | rfl | (simp [errW_none, errW_some] <;> rfl)) | (simp [*, errW_none, errW_some] <;> rfl), by repeat (first | (with_reducible first | exact HB.out | apply below_alloc | apply pw_below_drewN | apply below_drew1) | exact HB.out)⟩
          · replace c22 := Bool.eq_false_iff.mpr c22
            subst c22
            have H1 : (if 0 < (t355.length : Int) then (if (rd t355 0) = 45 then (if ([] : List Int).length < 140737488355328 then (if 1 ≤ (t355.length : Int) then (mintagelaw05_WholeBack.j1 kj10 ji6 a2 (wrap64 (1 + (Go.bits .and .i64 a0 7))) (t355.drop (1 : Int).toNat) (([] : List Int) ++ [45])) else (none)) else (none)) else (if (Go.bits .and .i64 a2 1) = 1 then (if ([] : List Int).length < 140737488355328 then (mintagelaw05_WholeBack.j1 kj10 ji6 a2 (wrap64 (1 + (Go.bits .and .i64 a0 7))) t355 (([] : List Int) ++ [43])) else (none)) else (mintagelaw05_WholeBack.j1 kj10 ji6 a2 (wrap64 (1 + (Go.bits .and .i64 a0 7))) t355 ([] : List Int)))) else (none)) = some r := by rw [if_neg (show ¬ (false = true) by decide)] at H; exact H
            clear H
            have H := H1
            clear H1
            by_cases c23 : 0 < (t355.length : Int)
            · rw [if_pos c23] at H
              have c23b0 : decide (0 < (t355.length : Int)) = true := decide_eq_true c23
              have c23b1 : decide (0 < t355.length) = true := decide_eq_true (by omega)
              clear c23
              have HC24 := Aside0.mk H
              clear H
              have p367 : 0 ≤ (0 : Int) := (by omega)
              have q367 : 0 < (t355.length : Int) := of_decide_eq_true (by first | (with_reducible assumption) | assumption)
              obtain ⟨ad367, e367, hx367_0⟩ := Kd.at_int (Kd.Q_reads' HO_8.out).2.2 0 p367 q367
              cases e367
              have qi367 : (0 < t355.length) = True := eq_true (by omega)
              (try rw [show ((0 : Int)).toNat = 0 from rfl] at hx367_0)
              (try rw [Addr.add_zero'] at hx367_0)
              replace p367 := eq_true p367
              replace q367 := eq_true q367
              (try (have qd367 := q367; simp only [List.length_drop] at qd367))
              go_upto_if 80 with (fail)
              go_cut [8, 13] (fun v8 v13 wc => ∃ (kq : Nat) (x8_23 : List Int) (x13_23 : List Int), Aside0 (mintagelaw05_WholeBack.j1 kq ji6 a2 (wrap64 (1 + (Go.bits .and .i64 a0 7))) x8_23 x13_23 = some r) ∧ Aside0 (kq ≤ kj10) ∧ Aside0 (Kd.Q (Kd.int .u8) 5 wc w.heap.size (fun k_ => some k_ ≠ (v13 : Value).ownBlock) v8 x8_23) ∧ Aside0 (Kd.R (Kd.int .u8) 5 wc w.heap.size (fun k_ => some k_ ≠ (v8 : Value).ownBlock) v13 x13_23) ∧ Aside0 (Below w.heap.size w wc))
              case first =>
                have H := HC24.out
                clear HC24
                by_cases c25 : (rd t355 0) = 45
                · rw [if_pos c25] at H
                  have c25b0 : ((rd t355 0) == 45) = true := beq_iff_eq.mpr c25
                  have c25b1 : ((rd t355 0) != 45) = false := bne_eq_false_iff_eq.mpr c25
                  clear c25
                  (first | rw [c25b0] | (simp only [i64_w, i32_w]; rw [c25b0]) | skip)
                  by_cases c26 : ([] : List Int).length < 140737488355328
                  · rw [if_pos c26] at H
                    have LMc26 := Aside0.mk c26
                    clear c26
                    obtain ⟨y368, hy368⟩ : ∃ y_ : List Int, y_ = (([] : List Int) ++ [45]) := ⟨_, rfl⟩
                    replace H : (if 1 ≤ (t355.length : Int) then (mintagelaw05_WholeBack.j1 kj10 ji6 a2 (wrap64 (1 + (Go.bits .and .i64 a0 7))) (t355.drop (1 : Int).toNat) y368) else (none)) = some r := by first | (rw [hy368]; with_reducible exact H) | (have H2_ := (Option.bind_some _ _).symm.trans H; rw [hy368]; with_reducible exact H2_) | (have H2_ := (Option.bind_some _ _).symm.trans H; with_reducible exact H2_) | with_reducible exact H | (rw [hy368]; exact H) | exact H
                    have Ny368 := Aside0.mk hy368
                    clear hy368
                    by_cases c27 : 1 ≤ (t355.length : Int)
                    · rw [if_pos c27] at H
                      have c27b0 := eq_true c27
                      have c27b1 : decide (1 ≤ (t355.length : Int)) = true := decide_eq_true c27
                      clear c27
                      obtain ⟨y371, hy371⟩ : ∃ y_ : List Int, y_ = (t355.drop (1 : Int).toNat) := ⟨_, rfl⟩
                      replace H : (mintagelaw05_WholeBack.j1 kj10 ji6 a2 (wrap64 (1 + (Go.bits .and .i64 a0 7))) y371 y368) = some r := by first | (rw [hy371]; with_reducible exact H) | (have H2_ := (Option.bind_some _ _).symm.trans H; rw [hy371]; with_reducible exact H2_) | (have H2_ := (Option.bind_some _ _).symm.trans H; with_reducible exact H2_) | with_reducible exact H | (rw [hy371]; exact H) | exact H
                      have Ny371 := Aside0.mk hy371
                      clear hy371
                      have H' := Aside0.mk H
                      clear H
                      go_wp2_with (first | ((with_reducible refine gate_builtin (b := .append) (xs := #[.tmp 81, .tmp 82]) rfl ?_); (try (refine gate_guard (by rfl) ?_; dsimp only)); at_builtin; refine Kd.R_append (Kd.int .u8) (w0 := w) w.heap.size rfl (.tmp 81) (.tmp 82) 22 5 (.int .u8 0) 1 rfl Try.underlying22 info5 rfl (by decide) (by omega) (.slice none 0 0) ([] : List Int) 45 [.int .u8 45] (fun k_ => some k_ ≠ (.slice (some ad367) t355.length co14 : Value).ownBlock) (fun _ => False) rfl rfl ?aP (fun _ hk => hk.elim) ?aF ?aO ?aB ?aS ?aL ?_; (case aP => exact rfl); (case aB => exact (by repeat (first | (with_reducible first | exact HB.out | apply below_alloc | apply pw_below_drewN | apply below_drew1) | exact HB.out))); (case aF => exact (fun k_ hk => Kd.fresh' (Kd.Q_lt (by (with_reducible repeat (first | apply Kd.Q_alloc | apply Kd.Q_drewN | apply Kd.Q_drew)); exact HO_8.out)) k_ hk)); (case aO => exact ((Kd.R_nil _ _ _ _ (fun k_ => some k_ ≠ (.slice (some ad367) t355.length co14 : Value).ownBlock)))); (case aS => exact (below_size (by repeat (first | (with_reducible first | exact HB.out | apply below_alloc | apply pw_below_drewN | apply below_drew1) | exact HB.out)))); (case aL => have := LMc26.out; omega); intro v369 w28 ho hb hg hat; rw [← Ny368.out] at ho; have n0_ := Aside0.mk (Kd.Q_after (Kd.Q_apart_nil (by (with_reducible repeat (first | apply Kd.Q_alloc | apply Kd.Q_drewN | apply Kd.Q_drew)); exact HO_8.out)) hg hat); have n1_ := Aside0.mk (hb); have n2_ := Aside0.mk (ho); clear HO_8; clear HB; have HO_8 := n0_; have HB := n1_; have HO370 := n2_; clear n0_ n1_ n2_; clear ho hb hg hat; have n_ := Aside0.mk (Kd.Q_mono (ok' := (fun k_ => some k_ ≠ (v369 : Value).ownBlock)) HO_8.out (fun k_ hk => hk.2)); clear HO_8; have HO_8 := n_; clear n_; have q29 : (1 : Int) ≤ ((t355.length : Int) : Int) := of_decide_eq_true (by first | (with_reducible assumption) | assumption); obtain ⟨i029, hi029, _, hsz29, _⟩ := info_parts info5; have hcut29 := cut_from (P := Try.prog) 22 5 .i64 Try.underlying22 hi029 1 hsz29 (some ad367) t355.length co14 1 (by omega) q29; have hr29 := Kd.Q_drop (k := (1 : Int).toNat) HO_8.out (by omega); obtain ⟨A29, hA29⟩ : ∃ A1, A1 = (if co14 = (1 : Int).toNat then (some ad367) else ((some ad367) : Option Addr).map (·.add ((1 : Int).toNat * 1))) := ⟨_, rfl⟩; obtain ⟨c29, hc29⟩ : ∃ c1, c1 = co14 - (1 : Int).toNat := ⟨_, rfl⟩; have hy29 : y371.length = t355.length - (1 : Int).toNat := (by rw [Ny371.out, List.length_drop]); rw [← Ny371.out] at hr29; rw [← hy29, ← hA29, ← hc29] at hcut29; replace hr29 : Kd.Q (Kd.int .u8) 5 w28 w.heap.size (fun k_ => some k_ ≠ (v369 : Value).ownBlock) (.slice A29 y371.length c29) y371 := (by rw [hA29, hc29, hy29]; exact hr29); have HE29 : Aside0 ((Value.slice A29 y371.length c29).ownBlock = (.slice (some ad367) t355.length co14 : Value).ownBlock) := ⟨by rw [hA29]; split <;> (cases ((some ad367) : Option Addr) <;> rfl)⟩; clear hy29 hi029 hsz29 HO_8 hA29 hc29; have HO373 := Aside0.mk hr29; clear hr29; replace q29 := eq_true q29; (try (have qd29 := q29; simp only [List.length_drop] at qd29)); have n_ := Aside0.mk (Kd.R_mono (ok' := fun k_ => some k_ ≠ (.slice A29 y371.length c29 : Value).ownBlock) HO370.out (fun k_ hk => (by rw [HE29.out]; exact hk))); clear HO370; have HO370 := n_; clear n_))
                      go_meet
                      case rel => exact ⟨_, (y371), (y368), H', ⟨by have := HJ10.out; first | omega | exact Nat.le_refl _⟩, ⟨by (with_reducible repeat (first | apply Kd.Q_alloc | apply Kd.Q_drewN | apply Kd.Q_drew)); exact HO373.out⟩, ⟨by (with_reducible repeat (first | apply Kd.R_alloc | apply Kd.R_drewN | apply Kd.R_drew)); exact HO370.out⟩, ⟨by repeat (first | (with_reducible first | exact HB.out | apply below_alloc | apply pw_below_drewN | apply below_drew1) | exact HB.out)⟩⟩
                    · rw [if_neg c27] at H
                      exact absurd H (by simp)
                  · rw [if_neg c26] at H
                    exact absurd H (by simp)
                · rw [if_neg c25] at H
                  have c25b0 : ((rd t355 0) == 45) = false := beq_eq_false_iff_ne.mpr c25
                  have c25b1 : ((rd t355 0) != 45) = true := bne_iff_ne.mpr c25
                  (first | rw [c25b0] | (simp only [i64_w, i32_w]; rw [c25b0]) | skip)
                  by_cases c30 : (Go.bits .and .i64 a2 1) = 1
                  · rw [if_pos c30] at H
                    have c30b0 : ((Go.bits .and .i64 a2 1) == 1) = true := beq_iff_eq.mpr c30
                    have c30b1 : ((Go.bits .and .i64 a2 1) != 1) = false := bne_eq_false_iff_eq.mpr c30
                    clear c30
                    by_cases c31 : ([] : List Int).length < 140737488355328
                    · rw [if_pos c31] at H
                      have LMc31 := Aside0.mk c31
                      clear c31
                      obtain ⟨y374, hy374⟩ : ∃ y_ : List Int, y_ = (([] : List Int) ++ [43]) := ⟨_, rfl⟩
                      replace H : (mintagelaw05_WholeBack.j1 kj10 ji6 a2 (wrap64 (1 + (Go.bits .and .i64 a0 7))) t355 y374) = some r := by first | (rw [hy374]; with_reducible exact H) | (have H2_ := (Option.bind_some _ _).symm.trans H; rw [hy374]; with_reducible exact H2_) | (have H2_ := (Option.bind_some _ _).symm.trans H; with_reducible exact H2_) | with_reducible exact H | (rw [hy374]; exact H) | exact H
                      have Ny374 := Aside0.mk hy374
                      clear hy374
                      have H' := Aside0.mk H
                      clear H
                      go_wp2_with (first | ((with_reducible refine gate_builtin (b := .append) (xs := #[.tmp 89, .tmp 90]) rfl ?_); (try (refine gate_guard (by rfl) ?_; dsimp only)); at_builtin; refine Kd.R_append (Kd.int .u8) (w0 := w) w.heap.size rfl (.tmp 89) (.tmp 90) 22 5 (.int .u8 0) 1 rfl Try.underlying22 info5 rfl (by decide) (by omega) (.slice none 0 0) ([] : List Int) 43 [.int .u8 43] (fun k_ => some k_ ≠ (.slice (some ad367) t355.length co14 : Value).ownBlock) (fun _ => False) rfl rfl ?aP (fun _ hk => hk.elim) ?aF ?aO ?aB ?aS ?aL ?_; (case aP => exact rfl); (case aB => exact (by repeat (first | (with_reducible first | exact HB.out | apply below_alloc | apply pw_below_drewN | apply below_drew1) | exact HB.out))); (case aF => exact (fun k_ hk => Kd.fresh' (Kd.Q_lt (by (with_reducible repeat (first | apply Kd.Q_alloc | apply Kd.Q_drewN | apply Kd.Q_drew)); exact HO_8.out)) k_ hk)); (case aO => exact ((Kd.R_nil _ _ _ _ (fun k_ => some k_ ≠ (.slice (some ad367) t355.length co14 : Value).ownBlock)))); (case aS => exact (below_size (by repeat (first | (with_reducible first | exact HB.out | apply below_alloc | apply pw_below_drewN | apply below_drew1) | exact HB.out)))); (case aL => have := LMc31.out; omega); intro v375 w32 ho hb hg hat; rw [← Ny374.out] at ho; have n0_ := Aside0.mk (Kd.Q_after (Kd.Q_apart_nil (by (with_reducible repeat (first | apply Kd.Q_alloc | apply Kd.Q_drewN | apply Kd.Q_drew)); exact HO_8.out)) hg hat); have n1_ := Aside0.mk (hb); have n2_ := Aside0.mk (ho); clear HO_8; clear HB; have HO_8 := n0_; have HB := n1_; have HO376 := n2_; clear n0_ n1_ n2_; clear ho hb hg hat))
                      go_meet
                      case rel => exact ⟨_, (t355), (y374), H', ⟨by have := HJ10.out; first | omega | exact Nat.le_refl _⟩, ⟨by (with_reducible repeat (first | apply Kd.Q_alloc | apply Kd.Q_drewN | apply Kd.Q_drew)); exact Kd.Q_mono HO_8.out (fun _ hk => hk.2)⟩, ⟨by (with_reducible repeat (first | apply Kd.R_alloc | apply Kd.R_drewN | apply Kd.R_drew)); exact HO376.out⟩, ⟨by repeat (first | (with_reducible first | exact HB.out | apply below_alloc | apply pw_below_drewN | apply below_drew1) | exact HB.out)⟩⟩
                    · rw [if_neg c31] at H
                      exact absurd H (by simp)
                  · rw [if_neg c30] at H
                    have c30b0 : ((Go.bits .and .i64 a2 1) == 1) = false := beq_eq_false_iff_ne.mpr c30
                    have c30b1 : ((Go.bits .and .i64 a2 1) != 1) = true := bne_iff_ne.mpr c30
                    have H' := Aside0.mk H
                    clear H
                    go_wp2
                    go_meet
                    case rel => exact ⟨_, (t355), (([] : List Int)), H', ⟨by have := HJ10.out; first | omega | exact Nat.le_refl _⟩, ⟨by (with_reducible repeat (first | apply Kd.Q_alloc | apply Kd.Q_drewN | apply Kd.Q_drew)); exact Kd.Q_mono HO_8.out (fun _ hk => (by simp [Value.ownBlock]))⟩, ⟨by first | exact Kd.R_nil _ _ _ _ _ | exact Kd.N_nil _ _ _ _ _ | exact Kd.V_nil _ _ _ _ _ | exact Kd.Q_nil _ _ _ _ _ | exact Kd.S_nil _ _ _ _ _⟩, ⟨by repeat (first | (with_reducible first | exact HB.out | apply below_alloc | apply pw_below_drewN | apply below_drew1) | exact HB.out)⟩⟩
              case rest =>
                clear HC24
                try clear c1
                try clear c2
                try clear p2
                try clear q2
                try clear c3
                try clear p3
                try clear q3
                try clear hx3
                try clear qi3
                try clear c5
                try clear c5b0
                try clear c5b1
                try clear p6
                try clear c9
                try clear c11
                try clear c14
                try clear c17
                try clear c17b0
                try clear c17b1
                try clear c18
                try clear c19
                try clear c19b0
                try clear c19b1
                try clear c20
                try clear c20b0
                try clear c20b1
                try clear c21
                try clear c21b0
                try clear c21b1
                try clear c22
                try clear c23
                try clear c23b0
                try clear c23b1
                try clear c25
                try clear c25b0
                try clear c25b1
                try clear c26
                try clear c27
                try clear c27b0
                try clear c27b1
                try clear c29
                try clear q29
                try clear c30
                try clear c30b0
                try clear c30b1
                try clear c31
                try clear hx367_0
                try clear p2
                try clear p367
                try clear p6
                try clear q29
                try clear q367
                obtain ⟨kq, x8_23, x13_23, HA, HJ23, HO_8, HO_13, HB⟩ := hcut
                cases kq with
                | zero => exact absurd HA.out (by simp [mintagelaw05_WholeBack.j1])
                | succ kj23 =>
                  have H := HA.out
                  clear HA
                  simp only [mintagelaw05_WholeBack.j1] at H
                  have H' := Aside0.mk H
                  clear H
                  go_wp2
                  go_loopg [13, 14] kj23 (fun kq v13 v14 w' => ∃ (x13_3 : List Int) (x14_3 : Int), v14 = .int .i64 x14_3 ∧ Aside0 (mintagelaw05_WholeBack.l0 kq ji6 a2 (wrap64 (1 + (Go.bits .and .i64 a0 7))) x8_23 x13_3 x14_3 = some r) ∧ Aside0 (kq ≤ kj23) ∧ Aside0 (Kd.Q (Kd.int .u8) 5 w' w.heap.size (fun k_ => some k_ ≠ (v13 : Value).ownBlock) u8 x8_23) ∧ Aside0 (Kd.R (Kd.int .u8) 5 w' w.heap.size (fun k_ => some k_ ≠ (u8 : Value).ownBlock) v13 x13_3) ∧ Aside0 (Below w.heap.size w w'))
                  case atStart => exact ⟨(x13_23), (0), (by first | rfl | (simp; done) | (simp [*]; done)), H', ⟨Nat.le_refl _⟩, ⟨by (with_reducible repeat (first | apply Kd.Q_alloc | apply Kd.Q_drewN | apply Kd.Q_drew)); exact HO_8.out⟩, ⟨by (with_reducible repeat (first | apply Kd.R_alloc | apply Kd.R_drewN | apply Kd.R_drew)); exact HO_13.out⟩, ⟨by repeat (first | (with_reducible first | exact HB.out | apply below_alloc | apply pw_below_drewN | apply below_drew1) | exact HB.out)⟩⟩
                  case round =>
                    clear H'
                    try clear c1
                    try clear c2
                    try clear p2
                    try clear q2
                    try clear c3
                    try clear p3
                    try clear q3
                    try clear hx3
                    try clear qi3
                    try clear c5
                    try clear c5b0
                    try clear c5b1
                    try clear p6
                    try clear c9
                    try clear c11
                    try clear c14
                    try clear c17
                    try clear c17b0
                    try clear c17b1
                    try clear c18
                    try clear c19
                    try clear c19b0
                    try clear c19b1
                    try clear c20
                    try clear c20b0
                    try clear c20b1
                    try clear c21
                    try clear c21b0
                    try clear c21b1
                    try clear c22
                    try clear c23
                    try clear c23b0
                    try clear c23b1
                    try clear c25
                    try clear c25b0
                    try clear c25b1
                    try clear c26
                    try clear c27
                    try clear c27b0
                    try clear c27b1
                    try clear c29
                    try clear q29
                    try clear c30
                    try clear c30b0
                    try clear c30b1
                    try clear c31
                    try clear hx367_0
                    try clear p2
                    try clear p3
                    try clear p367
                    try clear p6
                    try clear q2
                    try clear q29
                    try clear q3
                    try clear q367
                    obtain ⟨x13_3, x14_3, rfl, HA, HK3, HO_8, HO_13, HB⟩ := hrel
                    cases gk with
                    | zero => exact absurd HA.out (by simp [mintagelaw05_WholeBack.l0])
                    | succ k3 =>
                      have H := HA.out
                      clear HA
                      simp only [mintagelaw05_WholeBack.l0] at H
                      by_cases c33 : x14_3 < a2
                      · rw [if_pos c33] at H
                        have c33b0 : decide (x14_3 < a2) = true := decide_eq_true c33
                        clear c33
                        by_cases c34 : x14_3 < 300
                        · rw [if_pos c34] at H
                          have c34b0 : decide (x14_3 < 300) = true := decide_eq_true c34
                          clear c34
                          by_cases c35 : x13_3.length < 140737488355328
                          · rw [if_pos c35] at H
                            have LMc35 := Aside0.mk c35
                            clear c35
                            obtain ⟨y377, hy377⟩ : ∃ y_ : List Int, y_ = (x13_3 ++ [48]) := ⟨_, rfl⟩
                            replace H : (mintagelaw05_WholeBack.l0 k3 ji6 a2 (wrap64 (1 + (Go.bits .and .i64 a0 7))) x8_23 y377 (wrap64 (x14_3 + 1))) = some r := by first | (rw [hy377]; with_reducible exact H) | (have H2_ := (Option.bind_some _ _).symm.trans H; rw [hy377]; with_reducible exact H2_) | (have H2_ := (Option.bind_some _ _).symm.trans H; with_reducible exact H2_) | with_reducible exact H | (rw [hy377]; exact H) | exact H
                            have Ny377 := Aside0.mk hy377
                            clear hy377
                            have H' := Aside0.mk H
                            clear H
                            go_wp2_with (first | ((with_reducible refine gate_builtin (b := .append) (xs := #[.tmp 101, .tmp 102]) rfl ?_); (try (refine gate_guard (by rfl) ?_; dsimp only)); at_builtin; refine Kd.R_append (Kd.int .u8) (w0 := w) w.heap.size rfl (.tmp 101) (.tmp 102) 22 5 (.int .u8 0) 1 rfl Try.underlying22 info5 rfl (by decide) (by omega) u13 x13_3 48 [.int .u8 48] (fun k_ => some k_ ≠ (u8 : Value).ownBlock) (fun _ => False) rfl rfl ?aP (fun _ hk => hk.elim) ?aF ?aO ?aB ?aS ?aL ?_; (case aP => exact rfl); (case aB => exact (by repeat (first | (with_reducible first | exact HB.out | apply below_alloc | apply pw_below_drewN | apply below_drew1) | exact HB.out))); (case aF => exact (fun k_ hk => Kd.fresh' (Kd.Q_lt (by (with_reducible repeat (first | apply Kd.Q_alloc | apply Kd.Q_drewN | apply Kd.Q_drew)); exact HO_8.out)) k_ hk)); (case aO => exact (by (with_reducible repeat (first | apply Kd.R_alloc | apply Kd.R_drewN | apply Kd.R_drew)); exact HO_13.out)); (case aS => exact (below_size (by repeat (first | (with_reducible first | exact HB.out | apply below_alloc | apply pw_below_drewN | apply below_drew1) | exact HB.out)))); (case aL => have := LMc35.out; omega); intro v378 w36 ho hb hg hat; rw [← Ny377.out] at ho; have n0_ := Aside0.mk (Kd.Q_after (ok := (fun _ => True)) (by (with_reducible repeat (first | apply Kd.Q_alloc | apply Kd.Q_drewN | apply Kd.Q_drew)); exact Kd.Q_mono HO_8.out (fun _ hk => ⟨trivial, hk⟩)) hg hat); have n1_ := Aside0.mk (hb); have n2_ := Aside0.mk (ho); clear HO_8; clear HB; clear HO_13; have HO_8 := n0_; have HB := n1_; have HO379 := n2_; clear n0_ n1_ n2_; clear ho hb hg hat))
                            go_roundg k3
                            case measure => have := HJ10.out; have := HJ23.out; have := HK3.out; omega
                            case rel => exact ⟨(y377), (wrap64 (x14_3 + 1)), (by first | rfl | (simp; done) | (simp [*]; done)), H', ⟨by have := HJ10.out; have := HJ23.out; have := HK3.out; omega⟩, ⟨by (with_reducible repeat (first | apply Kd.Q_alloc | apply Kd.Q_drewN | apply Kd.Q_drew)); exact Kd.Q_mono HO_8.out (fun _ hk => hk.2)⟩, ⟨by (with_reducible repeat (first | apply Kd.R_alloc | apply Kd.R_drewN | apply Kd.R_drew)); exact HO379.out⟩, ⟨by repeat (first | (with_reducible first | exact HB.out | apply below_alloc | apply pw_below_drewN | apply below_drew1) | exact HB.out)⟩⟩
                          · rw [if_neg c35] at H
                            exact absurd H (by simp)
                        · rw [if_neg c34] at H
                          have c34b0 : decide (x14_3 < 300) = false := decide_eq_false c34
                          clear c34
                          by_cases c37 : x13_3.length + x8_23.length < 140737488355328
                          · rw [if_pos c37] at H
                            have LMc37 := Aside0.mk c37
                            clear c37
                            obtain ⟨y380, hy380⟩ : ∃ y_ : List Int, y_ = (x13_3 ++ x8_23) := ⟨_, rfl⟩
                            replace H : ((whole_Parse.f k3 (wrap64 (1 + (Go.bits .and .i64 a0 7))) y380).bind fun bt383 => ((mintagelaw05_num.f bt383.2.2).bind fun t386 => (if t386 = 0 then (if bt383.1 = ji6 then ((mintagelaw05_wakes.f).bind fun t387 => (some t387)) else (some false)) else (some false)))) = some r := by first | (rw [hy380]; with_reducible exact H) | (have H2_ := (Option.bind_some _ _).symm.trans H; rw [hy380]; with_reducible exact H2_) | (have H2_ := (Option.bind_some _ _).symm.trans H; with_reducible exact H2_) | with_reducible exact H | (rw [hy380]; exact H) | exact H
                            have Ny380 := Aside0.mk hy380
                            clear hy380
                            replace H := Option.bind_eq_some_iff.mp H
                            obtain ⟨⟨t383, t384, t385⟩, A380, H⟩ := H
                            replace H : ((mintagelaw05_num.f t385).bind fun t386 => (if t386 = 0 then (if t383 = ji6 then ((mintagelaw05_wakes.f).bind fun t387 => (some t387)) else (some false)) else (some false))) = some r := H
                            have A38 := Aside0.mk A380
                            clear A380
                            replace H := Option.bind_eq_some_iff.mp H
                            obtain ⟨t386, A390, H⟩ := H
                            replace H : (if t386 = 0 then (if t383 = ji6 then ((mintagelaw05_wakes.f).bind fun t387 => (some t387)) else (some false)) else (some false)) = some r := H
                            have A39 := Aside0.mk A390
                            clear A390
                            by_cases c40 : t386 = 0
                            · rw [if_pos c40] at H
                              have c40b0 : (t386 == 0) = true := beq_iff_eq.mpr c40
                              have c40b1 : (t386 != 0) = false := bne_eq_false_iff_eq.mpr c40
                              clear c40
                              by_cases c41 : t383 = ji6
                              · rw [if_pos c41] at H
                                have c41b0 : (t383 == ji6) = true := beq_iff_eq.mpr c41
                                have c41b1 : (t383 != ji6) = false := bne_eq_false_iff_eq.mpr c41
                                clear c41
                                replace H := Option.bind_eq_some_iff.mp H
                                obtain ⟨t387, A420, H⟩ := H
                                replace H : (some t387) = some r := H
                                have A42 := Aside0.mk A420
                                clear A420
                                obtain rfl := Option.some.inj H
                                obtain ⟨Ao44, co44, eo44, _⟩ := Kd.Q_slice HO_8.out
                                subst eo44
                                go_wp2_with (first | ((with_reducible refine gate_builtin (b := .append) (xs := #[.tmp 106, .tmp 107]) rfl ?_); (try (refine gate_guard (by rfl) ?_; dsimp only)); at_builtin; refine Kd.R_append_rows (Kd.int .u8) (w0 := w) w.heap.size rfl (.tmp 106) (.tmp 107) 22 5 (.int .u8 0) 1 rfl Try.underlying22 info5 rfl (by decide) (by omega) u13 x13_3 x8_23 _ _ _ (fun k_ => some k_ ≠ (.slice Ao44 x8_23.length co44 : Value).ownBlock) (fun _ => False) rfl rfl ?aO ?aR (fun _ _ h => h) (fun _ h => h.elim) ?aF ?aB ?aS ?aL ?_; (case aR => repeat (first | exact (Kd.Q_reads' HO_8.out).2.2 | (with_reducible refine Kd.C_alloc ?_ _) | (with_reducible refine Kd.C_drewN ?_ _) | (with_reducible refine Kd.C_drew ?_))); (case aB => exact (by repeat (first | (with_reducible first | exact HB.out | apply below_alloc | apply pw_below_drewN | apply below_drew1) | exact HB.out))); (case aF => exact (fun k_ hk => Kd.fresh' (Kd.Q_lt (by (with_reducible repeat (first | apply Kd.Q_alloc | apply Kd.Q_drewN | apply Kd.Q_drew)); exact HO_8.out)) k_ hk)); (case aO => exact (by (with_reducible repeat (first | apply Kd.R_alloc | apply Kd.R_drewN | apply Kd.R_drew)); exact HO_13.out)); (case aS => exact (below_size (by repeat (first | (with_reducible first | exact HB.out | apply below_alloc | apply pw_below_drewN | apply below_drew1) | exact HB.out)))); (case aL => have := LMc37.out; omega); intro v381 w43 ho hb hg hat; rw [← Ny380.out] at ho; have n0_ := Aside0.mk (Kd.Q_after (ok := (fun _ => True)) (by (with_reducible repeat (first | apply Kd.Q_alloc | apply Kd.Q_drewN | apply Kd.Q_drew)); exact Kd.Q_mono HO_8.out (fun _ hk => ⟨trivial, hk⟩)) hg hat); have n1_ := Aside0.mk (hb); have n2_ := Aside0.mk (ho); clear HO_8; clear HB; clear HO_13; have HO_8 := n0_; have HB := n1_; have HO382 := n2_; clear n0_ n1_ n2_; clear ho hb hg hat; obtain ⟨Ao45, co45, eo45⟩ := Kd.R_slice HO382.out; subst eo45) | ((with_reducible refine gate_callee (f := 11) rfl ?_); refine goesL_ (some 109) rfl rfl Try.func11 (by kernel_rfl) rfl #[.int .i64 (wrap64 (1 + (Go.bits .and .i64 a0 7))), .slice Ao45 y380.length co45] rfl (by (try simp only [List.map_toArray, List.map_cons, List.map_nil]); first | done | rfl | (simp only [List.length_drop, List.length_take]; rfl)) ?_; (with_reducible refine (whole_Parse.calls k3 (wrap64 (1 + (Go.bits .and .i64 a0 7))) _ _ y380 t383 t384 t385 _ ?side1 ?side2 A38.out).mono ?_); (case side1 => repeat (first | exact (Kd.R_reads' HO382.out).2.2 | (with_reducible refine Kd.C_alloc ?_ _) | (with_reducible refine Kd.C_drewN ?_ _) | (with_reducible refine Kd.C_drew ?_))); (case side2 => exact (Kd.R_reads' HO382.out).2.1); rintro e w46 ⟨rfl, hb⟩; refine ⟨_, rfl, ?_⟩; have n0_ := Aside0.mk (Kd.Q_below (by (with_reducible repeat (first | apply Kd.Q_alloc | apply Kd.Q_drewN | apply Kd.Q_drew)); exact HO_8.out) hb); have n1_ := Aside0.mk (Kd.R_below (by (with_reducible repeat (first | apply Kd.R_alloc | apply Kd.R_drewN | apply Kd.R_drew)); exact HO382.out) hb); have n2_ := Aside0.mk (below_step (by repeat (first | (with_reducible first | exact HB.out | apply below_alloc | apply pw_below_drewN | apply below_drew1) | exact HB.out)) hb); clear HO_8; clear HO382; clear HB; have HO_8 := n0_; have HO382 := n1_; have HB := n2_; clear n0_ n1_ n2_; (try clear hb); (try clear hb2); (try clear hk); (try clear hi)) | ((with_reducible refine gate_callee (f := 14) rfl ?_); refine goesL_ (some 114) rfl rfl Try.func14 (by kernel_rfl) rfl #[.int .i64 t385] rfl (by (try simp only [List.map_toArray, List.map_cons, List.map_nil]); first | done | rfl | (simp only [List.length_drop, List.length_take]; rfl)) ?_; (with_reducible refine (mintagelaw05_num.calls t385 t386 _ A39.out).mono ?_); rintro e w' ⟨rfl, ⟨nd, rfl⟩⟩; refine ⟨_, rfl, ?_⟩) | (go_at_call 16; (with_reducible refine (mintagelaw05_wakes.calls  t387 _ A42.out).mono ?_); rintro e w47 ⟨rfl, hb⟩; have n0_ := Aside0.mk (Kd.Q_below (by (with_reducible repeat (first | apply Kd.Q_alloc | apply Kd.Q_drewN | apply Kd.Q_drew)); exact HO_8.out) hb); have n1_ := Aside0.mk (Kd.R_below (by (with_reducible repeat (first | apply Kd.R_alloc | apply Kd.R_drewN | apply Kd.R_drew)); exact HO382.out) hb); have n2_ := Aside0.mk (below_step (by repeat (first | (with_reducible first | exact HB.out | apply below_alloc | apply pw_below_drewN | apply below_drew1) | exact HB.out)) hb); clear HO_8; clear HO382; clear HB; have HO_8 := n0_; have HO382 := n1_; have HB := n2_; clear n0_ n1_ n2_; (try clear hb); (try clear hb2); (try clear hk); (try clear hi)))
                                go_ret
                                exact ⟨by first | rfl | (simp [errW_none, errW_some] <;> rfl) | (simp only [← hji4, ← hji6]; first | rfl | (simp [errW_none, errW_some] <;> rfl)) | (simp [*, errW_none, errW_some] <;> rfl), by repeat (first | (with_reducible first | exact HB.out | apply below_alloc | apply pw_below_drewN | apply below_drew1) | exact HB.out)⟩
                              · rw [if_neg c41] at H
                                have c41b0 : (t383 == ji6) = false := beq_eq_false_iff_ne.mpr c41
                                have c41b1 : (t383 != ji6) = true := bne_iff_ne.mpr c41
                                obtain rfl := Option.some.inj H
                                obtain ⟨Ao49, co49, eo49, _⟩ := Kd.Q_slice HO_8.out
                                subst eo49
                                go_wp2_with (first | ((with_reducible refine gate_builtin (b := .append) (xs := #[.tmp 106, .tmp 107]) rfl ?_); (try (refine gate_guard (by rfl) ?_; dsimp only)); at_builtin; refine Kd.R_append_rows (Kd.int .u8) (w0 := w) w.heap.size rfl (.tmp 106) (.tmp 107) 22 5 (.int .u8 0) 1 rfl Try.underlying22 info5 rfl (by decide) (by omega) u13 x13_3 x8_23 _ _ _ (fun k_ => some k_ ≠ (.slice Ao49 x8_23.length co49 : Value).ownBlock) (fun _ => False) rfl rfl ?aO ?aR (fun _ _ h => h) (fun _ h => h.elim) ?aF ?aB ?aS ?aL ?_; (case aR => repeat (first | exact (Kd.Q_reads' HO_8.out).2.2 | (with_reducible refine Kd.C_alloc ?_ _) | (with_reducible refine Kd.C_drewN ?_ _) | (with_reducible refine Kd.C_drew ?_))); (case aB => exact (by repeat (first | (with_reducible first | exact HB.out | apply below_alloc | apply pw_below_drewN | apply below_drew1) | exact HB.out))); (case aF => exact (fun k_ hk => Kd.fresh' (Kd.Q_lt (by (with_reducible repeat (first | apply Kd.Q_alloc | apply Kd.Q_drewN | apply Kd.Q_drew)); exact HO_8.out)) k_ hk)); (case aO => exact (by (with_reducible repeat (first | apply Kd.R_alloc | apply Kd.R_drewN | apply Kd.R_drew)); exact HO_13.out)); (case aS => exact (below_size (by repeat (first | (with_reducible first | exact HB.out | apply below_alloc | apply pw_below_drewN | apply below_drew1) | exact HB.out)))); (case aL => have := LMc37.out; omega); intro v381 w48 ho hb hg hat; rw [← Ny380.out] at ho; have n0_ := Aside0.mk (Kd.Q_after (ok := (fun _ => True)) (by (with_reducible repeat (first | apply Kd.Q_alloc | apply Kd.Q_drewN | apply Kd.Q_drew)); exact Kd.Q_mono HO_8.out (fun _ hk => ⟨trivial, hk⟩)) hg hat); have n1_ := Aside0.mk (hb); have n2_ := Aside0.mk (ho); clear HO_8; clear HB; clear HO_13; have HO_8 := n0_; have HB := n1_; have HO382 := n2_; clear n0_ n1_ n2_; clear ho hb hg hat; obtain ⟨Ao50, co50, eo50⟩ := Kd.R_slice HO382.out; subst eo50) | ((with_reducible refine gate_callee (f := 11) rfl ?_); refine goesL_ (some 109) rfl rfl Try.func11 (by kernel_rfl) rfl #[.int .i64 (wrap64 (1 + (Go.bits .and .i64 a0 7))), .slice Ao50 y380.length co50] rfl (by (try simp only [List.map_toArray, List.map_cons, List.map_nil]); first | done | rfl | (simp only [List.length_drop, List.length_take]; rfl)) ?_; (with_reducible refine (whole_Parse.calls k3 (wrap64 (1 + (Go.bits .and .i64 a0 7))) _ _ y380 t383 t384 t385 _ ?side1 ?side2 A38.out).mono ?_); (case side1 => repeat (first | exact (Kd.R_reads' HO382.out).2.2 | (with_reducible refine Kd.C_alloc ?_ _) | (with_reducible refine Kd.C_drewN ?_ _) | (with_reducible refine Kd.C_drew ?_))); (case side2 => exact (Kd.R_reads' HO382.out).2.1); rintro e w51 ⟨rfl, hb⟩; refine ⟨_, rfl, ?_⟩; have n0_ := Aside0.mk (Kd.Q_below (by (with_reducible repeat (first | apply Kd.Q_alloc | apply Kd.Q_drewN | apply Kd.Q_drew)); exact HO_8.out) hb); have n1_ := Aside0.mk (Kd.R_below (by (with_reducible repeat (first | apply Kd.R_alloc | apply Kd.R_drewN | apply Kd.R_drew)); exact HO382.out) hb); have n2_ := Aside0.mk (below_step (by repeat (first | (with_reducible first | exact HB.out | apply below_alloc | apply pw_below_drewN | apply below_drew1) | exact HB.out)) hb); clear HO_8; clear HO382; clear HB; have HO_8 := n0_; have HO382 := n1_; have HB := n2_; clear n0_ n1_ n2_; (try clear hb); (try clear hb2); (try clear hk); (try clear hi)) | ((with_reducible refine gate_callee (f := 14) rfl ?_); refine goesL_ (some 114) rfl rfl Try.func14 (by kernel_rfl) rfl #[.int .i64 t385] rfl (by (try simp only [List.map_toArray, List.map_cons, List.map_nil]); first | done | rfl | (simp only [List.length_drop, List.length_take]; rfl)) ?_; (with_reducible refine (mintagelaw05_num.calls t385 t386 _ A39.out).mono ?_); rintro e w' ⟨rfl, ⟨nd, rfl⟩⟩; refine ⟨_, rfl, ?_⟩))
                                go_ret
                                exact ⟨by first | rfl | (simp [errW_none, errW_some] <;> rfl) | (simp only [← hji4, ← hji6]; first | rfl | (simp [errW_none, errW_some] <;> rfl)) | (simp [*, errW_none, errW_some] <;> rfl), by repeat (first | (with_reducible first | exact HB.out | apply below_alloc | apply pw_below_drewN | apply below_drew1) | exact HB.out)⟩
                            · rw [if_neg c40] at H
                              have c40b0 : (t386 == 0) = false := beq_eq_false_iff_ne.mpr c40
                              have c40b1 : (t386 != 0) = true := bne_iff_ne.mpr c40
                              obtain rfl := Option.some.inj H
                              obtain ⟨Ao53, co53, eo53, _⟩ := Kd.Q_slice HO_8.out
                              subst eo53
                              go_wp2_with (first | ((with_reducible refine gate_builtin (b := .append) (xs := #[.tmp 106, .tmp 107]) rfl ?_); (try (refine gate_guard (by rfl) ?_; dsimp only)); at_builtin; refine Kd.R_append_rows (Kd.int .u8) (w0 := w) w.heap.size rfl (.tmp 106) (.tmp 107) 22 5 (.int .u8 0) 1 rfl Try.underlying22 info5 rfl (by decide) (by omega) u13 x13_3 x8_23 _ _ _ (fun k_ => some k_ ≠ (.slice Ao53 x8_23.length co53 : Value).ownBlock) (fun _ => False) rfl rfl ?aO ?aR (fun _ _ h => h) (fun _ h => h.elim) ?aF ?aB ?aS ?aL ?_; (case aR => repeat (first | exact (Kd.Q_reads' HO_8.out).2.2 | (with_reducible refine Kd.C_alloc ?_ _) | (with_reducible refine Kd.C_drewN ?_ _) | (with_reducible refine Kd.C_drew ?_))); (case aB => exact (by repeat (first | (with_reducible first | exact HB.out | apply below_alloc | apply pw_below_drewN | apply below_drew1) | exact HB.out))); (case aF => exact (fun k_ hk => Kd.fresh' (Kd.Q_lt (by (with_reducible repeat (first | apply Kd.Q_alloc | apply Kd.Q_drewN | apply Kd.Q_drew)); exact HO_8.out)) k_ hk)); (case aO => exact (by (with_reducible repeat (first | apply Kd.R_alloc | apply Kd.R_drewN | apply Kd.R_drew)); exact HO_13.out)); (case aS => exact (below_size (by repeat (first | (with_reducible first | exact HB.out | apply below_alloc | apply pw_below_drewN | apply below_drew1) | exact HB.out)))); (case aL => have := LMc37.out; omega); intro v381 w52 ho hb hg hat; rw [← Ny380.out] at ho; have n0_ := Aside0.mk (Kd.Q_after (ok := (fun _ => True)) (by (with_reducible repeat (first | apply Kd.Q_alloc | apply Kd.Q_drewN | apply Kd.Q_drew)); exact Kd.Q_mono HO_8.out (fun _ hk => ⟨trivial, hk⟩)) hg hat); have n1_ := Aside0.mk (hb); have n2_ := Aside0.mk (ho); clear HO_8; clear HB; clear HO_13; have HO_8 := n0_; have HB := n1_; have HO382 := n2_; clear n0_ n1_ n2_; clear ho hb hg hat; obtain ⟨Ao54, co54, eo54⟩ := Kd.R_slice HO382.out; subst eo54) | ((with_reducible refine gate_callee (f := 11) rfl ?_); refine goesL_ (some 109) rfl rfl Try.func11 (by kernel_rfl) rfl #[.int .i64 (wrap64 (1 + (Go.bits .and .i64 a0 7))), .slice Ao54 y380.length co54] rfl (by (try simp only [List.map_toArray, List.map_cons, List.map_nil]); first | done | rfl | (simp only [List.length_drop, List.length_take]; rfl)) ?_; (with_reducible refine (whole_Parse.calls k3 (wrap64 (1 + (Go.bits .and .i64 a0 7))) _ _ y380 t383 t384 t385 _ ?side1 ?side2 A38.out).mono ?_); (case side1 => repeat (first | exact (Kd.R_reads' HO382.out).2.2 | (with_reducible refine Kd.C_alloc ?_ _) | (with_reducible refine Kd.C_drewN ?_ _) | (with_reducible refine Kd.C_drew ?_))); (case side2 => exact (Kd.R_reads' HO382.out).2.1); rintro e w55 ⟨rfl, hb⟩; refine ⟨_, rfl, ?_⟩; have n0_ := Aside0.mk (Kd.Q_below (by (with_reducible repeat (first | apply Kd.Q_alloc | apply Kd.Q_drewN | apply Kd.Q_drew)); exact HO_8.out) hb); have n1_ := Aside0.mk (Kd.R_below (by (with_reducible repeat (first | apply Kd.R_alloc | apply Kd.R_drewN | apply Kd.R_drew)); exact HO382.out) hb); have n2_ := Aside0.mk (below_step (by repeat (first | (with_reducible first | exact HB.out | apply below_alloc | apply pw_below_drewN | apply below_drew1) | exact HB.out)) hb); clear HO_8; clear HO382; clear HB; have HO_8 := n0_; have HO382 := n1_; have HB := n2_; clear n0_ n1_ n2_; (try clear hb); (try clear hb2); (try clear hk); (try clear hi)) | ((with_reducible refine gate_callee (f := 14) rfl ?_); refine goesL_ (some 114) rfl rfl Try.func14 (by kernel_rfl) rfl #[.int .i64 t385] rfl (by (try simp only [List.map_toArray, List.map_cons, List.map_nil]); first | done | rfl | (simp only [List.length_drop, List.length_take]; rfl)) ?_; (with_reducible refine (mintagelaw05_num.calls t385 t386 _ A39.out).mono ?_); rintro e w' ⟨rfl, ⟨nd, rfl⟩⟩; refine ⟨_, rfl, ?_⟩))
                              go_ret
                              exact ⟨by first | rfl | (simp [errW_none, errW_some] <;> rfl) | (simp only [← hji4, ← hji6]; first | rfl | (simp [errW_none, errW_some] <;> rfl)) | (simp [*, errW_none, errW_some] <;> rfl), by repeat (first | (with_reducible first | exact HB.out | apply below_alloc | apply pw_below_drewN | apply below_drew1) | exact HB.out)⟩
                          · rw [if_neg c37] at H
                            exact absurd H (by simp)
                      · rw [if_neg c33] at H
                        have c33b0 : decide (x14_3 < a2) = false := decide_eq_false c33
                        clear c33
                        by_cases c56 : x13_3.length + x8_23.length < 140737488355328
                        · rw [if_pos c56] at H
                          have LMc56 := Aside0.mk c56
                          clear c56
                          obtain ⟨y388, hy388⟩ : ∃ y_ : List Int, y_ = (x13_3 ++ x8_23) := ⟨_, rfl⟩
                          replace H : ((whole_Parse.f k3 (wrap64 (1 + (Go.bits .and .i64 a0 7))) y388).bind fun bt391 => ((mintagelaw05_num.f bt391.2.2).bind fun t394 => (if t394 = 0 then (if bt391.1 = ji6 then ((mintagelaw05_wakes.f).bind fun t395 => (some t395)) else (some false)) else (some false)))) = some r := by first | (rw [hy388]; with_reducible exact H) | (have H2_ := (Option.bind_some _ _).symm.trans H; rw [hy388]; with_reducible exact H2_) | (have H2_ := (Option.bind_some _ _).symm.trans H; with_reducible exact H2_) | with_reducible exact H | (rw [hy388]; exact H) | exact H
                          have Ny388 := Aside0.mk hy388
                          clear hy388
                          replace H := Option.bind_eq_some_iff.mp H
                          obtain ⟨⟨t391, t392, t393⟩, A570, H⟩ := H
                          replace H : ((mintagelaw05_num.f t393).bind fun t394 => (if t394 = 0 then (if t391 = ji6 then ((mintagelaw05_wakes.f).bind fun t395 => (some t395)) else (some false)) else (some false))) = some r := H
                          have A57 := Aside0.mk A570
                          clear A570
                          replace H := Option.bind_eq_some_iff.mp H
                          obtain ⟨t394, A580, H⟩ := H
                          replace H : (if t394 = 0 then (if t391 = ji6 then ((mintagelaw05_wakes.f).bind fun t395 => (some t395)) else (some false)) else (some false)) = some r := H
                          have A58 := Aside0.mk A580
                          clear A580
                          by_cases c59 : t394 = 0
                          · rw [if_pos c59] at H
                            have c59b0 : (t394 == 0) = true := beq_iff_eq.mpr c59
                            have c59b1 : (t394 != 0) = false := bne_eq_false_iff_eq.mpr c59
                            clear c59
                            by_cases c60 : t391 = ji6
                            · rw [if_pos c60] at H
                              have c60b0 : (t391 == ji6) = true := beq_iff_eq.mpr c60
                              have c60b1 : (t391 != ji6) = false := bne_eq_false_iff_eq.mpr c60
                              clear c60
                              replace H := Option.bind_eq_some_iff.mp H
                              obtain ⟨t395, A610, H⟩ := H
                              replace H : (some t395) = some r := H
                              have A61 := Aside0.mk A610
                              clear A610
                              obtain rfl := Option.some.inj H
                              obtain ⟨Ao63, co63, eo63, _⟩ := Kd.Q_slice HO_8.out
                              subst eo63
                              go_wp2_with (first | ((with_reducible refine gate_builtin (b := .append) (xs := #[.tmp 106, .tmp 107]) rfl ?_); (try (refine gate_guard (by rfl) ?_; dsimp only)); at_builtin; refine Kd.R_append_rows (Kd.int .u8) (w0 := w) w.heap.size rfl (.tmp 106) (.tmp 107) 22 5 (.int .u8 0) 1 rfl Try.underlying22 info5 rfl (by decide) (by omega) u13 x13_3 x8_23 _ _ _ (fun k_ => some k_ ≠ (.slice Ao63 x8_23.length co63 : Value).ownBlock) (fun _ => False) rfl rfl ?aO ?aR (fun _ _ h => h) (fun _ h => h.elim) ?aF ?aB ?aS ?aL ?_; (case aR => repeat (first | exact (Kd.Q_reads' HO_8.out).2.2 | (with_reducible refine Kd.C_alloc ?_ _) | (with_reducible refine Kd.C_drewN ?_ _) | (with_reducible refine Kd.C_drew ?_))); (case aB => exact (by repeat (first | (with_reducible first | exact HB.out | apply below_alloc | apply pw_below_drewN | apply below_drew1) | exact HB.out))); (case aF => exact (fun k_ hk => Kd.fresh' (Kd.Q_lt (by (with_reducible repeat (first | apply Kd.Q_alloc | apply Kd.Q_drewN | apply Kd.Q_drew)); exact HO_8.out)) k_ hk)); (case aO => exact (by (with_reducible repeat (first | apply Kd.R_alloc | apply Kd.R_drewN | apply Kd.R_drew)); exact HO_13.out)); (case aS => exact (below_size (by repeat (first | (with_reducible first | exact HB.out | apply below_alloc | apply pw_below_drewN | apply below_drew1) | exact HB.out)))); (case aL => have := LMc56.out; omega); intro v389 w62 ho hb hg hat; rw [← Ny388.out] at ho; have n0_ := Aside0.mk (Kd.Q_after (ok := (fun _ => True)) (by (with_reducible repeat (first | apply Kd.Q_alloc | apply Kd.Q_drewN | apply Kd.Q_drew)); exact Kd.Q_mono HO_8.out (fun _ hk => ⟨trivial, hk⟩)) hg hat); have n1_ := Aside0.mk (hb); have n2_ := Aside0.mk (ho); clear HO_8; clear HB; clear HO_13; have HO_8 := n0_; have HB := n1_; have HO390 := n2_; clear n0_ n1_ n2_; clear ho hb hg hat; obtain ⟨Ao64, co64, eo64⟩ := Kd.R_slice HO390.out; subst eo64) | ((with_reducible refine gate_callee (f := 11) rfl ?_); refine goesL_ (some 109) rfl rfl Try.func11 (by kernel_rfl) rfl #[.int .i64 (wrap64 (1 + (Go.bits .and .i64 a0 7))), .slice Ao64 y388.length co64] rfl (by (try simp only [List.map_toArray, List.map_cons, List.map_nil]); first | done | rfl | (simp only [List.length_drop, List.length_take]; rfl)) ?_; (with_reducible refine (whole_Parse.calls k3 (wrap64 (1 + (Go.bits .and .i64 a0 7))) _ _ y388 t391 t392 t393 _ ?side1 ?side2 A57.out).mono ?_); (case side1 => repeat (first | exact (Kd.R_reads' HO390.out).2.2 | (with_reducible refine Kd.C_alloc ?_ _) | (with_reducible refine Kd.C_drewN ?_ _) | (with_reducible refine Kd.C_drew ?_))); (case side2 => exact (Kd.R_reads' HO390.out).2.1); rintro e w65 ⟨rfl, hb⟩; refine ⟨_, rfl, ?_⟩; have n0_ := Aside0.mk (Kd.Q_below (by (with_reducible repeat (first | apply Kd.Q_alloc | apply Kd.Q_drewN | apply Kd.Q_drew)); exact HO_8.out) hb); have n1_ := Aside0.mk (Kd.R_below (by (with_reducible repeat (first | apply Kd.R_alloc | apply Kd.R_drewN | apply Kd.R_drew)); exact HO390.out) hb); have n2_ := Aside0.mk (below_step (by repeat (first | (with_reducible first | exact HB.out | apply below_alloc | apply pw_below_drewN | apply below_drew1) | exact HB.out)) hb); clear HO_8; clear HO390; clear HB; have HO_8 := n0_; have HO390 := n1_; have HB := n2_; clear n0_ n1_ n2_; (try clear hb); (try clear hb2); (try clear hk); (try clear hi)) | ((with_reducible refine gate_callee (f := 14) rfl ?_); refine goesL_ (some 114) rfl rfl Try.func14 (by kernel_rfl) rfl #[.int .i64 t393] rfl (by (try simp only [List.map_toArray, List.map_cons, List.map_nil]); first | done | rfl | (simp only [List.length_drop, List.length_take]; rfl)) ?_; (with_reducible refine (mintagelaw05_num.calls t393 t394 _ A58.out).mono ?_); rintro e w' ⟨rfl, ⟨nd, rfl⟩⟩; refine ⟨_, rfl, ?_⟩) | (go_at_call 16; (with_reducible refine (mintagelaw05_wakes.calls  t395 _ A61.out).mono ?_); rintro e w66 ⟨rfl, hb⟩; have n0_ := Aside0.mk (Kd.Q_below (by (with_reducible repeat (first | apply Kd.Q_alloc | apply Kd.Q_drewN | apply Kd.Q_drew)); exact HO_8.out) hb); have n1_ := Aside0.mk (Kd.R_below (by (with_reducible repeat (first | apply Kd.R_alloc | apply Kd.R_drewN | apply Kd.R_drew)); exact HO390.out) hb); have n2_ := Aside0.mk (below_step (by repeat (first | (with_reducible first | exact HB.out | apply below_alloc | apply pw_below_drewN | apply below_drew1) | exact HB.out)) hb); clear HO_8; clear HO390; clear HB; have HO_8 := n0_; have HO390 := n1_; have HB := n2_; clear n0_ n1_ n2_; (try clear hb); (try clear hb2); (try clear hk); (try clear hi)))
                              go_ret
                              exact ⟨by first | rfl | (simp [errW_none, errW_some] <;> rfl) | (simp only [← hji4, ← hji6]; first | rfl | (simp [errW_none, errW_some] <;> rfl)) | (simp [*, errW_none, errW_some] <;> rfl), by repeat (first | (with_reducible first | exact HB.out | apply below_alloc | apply pw_below_drewN | apply below_drew1) | exact HB.out)⟩
                            · rw [if_neg c60] at H
                              have c60b0 : (t391 == ji6) = false := beq_eq_false_iff_ne.mpr c60
                              have c60b1 : (t391 != ji6) = true := bne_iff_ne.mpr c60
                              obtain rfl := Option.some.inj H
                              obtain ⟨Ao68, co68, eo68, _⟩ := Kd.Q_slice HO_8.out
                              subst eo68
                              go_wp2_with (first | ((with_reducible refine gate_builtin (b := .append) (xs := #[.tmp 106, .tmp 107]) rfl ?_); (try (refine gate_guard (by rfl) ?_; dsimp only)); at_builtin; refine Kd.R_append_rows (Kd.int .u8) (w0 := w) w.heap.size rfl (.tmp 106) (.tmp 107) 22 5 (.int .u8 0) 1 rfl Try.underlying22 info5 rfl (by decide) (by omega) u13 x13_3 x8_23 _ _ _ (fun k_ => some k_ ≠ (.slice Ao68 x8_23.length co68 : Value).ownBlock) (fun _ => False) rfl rfl ?aO ?aR (fun _ _ h => h) (fun _ h => h.elim) ?aF ?aB ?aS ?aL ?_; (case aR => repeat (first | exact (Kd.Q_reads' HO_8.out).2.2 | (with_reducible refine Kd.C_alloc ?_ _) | (with_reducible refine Kd.C_drewN ?_ _) | (with_reducible refine Kd.C_drew ?_))); (case aB => exact (by repeat (first | (with_reducible first | exact HB.out | apply below_alloc | apply pw_below_drewN | apply below_drew1) | exact HB.out))); (case aF => exact (fun k_ hk => Kd.fresh' (Kd.Q_lt (by (with_reducible repeat (first | apply Kd.Q_alloc | apply Kd.Q_drewN | apply Kd.Q_drew)); exact HO_8.out)) k_ hk)); (case aO => exact (by (with_reducible repeat (first | apply Kd.R_alloc | apply Kd.R_drewN | apply Kd.R_drew)); exact HO_13.out)); (case aS => exact (below_size (by repeat (first | (with_reducible first | exact HB.out | apply below_alloc | apply pw_below_drewN | apply below_drew1) | exact HB.out)))); (case aL => have := LMc56.out; omega); intro v389 w67 ho hb hg hat; rw [← Ny388.out] at ho; have n0_ := Aside0.mk (Kd.Q_after (ok := (fun _ => True)) (by (with_reducible repeat (first | apply Kd.Q_alloc | apply Kd.Q_drewN | apply Kd.Q_drew)); exact Kd.Q_mono HO_8.out (fun _ hk => ⟨trivial, hk⟩)) hg hat); have n1_ := Aside0.mk (hb); have n2_ := Aside0.mk (ho); clear HO_8; clear HB; clear HO_13; have HO_8 := n0_; have HB := n1_; have HO390 := n2_; clear n0_ n1_ n2_; clear ho hb hg hat; obtain ⟨Ao69, co69, eo69⟩ := Kd.R_slice HO390.out; subst eo69) | ((with_reducible refine gate_callee (f := 11) rfl ?_); refine goesL_ (some 109) rfl rfl Try.func11 (by kernel_rfl) rfl #[.int .i64 (wrap64 (1 + (Go.bits .and .i64 a0 7))), .slice Ao69 y388.length co69] rfl (by (try simp only [List.map_toArray, List.map_cons, List.map_nil]); first | done | rfl | (simp only [List.length_drop, List.length_take]; rfl)) ?_; (with_reducible refine (whole_Parse.calls k3 (wrap64 (1 + (Go.bits .and .i64 a0 7))) _ _ y388 t391 t392 t393 _ ?side1 ?side2 A57.out).mono ?_); (case side1 => repeat (first | exact (Kd.R_reads' HO390.out).2.2 | (with_reducible refine Kd.C_alloc ?_ _) | (with_reducible refine Kd.C_drewN ?_ _) | (with_reducible refine Kd.C_drew ?_))); (case side2 => exact (Kd.R_reads' HO390.out).2.1); rintro e w70 ⟨rfl, hb⟩; refine ⟨_, rfl, ?_⟩; have n0_ := Aside0.mk (Kd.Q_below (by (with_reducible repeat (first | apply Kd.Q_alloc | apply Kd.Q_drewN | apply Kd.Q_drew)); exact HO_8.out) hb); have n1_ := Aside0.mk (Kd.R_below (by (with_reducible repeat (first | apply Kd.R_alloc | apply Kd.R_drewN | apply Kd.R_drew)); exact HO390.out) hb); have n2_ := Aside0.mk (below_step (by repeat (first | (with_reducible first | exact HB.out | apply below_alloc | apply pw_below_drewN | apply below_drew1) | exact HB.out)) hb); clear HO_8; clear HO390; clear HB; have HO_8 := n0_; have HO390 := n1_; have HB := n2_; clear n0_ n1_ n2_; (try clear hb); (try clear hb2); (try clear hk); (try clear hi)) | ((with_reducible refine gate_callee (f := 14) rfl ?_); refine goesL_ (some 114) rfl rfl Try.func14 (by kernel_rfl) rfl #[.int .i64 t393] rfl (by (try simp only [List.map_toArray, List.map_cons, List.map_nil]); first | done | rfl | (simp only [List.length_drop, List.length_take]; rfl)) ?_; (with_reducible refine (mintagelaw05_num.calls t393 t394 _ A58.out).mono ?_); rintro e w' ⟨rfl, ⟨nd, rfl⟩⟩; refine ⟨_, rfl, ?_⟩))
                              go_ret
                              exact ⟨by first | rfl | (simp [errW_none, errW_some] <;> rfl) | (simp only [← hji4, ← hji6]; first | rfl | (simp [errW_none, errW_some] <;> rfl)) | (simp [*, errW_none, errW_some] <;> rfl), by repeat (first | (with_reducible first | exact HB.out | apply below_alloc | apply pw_below_drewN | apply below_drew1) | exact HB.out)⟩
                          · rw [if_neg c59] at H
                            have c59b0 : (t394 == 0) = false := beq_eq_false_iff_ne.mpr c59
                            have c59b1 : (t394 != 0) = true := bne_iff_ne.mpr c59
                            obtain rfl := Option.some.inj H
                            obtain ⟨Ao72, co72, eo72, _⟩ := Kd.Q_slice HO_8.out
                            subst eo72
                            go_wp2_with (first | ((with_reducible refine gate_builtin (b := .append) (xs := #[.tmp 106, .tmp 107]) rfl ?_); (try (refine gate_guard (by rfl) ?_; dsimp only)); at_builtin; refine Kd.R_append_rows (Kd.int .u8) (w0 := w) w.heap.size rfl (.tmp 106) (.tmp 107) 22 5 (.int .u8 0) 1 rfl Try.underlying22 info5 rfl (by decide) (by omega) u13 x13_3 x8_23 _ _ _ (fun k_ => some k_ ≠ (.slice Ao72 x8_23.length co72 : Value).ownBlock) (fun _ => False) rfl rfl ?aO ?aR (fun _ _ h => h) (fun _ h => h.elim) ?aF ?aB ?aS ?aL ?_; (case aR => repeat (first | exact (Kd.Q_reads' HO_8.out).2.2 | (with_reducible refine Kd.C_alloc ?_ _) | (with_reducible refine Kd.C_drewN ?_ _) | (with_reducible refine Kd.C_drew ?_))); (case aB => exact (by repeat (first | (with_reducible first | exact HB.out | apply below_alloc | apply pw_below_drewN | apply below_drew1) | exact HB.out))); (case aF => exact (fun k_ hk => Kd.fresh' (Kd.Q_lt (by (with_reducible repeat (first | apply Kd.Q_alloc | apply Kd.Q_drewN | apply Kd.Q_drew)); exact HO_8.out)) k_ hk)); (case aO => exact (by (with_reducible repeat (first | apply Kd.R_alloc | apply Kd.R_drewN | apply Kd.R_drew)); exact HO_13.out)); (case aS => exact (below_size (by repeat (first | (with_reducible first | exact HB.out | apply below_alloc | apply pw_below_drewN | apply below_drew1) | exact HB.out)))); (case aL => have := LMc56.out; omega); intro v389 w71 ho hb hg hat; rw [← Ny388.out] at ho; have n0_ := Aside0.mk (Kd.Q_after (ok := (fun _ => True)) (by (with_reducible repeat (first | apply Kd.Q_alloc | apply Kd.Q_drewN | apply Kd.Q_drew)); exact Kd.Q_mono HO_8.out (fun _ hk => ⟨trivial, hk⟩)) hg hat); have n1_ := Aside0.mk (hb); have n2_ := Aside0.mk (ho); clear HO_8; clear HB; clear HO_13; have HO_8 := n0_; have HB := n1_; have HO390 := n2_; clear n0_ n1_ n2_; clear ho hb hg hat; obtain ⟨Ao73, co73, eo73⟩ := Kd.R_slice HO390.out; subst eo73) | ((with_reducible refine gate_callee (f := 11) rfl ?_); refine goesL_ (some 109) rfl rfl Try.func11 (by kernel_rfl) rfl #[.int .i64 (wrap64 (1 + (Go.bits .and .i64 a0 7))), .slice Ao73 y388.length co73] rfl (by (try simp only [List.map_toArray, List.map_cons, List.map_nil]); first | done | rfl | (simp only [List.length_drop, List.length_take]; rfl)) ?_; (with_reducible refine (whole_Parse.calls k3 (wrap64 (1 + (Go.bits .and .i64 a0 7))) _ _ y388 t391 t392 t393 _ ?side1 ?side2 A57.out).mono ?_); (case side1 => repeat (first | exact (Kd.R_reads' HO390.out).2.2 | (with_reducible refine Kd.C_alloc ?_ _) | (with_reducible refine Kd.C_drewN ?_ _) | (with_reducible refine Kd.C_drew ?_))); (case side2 => exact (Kd.R_reads' HO390.out).2.1); rintro e w74 ⟨rfl, hb⟩; refine ⟨_, rfl, ?_⟩; have n0_ := Aside0.mk (Kd.Q_below (by (with_reducible repeat (first | apply Kd.Q_alloc | apply Kd.Q_drewN | apply Kd.Q_drew)); exact HO_8.out) hb); have n1_ := Aside0.mk (Kd.R_below (by (with_reducible repeat (first | apply Kd.R_alloc | apply Kd.R_drewN | apply Kd.R_drew)); exact HO390.out) hb); have n2_ := Aside0.mk (below_step (by repeat (first | (with_reducible first | exact HB.out | apply below_alloc | apply pw_below_drewN | apply below_drew1) | exact HB.out)) hb); clear HO_8; clear HO390; clear HB; have HO_8 := n0_; have HO390 := n1_; have HB := n2_; clear n0_ n1_ n2_; (try clear hb); (try clear hb2); (try clear hk); (try clear hi)) | ((with_reducible refine gate_callee (f := 14) rfl ?_); refine goesL_ (some 114) rfl rfl Try.func14 (by kernel_rfl) rfl #[.int .i64 t393] rfl (by (try simp only [List.map_toArray, List.map_cons, List.map_nil]); first | done | rfl | (simp only [List.length_drop, List.length_take]; rfl)) ?_; (with_reducible refine (mintagelaw05_num.calls t393 t394 _ A58.out).mono ?_); rintro e w' ⟨rfl, ⟨nd, rfl⟩⟩; refine ⟨_, rfl, ?_⟩))
                            go_ret
                            exact ⟨by first | rfl | (simp [errW_none, errW_some] <;> rfl) | (simp only [← hji4, ← hji6]; first | rfl | (simp [errW_none, errW_some] <;> rfl)) | (simp [*, errW_none, errW_some] <;> rfl), by repeat (first | (with_reducible first | exact HB.out | apply below_alloc | apply pw_below_drewN | apply below_drew1) | exact HB.out)⟩
                        · rw [if_neg c56] at H
                          exact absurd H (by simp)
            · rw [if_neg c23] at H
              exact absurd H (by simp)
    · replace c9 := Bool.eq_false_iff.mpr c9
      subst c9
      have H1 : ((mintagelaw05_num.f t356).bind fun t360 => (if t360 = 53 then (if (t355.length : Int) = 0 then ((mintagelaw05_wakes.f).bind fun t361 => (some t361)) else (some false)) else (some false))) = some r := by rw [if_neg (show ¬ (false = true) by decide)] at H; exact H
      clear H
      have H := H1
      clear H1
      replace H := Option.bind_eq_some_iff.mp H
      obtain ⟨t360, A750, H⟩ := H
      replace H : (if t360 = 53 then (if (t355.length : Int) = 0 then ((mintagelaw05_wakes.f).bind fun t361 => (some t361)) else (some false)) else (some false)) = some r := H
      have A75 := Aside0.mk A750
      clear A750
      by_cases c76 : t360 = 53
      · rw [if_pos c76] at H
        have c76b0 : (t360 == 53) = true := beq_iff_eq.mpr c76
        have c76b1 : (t360 != 53) = false := bne_eq_false_iff_eq.mpr c76
        clear c76
        by_cases c77 : (t355.length : Int) = 0
        · rw [if_pos c77] at H
          have c77b0 : ((t355.length : Int) == 0) = true := beq_iff_eq.mpr c77
          have c77b1 : ((t355.length : Int) != 0) = false := bne_eq_false_iff_eq.mpr c77
          clear c77
          replace H := Option.bind_eq_some_iff.mp H
          obtain ⟨t361, A780, H⟩ := H
          replace H : (some t361) = some r := H
          have A78 := Aside0.mk A780
          clear A780
          obtain rfl := Option.some.inj H
          go_enter Try.func5, Try.ntmps5
          go_wp2_with (first | ((with_reducible refine gate_callee (f := 17) rfl ?_); refine goesL_ (some 30) rfl rfl Try.func17 (by kernel_rfl) rfl #[.int .i64 (wrap64 (1 + (Go.bits .and .i64 a0 7))), .int .u64 ji6] rfl (by (try simp only [List.map_toArray, List.map_cons, List.map_nil]); first | done | (simp only [hji6]; rfl) | rfl | (simp only [List.length_drop, List.length_take]; rfl)) ?_; (with_reducible refine (whole_Print.calls k (wrap64 (1 + (Go.bits .and .i64 a0 7))) ji6 t355 t356 _ A7.out).mono ?_); rintro e w79 ⟨v357, rfl, ho0, hb⟩; refine ⟨_, rfl, ?_⟩; have n0_ := Aside0.mk (Kd.R_lower ho0 (below_size (by repeat (first | (with_reducible first | exact HB.out | apply below_alloc | apply pw_below_drewN | apply below_drew1) | exact HB.out)))); have n1_ := Aside0.mk (below_step (by repeat (first | (with_reducible first | exact HB.out | apply below_alloc | apply pw_below_drewN | apply below_drew1) | exact HB.out)) hb); clear HB; have HO358 := n0_; have HB := n1_; clear n0_ n1_; (try clear hb); (try clear hb2); (try clear hk); (try clear hi); (try clear ho0)) | ((with_reducible refine gate_callee (f := 18) rfl ?_); refine goesL_ (some 35) rfl rfl Try.func18 (by kernel_rfl) rfl #[.int .i64 (wrap64 (1 + (Go.bits .and .i64 a0 7))), .int .u64 ji6] rfl (by (try simp only [List.map_toArray, List.map_cons, List.map_nil]); first | done | (simp only [hji6]; rfl) | rfl | (simp only [List.length_drop, List.length_take]; rfl)) ?_; (with_reducible refine (whole_Fits.calls (wrap64 (1 + (Go.bits .and .i64 a0 7))) ji6 false _ A8.out).mono ?_); rintro e w80 ⟨rfl, hb⟩; refine ⟨_, rfl, ?_⟩; have n0_ := Aside0.mk (Kd.R_below (by (with_reducible repeat (first | apply Kd.R_alloc | apply Kd.R_drewN | apply Kd.R_drew)); exact HO358.out) hb); have n1_ := Aside0.mk (below_step (by repeat (first | (with_reducible first | exact HB.out | apply below_alloc | apply pw_below_drewN | apply below_drew1) | exact HB.out)) hb); clear HO358; clear HB; have HO358 := n0_; have HB := n1_; clear n0_ n1_; (try clear hb); (try clear hb2); (try clear hk); (try clear hi)) | ((with_reducible refine gate_callee (f := 14) rfl ?_); refine goesL_ (some 38) rfl rfl Try.func14 (by kernel_rfl) rfl #[.int .i64 t356] rfl (by (try simp only [List.map_toArray, List.map_cons, List.map_nil]); first | done | rfl | (simp only [List.length_drop, List.length_take]; rfl)) ?_; (with_reducible refine (mintagelaw05_num.calls t356 t360 _ A75.out).mono ?_); rintro e w' ⟨rfl, ⟨nd, rfl⟩⟩; refine ⟨_, rfl, ?_⟩; obtain ⟨Ao81, co81, eo81⟩ := Kd.R_slice HO358.out; subst eo81) | (go_at_call 16; (with_reducible refine (mintagelaw05_wakes.calls  t361 _ A78.out).mono ?_); rintro e w82 ⟨rfl, hb⟩; have n0_ := Aside0.mk (Kd.R_below (by (with_reducible repeat (first | apply Kd.R_alloc | apply Kd.R_drewN | apply Kd.R_drew)); exact HO358.out) hb); have n1_ := Aside0.mk (below_step (by repeat (first | (with_reducible first | exact HB.out | apply below_alloc | apply pw_below_drewN | apply below_drew1) | exact HB.out)) hb); clear HO358; clear HB; have HO358 := n0_; have HB := n1_; clear n0_ n1_; (try clear hb); (try clear hb2); (try clear hk); (try clear hi)))
          go_ret
          exact ⟨by first | rfl | (simp [errW_none, errW_some] <;> rfl) | (simp only [← hji4, ← hji6]; first | rfl | (simp [errW_none, errW_some] <;> rfl)) | (simp [*, errW_none, errW_some] <;> rfl), by repeat (first | (with_reducible first | exact HB.out | apply below_alloc | apply pw_below_drewN | apply below_drew1) | exact HB.out)⟩
        · rw [if_neg c77] at H
          have c77b0 : ((t355.length : Int) == 0) = false := beq_eq_false_iff_ne.mpr c77
          have c77b1 : ((t355.length : Int) != 0) = true := bne_iff_ne.mpr c77
          have c77b2 : ¬ (t355 = []) := fun h_ => c77 (by rw [h_]; rfl)
          obtain rfl := Option.some.inj H
          go_enter Try.func5, Try.ntmps5
          go_wp2_with (first | ((with_reducible refine gate_callee (f := 17) rfl ?_); refine goesL_ (some 30) rfl rfl Try.func17 (by kernel_rfl) rfl #[.int .i64 (wrap64 (1 + (Go.bits .and .i64 a0 7))), .int .u64 ji6] rfl (by (try simp only [List.map_toArray, List.map_cons, List.map_nil]); first | done | (simp only [hji6]; rfl) | rfl | (simp only [List.length_drop, List.length_take]; rfl)) ?_; (with_reducible refine (whole_Print.calls k (wrap64 (1 + (Go.bits .and .i64 a0 7))) ji6 t355 t356 _ A7.out).mono ?_); rintro e w83 ⟨v357, rfl, ho0, hb⟩; refine ⟨_, rfl, ?_⟩; have n0_ := Aside0.mk (Kd.R_lower ho0 (below_size (by repeat (first | (with_reducible first | exact HB.out | apply below_alloc | apply pw_below_drewN | apply below_drew1) | exact HB.out)))); have n1_ := Aside0.mk (below_step (by repeat (first | (with_reducible first | exact HB.out | apply below_alloc | apply pw_below_drewN | apply below_drew1) | exact HB.out)) hb); clear HB; have HO358 := n0_; have HB := n1_; clear n0_ n1_; (try clear hb); (try clear hb2); (try clear hk); (try clear hi); (try clear ho0)) | ((with_reducible refine gate_callee (f := 18) rfl ?_); refine goesL_ (some 35) rfl rfl Try.func18 (by kernel_rfl) rfl #[.int .i64 (wrap64 (1 + (Go.bits .and .i64 a0 7))), .int .u64 ji6] rfl (by (try simp only [List.map_toArray, List.map_cons, List.map_nil]); first | done | (simp only [hji6]; rfl) | rfl | (simp only [List.length_drop, List.length_take]; rfl)) ?_; (with_reducible refine (whole_Fits.calls (wrap64 (1 + (Go.bits .and .i64 a0 7))) ji6 false _ A8.out).mono ?_); rintro e w84 ⟨rfl, hb⟩; refine ⟨_, rfl, ?_⟩; have n0_ := Aside0.mk (Kd.R_below (by (with_reducible repeat (first | apply Kd.R_alloc | apply Kd.R_drewN | apply Kd.R_drew)); exact HO358.out) hb); have n1_ := Aside0.mk (below_step (by repeat (first | (with_reducible first | exact HB.out | apply below_alloc | apply pw_below_drewN | apply below_drew1) | exact HB.out)) hb); clear HO358; clear HB; have HO358 := n0_; have HB := n1_; clear n0_ n1_; (try clear hb); (try clear hb2); (try clear hk); (try clear hi)) | ((with_reducible refine gate_callee (f := 14) rfl ?_); refine goesL_ (some 38) rfl rfl Try.func14 (by kernel_rfl) rfl #[.int .i64 t356] rfl (by (try simp only [List.map_toArray, List.map_cons, List.map_nil]); first | done | rfl | (simp only [List.length_drop, List.length_take]; rfl)) ?_; (with_reducible refine (mintagelaw05_num.calls t356 t360 _ A75.out).mono ?_); rintro e w' ⟨rfl, ⟨nd, rfl⟩⟩; refine ⟨_, rfl, ?_⟩; obtain ⟨Ao85, co85, eo85⟩ := Kd.R_slice HO358.out; subst eo85))
          go_ret
          exact ⟨by first | rfl | (simp [errW_none, errW_some] <;> rfl) | (simp only [← hji4, ← hji6]; first | rfl | (simp [errW_none, errW_some] <;> rfl)) | (simp [*, errW_none, errW_some] <;> rfl), by repeat (first | (with_reducible first | exact HB.out | apply below_alloc | apply pw_below_drewN | apply below_drew1) | exact HB.out)⟩
      · rw [if_neg c76] at H
        have c76b0 : (t360 == 53) = false := beq_eq_false_iff_ne.mpr c76
        have c76b1 : (t360 != 53) = true := bne_iff_ne.mpr c76
        obtain rfl := Option.some.inj H
        go_enter Try.func5, Try.ntmps5
        go_wp2_with (first | ((with_reducible refine gate_callee (f := 17) rfl ?_); refine goesL_ (some 30) rfl rfl Try.func17 (by kernel_rfl) rfl #[.int .i64 (wrap64 (1 + (Go.bits .and .i64 a0 7))), .int .u64 ji6] rfl (by (try simp only [List.map_toArray, List.map_cons, List.map_nil]); first | done | (simp only [hji6]; rfl) | rfl | (simp only [List.length_drop, List.length_take]; rfl)) ?_; (with_reducible refine (whole_Print.calls k (wrap64 (1 + (Go.bits .and .i64 a0 7))) ji6 t355 t356 _ A7.out).mono ?_); rintro e w86 ⟨v357, rfl, ho0, hb⟩; refine ⟨_, rfl, ?_⟩; have n0_ := Aside0.mk (Kd.R_lower ho0 (below_size (by repeat (first | (with_reducible first | exact HB.out | apply below_alloc | apply pw_below_drewN | apply below_drew1) | exact HB.out)))); have n1_ := Aside0.mk (below_step (by repeat (first | (with_reducible first | exact HB.out | apply below_alloc | apply pw_below_drewN | apply below_drew1) | exact HB.out)) hb); clear HB; have HO358 := n0_; have HB := n1_; clear n0_ n1_; (try clear hb); (try clear hb2); (try clear hk); (try clear hi); (try clear ho0)) | ((with_reducible refine gate_callee (f := 18) rfl ?_); refine goesL_ (some 35) rfl rfl Try.func18 (by kernel_rfl) rfl #[.int .i64 (wrap64 (1 + (Go.bits .and .i64 a0 7))), .int .u64 ji6] rfl (by (try simp only [List.map_toArray, List.map_cons, List.map_nil]); first | done | (simp only [hji6]; rfl) | rfl | (simp only [List.length_drop, List.length_take]; rfl)) ?_; (with_reducible refine (whole_Fits.calls (wrap64 (1 + (Go.bits .and .i64 a0 7))) ji6 false _ A8.out).mono ?_); rintro e w87 ⟨rfl, hb⟩; refine ⟨_, rfl, ?_⟩; have n0_ := Aside0.mk (Kd.R_below (by (with_reducible repeat (first | apply Kd.R_alloc | apply Kd.R_drewN | apply Kd.R_drew)); exact HO358.out) hb); have n1_ := Aside0.mk (below_step (by repeat (first | (with_reducible first | exact HB.out | apply below_alloc | apply pw_below_drewN | apply below_drew1) | exact HB.out)) hb); clear HO358; clear HB; have HO358 := n0_; have HB := n1_; clear n0_ n1_; (try clear hb); (try clear hb2); (try clear hk); (try clear hi)) | ((with_reducible refine gate_callee (f := 14) rfl ?_); refine goesL_ (some 38) rfl rfl Try.func14 (by kernel_rfl) rfl #[.int .i64 t356] rfl (by (try simp only [List.map_toArray, List.map_cons, List.map_nil]); first | done | rfl | (simp only [List.length_drop, List.length_take]; rfl)) ?_; (with_reducible refine (mintagelaw05_num.calls t356 t360 _ A75.out).mono ?_); rintro e w' ⟨rfl, ⟨nd, rfl⟩⟩; refine ⟨_, rfl, ?_⟩))
        go_ret
        exact ⟨by first | rfl | (simp [errW_none, errW_some] <;> rfl) | (simp only [← hji4, ← hji6]; first | rfl | (simp [errW_none, errW_some] <;> rfl)) | (simp [*, errW_none, errW_some] <;> rfl), by repeat (first | (with_reducible first | exact HB.out | apply below_alloc | apply pw_below_drewN | apply below_drew1) | exact HB.out)⟩
  · rw [if_neg c5] at H
    exact absurd H (by simp)

/-- THE ONE PURE STATEMENT of mintagelaw05_WholeBack: yours. -/
def mintagelaw05_WholeBack.Pure : Prop := ∀ (a0 : Int) (a1 : Int) (a2 : Int), (Lit.int .i64 a0).wf = true → (Lit.int .u64 a1).wf = true → (Lit.int .i64 a2).wf = true → ∃ k, mintagelaw05_WholeBack.f k a0 a1 a2 = some true
theorem mintagelaw05_WholeBack.walk (P : mintagelaw05_WholeBack.Pure) (a0 : Int) (a1 : Int) (a2 : Int) (w : World) (w0 : (Lit.int .i64 a0).wf = true) (w1 : (Lit.int .u64 a1).wf = true) (w2 : (Lit.int .i64 a2).wf = true) :
    Calls Try.prog 5 #[.int .i64 a0, .int .u64 a1, .int .i64 a2] w fun e w' => e = .returned (.bool true) ∧ Below w.heap.size w w' := by
  obtain ⟨k, h⟩ := P a0 a1 a2 w0 w1 w2
  refine (mintagelaw05_WholeBack.calls k a0 a1 a2 true w h).mono ?_
  rintro e w' ⟨rfl, hd⟩
  exact ⟨rfl, hd⟩

end Go.Proofs.Ytlcglnnmcgpnpaa.Q
