-- Printed functions, merged (wip/tools/pack.py).
import Derived.Test.YtjefmcfkhalagaaQ0ZScaledBack
import Derived.Test.YtjefmcfkhalagaaSciZScaledBack
namespace Go.Proofs.Ytjefmcfkhalagaa.Q
open Go.RowKit Go.Proofs.YtjefmcfkhalagaaW.PrintWords Go.Proofs.YtjefmcfkhalagaaW.PrintLast Go.Proofs.YtjefmcfkhalagaaW.PrintMore
attribute [local go_sem] max2_int min2_int max_two min_two max_three min_three max_four min_four   -- for this text's walks alone
set_option linter.unusedVariables false
set_option linter.unusedSimpArgs false

/-! ### scaled_Parse: function 12 -/
section
def scaled_Parse.f (k : Nat) (a0 : Int) (l1 : List Int) : Option (Int × Int × Int) := Go.Proofs.Ytjefmcfkhalagaa.Scr.parseF k l1 a0
theorem scaled_Parse.mono : ∀ a0 l1 k, LeO (scaled_Parse.f k a0 l1) (scaled_Parse.f (k + 1) a0 l1) := by
  intro a0 l1 k
  unfold scaled_Parse.f Go.Proofs.Ytjefmcfkhalagaa.Scr.parseF
  refine LeO.ite (LeO.refl _) (LeO.ite (LeO.refl _) ?_)
  have h : LeO (Go.Proofs.Ytjefmcfkhalagaa.Scr.readF k l1 a0.toNat) (Go.Proofs.Ytjefmcfkhalagaa.Scr.readF (k + 1) l1 a0.toNat) := by
    unfold Go.Proofs.Ytjefmcfkhalagaa.Scr.readF
    refine LeO.ite (LeO.refl _) ?_
    split
    · exact LeO.refl _
    · exact LeO.bind (digit_Value.mono _ _) (fun _ => LeO.refl _)
  intro r hr
  obtain ⟨o, ho, e⟩ := Option.map_eq_some_iff.1 hr
  rw [h o ho]; exact congrArg some e
theorem scaled_Parse.calls (k : Nat) (a0 : Int) (A1 : Option Addr) (c1 : Nat) (l1 : List Int) (r1 r2 r3 : Int) (w : World) (hC1 : Kd.C (Kd.int .u8) w A1 l1.length l1) (hc1 : l1.length ≤ c1) (h : scaled_Parse.f k a0 l1 = some (r1, r2, r3)) :
    Calls Try.prog 12 #[.int .i64 a0, .slice A1 l1.length c1] w fun e w' => e = .returned (.tuple #[.int .u64 r1, .int .i64 r2, .int .i64 r3]) ∧ Below w.heap.size w w' :=
  Go.Proofs.Ytjefmcfkhalagaa.Scr.Parse_calls w A1 c1 l1 a0 hC1 hc1 k r1 r2 r3 h

end

end Go.Proofs.Ytjefmcfkhalagaa.Q

namespace Go.Proofs.Ytjefmcfkhalagaa.Q
open Go.RowKit Go.Proofs.YtjefmcfkhalagaaW.PrintWords Go.Proofs.YtjefmcfkhalagaaW.PrintLast Go.Proofs.YtjefmcfkhalagaaW.PrintMore
attribute [local go_sem] max2_int min2_int max_two min_two max_three min_three max_four min_four   -- for this text's walks alone
set_option linter.unusedVariables false
set_option linter.unusedSimpArgs false

/-! ### mintagelaw12_wakes: function 16 -/
section
def mintagelaw12_wakes.f : Option Bool := some true
theorem mintagelaw12_wakes.const_reads (W : World) (xs : List Int) (e : TypeId) (fr : Nat × Nat) (h : xs.length ≤ 1000) : ReadsInt (W.alloc (.cells (nums .u8 xs).toArray e fr)) .u8 (some ⟨W.heap.size, 0, none⟩) xs.length xs := by
  refine ⟨rfl, by omega, fun _ => ⟨_, rfl, fun j hj => ?_⟩⟩
  rw [add_plain, cell_of_row _ _ _ _ _ fr (heap_alloc_new W _)]
  simp [nums, hj, List.getD_eq_getElem?_getD]
theorem mintagelaw12_wakes.p1 (A : Addr) (W : World) (h : ReadsInt W .u8 (some A) 4 [45, 49, 46, 53]) :
    Calls Try.prog 12 #[.int .i64 2, .slice (some A) 4 4] W fun e w' => e = .returned (.tuple #[.int .u64 18446744073709551466, .int .i64 0, .int .i64 0]) ∧ Below W.heap.size W w' :=
  scaled_Parse.calls 40 2 (some A) 4 [45, 49, 46, 53] 18446744073709551466 0 0 W (Kd.C_of_reads (d := (0 : Int)) (h1 := fun _ => rfl) h) (Nat.le_refl _) (by decide +kernel)
def mintagelaw12_wakes.tx : List Int := [48, 46, 48, 48, 53]
theorem mintagelaw12_wakes.p2 (W : World) : Calls Try.prog 19 #[.int .i64 3, .int .u64 5] W fun e w' => ∃ v0_ : Value, e = .returned (.tuple #[v0_, .int .i64 0]) ∧ Kd.R (Kd.int .u8) 5 w' W.heap.size (fun _ => True) v0_ mintagelaw12_wakes.tx ∧ Below W.heap.size W w' :=
  scaled_Print.calls 60 3 5 mintagelaw12_wakes.tx 0 W (by decide +kernel)
set_option maxHeartbeats 1000000 in
theorem mintagelaw12_wakes.calls (r : Bool) (w : World) (h : mintagelaw12_wakes.f = some r) : Calls Try.prog 16 #[] w fun e w' => e = .returned (.bool r) ∧ Below w.heap.size w w' := by
  obtain rfl : true = r := by simpa [mintagelaw12_wakes.f] using h
  clear h
  have kc := fun (w : World) (C : Array Value) (n c : Nat) => Lib.run_convert_bytes_const (P := Try.prog) w 22 5 C n c Try.underlying22 Try.underlying5
  go_enter Try.func16, Try.ntmps16
  go_wp2_with (first | (go_at_call 12; with_reducible refine (mintagelaw12_wakes.p1 _ _ (mintagelaw12_wakes.const_reads w [45, 49, 46, 53] 5 (4, 5) (by simp))).mono ?_; rintro e w1 ⟨rfl, hb⟩; have hB := Aside0.mk hb; clear hb) | (go_at_call 19; refine (mintagelaw12_wakes.p2 _).mono ?_; rintro e w2 ⟨v, rfl, ho, hb2⟩; have hB2 := Aside0.mk hb2; clear hb2; have hs := fun n => own_string (P := Try.prog) Try.underlying22 Try.underlying5 Try.underlying9 (Kd.own_of_R (Kd.R_drewN ho n))) | (go_at_call 14; refine (mintagelaw12_num.calls _ _ _ rfl).mono ?_; rintro e w3 ⟨rfl, ⟨nd, rfl⟩⟩))
  have hf : ((strOfNums mintagelaw12_wakes.tx).toList == [48, 46, 48, 48, 53]) = true := by decide +kernel
  rw [hf]
  go_ret
  exact ⟨rfl, by repeat (first | exact Below.refl _ _ | apply pw_below_drewN | refine below_step ?_ hB2.out | refine below_step ?_ hB.out | apply below_alloc)⟩

end

end Go.Proofs.Ytjefmcfkhalagaa.Q

namespace Go.Proofs.Ytjefmcfkhalagaa.Q
open Go.RowKit Go.Proofs.YtjefmcfkhalagaaW.PrintWords Go.Proofs.YtjefmcfkhalagaaW.PrintLast Go.Proofs.YtjefmcfkhalagaaW.PrintMore
attribute [local go_sem] max2_int min2_int max_two min_two max_three min_three max_four min_four   -- for this text's walks alone
set_option linter.unusedVariables false
set_option linter.unusedSimpArgs false

/-! ### mintagelaw12_ScaledBack: function 4 -/
mutual
def mintagelaw12_ScaledBack.j0 : Nat → Int → Int → Int → List Int → Bool → Option (Bool)
  | 0, _, _, _, _, _ => none
  | k + 1, x2, x7, x8, x9, x52 => if x52 = true then (some false) else ((some (([] : List Int) : List Int)).bind fun y271 => (if y271.length + x9.length < 140737488355328 then ((some (y271 ++ x9 : List Int)).bind fun y274 => (if x7 = 0 then (if y274.length < 140737488355328 then (mintagelaw12_ScaledBack.j1 k x2 x7 x8 (y274 ++ [46])) else (none)) else (mintagelaw12_ScaledBack.j1 k x2 x7 x8 y274))) else (none)))
def mintagelaw12_ScaledBack.j1 : Nat → Int → Int → Int → List Int → Option (Bool)
  | 0, _, _, _, _ => none
  | k + 1, x2, x7, x8, x14 => mintagelaw12_ScaledBack.l0 k x2 x7 x8 x14 0
def mintagelaw12_ScaledBack.l0 : Nat → Int → Int → Int → List Int → Int → Option (Bool)
  | 0, _, _, _, _, _ => none
  | k + 1, x2, x7, x8, x14, x15 => if x15 < x2 then (if x15 < 100 then (if x14.length < 140737488355328 then (mintagelaw12_ScaledBack.l0 k x2 x7 x8 (x14 ++ [48]) (wrap64 (x15 + 1))) else (none)) else ((scaled_Parse.f k x7 x14).bind fun bt283 => ((mintagelaw12_num.f bt283.2.2).bind fun t286 => (if t286 = 0 then (if bt283.1 = x8 then ((mintagelaw12_wakes.f).bind fun t287 => (some t287)) else (some false)) else (some false))))) else ((scaled_Parse.f k x7 x14).bind fun bt288 => ((mintagelaw12_num.f bt288.2.2).bind fun t291 => (if t291 = 0 then (if bt288.1 = x8 then ((mintagelaw12_wakes.f).bind fun t292 => (some t292)) else (some false)) else (some false))))
end
def mintagelaw12_ScaledBack.f (k : Nat) (a0 : Int) (a1 : Int) (a2 : Int) : Option (Bool) := (mintagekeep_Within.f a0 0 18).bind fun t260 => ((mintagelaw12_value.f a1).bind fun t261 => ((scaled_Print.f k t260 t261).bind fun bt262 => ((scaled_Parse.f k t260 bt262.1).bind fun bt266 => ((mintagelaw12_num.f bt262.2).bind fun t269 => (if t269 = 0 then ((mintagelaw12_num.f bt266.2.2).bind fun t270 => (if t270 = 0 then (if bt266.1 = t261 then (mintagelaw12_ScaledBack.j0 k a2 t260 t261 bt262.1 (bt266.2.1 != 0)) else (mintagelaw12_ScaledBack.j0 k a2 t260 t261 bt262.1 true)) else (mintagelaw12_ScaledBack.j0 k a2 t260 t261 bt262.1 true))) else (mintagelaw12_ScaledBack.j0 k a2 t260 t261 bt262.1 true))))))
theorem mintagelaw12_ScaledBack.mono_l : ∀ k, (∀ y0 y1 y2 y3 y4, LeO (mintagelaw12_ScaledBack.j0 k y0 y1 y2 y3 y4) (mintagelaw12_ScaledBack.j0 (k + 1) y0 y1 y2 y3 y4)) ∧ (∀ y0 y1 y2 y3, LeO (mintagelaw12_ScaledBack.j1 k y0 y1 y2 y3) (mintagelaw12_ScaledBack.j1 (k + 1) y0 y1 y2 y3)) ∧ (∀ y0 y1 y2 y3 y4, LeO (mintagelaw12_ScaledBack.l0 k y0 y1 y2 y3 y4) (mintagelaw12_ScaledBack.l0 (k + 1) y0 y1 y2 y3 y4))
  | 0 => ⟨fun _ _ _ _ _ r h => by simp [mintagelaw12_ScaledBack.j0] at h, fun _ _ _ _ r h => by simp [mintagelaw12_ScaledBack.j1] at h, fun _ _ _ _ _ r h => by simp [mintagelaw12_ScaledBack.l0] at h⟩
  | k + 1 => by
    obtain ⟨ih0, ih1, ih2⟩ := mintagelaw12_ScaledBack.mono_l k
    refine ⟨?_, ?_, ?_⟩
    · intro y0 y1 y2 y3 y4
      unfold mintagelaw12_ScaledBack.j0
      repeat' first
      | (with_reducible exact ih0 _ _ _ _ _)
      | (with_reducible exact ih1 _ _ _ _)
      | (with_reducible exact ih2 _ _ _ _ _)
      | (with_reducible exact scaled_Parse.mono _ _ _)
      | (with_reducible exact scaled_Print.mono _ _ _)
      | (with_reducible exact LeO.refl _)
      | (with_reducible exact LeO.none _)
      | (with_reducible refine LeO.ite ?_ ?_)
      | (with_reducible refine LeO.bind ?_ (fun _ => ?_))
      | exact ih0 _ _ _ _ _
      | exact ih1 _ _ _ _
      | exact ih2 _ _ _ _ _
      | exact scaled_Parse.mono _ _ _
      | exact scaled_Print.mono _ _ _
      | exact LeO.none _
      | refine LeO.ite ?_ ?_
      | refine LeO.bind ?_ (fun _ => ?_)
    · intro y0 y1 y2 y3
      unfold mintagelaw12_ScaledBack.j1
      repeat' first
      | (with_reducible exact ih0 _ _ _ _ _)
      | (with_reducible exact ih1 _ _ _ _)
      | (with_reducible exact ih2 _ _ _ _ _)
      | (with_reducible exact scaled_Parse.mono _ _ _)
      | (with_reducible exact scaled_Print.mono _ _ _)
      | (with_reducible exact LeO.refl _)
      | (with_reducible exact LeO.none _)
      | (with_reducible refine LeO.ite ?_ ?_)
      | (with_reducible refine LeO.bind ?_ (fun _ => ?_))
      | exact ih0 _ _ _ _ _
      | exact ih1 _ _ _ _
      | exact ih2 _ _ _ _ _
      | exact scaled_Parse.mono _ _ _
      | exact scaled_Print.mono _ _ _
      | exact LeO.none _
      | refine LeO.ite ?_ ?_
      | refine LeO.bind ?_ (fun _ => ?_)
    · intro y0 y1 y2 y3 y4
      unfold mintagelaw12_ScaledBack.l0
      repeat' first
      | (with_reducible exact ih0 _ _ _ _ _)
      | (with_reducible exact ih1 _ _ _ _)
      | (with_reducible exact ih2 _ _ _ _ _)
      | (with_reducible exact scaled_Parse.mono _ _ _)
      | (with_reducible exact scaled_Print.mono _ _ _)
      | (with_reducible exact LeO.refl _)
      | (with_reducible exact LeO.none _)
      | (with_reducible refine LeO.ite ?_ ?_)
      | (with_reducible refine LeO.bind ?_ (fun _ => ?_))
      | exact ih0 _ _ _ _ _
      | exact ih1 _ _ _ _
      | exact ih2 _ _ _ _ _
      | exact scaled_Parse.mono _ _ _
      | exact scaled_Print.mono _ _ _
      | exact LeO.none _
      | refine LeO.ite ?_ ?_
      | refine LeO.bind ?_ (fun _ => ?_)
theorem mintagelaw12_ScaledBack.mono : ∀ a0 a1 a2 k, LeO (mintagelaw12_ScaledBack.f k a0 a1 a2) (mintagelaw12_ScaledBack.f (k + 1) a0 a1 a2) := by
  intro a0 a1 a2 k
  obtain ⟨ih0, ih1, ih2⟩ := mintagelaw12_ScaledBack.mono_l k
  unfold mintagelaw12_ScaledBack.f
  repeat' first
      | (with_reducible exact ih0 _ _ _ _ _)
      | (with_reducible exact ih1 _ _ _ _)
      | (with_reducible exact ih2 _ _ _ _ _)
      | (with_reducible exact scaled_Parse.mono _ _ _)
      | (with_reducible exact scaled_Print.mono _ _ _)
      | (with_reducible exact LeO.refl _)
      | (with_reducible exact LeO.none _)
      | (with_reducible refine LeO.ite ?_ ?_)
      | (with_reducible refine LeO.bind ?_ (fun _ => ?_))
      | exact ih0 _ _ _ _ _
      | exact ih1 _ _ _ _
      | exact ih2 _ _ _ _ _
      | exact scaled_Parse.mono _ _ _
      | exact scaled_Print.mono _ _ _
      | exact LeO.none _
      | refine LeO.ite ?_ ?_
      | refine LeO.bind ?_ (fun _ => ?_)
set_option maxHeartbeats 8000000 in
set_option maxRecDepth 100000 in
theorem mintagelaw12_ScaledBack.calls (k : Nat) (a0 : Int) (a1 : Int) (a2 : Int) (r : Bool) (w : World) (h : mintagelaw12_ScaledBack.f k a0 a1 a2 = some r) (hT : r = true) :
    Calls Try.prog 4 #[.int .i64 a0, .int .u64 a1, .int .i64 a2] w fun e w' => e = .returned (.bool r) ∧ Below w.heap.size w w' := by
  have HT := Aside0.mk hT
  clear hT
  have HB := Aside0.mk (Below.refl w.heap.size w)
  have H : ((mintagekeep_Within.f a0 0 18).bind fun t260 => ((mintagelaw12_value.f a1).bind fun t261 => ((scaled_Print.f k t260 t261).bind fun bt262 => ((scaled_Parse.f k t260 bt262.1).bind fun bt266 => ((mintagelaw12_num.f bt262.2).bind fun t269 => (if t269 = 0 then ((mintagelaw12_num.f bt266.2.2).bind fun t270 => (if t270 = 0 then (if bt266.1 = t261 then (mintagelaw12_ScaledBack.j0 k a2 t260 t261 bt262.1 (bt266.2.1 != 0)) else (mintagelaw12_ScaledBack.j0 k a2 t260 t261 bt262.1 true)) else (mintagelaw12_ScaledBack.j0 k a2 t260 t261 bt262.1 true))) else (mintagelaw12_ScaledBack.j0 k a2 t260 t261 bt262.1 true))))))) = some r := h
  clear h
  replace H := Option.bind_eq_some_iff.mp H
  obtain ⟨t260, A40, H⟩ := H
  replace H : ((mintagelaw12_value.f a1).bind fun t261 => ((scaled_Print.f k t260 t261).bind fun bt262 => ((scaled_Parse.f k t260 bt262.1).bind fun bt266 => ((mintagelaw12_num.f bt262.2).bind fun t269 => (if t269 = 0 then ((mintagelaw12_num.f bt266.2.2).bind fun t270 => (if t270 = 0 then (if bt266.1 = t261 then (mintagelaw12_ScaledBack.j0 k a2 t260 t261 bt262.1 (bt266.2.1 != 0)) else (mintagelaw12_ScaledBack.j0 k a2 t260 t261 bt262.1 true)) else (mintagelaw12_ScaledBack.j0 k a2 t260 t261 bt262.1 true))) else (mintagelaw12_ScaledBack.j0 k a2 t260 t261 bt262.1 true)))))) = some r := H
  have A4 := Aside0.mk A40
  clear A40
  replace H := Option.bind_eq_some_iff.mp H
  obtain ⟨t261, A50, H⟩ := H
  replace H : ((scaled_Print.f k t260 t261).bind fun bt262 => ((scaled_Parse.f k t260 bt262.1).bind fun bt266 => ((mintagelaw12_num.f bt262.2).bind fun t269 => (if t269 = 0 then ((mintagelaw12_num.f bt266.2.2).bind fun t270 => (if t270 = 0 then (if bt266.1 = t261 then (mintagelaw12_ScaledBack.j0 k a2 t260 t261 bt262.1 (bt266.2.1 != 0)) else (mintagelaw12_ScaledBack.j0 k a2 t260 t261 bt262.1 true)) else (mintagelaw12_ScaledBack.j0 k a2 t260 t261 bt262.1 true))) else (mintagelaw12_ScaledBack.j0 k a2 t260 t261 bt262.1 true))))) = some r := H
  have A5 := Aside0.mk A50
  clear A50
  replace H := Option.bind_eq_some_iff.mp H
  obtain ⟨⟨t262, t263⟩, A60, H⟩ := H
  replace H : ((scaled_Parse.f k t260 t262).bind fun bt266 => ((mintagelaw12_num.f t263).bind fun t269 => (if t269 = 0 then ((mintagelaw12_num.f bt266.2.2).bind fun t270 => (if t270 = 0 then (if bt266.1 = t261 then (mintagelaw12_ScaledBack.j0 k a2 t260 t261 t262 (bt266.2.1 != 0)) else (mintagelaw12_ScaledBack.j0 k a2 t260 t261 t262 true)) else (mintagelaw12_ScaledBack.j0 k a2 t260 t261 t262 true))) else (mintagelaw12_ScaledBack.j0 k a2 t260 t261 t262 true)))) = some r := H
  have A6 := Aside0.mk A60
  clear A60
  replace H := Option.bind_eq_some_iff.mp H
  obtain ⟨⟨t266, t267, t268⟩, A70, H⟩ := H
  replace H : ((mintagelaw12_num.f t263).bind fun t269 => (if t269 = 0 then ((mintagelaw12_num.f t268).bind fun t270 => (if t270 = 0 then (if t266 = t261 then (mintagelaw12_ScaledBack.j0 k a2 t260 t261 t262 (t267 != 0)) else (mintagelaw12_ScaledBack.j0 k a2 t260 t261 t262 true)) else (mintagelaw12_ScaledBack.j0 k a2 t260 t261 t262 true))) else (mintagelaw12_ScaledBack.j0 k a2 t260 t261 t262 true))) = some r := H
  have A7 := Aside0.mk A70
  clear A70
  have HC8 := Aside0.mk H
  clear H
  go_enter Try.func4, Try.ntmps4
  go_upto_region 5 with (first | ((with_reducible refine gate_callee (f := 17) rfl ?_); refine goesL_ (some 20) rfl rfl Try.func17 (by kernel_rfl) rfl #[.int .i64 a0, .int .i64 0, .int .i64 18] rfl (by (try simp only [List.map_toArray, List.map_cons, List.map_nil]); first | done | rfl | (simp only [List.length_drop, List.length_take]; rfl)) ?_; (with_reducible refine (mintagekeep_Within.calls a0 0 18 t260 _ A4.out).mono ?_); rintro e w' ⟨rfl, ⟨nd, rfl⟩⟩; refine ⟨_, rfl, ?_⟩) | ((with_reducible refine gate_callee (f := 18) rfl ?_); refine goesL_ (some 22) rfl rfl Try.func18 (by kernel_rfl) rfl #[.int .u64 a1] rfl (by (try simp only [List.map_toArray, List.map_cons, List.map_nil]); first | done | rfl | (simp only [List.length_drop, List.length_take]; rfl)) ?_; (with_reducible refine (mintagelaw12_value.calls a1 t261 _ A5.out).mono ?_); rintro e w' ⟨rfl, ⟨nd, rfl⟩⟩; refine ⟨_, rfl, ?_⟩) | ((with_reducible refine gate_callee (f := 19) rfl ?_); refine goesL_ (some 26) rfl rfl Try.func19 (by kernel_rfl) rfl #[.int .i64 t260, .int .u64 t261] rfl (by (try simp only [List.map_toArray, List.map_cons, List.map_nil]); first | done | rfl | (simp only [List.length_drop, List.length_take]; rfl)) ?_; (with_reducible refine (scaled_Print.calls k t260 t261 t262 t263 _ A6.out).mono ?_); rintro e w9 ⟨v264, rfl, ho0, hb⟩; refine ⟨_, rfl, ?_⟩; have n0_ := Aside0.mk (Kd.R_lower ho0 (below_size (by repeat (first | (with_reducible first | exact HB.out | apply below_alloc | apply pw_below_drewN | apply below_drew1) | exact HB.out)))); have n1_ := Aside0.mk (below_step (by repeat (first | (with_reducible first | exact HB.out | apply below_alloc | apply pw_below_drewN | apply below_drew1) | exact HB.out)) hb); clear HB; have HO265 := n0_; have HB := n1_; clear n0_ n1_; (try clear hb); (try clear hb2); (try clear hk); (try clear hi); (try clear ho0); obtain ⟨Ao10, co10, eo10⟩ := Kd.R_slice HO265.out; subst eo10) | ((with_reducible refine gate_callee (f := 12) rfl ?_); refine goesL_ (some 32) rfl rfl Try.func12 (by kernel_rfl) rfl #[.int .i64 t260, .slice Ao10 t262.length co10] rfl (by (try simp only [List.map_toArray, List.map_cons, List.map_nil]); first | done | rfl | (simp only [List.length_drop, List.length_take]; rfl)) ?_; (with_reducible refine (scaled_Parse.calls k t260 _ _ t262 t266 t267 t268 _ ?side1 ?side2 A7.out).mono ?_); (case side1 => repeat (first | exact (Kd.R_reads' HO265.out).2.2 | (with_reducible refine Kd.C_alloc ?_ _) | (with_reducible refine Kd.C_drewN ?_ _) | (with_reducible refine Kd.C_drew ?_))); (case side2 => exact (Kd.R_reads' HO265.out).2.1); rintro e w11 ⟨rfl, hb⟩; refine ⟨_, rfl, ?_⟩; have n0_ := Aside0.mk (Kd.R_below (by (with_reducible repeat (first | apply Kd.R_alloc | apply Kd.R_drewN | apply Kd.R_drew)); exact HO265.out) hb); have n1_ := Aside0.mk (below_step (by repeat (first | (with_reducible first | exact HB.out | apply below_alloc | apply pw_below_drewN | apply below_drew1) | exact HB.out)) hb); clear HO265; clear HB; have HO265 := n0_; have HB := n1_; clear n0_ n1_; (try clear hb); (try clear hb2); (try clear hk); (try clear hi)))
  (try simp only [Act.put, List.setIfInBounds_toArray, List.set_cons_zero, List.set_cons_succ])
  go_cut [52] (fun v52 wc => ∃ (kq : Nat) (x52_7 : Bool), v52 = .bool x52_7 ∧ Aside0 (mintagelaw12_ScaledBack.j0 kq a2 t260 t261 t262 x52_7 = some r) ∧ Aside0 (kq ≤ k) ∧ Aside0 (Kd.R (Kd.int .u8) 5 wc w.heap.size (fun _ => True) (.slice Ao10 t262.length co10) t262) ∧ Aside0 (Below w.heap.size w wc))
  case first =>
    have H := HC8.out
    clear HC8
    replace H := Option.bind_eq_some_iff.mp H
    obtain ⟨t269, A120, H⟩ := H
    replace H : (if t269 = 0 then ((mintagelaw12_num.f t268).bind fun t270 => (if t270 = 0 then (if t266 = t261 then (mintagelaw12_ScaledBack.j0 k a2 t260 t261 t262 (t267 != 0)) else (mintagelaw12_ScaledBack.j0 k a2 t260 t261 t262 true)) else (mintagelaw12_ScaledBack.j0 k a2 t260 t261 t262 true))) else (mintagelaw12_ScaledBack.j0 k a2 t260 t261 t262 true)) = some r := H
    have A12 := Aside0.mk A120
    clear A120
    by_cases c13 : t269 = 0
    · rw [if_pos c13] at H
      have c13b0 : (t269 == 0) = true := beq_iff_eq.mpr c13
      have c13b1 : (t269 != 0) = false := bne_eq_false_iff_eq.mpr c13
      clear c13
      (first | rw [c13b0] | (simp only [i64_w, i32_w]; rw [c13b0]) | skip)
      replace H := Option.bind_eq_some_iff.mp H
      obtain ⟨t270, A140, H⟩ := H
      replace H : (if t270 = 0 then (if t266 = t261 then (mintagelaw12_ScaledBack.j0 k a2 t260 t261 t262 (t267 != 0)) else (mintagelaw12_ScaledBack.j0 k a2 t260 t261 t262 true)) else (mintagelaw12_ScaledBack.j0 k a2 t260 t261 t262 true)) = some r := H
      have A14 := Aside0.mk A140
      clear A140
      by_cases c15 : t270 = 0
      · rw [if_pos c15] at H
        have c15b0 : (t270 == 0) = true := beq_iff_eq.mpr c15
        have c15b1 : (t270 != 0) = false := bne_eq_false_iff_eq.mpr c15
        clear c15
        by_cases c16 : t266 = t261
        · rw [if_pos c16] at H
          have c16b0 : (t266 == t261) = true := beq_iff_eq.mpr c16
          have c16b1 : (t266 != t261) = false := bne_eq_false_iff_eq.mpr c16
          clear c16
          have H' := Aside0.mk H
          clear H
          go_wp2_with (first | ((with_reducible refine gate_callee (f := 14) rfl ?_); refine goesL_ (some 37) rfl rfl Try.func14 (by kernel_rfl) rfl #[.int .i64 t263] rfl (by (try simp only [List.map_toArray, List.map_cons, List.map_nil]); first | done | rfl | (simp only [List.length_drop, List.length_take]; rfl)) ?_; (with_reducible refine (mintagelaw12_num.calls t263 t269 _ A12.out).mono ?_); rintro e w' ⟨rfl, ⟨nd, rfl⟩⟩; refine ⟨_, rfl, ?_⟩) | (go_at_call 14; (with_reducible refine (mintagelaw12_num.calls t268 t270 _ A14.out).mono ?_); rintro e w' ⟨rfl, ⟨nd, rfl⟩⟩))
          go_meet
          case rel => exact ⟨_, ((t267 != 0)), (by first | rfl | (simp; done) | (simp [*]; done)), H', ⟨by first | omega | exact Nat.le_refl _⟩, ⟨by (with_reducible repeat (first | apply Kd.R_alloc | apply Kd.R_drewN | apply Kd.R_drew)); exact HO265.out⟩, ⟨by repeat (first | (with_reducible first | exact HB.out | apply below_alloc | apply pw_below_drewN | apply below_drew1) | exact HB.out)⟩⟩
        · rw [if_neg c16] at H
          have c16b0 : (t266 == t261) = false := beq_eq_false_iff_ne.mpr c16
          have c16b1 : (t266 != t261) = true := bne_iff_ne.mpr c16
          exact absurd H (by rw [HT.out]; cases k <;> simp [mintagelaw12_ScaledBack.j0])
      · rw [if_neg c15] at H
        have c15b0 : (t270 == 0) = false := beq_eq_false_iff_ne.mpr c15
        have c15b1 : (t270 != 0) = true := bne_iff_ne.mpr c15
        exact absurd H (by rw [HT.out]; cases k <;> simp [mintagelaw12_ScaledBack.j0])
    · rw [if_neg c13] at H
      have c13b0 : (t269 == 0) = false := beq_eq_false_iff_ne.mpr c13
      have c13b1 : (t269 != 0) = true := bne_iff_ne.mpr c13
      (first | rw [c13b0] | (simp only [i64_w, i32_w]; rw [c13b0]) | skip)
      exact absurd H (by rw [HT.out]; cases k <;> simp [mintagelaw12_ScaledBack.j0])
  case rest =>
    clear HC8
    try clear c1
    try clear p2
    try clear c4
    try clear c12
    try clear c13
    try clear c13b0
    try clear c13b1
    try clear c14
    try clear c15
    try clear c15b0
    try clear c15b1
    try clear c16
    try clear c16b0
    try clear c16b1
    obtain ⟨kq, x52_7, rfl, HA, HJ7, HO_9, HB⟩ := hcut
    cases kq with
    | zero => exact absurd HA.out (by simp [mintagelaw12_ScaledBack.j0])
    | succ kj7 =>
      have H := HA.out
      clear HA
      simp only [mintagelaw12_ScaledBack.j0] at H
      by_cases c17 : x52_7 = true
      · subst c17
        have H1 : (some false) = some r := by rw [if_pos rfl] at H; exact H
        clear H
        have H := H1
        clear H1
        exact absurd ((Option.some.inj H).trans HT.out) (by decide)
      · replace c17 := Bool.eq_false_iff.mpr c17
        subst c17
        have H1 : ((some (([] : List Int) : List Int)).bind fun y271 => (if y271.length + t262.length < 140737488355328 then ((some (y271 ++ t262 : List Int)).bind fun y274 => (if t260 = 0 then (if y274.length < 140737488355328 then (mintagelaw12_ScaledBack.j1 kj7 a2 t260 t261 (y274 ++ [46])) else (none)) else (mintagelaw12_ScaledBack.j1 kj7 a2 t260 t261 y274))) else (none))) = some r := by rw [if_neg (show ¬ (false = true) by decide)] at H; exact H
        clear H
        have H := H1
        clear H1
        obtain ⟨y271, hy271⟩ : ∃ y_ : List Int, y_ = (([] : List Int)) := ⟨_, rfl⟩
        replace H : (if y271.length + t262.length < 140737488355328 then ((some (y271 ++ t262 : List Int)).bind fun y274 => (if t260 = 0 then (if y274.length < 140737488355328 then (mintagelaw12_ScaledBack.j1 kj7 a2 t260 t261 (y274 ++ [46])) else (none)) else (mintagelaw12_ScaledBack.j1 kj7 a2 t260 t261 y274))) else (none)) = some r := by first | (rw [hy271]; with_reducible exact H) | (have H2_ := (Option.bind_some _ _).symm.trans H; rw [hy271]; with_reducible exact H2_) | (have H2_ := (Option.bind_some _ _).symm.trans H; with_reducible exact H2_) | with_reducible exact H | (rw [hy271]; exact H) | exact H
        have Ny271 := Aside0.mk hy271
        clear hy271
        by_cases c18 : y271.length + t262.length < 140737488355328
        · rw [if_pos c18] at H
          have LMc18 := Aside0.mk c18
          clear c18
          obtain ⟨y274, hy274⟩ : ∃ y_ : List Int, y_ = (y271 ++ t262) := ⟨_, rfl⟩
          replace H : (if t260 = 0 then (if y274.length < 140737488355328 then (mintagelaw12_ScaledBack.j1 kj7 a2 t260 t261 (y274 ++ [46])) else (none)) else (mintagelaw12_ScaledBack.j1 kj7 a2 t260 t261 y274)) = some r := by first | (rw [hy274]; with_reducible exact H) | (have H2_ := (Option.bind_some _ _).symm.trans H; rw [hy274]; with_reducible exact H2_) | (have H2_ := (Option.bind_some _ _).symm.trans H; with_reducible exact H2_) | with_reducible exact H | (rw [hy274]; exact H) | exact H
          have Ny274 := Aside0.mk hy274
          clear hy274
          have HC19 := Aside0.mk H
          clear H
          go_upto_if 57 with (first | ((with_reducible refine gate_dst (N := 53) rfl ?_); refine Kd.R_lit (Kd.int .u8) _ 5 ?hg (N := 53) ?hd (xs := ([] : List Int)) (inner := []) (ok := fun _ => True) (okp := fun _ => True) ?hr ?hp (fun _ hk => hk) trivial (Below.refl _ _) (Nat.le_refl _) (by simp) ?_; (case hd => rfl); (case hg => rfl); (case hr => first | (go_simp; done) | (go_simp; rfl) | (go_simp; simp only [u64_of_u8, i64_of_u8]; done) | (go_simp; simp only [u64_of_u8, i64_of_u8]; rfl)); (case hp => exact (Reps.none _ _)); intro v272 w20 ho21 hb hg_ hnew_; clear hg_ hnew_; (first | rw [← Ny271.out] at ho21 | (simp only [Int.reduceToNat] at ho21; rw [← Ny271.out] at ho21)); have n0_ := Aside0.mk (Kd.R_elder' (by (with_reducible repeat (first | apply Kd.R_alloc | apply Kd.R_drewN | apply Kd.R_drew)); exact HO_9.out) (Kd.R_base ho21) hb); have n1_ := Aside0.mk (Kd.R_lower (Kd.R_new' ho21 (Kd.R_lt (by (with_reducible repeat (first | apply Kd.R_alloc | apply Kd.R_drewN | apply Kd.R_drew)); exact HO_9.out))) (below_size (by repeat (first | (with_reducible first | exact HB.out | apply below_alloc | apply pw_below_drewN | apply below_drew1) | exact HB.out)))); have n2_ := Aside0.mk (below_step (by repeat (first | (with_reducible first | exact HB.out | apply below_alloc | apply pw_below_drewN | apply below_drew1) | exact HB.out)) hb); clear HO_9; clear HB; have HO_9 := n0_; have HO273 := n1_; have HB := n2_; clear n0_ n1_ n2_; clear hb ho21) | ((with_reducible refine gate_builtin (b := .append) (xs := #[.tmp 53, .tmp 54]) rfl ?_); at_builtin; refine Kd.R_append_rows (Kd.int .u8) (w0 := w) w.heap.size rfl (.tmp 53) (.tmp 54) 22 5 (.int .u8 0) 1 rfl Try.underlying22 info5 rfl (by decide) (by omega) v272 y271 t262 _ _ _ (fun k_ => some k_ ≠ (.slice Ao10 t262.length co10 : Value).ownBlock) (fun _ => False) rfl rfl ?aO ?aR (fun _ _ h => h) (fun _ h => h.elim) ?aF ?aB ?aS ?aL ?_; (case aR => repeat (first | exact (Kd.R_reads' HO_9.out).2.2 | (with_reducible refine Kd.C_alloc ?_ _) | (with_reducible refine Kd.C_drewN ?_ _) | (with_reducible refine Kd.C_drew ?_))); (case aB => exact (by repeat (first | (with_reducible first | exact HB.out | apply below_alloc | apply pw_below_drewN | apply below_drew1) | exact HB.out))); (case aF => exact (fun k_ hk => Kd.fresh' (Kd.R_lt (by (with_reducible repeat (first | apply Kd.R_alloc | apply Kd.R_drewN | apply Kd.R_drew)); exact HO_9.out)) k_ hk)); (case aO => exact (by (with_reducible repeat (first | apply Kd.R_alloc | apply Kd.R_drewN | apply Kd.R_drew)); exact Kd.R_mono HO273.out (fun _ hk => hk.2))); (case aS => exact (below_size (by repeat (first | (with_reducible first | exact HB.out | apply below_alloc | apply pw_below_drewN | apply below_drew1) | exact HB.out)))); (case aL => have := LMc18.out; omega); intro v275 w22 ho hb hg hat; rw [← Ny274.out] at ho; have n0_ := Aside0.mk (Kd.R_after (ok := (fun _ => True)) (by (with_reducible repeat (first | apply Kd.R_alloc | apply Kd.R_drewN | apply Kd.R_drew)); exact HO_9.out) hg hat); have n1_ := Aside0.mk (hb); have n2_ := Aside0.mk (ho); clear HO_9; clear HB; clear HO273; have HO_9 := n0_; have HB := n1_; have HO276 := n2_; clear n0_ n1_ n2_; clear ho hb hg hat))
          (try simp only [Act.put, List.setIfInBounds_toArray, List.set_cons_zero, List.set_cons_succ])
          go_cut [14] (fun v14 wc => ∃ (kq : Nat) (x14_18 : List Int), Aside0 (mintagelaw12_ScaledBack.j1 kq a2 t260 t261 x14_18 = some r) ∧ Aside0 (kq ≤ kj7) ∧ Aside0 (Kd.R (Kd.int .u8) 5 wc w.heap.size (fun _ => True) v14 x14_18) ∧ Aside0 (Below w.heap.size w wc))
          case first =>
            have H := HC19.out
            clear HC19
            by_cases c23 : t260 = 0
            · rw [if_pos c23] at H
              have c23b0 : (t260 == 0) = true := beq_iff_eq.mpr c23
              have c23b1 : (t260 != 0) = false := bne_eq_false_iff_eq.mpr c23
              clear c23
              (first | rw [c23b0] | (simp only [i64_w, i32_w]; rw [c23b0]) | skip)
              by_cases c24 : y274.length < 140737488355328
              · rw [if_pos c24] at H
                have LMc24 := Aside0.mk c24
                clear c24
                obtain ⟨y277, hy277⟩ : ∃ y_ : List Int, y_ = (y274 ++ [46]) := ⟨_, rfl⟩
                replace H : (mintagelaw12_ScaledBack.j1 kj7 a2 t260 t261 y277) = some r := by first | (rw [hy277]; with_reducible exact H) | (have H2_ := (Option.bind_some _ _).symm.trans H; rw [hy277]; with_reducible exact H2_) | (have H2_ := (Option.bind_some _ _).symm.trans H; with_reducible exact H2_) | with_reducible exact H | (rw [hy277]; exact H) | exact H
                have Ny277 := Aside0.mk hy277
                clear hy277
                have H' := Aside0.mk H
                clear H
                go_wp2_with (first | ((with_reducible refine gate_builtin (b := .append) (xs := #[.tmp 58, .tmp 59]) rfl ?_); at_builtin; refine Kd.R_append (Kd.int .u8) (w0 := w) w.heap.size rfl (.tmp 58) (.tmp 59) 22 5 (.int .u8 0) 1 rfl Try.underlying22 info5 rfl (by decide) (by omega) v275 y274 46 [.int .u8 46] (fun k_ => some k_ ≠ (.slice Ao10 t262.length co10 : Value).ownBlock) (fun _ => False) rfl rfl ?aP (fun _ hk => hk.elim) ?aF ?aO ?aB ?aS ?aL ?_; (case aP => exact rfl); (case aB => exact (by repeat (first | (with_reducible first | exact HB.out | apply below_alloc | apply pw_below_drewN | apply below_drew1) | exact HB.out))); (case aF => exact (fun k_ hk => Kd.fresh' (Kd.R_lt (by (with_reducible repeat (first | apply Kd.R_alloc | apply Kd.R_drewN | apply Kd.R_drew)); exact HO_9.out)) k_ hk)); (case aO => exact (by (with_reducible repeat (first | apply Kd.R_alloc | apply Kd.R_drewN | apply Kd.R_drew)); exact HO276.out)); (case aS => exact (below_size (by repeat (first | (with_reducible first | exact HB.out | apply below_alloc | apply pw_below_drewN | apply below_drew1) | exact HB.out)))); (case aL => have := LMc24.out; omega); intro v278 w25 ho hb hg hat; rw [← Ny277.out] at ho; have n0_ := Aside0.mk (Kd.R_after (ok := (fun _ => True)) (by (with_reducible repeat (first | apply Kd.R_alloc | apply Kd.R_drewN | apply Kd.R_drew)); exact HO_9.out) hg hat); have n1_ := Aside0.mk (hb); have n2_ := Aside0.mk (ho); clear HO_9; clear HB; clear HO276; have HO_9 := n0_; have HB := n1_; have HO279 := n2_; clear n0_ n1_ n2_; clear ho hb hg hat))
                go_meet
                case rel => exact ⟨_, (y277), H', ⟨by have := HJ7.out; first | omega | exact Nat.le_refl _⟩, ⟨by (with_reducible repeat (first | apply Kd.R_alloc | apply Kd.R_drewN | apply Kd.R_drew)); exact Kd.R_mono HO279.out (fun _ hk => trivial)⟩, ⟨by repeat (first | (with_reducible first | exact HB.out | apply below_alloc | apply pw_below_drewN | apply below_drew1) | exact HB.out)⟩⟩
              · rw [if_neg c24] at H
                exact absurd H (by simp)
            · rw [if_neg c23] at H
              have c23b0 : (t260 == 0) = false := beq_eq_false_iff_ne.mpr c23
              have c23b1 : (t260 != 0) = true := bne_iff_ne.mpr c23
              (first | rw [c23b0] | (simp only [i64_w, i32_w]; rw [c23b0]) | skip)
              have H' := Aside0.mk H
              clear H
              go_wp2
              go_meet
              case rel => exact ⟨_, (y274), H', ⟨by have := HJ7.out; first | omega | exact Nat.le_refl _⟩, ⟨by (with_reducible repeat (first | apply Kd.R_alloc | apply Kd.R_drewN | apply Kd.R_drew)); exact Kd.R_mono HO276.out (fun _ hk => trivial)⟩, ⟨by repeat (first | (with_reducible first | exact HB.out | apply below_alloc | apply pw_below_drewN | apply below_drew1) | exact HB.out)⟩⟩
          case rest =>
            clear HC19
            try clear c1
            try clear c2
            try clear p2
            try clear c4
            try clear c12
            try clear c13
            try clear c13b0
            try clear c13b1
            try clear c14
            try clear c15
            try clear c15b0
            try clear c15b1
            try clear c16
            try clear c16b0
            try clear c16b1
            try clear c17
            try clear c18
            try clear c19
            try clear c23
            try clear c23b0
            try clear c23b1
            try clear c24
            try clear p2
            obtain ⟨kq, x14_18, HA, HJ18, HO_14, HB⟩ := hcut
            cases kq with
            | zero => exact absurd HA.out (by simp [mintagelaw12_ScaledBack.j1])
            | succ kj18 =>
              have H := HA.out
              clear HA
              simp only [mintagelaw12_ScaledBack.j1] at H
              have H' := Aside0.mk H
              clear H
              go_wp2
              go_loopg [14, 15] kj18 (fun kq v14 v15 w' => ∃ (x14_3 : List Int) (x15_3 : Int), v15 = .int .i64 x15_3 ∧ Aside0 (mintagelaw12_ScaledBack.l0 kq a2 t260 t261 x14_3 x15_3 = some r) ∧ Aside0 (kq ≤ kj18) ∧ Aside0 (Kd.R (Kd.int .u8) 5 w' w.heap.size (fun _ => True) v14 x14_3) ∧ Aside0 (Below w.heap.size w w'))
              case atStart => exact ⟨(x14_18), (0), (by first | rfl | (simp; done) | (simp [*]; done)), H', ⟨Nat.le_refl _⟩, ⟨by (with_reducible repeat (first | apply Kd.R_alloc | apply Kd.R_drewN | apply Kd.R_drew)); exact HO_14.out⟩, ⟨by repeat (first | (with_reducible first | exact HB.out | apply below_alloc | apply pw_below_drewN | apply below_drew1) | exact HB.out)⟩⟩
              case round =>
                clear H'
                try clear c1
                try clear c2
                try clear p2
                try clear c4
                try clear c12
                try clear c13
                try clear c13b0
                try clear c13b1
                try clear c14
                try clear c15
                try clear c15b0
                try clear c15b1
                try clear c16
                try clear c16b0
                try clear c16b1
                try clear c17
                try clear c18
                try clear c19
                try clear c23
                try clear c23b0
                try clear c23b1
                try clear c24
                try clear p2
                obtain ⟨x14_3, x15_3, rfl, HA, HK3, HO_14, HB⟩ := hrel
                cases gk with
                | zero => exact absurd HA.out (by simp [mintagelaw12_ScaledBack.l0])
                | succ k3 =>
                  have H := HA.out
                  clear HA
                  simp only [mintagelaw12_ScaledBack.l0] at H
                  by_cases c26 : x15_3 < a2
                  · rw [if_pos c26] at H
                    have c26b0 : decide (x15_3 < a2) = true := decide_eq_true c26
                    clear c26
                    by_cases c27 : x15_3 < 100
                    · rw [if_pos c27] at H
                      have c27b0 : decide (x15_3 < 100) = true := decide_eq_true c27
                      clear c27
                      by_cases c28 : x14_3.length < 140737488355328
                      · rw [if_pos c28] at H
                        have LMc28 := Aside0.mk c28
                        clear c28
                        obtain ⟨y280, hy280⟩ : ∃ y_ : List Int, y_ = (x14_3 ++ [48]) := ⟨_, rfl⟩
                        replace H : (mintagelaw12_ScaledBack.l0 k3 a2 t260 t261 y280 (wrap64 (x15_3 + 1))) = some r := by first | (rw [hy280]; with_reducible exact H) | (have H2_ := (Option.bind_some _ _).symm.trans H; rw [hy280]; with_reducible exact H2_) | (have H2_ := (Option.bind_some _ _).symm.trans H; with_reducible exact H2_) | with_reducible exact H | (rw [hy280]; exact H) | exact H
                        have Ny280 := Aside0.mk hy280
                        clear hy280
                        have H' := Aside0.mk H
                        clear H
                        go_wp2_with (first | ((with_reducible refine gate_builtin (b := .append) (xs := #[.tmp 70, .tmp 71]) rfl ?_); at_builtin; refine Kd.R_append (Kd.int .u8) (w0 := w) w.heap.size rfl (.tmp 70) (.tmp 71) 22 5 (.int .u8 0) 1 rfl Try.underlying22 info5 rfl (by decide) (by omega) u14 x14_3 48 [.int .u8 48] (fun _ => True) (fun _ => False) rfl rfl ?aP (fun _ hk => hk.elim) ?aF ?aO ?aB ?aS ?aL ?_; (case aP => exact rfl); (case aB => exact (by repeat (first | (with_reducible first | exact HB.out | apply below_alloc | apply pw_below_drewN | apply below_drew1) | exact HB.out))); (case aF => exact (fun _ _ => trivial)); (case aO => exact (by (with_reducible repeat (first | apply Kd.R_alloc | apply Kd.R_drewN | apply Kd.R_drew)); exact HO_14.out)); (case aS => exact (below_size (by repeat (first | (with_reducible first | exact HB.out | apply below_alloc | apply pw_below_drewN | apply below_drew1) | exact HB.out)))); (case aL => have := LMc28.out; omega); intro v281 w29 ho hb hg hat; rw [← Ny280.out] at ho; have n0_ := Aside0.mk (hb); have n1_ := Aside0.mk (ho); clear HB; clear HO_14; have HB := n0_; have HO282 := n1_; clear n0_ n1_; clear ho hb hg hat))
                        go_roundg k3
                        case measure => have := HJ7.out; have := HJ18.out; have := HK3.out; omega
                        case rel => exact ⟨(y280), (wrap64 (x15_3 + 1)), (by first | rfl | (simp; done) | (simp [*]; done)), H', ⟨by have := HJ7.out; have := HJ18.out; have := HK3.out; omega⟩, ⟨by (with_reducible repeat (first | apply Kd.R_alloc | apply Kd.R_drewN | apply Kd.R_drew)); exact HO282.out⟩, ⟨by repeat (first | (with_reducible first | exact HB.out | apply below_alloc | apply pw_below_drewN | apply below_drew1) | exact HB.out)⟩⟩
                      · rw [if_neg c28] at H
                        exact absurd H (by simp)
                    · rw [if_neg c27] at H
                      have c27b0 : decide (x15_3 < 100) = false := decide_eq_false c27
                      clear c27
                      replace H := Option.bind_eq_some_iff.mp H
                      obtain ⟨⟨t283, t284, t285⟩, A300, H⟩ := H
                      replace H : ((mintagelaw12_num.f t285).bind fun t286 => (if t286 = 0 then (if t283 = t261 then ((mintagelaw12_wakes.f).bind fun t287 => (some t287)) else (some false)) else (some false))) = some r := H
                      have A30 := Aside0.mk A300
                      clear A300
                      replace H := Option.bind_eq_some_iff.mp H
                      obtain ⟨t286, A310, H⟩ := H
                      replace H : (if t286 = 0 then (if t283 = t261 then ((mintagelaw12_wakes.f).bind fun t287 => (some t287)) else (some false)) else (some false)) = some r := H
                      have A31 := Aside0.mk A310
                      clear A310
                      by_cases c32 : t286 = 0
                      · rw [if_pos c32] at H
                        have c32b0 : (t286 == 0) = true := beq_iff_eq.mpr c32
                        have c32b1 : (t286 != 0) = false := bne_eq_false_iff_eq.mpr c32
                        clear c32
                        by_cases c33 : t283 = t261
                        · rw [if_pos c33] at H
                          have c33b0 : (t283 == t261) = true := beq_iff_eq.mpr c33
                          have c33b1 : (t283 != t261) = false := bne_eq_false_iff_eq.mpr c33
                          clear c33
                          replace H := Option.bind_eq_some_iff.mp H
                          obtain ⟨t287, A340, H⟩ := H
                          replace H : (some t287) = some r := H
                          have A34 := Aside0.mk A340
                          clear A340
                          obtain rfl := Option.some.inj H
                          obtain ⟨Ao35, co35, eo35⟩ := Kd.R_slice HO_14.out
                          subst eo35
                          go_wp2_with (first | ((with_reducible refine gate_callee (f := 12) rfl ?_); refine goesL_ (some 76) rfl rfl Try.func12 (by kernel_rfl) rfl #[.int .i64 t260, .slice Ao35 x14_3.length co35] rfl (by (try simp only [List.map_toArray, List.map_cons, List.map_nil]); first | done | rfl | (simp only [List.length_drop, List.length_take]; rfl)) ?_; (with_reducible refine (scaled_Parse.calls k3 t260 _ _ x14_3 t283 t284 t285 _ ?side1 ?side2 A30.out).mono ?_); (case side1 => repeat (first | exact (Kd.R_reads' HO_14.out).2.2 | (with_reducible refine Kd.C_alloc ?_ _) | (with_reducible refine Kd.C_drewN ?_ _) | (with_reducible refine Kd.C_drew ?_))); (case side2 => exact (Kd.R_reads' HO_14.out).2.1); rintro e w36 ⟨rfl, hb⟩; refine ⟨_, rfl, ?_⟩; have n0_ := Aside0.mk (Kd.R_below (by (with_reducible repeat (first | apply Kd.R_alloc | apply Kd.R_drewN | apply Kd.R_drew)); exact HO_14.out) hb); have n1_ := Aside0.mk (below_step (by repeat (first | (with_reducible first | exact HB.out | apply below_alloc | apply pw_below_drewN | apply below_drew1) | exact HB.out)) hb); clear HO_14; clear HB; have HO_14 := n0_; have HB := n1_; clear n0_ n1_; (try clear hb); (try clear hb2); (try clear hk); (try clear hi)) | ((with_reducible refine gate_callee (f := 14) rfl ?_); refine goesL_ (some 81) rfl rfl Try.func14 (by kernel_rfl) rfl #[.int .i64 t285] rfl (by (try simp only [List.map_toArray, List.map_cons, List.map_nil]); first | done | rfl | (simp only [List.length_drop, List.length_take]; rfl)) ?_; (with_reducible refine (mintagelaw12_num.calls t285 t286 _ A31.out).mono ?_); rintro e w' ⟨rfl, ⟨nd, rfl⟩⟩; refine ⟨_, rfl, ?_⟩) | (go_at_call 16; (with_reducible refine (mintagelaw12_wakes.calls  t287 _ A34.out).mono ?_); rintro e w37 ⟨rfl, hb⟩; have n0_ := Aside0.mk (Kd.R_below (by (with_reducible repeat (first | apply Kd.R_alloc | apply Kd.R_drewN | apply Kd.R_drew)); exact HO_14.out) hb); have n1_ := Aside0.mk (below_step (by repeat (first | (with_reducible first | exact HB.out | apply below_alloc | apply pw_below_drewN | apply below_drew1) | exact HB.out)) hb); clear HO_14; clear HB; have HO_14 := n0_; have HB := n1_; clear n0_ n1_; (try clear hb); (try clear hb2); (try clear hk); (try clear hi)))
                          go_ret
                          exact ⟨by first | rfl | (simp [errW_none, errW_some] <;> rfl) | (simp [*, errW_none, errW_some] <;> rfl), by repeat (first | (with_reducible first | exact HB.out | apply below_alloc | apply pw_below_drewN | apply below_drew1) | exact HB.out)⟩
                        · rw [if_neg c33] at H
                          have c33b0 : (t283 == t261) = false := beq_eq_false_iff_ne.mpr c33
                          have c33b1 : (t283 != t261) = true := bne_iff_ne.mpr c33
                          exact absurd ((Option.some.inj H).trans HT.out) (by decide)
                      · rw [if_neg c32] at H
                        have c32b0 : (t286 == 0) = false := beq_eq_false_iff_ne.mpr c32
                        have c32b1 : (t286 != 0) = true := bne_iff_ne.mpr c32
                        exact absurd ((Option.some.inj H).trans HT.out) (by decide)
                  · rw [if_neg c26] at H
                    have c26b0 : decide (x15_3 < a2) = false := decide_eq_false c26
                    clear c26
                    replace H := Option.bind_eq_some_iff.mp H
                    obtain ⟨⟨t288, t289, t290⟩, A380, H⟩ := H
                    replace H : ((mintagelaw12_num.f t290).bind fun t291 => (if t291 = 0 then (if t288 = t261 then ((mintagelaw12_wakes.f).bind fun t292 => (some t292)) else (some false)) else (some false))) = some r := H
                    have A38 := Aside0.mk A380
                    clear A380
                    replace H := Option.bind_eq_some_iff.mp H
                    obtain ⟨t291, A390, H⟩ := H
                    replace H : (if t291 = 0 then (if t288 = t261 then ((mintagelaw12_wakes.f).bind fun t292 => (some t292)) else (some false)) else (some false)) = some r := H
                    have A39 := Aside0.mk A390
                    clear A390
                    by_cases c40 : t291 = 0
                    · rw [if_pos c40] at H
                      have c40b0 : (t291 == 0) = true := beq_iff_eq.mpr c40
                      have c40b1 : (t291 != 0) = false := bne_eq_false_iff_eq.mpr c40
                      clear c40
                      by_cases c41 : t288 = t261
                      · rw [if_pos c41] at H
                        have c41b0 : (t288 == t261) = true := beq_iff_eq.mpr c41
                        have c41b1 : (t288 != t261) = false := bne_eq_false_iff_eq.mpr c41
                        clear c41
                        replace H := Option.bind_eq_some_iff.mp H
                        obtain ⟨t292, A420, H⟩ := H
                        replace H : (some t292) = some r := H
                        have A42 := Aside0.mk A420
                        clear A420
                        obtain rfl := Option.some.inj H
                        obtain ⟨Ao43, co43, eo43⟩ := Kd.R_slice HO_14.out
                        subst eo43
                        go_wp2_with (first | ((with_reducible refine gate_callee (f := 12) rfl ?_); refine goesL_ (some 76) rfl rfl Try.func12 (by kernel_rfl) rfl #[.int .i64 t260, .slice Ao43 x14_3.length co43] rfl (by (try simp only [List.map_toArray, List.map_cons, List.map_nil]); first | done | rfl | (simp only [List.length_drop, List.length_take]; rfl)) ?_; (with_reducible refine (scaled_Parse.calls k3 t260 _ _ x14_3 t288 t289 t290 _ ?side1 ?side2 A38.out).mono ?_); (case side1 => repeat (first | exact (Kd.R_reads' HO_14.out).2.2 | (with_reducible refine Kd.C_alloc ?_ _) | (with_reducible refine Kd.C_drewN ?_ _) | (with_reducible refine Kd.C_drew ?_))); (case side2 => exact (Kd.R_reads' HO_14.out).2.1); rintro e w44 ⟨rfl, hb⟩; refine ⟨_, rfl, ?_⟩; have n0_ := Aside0.mk (Kd.R_below (by (with_reducible repeat (first | apply Kd.R_alloc | apply Kd.R_drewN | apply Kd.R_drew)); exact HO_14.out) hb); have n1_ := Aside0.mk (below_step (by repeat (first | (with_reducible first | exact HB.out | apply below_alloc | apply pw_below_drewN | apply below_drew1) | exact HB.out)) hb); clear HO_14; clear HB; have HO_14 := n0_; have HB := n1_; clear n0_ n1_; (try clear hb); (try clear hb2); (try clear hk); (try clear hi)) | ((with_reducible refine gate_callee (f := 14) rfl ?_); refine goesL_ (some 81) rfl rfl Try.func14 (by kernel_rfl) rfl #[.int .i64 t290] rfl (by (try simp only [List.map_toArray, List.map_cons, List.map_nil]); first | done | rfl | (simp only [List.length_drop, List.length_take]; rfl)) ?_; (with_reducible refine (mintagelaw12_num.calls t290 t291 _ A39.out).mono ?_); rintro e w' ⟨rfl, ⟨nd, rfl⟩⟩; refine ⟨_, rfl, ?_⟩) | (go_at_call 16; (with_reducible refine (mintagelaw12_wakes.calls  t292 _ A42.out).mono ?_); rintro e w45 ⟨rfl, hb⟩; have n0_ := Aside0.mk (Kd.R_below (by (with_reducible repeat (first | apply Kd.R_alloc | apply Kd.R_drewN | apply Kd.R_drew)); exact HO_14.out) hb); have n1_ := Aside0.mk (below_step (by repeat (first | (with_reducible first | exact HB.out | apply below_alloc | apply pw_below_drewN | apply below_drew1) | exact HB.out)) hb); clear HO_14; clear HB; have HO_14 := n0_; have HB := n1_; clear n0_ n1_; (try clear hb); (try clear hb2); (try clear hk); (try clear hi)))
                        go_ret
                        exact ⟨by first | rfl | (simp [errW_none, errW_some] <;> rfl) | (simp [*, errW_none, errW_some] <;> rfl), by repeat (first | (with_reducible first | exact HB.out | apply below_alloc | apply pw_below_drewN | apply below_drew1) | exact HB.out)⟩
                      · rw [if_neg c41] at H
                        have c41b0 : (t288 == t261) = false := beq_eq_false_iff_ne.mpr c41
                        have c41b1 : (t288 != t261) = true := bne_iff_ne.mpr c41
                        exact absurd ((Option.some.inj H).trans HT.out) (by decide)
                    · rw [if_neg c40] at H
                      have c40b0 : (t291 == 0) = false := beq_eq_false_iff_ne.mpr c40
                      have c40b1 : (t291 != 0) = true := bne_iff_ne.mpr c40
                      exact absurd ((Option.some.inj H).trans HT.out) (by decide)
        · rw [if_neg c18] at H
          exact absurd H (by simp)

/-- THE ONE PURE STATEMENT of mintagelaw12_ScaledBack: yours. -/
def mintagelaw12_ScaledBack.Pure : Prop := ∀ (a0 : Int) (a1 : Int) (a2 : Int), (Lit.int .i64 a0).wf = true → (Lit.int .u64 a1).wf = true → (Lit.int .i64 a2).wf = true → ∃ k, mintagelaw12_ScaledBack.f k a0 a1 a2 = some true
theorem mintagelaw12_ScaledBack.walk (P : mintagelaw12_ScaledBack.Pure) (a0 : Int) (a1 : Int) (a2 : Int) (w : World) (w0 : (Lit.int .i64 a0).wf = true) (w1 : (Lit.int .u64 a1).wf = true) (w2 : (Lit.int .i64 a2).wf = true) :
    Calls Try.prog 4 #[.int .i64 a0, .int .u64 a1, .int .i64 a2] w fun e w' => e = .returned (.bool true) ∧ Below w.heap.size w w' := by
  obtain ⟨k, h⟩ := P a0 a1 a2 w0 w1 w2
  refine (mintagelaw12_ScaledBack.calls k a0 a1 a2 true w h rfl).mono ?_
  rintro e w' ⟨rfl, hd⟩
  exact ⟨rfl, hd⟩

end Go.Proofs.Ytjefmcfkhalagaa.Q
