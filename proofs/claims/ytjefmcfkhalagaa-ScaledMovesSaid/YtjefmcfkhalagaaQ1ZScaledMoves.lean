-- Printed functions, merged (wip/tools/pack.py).
import Derived.Test.YtjefmcfkhalagaaQ0ZScaledMoves
import Derived.Test.YtjefmcfkhalagaaSciZScaledMoves
namespace Go.Proofs.Ytjefmcfkhalagaa.Q
open Go.RowKit Go.Proofs.YtjefmcfkhalagaaW.PrintWords Go.Proofs.YtjefmcfkhalagaaW.PrintLast Go.Proofs.YtjefmcfkhalagaaW.PrintMore
attribute [local go_sem] max2_int min2_int max_two min_two max_three min_three max_four min_four   -- for this text's walks alone
set_option linter.unusedVariables false
set_option linter.unusedSimpArgs false

/-! ### scaled_Parse: function 12 -/
section
def scaled_Parse.f (k : Nat) (a0 : Int) (l1 : List Int) : Option (Int × Int × Int) := Go.Proofs.Ytjefmcfkhalagaa.Scr.parseF k l1 a0
theorem scaled_Parse.mono : ∀ a0 l1 k, LeO (scaled_Parse.f k a0 l1) (scaled_Parse.f (k + 1) a0 l1) := by
  intro a0 l1 k
  unfold scaled_Parse.f Go.Proofs.Ytjefmcfkhalagaa.Scr.parseF
  refine LeO.ite (LeO.refl _) (LeO.ite (LeO.refl _) ?_)
  have h : LeO (Go.Proofs.Ytjefmcfkhalagaa.Scr.readF k l1 a0.toNat) (Go.Proofs.Ytjefmcfkhalagaa.Scr.readF (k + 1) l1 a0.toNat) := by
    unfold Go.Proofs.Ytjefmcfkhalagaa.Scr.readF
    refine LeO.ite (LeO.refl _) ?_
    split
    · exact LeO.refl _
    · exact LeO.bind (digit_Value.mono _ _) (fun _ => LeO.refl _)
  intro r hr
  obtain ⟨o, ho, e⟩ := Option.map_eq_some_iff.1 hr
  rw [h o ho]; exact congrArg some e
theorem scaled_Parse.calls (k : Nat) (a0 : Int) (A1 : Option Addr) (c1 : Nat) (l1 : List Int) (r1 r2 r3 : Int) (w : World) (hC1 : Kd.C (Kd.int .u8) w A1 l1.length l1) (hc1 : l1.length ≤ c1) (h : scaled_Parse.f k a0 l1 = some (r1, r2, r3)) :
    Calls Try.prog 12 #[.int .i64 a0, .slice A1 l1.length c1] w fun e w' => e = .returned (.tuple #[.int .u64 r1, .int .i64 r2, .int .i64 r3]) ∧ Below w.heap.size w w' :=
  Go.Proofs.Ytjefmcfkhalagaa.Scr.Parse_calls w A1 c1 l1 a0 hC1 hc1 k r1 r2 r3 h

end

end Go.Proofs.Ytjefmcfkhalagaa.Q

namespace Go.Proofs.Ytjefmcfkhalagaa.Q
open Go.RowKit Go.Proofs.YtjefmcfkhalagaaW.PrintWords Go.Proofs.YtjefmcfkhalagaaW.PrintLast Go.Proofs.YtjefmcfkhalagaaW.PrintMore
attribute [local go_sem] max2_int min2_int max_two min_two max_three min_three max_four min_four   -- for this text's walks alone
set_option linter.unusedVariables false
set_option linter.unusedSimpArgs false

/-! ### mintagelaw12_wakes: function 16 -/
section
def mintagelaw12_wakes.f : Option Bool := some true
theorem mintagelaw12_wakes.const_reads (W : World) (xs : List Int) (e : TypeId) (fr : Nat × Nat) (h : xs.length ≤ 1000) : ReadsInt (W.alloc (.cells (nums .u8 xs).toArray e fr)) .u8 (some ⟨W.heap.size, 0, none⟩) xs.length xs := by
  refine ⟨rfl, by omega, fun _ => ⟨_, rfl, fun j hj => ?_⟩⟩
  rw [add_plain, cell_of_row _ _ _ _ _ fr (heap_alloc_new W _)]
  simp [nums, hj, List.getD_eq_getElem?_getD]
theorem mintagelaw12_wakes.p1 (A : Addr) (W : World) (h : ReadsInt W .u8 (some A) 4 [45, 49, 46, 53]) :
    Calls Try.prog 12 #[.int .i64 2, .slice (some A) 4 4] W fun e w' => e = .returned (.tuple #[.int .u64 18446744073709551466, .int .i64 0, .int .i64 0]) ∧ Below W.heap.size W w' :=
  scaled_Parse.calls 40 2 (some A) 4 [45, 49, 46, 53] 18446744073709551466 0 0 W (Kd.C_of_reads (d := (0 : Int)) (h1 := fun _ => rfl) h) (Nat.le_refl _) (by decide +kernel)
def mintagelaw12_wakes.tx : List Int := [48, 46, 48, 48, 53]
theorem mintagelaw12_wakes.p2 (W : World) : Calls Try.prog 19 #[.int .i64 3, .int .u64 5] W fun e w' => ∃ v0_ : Value, e = .returned (.tuple #[v0_, .int .i64 0]) ∧ Kd.R (Kd.int .u8) 5 w' W.heap.size (fun _ => True) v0_ mintagelaw12_wakes.tx ∧ Below W.heap.size W w' :=
  scaled_Print.calls 60 3 5 mintagelaw12_wakes.tx 0 W (by decide +kernel)
set_option maxHeartbeats 1000000 in
theorem mintagelaw12_wakes.calls (r : Bool) (w : World) (h : mintagelaw12_wakes.f = some r) : Calls Try.prog 16 #[] w fun e w' => e = .returned (.bool r) ∧ Below w.heap.size w w' := by
  obtain rfl : true = r := by simpa [mintagelaw12_wakes.f] using h
  clear h
  have kc := fun (w : World) (C : Array Value) (n c : Nat) => Lib.run_convert_bytes_const (P := Try.prog) w 22 5 C n c Try.underlying22 Try.underlying5
  go_enter Try.func16, Try.ntmps16
  go_wp2_with (first | (go_at_call 12; with_reducible refine (mintagelaw12_wakes.p1 _ _ (mintagelaw12_wakes.const_reads w [45, 49, 46, 53] 5 (4, 5) (by simp))).mono ?_; rintro e w1 ⟨rfl, hb⟩; have hB := Aside0.mk hb; clear hb) | (go_at_call 19; refine (mintagelaw12_wakes.p2 _).mono ?_; rintro e w2 ⟨v, rfl, ho, hb2⟩; have hB2 := Aside0.mk hb2; clear hb2; have hs := fun n => own_string (P := Try.prog) Try.underlying22 Try.underlying5 Try.underlying9 (Kd.own_of_R (Kd.R_drewN ho n))) | (go_at_call 14; refine (mintagelaw12_num.calls _ _ _ rfl).mono ?_; rintro e w3 ⟨rfl, ⟨nd, rfl⟩⟩))
  have hf : ((strOfNums mintagelaw12_wakes.tx).toList == [48, 46, 48, 48, 53]) = true := by decide +kernel
  rw [hf]
  go_ret
  exact ⟨rfl, by repeat (first | exact Below.refl _ _ | apply pw_below_drewN | refine below_step ?_ hB2.out | refine below_step ?_ hB.out | apply below_alloc)⟩

end

end Go.Proofs.Ytjefmcfkhalagaa.Q

namespace Go.Proofs.Ytjefmcfkhalagaa.Q
open Go.RowKit Go.Proofs.YtjefmcfkhalagaaW.PrintWords Go.Proofs.YtjefmcfkhalagaaW.PrintLast Go.Proofs.YtjefmcfkhalagaaW.PrintMore
attribute [local go_sem] max2_int min2_int max_two min_two max_three min_three max_four min_four   -- for this text's walks alone
set_option linter.unusedVariables false
set_option linter.unusedSimpArgs false

/-! ### mintagelaw12_ScaledMoves: function 7 -/
mutual
def mintagelaw12_ScaledMoves.j0 : Nat → Int → Int → Int → Option (Bool)
  | 0, _, _, _ => none
  | k + 1, x7, x8, x9 => (scaled_Rescale.f k x9 x7 x8).bind fun bt322 => ((mintagelaw12_num.f bt322.2).bind fun t324 => (if t324 = 0 then ((scaled_Rescale.f k bt322.1 x8 x7).bind fun bt325 => ((scaled_Rescale.f k x9 x7 (wrap64 (Int.tdiv (wrap64 (x7 + x8)) 2))).bind fun bt327 => ((scaled_Rescale.f k bt327.1 (wrap64 (Int.tdiv (wrap64 (x7 + x8)) 2)) x8).bind fun bt329 => ((mintagelaw12_num.f bt325.2).bind fun t331 => (if t331 = 0 then (if bt325.1 = x9 then ((mintagelaw12_num.f bt327.2).bind fun t332 => (if t332 = 0 then ((mintagelaw12_num.f bt329.2).bind fun t333 => (if t333 = 0 then (if bt329.1 = bt322.1 then (mintagelaw12_ScaledMoves.j1 k x7 x8 x9) else (some false)) else (some false))) else (some false))) else (some false)) else (some false)))))) else ((mintagelaw12_num.f bt322.2).bind fun t334 => (if t334 = 123 then (if x7 = x8 then (some false) else (mintagelaw12_ScaledMoves.j1 k x7 x8 x9)) else (some false)))))
def mintagelaw12_ScaledMoves.j1 : Nat → Int → Int → Int → Option (Bool)
  | 0, _, _, _ => none
  | k + 1, x7, x8, x9 => (scaled_Rescale.f k x9 x8 x7).bind fun bt335 => ((mintagelaw12_num.f bt335.2).bind fun t337 => (if t337 = 0 then (mintagelaw12_ScaledMoves.l0 k x8 bt335.1 (wrap64 (x9)) 1 x7) else (some false)))
def mintagelaw12_ScaledMoves.l0 : Nat → Int → Int → Int → Int → Int → Option (Bool)
  | 0, _, _, _, _, _ => none
  | k + 1, x8, x19, x21, x22, x23 => if x23 < x8 then (mintagelaw12_ScaledMoves.l0 k x8 x19 x21 (wrap64 (10 * x22)) (wrap64 (x23 + 1))) else (if (wrap64 (x21 - (wrap64 ((wrap64 (x19)) * x22)))) < 0 then (if (wrap64 (2 * (wrap64 (-(wrap64 (x21 - (wrap64 ((wrap64 (x19)) * x22)))))))) ≤ x22 then ((mintagelaw12_wakes.f).bind fun t338 => (some t338)) else (some false)) else (if (wrap64 (2 * (wrap64 (x21 - (wrap64 ((wrap64 (x19)) * x22)))))) ≤ x22 then ((mintagelaw12_wakes.f).bind fun t339 => (some t339)) else (some false)))
end
def mintagelaw12_ScaledMoves.f (k : Nat) (a0 : Int) (a1 : Int) (a2 : Int) : Option (Bool) := (mintagekeep_Within.f a0 0 18).bind fun t319 => ((mintagekeep_Within.f a1 0 18).bind fun t320 => ((mintagelaw12_value.f a2).bind fun t321 => (if t320 < t319 then (mintagelaw12_ScaledMoves.j0 k t320 t319 t321) else (mintagelaw12_ScaledMoves.j0 k t319 t320 t321))))
theorem mintagelaw12_ScaledMoves.mono_l : ∀ k, (∀ y0 y1 y2, LeO (mintagelaw12_ScaledMoves.j0 k y0 y1 y2) (mintagelaw12_ScaledMoves.j0 (k + 1) y0 y1 y2)) ∧ (∀ y0 y1 y2, LeO (mintagelaw12_ScaledMoves.j1 k y0 y1 y2) (mintagelaw12_ScaledMoves.j1 (k + 1) y0 y1 y2)) ∧ (∀ y0 y1 y2 y3 y4, LeO (mintagelaw12_ScaledMoves.l0 k y0 y1 y2 y3 y4) (mintagelaw12_ScaledMoves.l0 (k + 1) y0 y1 y2 y3 y4))
  | 0 => ⟨fun _ _ _ r h => by simp [mintagelaw12_ScaledMoves.j0] at h, fun _ _ _ r h => by simp [mintagelaw12_ScaledMoves.j1] at h, fun _ _ _ _ _ r h => by simp [mintagelaw12_ScaledMoves.l0] at h⟩
  | k + 1 => by
    obtain ⟨ih0, ih1, ih2⟩ := mintagelaw12_ScaledMoves.mono_l k
    refine ⟨?_, ?_, ?_⟩
    · intro y0 y1 y2
      unfold mintagelaw12_ScaledMoves.j0
      repeat' first
      | (with_reducible exact ih0 _ _ _)
      | (with_reducible exact ih1 _ _ _)
      | (with_reducible exact ih2 _ _ _ _ _)
      | (with_reducible exact scaled_Rescale.mono _ _ _ _)
      | (with_reducible exact LeO.refl _)
      | (with_reducible exact LeO.none _)
      | (with_reducible refine LeO.ite ?_ ?_)
      | (with_reducible refine LeO.bind ?_ (fun _ => ?_))
      | exact ih0 _ _ _
      | exact ih1 _ _ _
      | exact ih2 _ _ _ _ _
      | exact scaled_Rescale.mono _ _ _ _
      | exact LeO.none _
      | refine LeO.ite ?_ ?_
      | refine LeO.bind ?_ (fun _ => ?_)
    · intro y0 y1 y2
      unfold mintagelaw12_ScaledMoves.j1
      repeat' first
      | (with_reducible exact ih0 _ _ _)
      | (with_reducible exact ih1 _ _ _)
      | (with_reducible exact ih2 _ _ _ _ _)
      | (with_reducible exact scaled_Rescale.mono _ _ _ _)
      | (with_reducible exact LeO.refl _)
      | (with_reducible exact LeO.none _)
      | (with_reducible refine LeO.ite ?_ ?_)
      | (with_reducible refine LeO.bind ?_ (fun _ => ?_))
      | exact ih0 _ _ _
      | exact ih1 _ _ _
      | exact ih2 _ _ _ _ _
      | exact scaled_Rescale.mono _ _ _ _
      | exact LeO.none _
      | refine LeO.ite ?_ ?_
      | refine LeO.bind ?_ (fun _ => ?_)
    · intro y0 y1 y2 y3 y4
      unfold mintagelaw12_ScaledMoves.l0
      repeat' first
      | (with_reducible exact ih0 _ _ _)
      | (with_reducible exact ih1 _ _ _)
      | (with_reducible exact ih2 _ _ _ _ _)
      | (with_reducible exact scaled_Rescale.mono _ _ _ _)
      | (with_reducible exact LeO.refl _)
      | (with_reducible exact LeO.none _)
      | (with_reducible refine LeO.ite ?_ ?_)
      | (with_reducible refine LeO.bind ?_ (fun _ => ?_))
      | exact ih0 _ _ _
      | exact ih1 _ _ _
      | exact ih2 _ _ _ _ _
      | exact scaled_Rescale.mono _ _ _ _
      | exact LeO.none _
      | refine LeO.ite ?_ ?_
      | refine LeO.bind ?_ (fun _ => ?_)
theorem mintagelaw12_ScaledMoves.mono : ∀ a0 a1 a2 k, LeO (mintagelaw12_ScaledMoves.f k a0 a1 a2) (mintagelaw12_ScaledMoves.f (k + 1) a0 a1 a2) := by
  intro a0 a1 a2 k
  obtain ⟨ih0, ih1, ih2⟩ := mintagelaw12_ScaledMoves.mono_l k
  unfold mintagelaw12_ScaledMoves.f
  repeat' first
      | (with_reducible exact ih0 _ _ _)
      | (with_reducible exact ih1 _ _ _)
      | (with_reducible exact ih2 _ _ _ _ _)
      | (with_reducible exact scaled_Rescale.mono _ _ _ _)
      | (with_reducible exact LeO.refl _)
      | (with_reducible exact LeO.none _)
      | (with_reducible refine LeO.ite ?_ ?_)
      | (with_reducible refine LeO.bind ?_ (fun _ => ?_))
      | exact ih0 _ _ _
      | exact ih1 _ _ _
      | exact ih2 _ _ _ _ _
      | exact scaled_Rescale.mono _ _ _ _
      | exact LeO.none _
      | refine LeO.ite ?_ ?_
      | refine LeO.bind ?_ (fun _ => ?_)
set_option maxHeartbeats 8000000 in
set_option maxRecDepth 100000 in
theorem mintagelaw12_ScaledMoves.calls (k : Nat) (a0 : Int) (a1 : Int) (a2 : Int) (r : Bool) (w : World) (h : mintagelaw12_ScaledMoves.f k a0 a1 a2 = some r) (hT : r = true) :
    Calls Try.prog 7 #[.int .i64 a0, .int .i64 a1, .int .u64 a2] w fun e w' => e = .returned (.bool r) ∧ Below w.heap.size w w' := by
  have HT := Aside0.mk hT
  clear hT
  have HB := Aside0.mk (Below.refl w.heap.size w)
  have H : ((mintagekeep_Within.f a0 0 18).bind fun t319 => ((mintagekeep_Within.f a1 0 18).bind fun t320 => ((mintagelaw12_value.f a2).bind fun t321 => (if t320 < t319 then (mintagelaw12_ScaledMoves.j0 k t320 t319 t321) else (mintagelaw12_ScaledMoves.j0 k t319 t320 t321))))) = some r := h
  clear h
  replace H := Option.bind_eq_some_iff.mp H
  obtain ⟨t319, A40, H⟩ := H
  replace H : ((mintagekeep_Within.f a1 0 18).bind fun t320 => ((mintagelaw12_value.f a2).bind fun t321 => (if t320 < t319 then (mintagelaw12_ScaledMoves.j0 k t320 t319 t321) else (mintagelaw12_ScaledMoves.j0 k t319 t320 t321)))) = some r := H
  have A4 := Aside0.mk A40
  clear A40
  replace H := Option.bind_eq_some_iff.mp H
  obtain ⟨t320, A50, H⟩ := H
  replace H : ((mintagelaw12_value.f a2).bind fun t321 => (if t320 < t319 then (mintagelaw12_ScaledMoves.j0 k t320 t319 t321) else (mintagelaw12_ScaledMoves.j0 k t319 t320 t321))) = some r := H
  have A5 := Aside0.mk A50
  clear A50
  replace H := Option.bind_eq_some_iff.mp H
  obtain ⟨t321, A60, H⟩ := H
  replace H : (if t320 < t319 then (mintagelaw12_ScaledMoves.j0 k t320 t319 t321) else (mintagelaw12_ScaledMoves.j0 k t319 t320 t321)) = some r := H
  have A6 := Aside0.mk A60
  clear A60
  have HC7 := Aside0.mk H
  clear H
  go_enter Try.func7, Try.ntmps7
  go_upto_if 32 with (first | ((with_reducible refine gate_callee (f := 17) rfl ?_); refine goesL_ (some 25) rfl rfl Try.func17 (by kernel_rfl) rfl #[.int .i64 a0, .int .i64 0, .int .i64 18] rfl (by (try simp only [List.map_toArray, List.map_cons, List.map_nil]); first | done | rfl | (simp only [List.length_drop, List.length_take]; rfl)) ?_; (with_reducible refine (mintagekeep_Within.calls a0 0 18 t319 _ A4.out).mono ?_); rintro e w' ⟨rfl, ⟨nd, rfl⟩⟩; refine ⟨_, rfl, ?_⟩) | ((with_reducible refine gate_callee (f := 17) rfl ?_); refine goesL_ (some 27) rfl rfl Try.func17 (by kernel_rfl) rfl #[.int .i64 a1, .int .i64 0, .int .i64 18] rfl (by (try simp only [List.map_toArray, List.map_cons, List.map_nil]); first | done | rfl | (simp only [List.length_drop, List.length_take]; rfl)) ?_; (with_reducible refine (mintagekeep_Within.calls a1 0 18 t320 _ A5.out).mono ?_); rintro e w' ⟨rfl, ⟨nd, rfl⟩⟩; refine ⟨_, rfl, ?_⟩) | ((with_reducible refine gate_callee (f := 18) rfl ?_); refine goesL_ (some 29) rfl rfl Try.func18 (by kernel_rfl) rfl #[.int .u64 a2] rfl (by (try simp only [List.map_toArray, List.map_cons, List.map_nil]); first | done | rfl | (simp only [List.length_drop, List.length_take]; rfl)) ?_; (with_reducible refine (mintagelaw12_value.calls a2 t321 _ A6.out).mono ?_); rintro e w' ⟨rfl, ⟨nd, rfl⟩⟩; refine ⟨_, rfl, ?_⟩))
  (try simp only [Act.put, List.setIfInBounds_toArray, List.set_cons_zero, List.set_cons_succ])
  go_cut [7, 8] (fun v7 v8 wc => ∃ (kq : Nat) (x7_6 : Int) (x8_6 : Int), v7 = .int .i64 x7_6 ∧ v8 = .int .i64 x8_6 ∧ Aside0 (mintagelaw12_ScaledMoves.j0 kq x7_6 x8_6 t321 = some r) ∧ Aside0 (kq ≤ k) ∧ Aside0 (Below w.heap.size w wc))
  case first =>
    have H := HC7.out
    clear HC7
    by_cases c8 : t320 < t319
    · rw [if_pos c8] at H
      have c8b0 : decide (t320 < t319) = true := decide_eq_true c8
      clear c8
      (first | rw [c8b0] | (simp only [i64_w, i32_w]; rw [c8b0]) | skip)
      have H' := Aside0.mk H
      clear H
      go_wp2
      go_meet
      case rel => exact ⟨_, (t320), (t319), (by first | rfl | (simp; done) | (simp [*]; done)), (by first | rfl | (simp; done) | (simp [*]; done)), H', ⟨by first | omega | exact Nat.le_refl _⟩, ⟨by repeat (first | (with_reducible first | exact HB.out | apply below_alloc | apply pw_below_drewN | apply below_drew1) | exact HB.out)⟩⟩
    · rw [if_neg c8] at H
      have c8b0 : decide (t320 < t319) = false := decide_eq_false c8
      clear c8
      (first | rw [c8b0] | (simp only [i64_w, i32_w]; rw [c8b0]) | skip)
      have H' := Aside0.mk H
      clear H
      go_wp2
      go_meet
      case rel => exact ⟨_, (t319), (t320), (by first | rfl | (simp; done) | (simp [*]; done)), (by first | rfl | (simp; done) | (simp [*]; done)), H', ⟨by first | omega | exact Nat.le_refl _⟩, ⟨by repeat (first | (with_reducible first | exact HB.out | apply below_alloc | apply pw_below_drewN | apply below_drew1) | exact HB.out)⟩⟩
  case rest =>
    clear HC7
    try clear c1
    try clear p2
    try clear c7
    try clear c8
    try clear c8b0
    obtain ⟨kq, x7_6, x8_6, rfl, rfl, HA, HJ6, HB⟩ := hcut
    cases kq with
    | zero => exact absurd HA.out (by simp [mintagelaw12_ScaledMoves.j0])
    | succ kj6 =>
      have H := HA.out
      clear HA
      simp only [mintagelaw12_ScaledMoves.j0] at H
      replace H := Option.bind_eq_some_iff.mp H
      obtain ⟨⟨t322, t323⟩, A90, H⟩ := H
      replace H : ((mintagelaw12_num.f t323).bind fun t324 => (if t324 = 0 then ((scaled_Rescale.f kj6 t322 x8_6 x7_6).bind fun bt325 => ((scaled_Rescale.f kj6 t321 x7_6 (wrap64 (Int.tdiv (wrap64 (x7_6 + x8_6)) 2))).bind fun bt327 => ((scaled_Rescale.f kj6 bt327.1 (wrap64 (Int.tdiv (wrap64 (x7_6 + x8_6)) 2)) x8_6).bind fun bt329 => ((mintagelaw12_num.f bt325.2).bind fun t331 => (if t331 = 0 then (if bt325.1 = t321 then ((mintagelaw12_num.f bt327.2).bind fun t332 => (if t332 = 0 then ((mintagelaw12_num.f bt329.2).bind fun t333 => (if t333 = 0 then (if bt329.1 = t322 then (mintagelaw12_ScaledMoves.j1 kj6 x7_6 x8_6 t321) else (some false)) else (some false))) else (some false))) else (some false)) else (some false)))))) else ((mintagelaw12_num.f t323).bind fun t334 => (if t334 = 123 then (if x7_6 = x8_6 then (some false) else (mintagelaw12_ScaledMoves.j1 kj6 x7_6 x8_6 t321)) else (some false))))) = some r := H
      have A9 := Aside0.mk A90
      clear A90
      replace H := Option.bind_eq_some_iff.mp H
      obtain ⟨t324, A100, H⟩ := H
      replace H : (if t324 = 0 then ((scaled_Rescale.f kj6 t322 x8_6 x7_6).bind fun bt325 => ((scaled_Rescale.f kj6 t321 x7_6 (wrap64 (Int.tdiv (wrap64 (x7_6 + x8_6)) 2))).bind fun bt327 => ((scaled_Rescale.f kj6 bt327.1 (wrap64 (Int.tdiv (wrap64 (x7_6 + x8_6)) 2)) x8_6).bind fun bt329 => ((mintagelaw12_num.f bt325.2).bind fun t331 => (if t331 = 0 then (if bt325.1 = t321 then ((mintagelaw12_num.f bt327.2).bind fun t332 => (if t332 = 0 then ((mintagelaw12_num.f bt329.2).bind fun t333 => (if t333 = 0 then (if bt329.1 = t322 then (mintagelaw12_ScaledMoves.j1 kj6 x7_6 x8_6 t321) else (some false)) else (some false))) else (some false))) else (some false)) else (some false)))))) else ((mintagelaw12_num.f t323).bind fun t334 => (if t334 = 123 then (if x7_6 = x8_6 then (some false) else (mintagelaw12_ScaledMoves.j1 kj6 x7_6 x8_6 t321)) else (some false)))) = some r := H
      have A10 := Aside0.mk A100
      clear A100
      have HC11 := Aside0.mk H
      clear H
      go_upto_if 44 with (first | ((with_reducible refine gate_callee (f := 21) rfl ?_); refine goesL_ (some 39) rfl rfl Try.func21 (by kernel_rfl) rfl #[.int .u64 t321, .int .i64 x7_6, .int .i64 x8_6] rfl (by (try simp only [List.map_toArray, List.map_cons, List.map_nil]); first | done | rfl | (simp only [List.length_drop, List.length_take]; rfl)) ?_; (with_reducible refine (scaled_Rescale.calls kj6 t321 x7_6 x8_6 t322 t323 _ A9.out).mono ?_); rintro e w12 ⟨rfl, hb⟩; refine ⟨_, rfl, ?_⟩; have n0_ := Aside0.mk (below_step (by repeat (first | (with_reducible first | exact HB.out | apply below_alloc | apply pw_below_drewN | apply below_drew1) | exact HB.out)) hb); clear HB; have HB := n0_; clear n0_; (try clear hb); (try clear hb2); (try clear hk); (try clear hi)) | ((with_reducible refine gate_callee (f := 14) rfl ?_); refine goesL_ (some 43) rfl rfl Try.func14 (by kernel_rfl) rfl #[.int .i64 t323] rfl (by (try simp only [List.map_toArray, List.map_cons, List.map_nil]); first | done | rfl | (simp only [List.length_drop, List.length_take]; rfl)) ?_; (with_reducible refine (mintagelaw12_num.calls t323 t324 _ A10.out).mono ?_); rintro e w' ⟨rfl, ⟨nd, rfl⟩⟩; refine ⟨_, rfl, ?_⟩))
      (try simp only [Act.put, List.setIfInBounds_toArray, List.set_cons_zero, List.set_cons_succ])
      go_cut [] (fun wc => ∃ (kq : Nat), Aside0 (mintagelaw12_ScaledMoves.j1 kq x7_6 x8_6 t321 = some r) ∧ Aside0 (kq ≤ kj6) ∧ Aside0 (Below w.heap.size w wc))
      case first =>
        have H := HC11.out
        clear HC11
        by_cases c13 : t324 = 0
        · rw [if_pos c13] at H
          have c13b0 : (t324 == 0) = true := beq_iff_eq.mpr c13
          have c13b1 : (t324 != 0) = false := bne_eq_false_iff_eq.mpr c13
          clear c13
          (first | rw [c13b0] | (simp only [i64_w, i32_w]; rw [c13b0]) | skip)
          replace H := Option.bind_eq_some_iff.mp H
          obtain ⟨⟨t325, t326⟩, A140, H⟩ := H
          replace H : ((scaled_Rescale.f kj6 t321 x7_6 (wrap64 (Int.tdiv (wrap64 (x7_6 + x8_6)) 2))).bind fun bt327 => ((scaled_Rescale.f kj6 bt327.1 (wrap64 (Int.tdiv (wrap64 (x7_6 + x8_6)) 2)) x8_6).bind fun bt329 => ((mintagelaw12_num.f t326).bind fun t331 => (if t331 = 0 then (if t325 = t321 then ((mintagelaw12_num.f bt327.2).bind fun t332 => (if t332 = 0 then ((mintagelaw12_num.f bt329.2).bind fun t333 => (if t333 = 0 then (if bt329.1 = t322 then (mintagelaw12_ScaledMoves.j1 kj6 x7_6 x8_6 t321) else (some false)) else (some false))) else (some false))) else (some false)) else (some false))))) = some r := H
          have A14 := Aside0.mk A140
          clear A140
          replace H := Option.bind_eq_some_iff.mp H
          obtain ⟨⟨t327, t328⟩, A150, H⟩ := H
          replace H : ((scaled_Rescale.f kj6 t327 (wrap64 (Int.tdiv (wrap64 (x7_6 + x8_6)) 2)) x8_6).bind fun bt329 => ((mintagelaw12_num.f t326).bind fun t331 => (if t331 = 0 then (if t325 = t321 then ((mintagelaw12_num.f t328).bind fun t332 => (if t332 = 0 then ((mintagelaw12_num.f bt329.2).bind fun t333 => (if t333 = 0 then (if bt329.1 = t322 then (mintagelaw12_ScaledMoves.j1 kj6 x7_6 x8_6 t321) else (some false)) else (some false))) else (some false))) else (some false)) else (some false)))) = some r := H
          have A15 := Aside0.mk A150
          clear A150
          replace H := Option.bind_eq_some_iff.mp H
          obtain ⟨⟨t329, t330⟩, A160, H⟩ := H
          replace H : ((mintagelaw12_num.f t326).bind fun t331 => (if t331 = 0 then (if t325 = t321 then ((mintagelaw12_num.f t328).bind fun t332 => (if t332 = 0 then ((mintagelaw12_num.f t330).bind fun t333 => (if t333 = 0 then (if t329 = t322 then (mintagelaw12_ScaledMoves.j1 kj6 x7_6 x8_6 t321) else (some false)) else (some false))) else (some false))) else (some false)) else (some false))) = some r := H
          have A16 := Aside0.mk A160
          clear A160
          replace H := Option.bind_eq_some_iff.mp H
          obtain ⟨t331, A170, H⟩ := H
          replace H : (if t331 = 0 then (if t325 = t321 then ((mintagelaw12_num.f t328).bind fun t332 => (if t332 = 0 then ((mintagelaw12_num.f t330).bind fun t333 => (if t333 = 0 then (if t329 = t322 then (mintagelaw12_ScaledMoves.j1 kj6 x7_6 x8_6 t321) else (some false)) else (some false))) else (some false))) else (some false)) else (some false)) = some r := H
          have A17 := Aside0.mk A170
          clear A170
          by_cases c18 : t331 = 0
          · rw [if_pos c18] at H
            have c18b0 : (t331 == 0) = true := beq_iff_eq.mpr c18
            have c18b1 : (t331 != 0) = false := bne_eq_false_iff_eq.mpr c18
            clear c18
            by_cases c19 : t325 = t321
            · rw [if_pos c19] at H
              have c19b0 : (t325 == t321) = true := beq_iff_eq.mpr c19
              have c19b1 : (t325 != t321) = false := bne_eq_false_iff_eq.mpr c19
              clear c19
              replace H := Option.bind_eq_some_iff.mp H
              obtain ⟨t332, A200, H⟩ := H
              replace H : (if t332 = 0 then ((mintagelaw12_num.f t330).bind fun t333 => (if t333 = 0 then (if t329 = t322 then (mintagelaw12_ScaledMoves.j1 kj6 x7_6 x8_6 t321) else (some false)) else (some false))) else (some false)) = some r := H
              have A20 := Aside0.mk A200
              clear A200
              by_cases c21 : t332 = 0
              · rw [if_pos c21] at H
                have c21b0 : (t332 == 0) = true := beq_iff_eq.mpr c21
                have c21b1 : (t332 != 0) = false := bne_eq_false_iff_eq.mpr c21
                clear c21
                replace H := Option.bind_eq_some_iff.mp H
                obtain ⟨t333, A220, H⟩ := H
                replace H : (if t333 = 0 then (if t329 = t322 then (mintagelaw12_ScaledMoves.j1 kj6 x7_6 x8_6 t321) else (some false)) else (some false)) = some r := H
                have A22 := Aside0.mk A220
                clear A220
                by_cases c23 : t333 = 0
                · rw [if_pos c23] at H
                  have c23b0 : (t333 == 0) = true := beq_iff_eq.mpr c23
                  have c23b1 : (t333 != 0) = false := bne_eq_false_iff_eq.mpr c23
                  clear c23
                  by_cases c24 : t329 = t322
                  · rw [if_pos c24] at H
                    have c24b0 : (t329 == t322) = true := beq_iff_eq.mpr c24
                    have c24b1 : (t329 != t322) = false := bne_eq_false_iff_eq.mpr c24
                    clear c24
                    have H' := Aside0.mk H
                    clear H
                    go_wp2_with (first | ((with_reducible refine gate_callee (f := 21) rfl ?_); refine goesL_ (some 49) rfl rfl Try.func21 (by kernel_rfl) rfl #[.int .u64 t322, .int .i64 x8_6, .int .i64 x7_6] rfl (by (try simp only [List.map_toArray, List.map_cons, List.map_nil]); first | done | rfl | (simp only [List.length_drop, List.length_take]; rfl)) ?_; (with_reducible refine (scaled_Rescale.calls kj6 t322 x8_6 x7_6 t325 t326 _ A14.out).mono ?_); rintro e w25 ⟨rfl, hb⟩; refine ⟨_, rfl, ?_⟩; have n0_ := Aside0.mk (below_step (by repeat (first | (with_reducible first | exact HB.out | apply below_alloc | apply pw_below_drewN | apply below_drew1) | exact HB.out)) hb); clear HB; have HB := n0_; clear n0_; (try clear hb); (try clear hb2); (try clear hk); (try clear hi)) | ((with_reducible refine gate_callee (f := 21) rfl ?_); refine goesL_ (some 60) rfl rfl Try.func21 (by kernel_rfl) rfl #[.int .u64 t321, .int .i64 x7_6, .int .i64 (wrap64 (Int.tdiv (wrap64 (x7_6 + x8_6)) 2))] rfl (by (try simp only [List.map_toArray, List.map_cons, List.map_nil]); first | done | rfl | (simp only [List.length_drop, List.length_take]; rfl)) ?_; (with_reducible refine (scaled_Rescale.calls kj6 t321 x7_6 (wrap64 (Int.tdiv (wrap64 (x7_6 + x8_6)) 2)) t327 t328 _ A15.out).mono ?_); rintro e w26 ⟨rfl, hb⟩; refine ⟨_, rfl, ?_⟩; have n0_ := Aside0.mk (below_step (by repeat (first | (with_reducible first | exact HB.out | apply below_alloc | apply pw_below_drewN | apply below_drew1) | exact HB.out)) hb); clear HB; have HB := n0_; clear n0_; (try clear hb); (try clear hb2); (try clear hk); (try clear hi)) | ((with_reducible refine gate_callee (f := 21) rfl ?_); refine goesL_ (some 67) rfl rfl Try.func21 (by kernel_rfl) rfl #[.int .u64 t327, .int .i64 (wrap64 (Int.tdiv (wrap64 (x7_6 + x8_6)) 2)), .int .i64 x8_6] rfl (by (try simp only [List.map_toArray, List.map_cons, List.map_nil]); first | done | rfl | (simp only [List.length_drop, List.length_take]; rfl)) ?_; (with_reducible refine (scaled_Rescale.calls kj6 t327 (wrap64 (Int.tdiv (wrap64 (x7_6 + x8_6)) 2)) x8_6 t329 t330 _ A16.out).mono ?_); rintro e w27 ⟨rfl, hb⟩; refine ⟨_, rfl, ?_⟩; have n0_ := Aside0.mk (below_step (by repeat (first | (with_reducible first | exact HB.out | apply below_alloc | apply pw_below_drewN | apply below_drew1) | exact HB.out)) hb); clear HB; have HB := n0_; clear n0_; (try clear hb); (try clear hb2); (try clear hk); (try clear hi)) | ((with_reducible refine gate_callee (f := 14) rfl ?_); refine goesL_ (some 71) rfl rfl Try.func14 (by kernel_rfl) rfl #[.int .i64 t326] rfl (by (try simp only [List.map_toArray, List.map_cons, List.map_nil]); first | done | rfl | (simp only [List.length_drop, List.length_take]; rfl)) ?_; (with_reducible refine (mintagelaw12_num.calls t326 t331 _ A17.out).mono ?_); rintro e w' ⟨rfl, ⟨nd, rfl⟩⟩; refine ⟨_, rfl, ?_⟩) | (go_at_call 14; (with_reducible refine (mintagelaw12_num.calls t328 t332 _ A20.out).mono ?_); rintro e w' ⟨rfl, ⟨nd, rfl⟩⟩) | (go_at_call 14; (with_reducible refine (mintagelaw12_num.calls t330 t333 _ A22.out).mono ?_); rintro e w' ⟨rfl, ⟨nd, rfl⟩⟩))
                    go_meet
                    case rel => exact ⟨_, H', ⟨by have := HJ6.out; first | omega | exact Nat.le_refl _⟩, ⟨by repeat (first | (with_reducible first | exact HB.out | apply below_alloc | apply pw_below_drewN | apply below_drew1) | exact HB.out)⟩⟩
                  · rw [if_neg c24] at H
                    have c24b0 : (t329 == t322) = false := beq_eq_false_iff_ne.mpr c24
                    have c24b1 : (t329 != t322) = true := bne_iff_ne.mpr c24
                    exact absurd ((Option.some.inj H).trans HT.out) (by decide)
                · rw [if_neg c23] at H
                  have c23b0 : (t333 == 0) = false := beq_eq_false_iff_ne.mpr c23
                  have c23b1 : (t333 != 0) = true := bne_iff_ne.mpr c23
                  exact absurd ((Option.some.inj H).trans HT.out) (by decide)
              · rw [if_neg c21] at H
                have c21b0 : (t332 == 0) = false := beq_eq_false_iff_ne.mpr c21
                have c21b1 : (t332 != 0) = true := bne_iff_ne.mpr c21
                exact absurd ((Option.some.inj H).trans HT.out) (by decide)
            · rw [if_neg c19] at H
              have c19b0 : (t325 == t321) = false := beq_eq_false_iff_ne.mpr c19
              have c19b1 : (t325 != t321) = true := bne_iff_ne.mpr c19
              exact absurd ((Option.some.inj H).trans HT.out) (by decide)
          · rw [if_neg c18] at H
            have c18b0 : (t331 == 0) = false := beq_eq_false_iff_ne.mpr c18
            have c18b1 : (t331 != 0) = true := bne_iff_ne.mpr c18
            exact absurd ((Option.some.inj H).trans HT.out) (by decide)
        · rw [if_neg c13] at H
          have c13b0 : (t324 == 0) = false := beq_eq_false_iff_ne.mpr c13
          have c13b1 : (t324 != 0) = true := bne_iff_ne.mpr c13
          (first | rw [c13b0] | (simp only [i64_w, i32_w]; rw [c13b0]) | skip)
          replace H := Option.bind_eq_some_iff.mp H
          obtain ⟨t334, A280, H⟩ := H
          replace H : (if t334 = 123 then (if x7_6 = x8_6 then (some false) else (mintagelaw12_ScaledMoves.j1 kj6 x7_6 x8_6 t321)) else (some false)) = some r := H
          have A28 := Aside0.mk A280
          clear A280
          by_cases c29 : t334 = 123
          · rw [if_pos c29] at H
            have c29b0 : (t334 == 123) = true := beq_iff_eq.mpr c29
            have c29b1 : (t334 != 123) = false := bne_eq_false_iff_eq.mpr c29
            clear c29
            by_cases c30 : x7_6 = x8_6
            · rw [if_pos c30] at H
              have c30b0 : (x7_6 == x8_6) = true := beq_iff_eq.mpr c30
              have c30b1 : (x7_6 != x8_6) = false := bne_eq_false_iff_eq.mpr c30
              clear c30
              exact absurd ((Option.some.inj H).trans HT.out) (by decide)
            · rw [if_neg c30] at H
              have c30b0 : (x7_6 == x8_6) = false := beq_eq_false_iff_ne.mpr c30
              have c30b1 : (x7_6 != x8_6) = true := bne_iff_ne.mpr c30
              have H' := Aside0.mk H
              clear H
              go_wp2_with (first | ((with_reducible refine gate_callee (f := 14) rfl ?_); refine goesL_ (some 94) rfl rfl Try.func14 (by kernel_rfl) rfl #[.int .i64 t323] rfl (by (try simp only [List.map_toArray, List.map_cons, List.map_nil]); first | done | rfl | (simp only [List.length_drop, List.length_take]; rfl)) ?_; (with_reducible refine (mintagelaw12_num.calls t323 t334 _ A28.out).mono ?_); rintro e w' ⟨rfl, ⟨nd, rfl⟩⟩; refine ⟨_, rfl, ?_⟩))
              go_meet
              case rel => exact ⟨_, H', ⟨by have := HJ6.out; first | omega | exact Nat.le_refl _⟩, ⟨by repeat (first | (with_reducible first | exact HB.out | apply below_alloc | apply pw_below_drewN | apply below_drew1) | exact HB.out)⟩⟩
          · rw [if_neg c29] at H
            have c29b0 : (t334 == 123) = false := beq_eq_false_iff_ne.mpr c29
            have c29b1 : (t334 != 123) = true := bne_iff_ne.mpr c29
            exact absurd ((Option.some.inj H).trans HT.out) (by decide)
      case rest =>
        clear HC11
        try clear c1
        try clear c2
        try clear p2
        try clear c3
        try clear p6
        try clear c7
        try clear c8
        try clear c8b0
        try clear c13
        try clear c13b0
        try clear c13b1
        try clear c14
        try clear c17
        try clear c18
        try clear c18b0
        try clear c18b1
        try clear c19
        try clear c19b0
        try clear c19b1
        try clear c21
        try clear c21b0
        try clear c21b1
        try clear c23
        try clear c23b0
        try clear c23b1
        try clear c24
        try clear c24b0
        try clear c24b1
        try clear c29
        try clear c29b0
        try clear c29b1
        try clear c30
        try clear c30b0
        try clear c30b1
        try clear p2
        obtain ⟨kq, HA, HJ10, HB⟩ := hcut
        cases kq with
        | zero => exact absurd HA.out (by simp [mintagelaw12_ScaledMoves.j1])
        | succ kj10 =>
          have H := HA.out
          clear HA
          simp only [mintagelaw12_ScaledMoves.j1] at H
          replace H := Option.bind_eq_some_iff.mp H
          obtain ⟨⟨t335, t336⟩, A310, H⟩ := H
          replace H : ((mintagelaw12_num.f t336).bind fun t337 => (if t337 = 0 then (mintagelaw12_ScaledMoves.l0 kj10 x8_6 t335 (wrap64 (t321)) 1 x7_6) else (some false))) = some r := H
          have A31 := Aside0.mk A310
          clear A310
          replace H := Option.bind_eq_some_iff.mp H
          obtain ⟨t337, A320, H⟩ := H
          replace H : (if t337 = 0 then (mintagelaw12_ScaledMoves.l0 kj10 x8_6 t335 (wrap64 (t321)) 1 x7_6) else (some false)) = some r := H
          have A32 := Aside0.mk A320
          clear A320
          by_cases c33 : t337 = 0
          · rw [if_pos c33] at H
            have c33b0 : (t337 == 0) = true := beq_iff_eq.mpr c33
            have c33b1 : (t337 != 0) = false := bne_eq_false_iff_eq.mpr c33
            clear c33
            have H' := Aside0.mk H
            clear H
            go_wp2_with (first | ((with_reducible refine gate_callee (f := 21) rfl ?_); refine goesL_ (some 105) rfl rfl Try.func21 (by kernel_rfl) rfl #[.int .u64 t321, .int .i64 x8_6, .int .i64 x7_6] rfl (by (try simp only [List.map_toArray, List.map_cons, List.map_nil]); first | done | rfl | (simp only [List.length_drop, List.length_take]; rfl)) ?_; (with_reducible refine (scaled_Rescale.calls kj10 t321 x8_6 x7_6 t335 t336 _ A31.out).mono ?_); rintro e w34 ⟨rfl, hb⟩; refine ⟨_, rfl, ?_⟩; have n0_ := Aside0.mk (below_step (by repeat (first | (with_reducible first | exact HB.out | apply below_alloc | apply pw_below_drewN | apply below_drew1) | exact HB.out)) hb); clear HB; have HB := n0_; clear n0_; (try clear hb); (try clear hb2); (try clear hk); (try clear hi)) | ((with_reducible refine gate_callee (f := 14) rfl ?_); refine goesL_ (some 109) rfl rfl Try.func14 (by kernel_rfl) rfl #[.int .i64 t336] rfl (by (try simp only [List.map_toArray, List.map_cons, List.map_nil]); first | done | rfl | (simp only [List.length_drop, List.length_take]; rfl)) ?_; (with_reducible refine (mintagelaw12_num.calls t336 t337 _ A32.out).mono ?_); rintro e w' ⟨rfl, ⟨nd, rfl⟩⟩; refine ⟨_, rfl, ?_⟩))
            go_loopg [22, 23] kj10 (fun kq v22 v23 w' => ∃ (x22_3 : Int) (x23_3 : Int), v22 = .int .i64 x22_3 ∧ v23 = .int .i64 x23_3 ∧ Aside0 (mintagelaw12_ScaledMoves.l0 kq x8_6 t335 (wrap64 (t321)) x22_3 x23_3 = some r) ∧ Aside0 (kq ≤ kj10) ∧ Aside0 (Below w.heap.size w w'))
            case atStart => exact ⟨(1), (x7_6), (by first | rfl | (simp; done) | (simp [*]; done)), (by first | rfl | (simp; done) | (simp [*]; done)), H', ⟨Nat.le_refl _⟩, ⟨by repeat (first | (with_reducible first | exact HB.out | apply below_alloc | apply pw_below_drewN | apply below_drew1) | exact HB.out)⟩⟩
            case round =>
              clear H'
              try clear c1
              try clear c2
              try clear p2
              try clear c3
              try clear p6
              try clear c7
              try clear c8
              try clear c8b0
              try clear c13
              try clear c13b0
              try clear c13b1
              try clear c14
              try clear c17
              try clear c18
              try clear c18b0
              try clear c18b1
              try clear c19
              try clear c19b0
              try clear c19b1
              try clear c21
              try clear c21b0
              try clear c21b1
              try clear c23
              try clear c23b0
              try clear c23b1
              try clear c24
              try clear c24b0
              try clear c24b1
              try clear c29
              try clear c29b0
              try clear c29b1
              try clear c30
              try clear c30b0
              try clear c30b1
              try clear c33
              try clear c33b0
              try clear c33b1
              try clear p2
              try clear p6
              obtain ⟨x22_3, x23_3, rfl, rfl, HA, HK3, HB⟩ := hrel
              cases gk with
              | zero => exact absurd HA.out (by simp [mintagelaw12_ScaledMoves.l0])
              | succ k3 =>
                have H := HA.out
                clear HA
                simp only [mintagelaw12_ScaledMoves.l0] at H
                by_cases c35 : x23_3 < x8_6
                · rw [if_pos c35] at H
                  have c35b0 : decide (x23_3 < x8_6) = true := decide_eq_true c35
                  clear c35
                  have H' := Aside0.mk H
                  clear H
                  go_wp2
                  go_roundg k3
                  case measure => have := HJ6.out; have := HJ10.out; have := HK3.out; omega
                  case rel => exact ⟨(wrap64 (10 * x22_3)), (wrap64 (x23_3 + 1)), (by first | rfl | (simp; done) | (simp [*]; done)), (by first | rfl | (simp; done) | (simp [*]; done)), H', ⟨by have := HJ6.out; have := HJ10.out; have := HK3.out; omega⟩, ⟨by repeat (first | (with_reducible first | exact HB.out | apply below_alloc | apply pw_below_drewN | apply below_drew1) | exact HB.out)⟩⟩
                · rw [if_neg c35] at H
                  have c35b0 : decide (x23_3 < x8_6) = false := decide_eq_false c35
                  clear c35
                  by_cases c36 : (wrap64 ((wrap64 (t321)) - (wrap64 ((wrap64 (t335)) * x22_3)))) < 0
                  · rw [if_pos c36] at H
                    have c36b0 : decide ((wrap64 ((wrap64 (t321)) - (wrap64 ((wrap64 (t335)) * x22_3)))) < 0) = true := decide_eq_true c36
                    clear c36
                    by_cases c37 : (wrap64 (2 * (wrap64 (-(wrap64 ((wrap64 (t321)) - (wrap64 ((wrap64 (t335)) * x22_3)))))))) ≤ x22_3
                    · rw [if_pos c37] at H
                      have c37b0 : decide ((wrap64 (2 * (wrap64 (-(wrap64 ((wrap64 (t321)) - (wrap64 ((wrap64 (t335)) * x22_3)))))))) ≤ x22_3) = true := decide_eq_true c37
                      clear c37
                      replace H := Option.bind_eq_some_iff.mp H
                      obtain ⟨t338, A380, H⟩ := H
                      replace H : (some t338) = some r := H
                      have A38 := Aside0.mk A380
                      clear A380
                      obtain rfl := Option.some.inj H
                      go_wp2_with (first | (go_at_call 16; (with_reducible refine (mintagelaw12_wakes.calls  t338 _ A38.out).mono ?_); rintro e w39 ⟨rfl, hb⟩; have n0_ := Aside0.mk (below_step (by repeat (first | (with_reducible first | exact HB.out | apply below_alloc | apply pw_below_drewN | apply below_drew1) | exact HB.out)) hb); clear HB; have HB := n0_; clear n0_; (try clear hb); (try clear hb2); (try clear hk); (try clear hi)))
                      go_ret
                      exact ⟨by first | rfl | (simp [errW_none, errW_some] <;> rfl) | (simp [*, errW_none, errW_some] <;> rfl), by repeat (first | (with_reducible first | exact HB.out | apply below_alloc | apply pw_below_drewN | apply below_drew1) | exact HB.out)⟩
                    · rw [if_neg c37] at H
                      have c37b0 : decide ((wrap64 (2 * (wrap64 (-(wrap64 ((wrap64 (t321)) - (wrap64 ((wrap64 (t335)) * x22_3)))))))) ≤ x22_3) = false := decide_eq_false c37
                      clear c37
                      exact absurd ((Option.some.inj H).trans HT.out) (by decide)
                  · rw [if_neg c36] at H
                    have c36b0 : decide ((wrap64 ((wrap64 (t321)) - (wrap64 ((wrap64 (t335)) * x22_3)))) < 0) = false := decide_eq_false c36
                    clear c36
                    by_cases c40 : (wrap64 (2 * (wrap64 ((wrap64 (t321)) - (wrap64 ((wrap64 (t335)) * x22_3)))))) ≤ x22_3
                    · rw [if_pos c40] at H
                      have c40b0 : decide ((wrap64 (2 * (wrap64 ((wrap64 (t321)) - (wrap64 ((wrap64 (t335)) * x22_3)))))) ≤ x22_3) = true := decide_eq_true c40
                      clear c40
                      replace H := Option.bind_eq_some_iff.mp H
                      obtain ⟨t339, A410, H⟩ := H
                      replace H : (some t339) = some r := H
                      have A41 := Aside0.mk A410
                      clear A410
                      obtain rfl := Option.some.inj H
                      go_wp2_with (first | (go_at_call 16; (with_reducible refine (mintagelaw12_wakes.calls  t339 _ A41.out).mono ?_); rintro e w42 ⟨rfl, hb⟩; have n0_ := Aside0.mk (below_step (by repeat (first | (with_reducible first | exact HB.out | apply below_alloc | apply pw_below_drewN | apply below_drew1) | exact HB.out)) hb); clear HB; have HB := n0_; clear n0_; (try clear hb); (try clear hb2); (try clear hk); (try clear hi)))
                      go_ret
                      exact ⟨by first | rfl | (simp [errW_none, errW_some] <;> rfl) | (simp [*, errW_none, errW_some] <;> rfl), by repeat (first | (with_reducible first | exact HB.out | apply below_alloc | apply pw_below_drewN | apply below_drew1) | exact HB.out)⟩
                    · rw [if_neg c40] at H
                      have c40b0 : decide ((wrap64 (2 * (wrap64 ((wrap64 (t321)) - (wrap64 ((wrap64 (t335)) * x22_3)))))) ≤ x22_3) = false := decide_eq_false c40
                      clear c40
                      exact absurd ((Option.some.inj H).trans HT.out) (by decide)
          · rw [if_neg c33] at H
            have c33b0 : (t337 == 0) = false := beq_eq_false_iff_ne.mpr c33
            have c33b1 : (t337 != 0) = true := bne_iff_ne.mpr c33
            exact absurd ((Option.some.inj H).trans HT.out) (by decide)

/-- THE ONE PURE STATEMENT of mintagelaw12_ScaledMoves: yours. -/
def mintagelaw12_ScaledMoves.Pure : Prop := ∀ (a0 : Int) (a1 : Int) (a2 : Int), (Lit.int .i64 a0).wf = true → (Lit.int .i64 a1).wf = true → (Lit.int .u64 a2).wf = true → ∃ k, mintagelaw12_ScaledMoves.f k a0 a1 a2 = some true
theorem mintagelaw12_ScaledMoves.walk (P : mintagelaw12_ScaledMoves.Pure) (a0 : Int) (a1 : Int) (a2 : Int) (w : World) (w0 : (Lit.int .i64 a0).wf = true) (w1 : (Lit.int .i64 a1).wf = true) (w2 : (Lit.int .u64 a2).wf = true) :
    Calls Try.prog 7 #[.int .i64 a0, .int .i64 a1, .int .u64 a2] w fun e w' => e = .returned (.bool true) ∧ Below w.heap.size w w' := by
  obtain ⟨k, h⟩ := P a0 a1 a2 w0 w1 w2
  refine (mintagelaw12_ScaledMoves.calls k a0 a1 a2 true w h rfl).mono ?_
  rintro e w' ⟨rfl, hd⟩
  exact ⟨rfl, hd⟩

end Go.Proofs.Ytjefmcfkhalagaa.Q
