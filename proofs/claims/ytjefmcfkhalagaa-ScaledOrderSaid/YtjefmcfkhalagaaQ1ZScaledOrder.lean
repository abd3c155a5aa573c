-- Printed functions, merged (wip/tools/pack.py).
import Derived.Test.YtjefmcfkhalagaaQ0ZScaledOrder
import Derived.Test.YtjefmcfkhalagaaSciZScaledOrder
namespace Go.Proofs.Ytjefmcfkhalagaa.Q
open Go.RowKit Go.Proofs.YtjefmcfkhalagaaW.PrintWords Go.Proofs.YtjefmcfkhalagaaW.PrintLast Go.Proofs.YtjefmcfkhalagaaW.PrintMore
attribute [local go_sem] max2_int min2_int max_two min_two max_three min_three max_four min_four   -- for this text's walks alone
set_option linter.unusedVariables false
set_option linter.unusedSimpArgs false

/-! ### scaled_Parse: function 12 -/
section
def scaled_Parse.f (k : Nat) (a0 : Int) (l1 : List Int) : Option (Int × Int × Int) := Go.Proofs.Ytjefmcfkhalagaa.Scr.parseF k l1 a0
theorem scaled_Parse.mono : ∀ a0 l1 k, LeO (scaled_Parse.f k a0 l1) (scaled_Parse.f (k + 1) a0 l1) := by
  intro a0 l1 k
  unfold scaled_Parse.f Go.Proofs.Ytjefmcfkhalagaa.Scr.parseF
  refine LeO.ite (LeO.refl _) (LeO.ite (LeO.refl _) ?_)
  have h : LeO (Go.Proofs.Ytjefmcfkhalagaa.Scr.readF k l1 a0.toNat) (Go.Proofs.Ytjefmcfkhalagaa.Scr.readF (k + 1) l1 a0.toNat) := by
    unfold Go.Proofs.Ytjefmcfkhalagaa.Scr.readF
    refine LeO.ite (LeO.refl _) ?_
    split
    · exact LeO.refl _
    · exact LeO.bind (digit_Value.mono _ _) (fun _ => LeO.refl _)
  intro r hr
  obtain ⟨o, ho, e⟩ := Option.map_eq_some_iff.1 hr
  rw [h o ho]; exact congrArg some e
theorem scaled_Parse.calls (k : Nat) (a0 : Int) (A1 : Option Addr) (c1 : Nat) (l1 : List Int) (r1 r2 r3 : Int) (w : World) (hC1 : Kd.C (Kd.int .u8) w A1 l1.length l1) (hc1 : l1.length ≤ c1) (h : scaled_Parse.f k a0 l1 = some (r1, r2, r3)) :
    Calls Try.prog 12 #[.int .i64 a0, .slice A1 l1.length c1] w fun e w' => e = .returned (.tuple #[.int .u64 r1, .int .i64 r2, .int .i64 r3]) ∧ Below w.heap.size w w' :=
  Go.Proofs.Ytjefmcfkhalagaa.Scr.Parse_calls w A1 c1 l1 a0 hC1 hc1 k r1 r2 r3 h

end

end Go.Proofs.Ytjefmcfkhalagaa.Q

namespace Go.Proofs.Ytjefmcfkhalagaa.Q
open Go.RowKit Go.Proofs.YtjefmcfkhalagaaW.PrintWords Go.Proofs.YtjefmcfkhalagaaW.PrintLast Go.Proofs.YtjefmcfkhalagaaW.PrintMore
attribute [local go_sem] max2_int min2_int max_two min_two max_three min_three max_four min_four   -- for this text's walks alone
set_option linter.unusedVariables false
set_option linter.unusedSimpArgs false

/-! ### mintagelaw12_wakes: function 16 -/
section
def mintagelaw12_wakes.f : Option Bool := some true
theorem mintagelaw12_wakes.const_reads (W : World) (xs : List Int) (e : TypeId) (fr : Nat × Nat) (h : xs.length ≤ 1000) : ReadsInt (W.alloc (.cells (nums .u8 xs).toArray e fr)) .u8 (some ⟨W.heap.size, 0, none⟩) xs.length xs := by
  refine ⟨rfl, by omega, fun _ => ⟨_, rfl, fun j hj => ?_⟩⟩
  rw [add_plain, cell_of_row _ _ _ _ _ fr (heap_alloc_new W _)]
  simp [nums, hj, List.getD_eq_getElem?_getD]
theorem mintagelaw12_wakes.p1 (A : Addr) (W : World) (h : ReadsInt W .u8 (some A) 4 [45, 49, 46, 53]) :
    Calls Try.prog 12 #[.int .i64 2, .slice (some A) 4 4] W fun e w' => e = .returned (.tuple #[.int .u64 18446744073709551466, .int .i64 0, .int .i64 0]) ∧ Below W.heap.size W w' :=
  scaled_Parse.calls 40 2 (some A) 4 [45, 49, 46, 53] 18446744073709551466 0 0 W (Kd.C_of_reads (d := (0 : Int)) (h1 := fun _ => rfl) h) (Nat.le_refl _) (by decide +kernel)
def mintagelaw12_wakes.tx : List Int := [48, 46, 48, 48, 53]
theorem mintagelaw12_wakes.p2 (W : World) : Calls Try.prog 19 #[.int .i64 3, .int .u64 5] W fun e w' => ∃ v0_ : Value, e = .returned (.tuple #[v0_, .int .i64 0]) ∧ Kd.R (Kd.int .u8) 5 w' W.heap.size (fun _ => True) v0_ mintagelaw12_wakes.tx ∧ Below W.heap.size W w' :=
  scaled_Print.calls 60 3 5 mintagelaw12_wakes.tx 0 W (by decide +kernel)
set_option maxHeartbeats 1000000 in
theorem mintagelaw12_wakes.calls (r : Bool) (w : World) (h : mintagelaw12_wakes.f = some r) : Calls Try.prog 16 #[] w fun e w' => e = .returned (.bool r) ∧ Below w.heap.size w w' := by
  obtain rfl : true = r := by simpa [mintagelaw12_wakes.f] using h
  clear h
  have kc := fun (w : World) (C : Array Value) (n c : Nat) => Lib.run_convert_bytes_const (P := Try.prog) w 22 5 C n c Try.underlying22 Try.underlying5
  go_enter Try.func16, Try.ntmps16
  go_wp2_with (first | (go_at_call 12; with_reducible refine (mintagelaw12_wakes.p1 _ _ (mintagelaw12_wakes.const_reads w [45, 49, 46, 53] 5 (4, 5) (by simp))).mono ?_; rintro e w1 ⟨rfl, hb⟩; have hB := Aside0.mk hb; clear hb) | (go_at_call 19; refine (mintagelaw12_wakes.p2 _).mono ?_; rintro e w2 ⟨v, rfl, ho, hb2⟩; have hB2 := Aside0.mk hb2; clear hb2; have hs := fun n => own_string (P := Try.prog) Try.underlying22 Try.underlying5 Try.underlying9 (Kd.own_of_R (Kd.R_drewN ho n))) | (go_at_call 14; refine (mintagelaw12_num.calls _ _ _ rfl).mono ?_; rintro e w3 ⟨rfl, ⟨nd, rfl⟩⟩))
  have hf : ((strOfNums mintagelaw12_wakes.tx).toList == [48, 46, 48, 48, 53]) = true := by decide +kernel
  rw [hf]
  go_ret
  exact ⟨rfl, by repeat (first | exact Below.refl _ _ | apply pw_below_drewN | refine below_step ?_ hB2.out | refine below_step ?_ hB.out | apply below_alloc)⟩

end

end Go.Proofs.Ytjefmcfkhalagaa.Q

namespace Go.Proofs.Ytjefmcfkhalagaa.Q
open Go.RowKit Go.Proofs.YtjefmcfkhalagaaW.PrintWords Go.Proofs.YtjefmcfkhalagaaW.PrintLast Go.Proofs.YtjefmcfkhalagaaW.PrintMore
attribute [local go_sem] max2_int min2_int max_two min_two max_three min_three max_four min_four   -- for this text's walks alone
set_option linter.unusedVariables false
set_option linter.unusedSimpArgs false

/-! ### mintagelaw12_ScaledOrder: function 6 -/
def mintagelaw12_ScaledOrder.j0 : Nat → Int → Int → Int → Option (Bool)
  | 0, _, _, _ => none
  | k + 1, x7, x8, x9 => (scaled_Cmp.f k 1000000000000000000 0).bind fun bt304 => ((scaled_Cmp.f k 0 9223372036854775808).bind fun bt306 => ((mintagelaw12_num.f x8).bind fun t308 => (if t308 = 0 then (if x7 = x9 then ((mintagelaw12_num.f bt304.2).bind fun t309 => (if t309 = 123 then ((mintagelaw12_num.f bt306.2).bind fun t310 => (if t310 = 123 then ((mintagelaw12_wakes.f).bind fun t311 => (some t311)) else (some false))) else (some false))) else (some false)) else (some false))))
def mintagelaw12_ScaledOrder.f (k : Nat) (a0 : Int) (a1 : Int) : Option (Bool) := (mintagelaw12_value.f a0).bind fun t300 => ((mintagelaw12_value.f a1).bind fun t301 => ((scaled_Cmp.f k (IntKind.u64.wrap (wrap64 (t300))) (IntKind.u64.wrap (wrap64 (t301)))).bind fun bt302 => (if (wrap64 (t300)) < (wrap64 (t301)) then (mintagelaw12_ScaledOrder.j0 k bt302.1 bt302.2 (-1)) else (if (wrap64 (t300)) > (wrap64 (t301)) then (mintagelaw12_ScaledOrder.j0 k bt302.1 bt302.2 1) else (mintagelaw12_ScaledOrder.j0 k bt302.1 bt302.2 0)))))
theorem mintagelaw12_ScaledOrder.mono_l : ∀ k, (∀ y0 y1 y2, LeO (mintagelaw12_ScaledOrder.j0 k y0 y1 y2) (mintagelaw12_ScaledOrder.j0 (k + 1) y0 y1 y2))
  | 0 => fun _ _ _ r h => by simp [mintagelaw12_ScaledOrder.j0] at h
  | k + 1 => by
    have ih0 := mintagelaw12_ScaledOrder.mono_l k
    · intro y0 y1 y2
      unfold mintagelaw12_ScaledOrder.j0
      repeat' first
      | (with_reducible exact ih0 _ _ _)
      | (with_reducible exact scaled_Cmp.mono _ _ _)
      | (with_reducible exact LeO.refl _)
      | (with_reducible exact LeO.none _)
      | (with_reducible refine LeO.ite ?_ ?_)
      | (with_reducible refine LeO.bind ?_ (fun _ => ?_))
      | exact ih0 _ _ _
      | exact scaled_Cmp.mono _ _ _
      | exact LeO.none _
      | refine LeO.ite ?_ ?_
      | refine LeO.bind ?_ (fun _ => ?_)
theorem mintagelaw12_ScaledOrder.mono : ∀ a0 a1 k, LeO (mintagelaw12_ScaledOrder.f k a0 a1) (mintagelaw12_ScaledOrder.f (k + 1) a0 a1) := by
  intro a0 a1 k
  have ih0 := mintagelaw12_ScaledOrder.mono_l k
  unfold mintagelaw12_ScaledOrder.f
  repeat' first
      | (with_reducible exact ih0 _ _ _)
      | (with_reducible exact scaled_Cmp.mono _ _ _)
      | (with_reducible exact LeO.refl _)
      | (with_reducible exact LeO.none _)
      | (with_reducible refine LeO.ite ?_ ?_)
      | (with_reducible refine LeO.bind ?_ (fun _ => ?_))
      | exact ih0 _ _ _
      | exact scaled_Cmp.mono _ _ _
      | exact LeO.none _
      | refine LeO.ite ?_ ?_
      | refine LeO.bind ?_ (fun _ => ?_)
set_option maxHeartbeats 8000000 in
set_option maxRecDepth 100000 in
theorem mintagelaw12_ScaledOrder.calls (k : Nat) (a0 : Int) (a1 : Int) (r : Bool) (w : World) (h : mintagelaw12_ScaledOrder.f k a0 a1 = some r) (hT : r = true) :
    Calls Try.prog 6 #[.int .u64 a0, .int .u64 a1] w fun e w' => e = .returned (.bool r) ∧ Below w.heap.size w w' := by
  have HT := Aside0.mk hT
  clear hT
  have HB := Aside0.mk (Below.refl w.heap.size w)
  have H : ((mintagelaw12_value.f a0).bind fun t300 => ((mintagelaw12_value.f a1).bind fun t301 => ((scaled_Cmp.f k (IntKind.u64.wrap (wrap64 (t300))) (IntKind.u64.wrap (wrap64 (t301)))).bind fun bt302 => (if (wrap64 (t300)) < (wrap64 (t301)) then (mintagelaw12_ScaledOrder.j0 k bt302.1 bt302.2 (-1)) else (if (wrap64 (t300)) > (wrap64 (t301)) then (mintagelaw12_ScaledOrder.j0 k bt302.1 bt302.2 1) else (mintagelaw12_ScaledOrder.j0 k bt302.1 bt302.2 0)))))) = some r := h
  clear h
  replace H := Option.bind_eq_some_iff.mp H
  obtain ⟨t300, A30, H⟩ := H
  replace H : ((mintagelaw12_value.f a1).bind fun t301 => ((scaled_Cmp.f k (IntKind.u64.wrap (wrap64 (t300))) (IntKind.u64.wrap (wrap64 (t301)))).bind fun bt302 => (if (wrap64 (t300)) < (wrap64 (t301)) then (mintagelaw12_ScaledOrder.j0 k bt302.1 bt302.2 (-1)) else (if (wrap64 (t300)) > (wrap64 (t301)) then (mintagelaw12_ScaledOrder.j0 k bt302.1 bt302.2 1) else (mintagelaw12_ScaledOrder.j0 k bt302.1 bt302.2 0))))) = some r := H
  have A3 := Aside0.mk A30
  clear A30
  replace H := Option.bind_eq_some_iff.mp H
  obtain ⟨t301, A40, H⟩ := H
  replace H : ((scaled_Cmp.f k (IntKind.u64.wrap (wrap64 (t300))) (IntKind.u64.wrap (wrap64 (t301)))).bind fun bt302 => (if (wrap64 (t300)) < (wrap64 (t301)) then (mintagelaw12_ScaledOrder.j0 k bt302.1 bt302.2 (-1)) else (if (wrap64 (t300)) > (wrap64 (t301)) then (mintagelaw12_ScaledOrder.j0 k bt302.1 bt302.2 1) else (mintagelaw12_ScaledOrder.j0 k bt302.1 bt302.2 0)))) = some r := H
  have A4 := Aside0.mk A40
  clear A40
  replace H := Option.bind_eq_some_iff.mp H
  obtain ⟨⟨t302, t303⟩, A50, H⟩ := H
  replace H : (if (wrap64 (t300)) < (wrap64 (t301)) then (mintagelaw12_ScaledOrder.j0 k t302 t303 (-1)) else (if (wrap64 (t300)) > (wrap64 (t301)) then (mintagelaw12_ScaledOrder.j0 k t302 t303 1) else (mintagelaw12_ScaledOrder.j0 k t302 t303 0))) = some r := H
  have A5 := Aside0.mk A50
  clear A50
  have HC6 := Aside0.mk H
  clear H
  go_enter Try.func6, Try.ntmps6
  go_upto_if 30 with (first | ((with_reducible refine gate_callee (f := 18) rfl ?_); refine goesL_ (some 15) rfl rfl Try.func18 (by kernel_rfl) rfl #[.int .u64 a0] rfl (by (try simp only [List.map_toArray, List.map_cons, List.map_nil]); first | done | rfl | (simp only [List.length_drop, List.length_take]; rfl)) ?_; (with_reducible refine (mintagelaw12_value.calls a0 t300 _ A3.out).mono ?_); rintro e w' ⟨rfl, ⟨nd, rfl⟩⟩; refine ⟨_, rfl, ?_⟩) | ((with_reducible refine gate_callee (f := 18) rfl ?_); refine goesL_ (some 18) rfl rfl Try.func18 (by kernel_rfl) rfl #[.int .u64 a1] rfl (by (try simp only [List.map_toArray, List.map_cons, List.map_nil]); first | done | rfl | (simp only [List.length_drop, List.length_take]; rfl)) ?_; (with_reducible refine (mintagelaw12_value.calls a1 t301 _ A4.out).mono ?_); rintro e w' ⟨rfl, ⟨nd, rfl⟩⟩; refine ⟨_, rfl, ?_⟩) | ((with_reducible refine gate_callee (f := 20) rfl ?_); refine goesL_ (some 25) rfl rfl Try.func20 (by kernel_rfl) rfl #[.int .u64 (IntKind.u64.wrap (wrap64 (t300))), .int .u64 (IntKind.u64.wrap (wrap64 (t301)))] rfl (by (try simp only [List.map_toArray, List.map_cons, List.map_nil]); first | done | rfl | (simp only [List.length_drop, List.length_take]; rfl)) ?_; (with_reducible refine (scaled_Cmp.calls k (IntKind.u64.wrap (wrap64 (t300))) (IntKind.u64.wrap (wrap64 (t301))) t302 t303 _ A5.out).mono ?_); rintro e w' ⟨rfl, ⟨nd, rfl⟩⟩; refine ⟨_, rfl, ?_⟩))
  (try simp only [Act.put, List.setIfInBounds_toArray, List.set_cons_zero, List.set_cons_succ])
  go_cut [9] (fun v9 wc => ∃ (kq : Nat) (x9_5 : Int), v9 = .int .i64 x9_5 ∧ Aside0 (mintagelaw12_ScaledOrder.j0 kq t302 t303 x9_5 = some r) ∧ Aside0 (kq ≤ k) ∧ Aside0 (Below w.heap.size w wc))
  case first =>
    have H := HC6.out
    clear HC6
    by_cases c7 : (wrap64 (t300)) < (wrap64 (t301))
    · rw [if_pos c7] at H
      have c7b0 : decide ((wrap64 (t300)) < (wrap64 (t301))) = true := decide_eq_true c7
      clear c7
      (first | rw [c7b0] | (simp only [i64_w, i32_w]; rw [c7b0]) | skip)
      have H' := Aside0.mk H
      clear H
      go_wp2
      go_meet
      case rel => exact ⟨_, ((-1)), (by first | rfl | (simp; done) | (simp [*]; done)), H', ⟨by first | omega | exact Nat.le_refl _⟩, ⟨by repeat (first | (with_reducible first | exact HB.out | apply below_alloc | apply pw_below_drewN | apply below_drew1) | exact HB.out)⟩⟩
    · rw [if_neg c7] at H
      have c7b0 : decide ((wrap64 (t300)) < (wrap64 (t301))) = false := decide_eq_false c7
      clear c7
      (first | rw [c7b0] | (simp only [i64_w, i32_w]; rw [c7b0]) | skip)
      by_cases c8 : (wrap64 (t300)) > (wrap64 (t301))
      · rw [if_pos c8] at H
        have c8b0 : decide ((wrap64 (t301)) < (wrap64 (t300))) = true := decide_eq_true c8
        clear c8
        have H' := Aside0.mk H
        clear H
        go_wp2
        go_meet
        case rel => exact ⟨_, (1), (by first | rfl | (simp; done) | (simp [*]; done)), H', ⟨by first | omega | exact Nat.le_refl _⟩, ⟨by repeat (first | (with_reducible first | exact HB.out | apply below_alloc | apply pw_below_drewN | apply below_drew1) | exact HB.out)⟩⟩
      · rw [if_neg c8] at H
        have c8b0 : decide ((wrap64 (t301)) < (wrap64 (t300))) = false := decide_eq_false c8
        clear c8
        have H' := Aside0.mk H
        clear H
        go_wp2
        go_meet
        case rel => exact ⟨_, (0), (by first | rfl | (simp; done) | (simp [*]; done)), H', ⟨by first | omega | exact Nat.le_refl _⟩, ⟨by repeat (first | (with_reducible first | exact HB.out | apply below_alloc | apply pw_below_drewN | apply below_drew1) | exact HB.out)⟩⟩
  case rest =>
    clear HC6
    try clear c1
    try clear c2
    try clear p2
    try clear c6
    try clear p6
    try clear c7
    try clear c7b0
    try clear c8
    try clear c8b0
    obtain ⟨kq, x9_5, rfl, HA, HJ5, HB⟩ := hcut
    cases kq with
    | zero => exact absurd HA.out (by simp [mintagelaw12_ScaledOrder.j0])
    | succ kj5 =>
      have H := HA.out
      clear HA
      simp only [mintagelaw12_ScaledOrder.j0] at H
      replace H := Option.bind_eq_some_iff.mp H
      obtain ⟨⟨t304, t305⟩, A90, H⟩ := H
      replace H : ((scaled_Cmp.f kj5 0 9223372036854775808).bind fun bt306 => ((mintagelaw12_num.f t303).bind fun t308 => (if t308 = 0 then (if t302 = x9_5 then ((mintagelaw12_num.f t305).bind fun t309 => (if t309 = 123 then ((mintagelaw12_num.f bt306.2).bind fun t310 => (if t310 = 123 then ((mintagelaw12_wakes.f).bind fun t311 => (some t311)) else (some false))) else (some false))) else (some false)) else (some false)))) = some r := H
      have A9 := Aside0.mk A90
      clear A90
      replace H := Option.bind_eq_some_iff.mp H
      obtain ⟨⟨t306, t307⟩, A100, H⟩ := H
      replace H : ((mintagelaw12_num.f t303).bind fun t308 => (if t308 = 0 then (if t302 = x9_5 then ((mintagelaw12_num.f t305).bind fun t309 => (if t309 = 123 then ((mintagelaw12_num.f t307).bind fun t310 => (if t310 = 123 then ((mintagelaw12_wakes.f).bind fun t311 => (some t311)) else (some false))) else (some false))) else (some false)) else (some false))) = some r := H
      have A10 := Aside0.mk A100
      clear A100
      replace H := Option.bind_eq_some_iff.mp H
      obtain ⟨t308, A110, H⟩ := H
      replace H : (if t308 = 0 then (if t302 = x9_5 then ((mintagelaw12_num.f t305).bind fun t309 => (if t309 = 123 then ((mintagelaw12_num.f t307).bind fun t310 => (if t310 = 123 then ((mintagelaw12_wakes.f).bind fun t311 => (some t311)) else (some false))) else (some false))) else (some false)) else (some false)) = some r := H
      have A11 := Aside0.mk A110
      clear A110
      by_cases c12 : t308 = 0
      · rw [if_pos c12] at H
        have c12b0 : (t308 == 0) = true := beq_iff_eq.mpr c12
        have c12b1 : (t308 != 0) = false := bne_eq_false_iff_eq.mpr c12
        clear c12
        by_cases c13 : t302 = x9_5
        · rw [if_pos c13] at H
          have c13b0 : (t302 == x9_5) = true := beq_iff_eq.mpr c13
          have c13b1 : (t302 != x9_5) = false := bne_eq_false_iff_eq.mpr c13
          clear c13
          replace H := Option.bind_eq_some_iff.mp H
          obtain ⟨t309, A140, H⟩ := H
          replace H : (if t309 = 123 then ((mintagelaw12_num.f t307).bind fun t310 => (if t310 = 123 then ((mintagelaw12_wakes.f).bind fun t311 => (some t311)) else (some false))) else (some false)) = some r := H
          have A14 := Aside0.mk A140
          clear A140
          by_cases c15 : t309 = 123
          · rw [if_pos c15] at H
            have c15b0 : (t309 == 123) = true := beq_iff_eq.mpr c15
            have c15b1 : (t309 != 123) = false := bne_eq_false_iff_eq.mpr c15
            clear c15
            replace H := Option.bind_eq_some_iff.mp H
            obtain ⟨t310, A160, H⟩ := H
            replace H : (if t310 = 123 then ((mintagelaw12_wakes.f).bind fun t311 => (some t311)) else (some false)) = some r := H
            have A16 := Aside0.mk A160
            clear A160
            by_cases c17 : t310 = 123
            · rw [if_pos c17] at H
              have c17b0 : (t310 == 123) = true := beq_iff_eq.mpr c17
              have c17b1 : (t310 != 123) = false := bne_eq_false_iff_eq.mpr c17
              clear c17
              replace H := Option.bind_eq_some_iff.mp H
              obtain ⟨t311, A180, H⟩ := H
              replace H : (some t311) = some r := H
              have A18 := Aside0.mk A180
              clear A180
              obtain rfl := Option.some.inj H
              go_wp2_with (first | ((with_reducible refine gate_callee (f := 20) rfl ?_); refine goesL_ (some 35) rfl rfl Try.func20 (by kernel_rfl) rfl #[.int .u64 1000000000000000000, .int .u64 0] rfl (by (try simp only [List.map_toArray, List.map_cons, List.map_nil]); first | done | rfl | (simp only [List.length_drop, List.length_take]; rfl)) ?_; (with_reducible refine (scaled_Cmp.calls kj5 1000000000000000000 0 t304 t305 _ A9.out).mono ?_); rintro e w' ⟨rfl, ⟨nd, rfl⟩⟩; refine ⟨_, rfl, ?_⟩) | ((with_reducible refine gate_callee (f := 20) rfl ?_); refine goesL_ (some 39) rfl rfl Try.func20 (by kernel_rfl) rfl #[.int .u64 0, .int .u64 9223372036854775808] rfl (by (try simp only [List.map_toArray, List.map_cons, List.map_nil]); first | done | rfl | (simp only [List.length_drop, List.length_take]; rfl)) ?_; (with_reducible refine (scaled_Cmp.calls kj5 0 9223372036854775808 t306 t307 _ A10.out).mono ?_); rintro e w' ⟨rfl, ⟨nd, rfl⟩⟩; refine ⟨_, rfl, ?_⟩) | ((with_reducible refine gate_callee (f := 14) rfl ?_); refine goesL_ (some 43) rfl rfl Try.func14 (by kernel_rfl) rfl #[.int .i64 t303] rfl (by (try simp only [List.map_toArray, List.map_cons, List.map_nil]); first | done | rfl | (simp only [List.length_drop, List.length_take]; rfl)) ?_; (with_reducible refine (mintagelaw12_num.calls t303 t308 _ A11.out).mono ?_); rintro e w' ⟨rfl, ⟨nd, rfl⟩⟩; refine ⟨_, rfl, ?_⟩) | (go_at_call 14; (with_reducible refine (mintagelaw12_num.calls t305 t309 _ A14.out).mono ?_); rintro e w' ⟨rfl, ⟨nd, rfl⟩⟩) | (go_at_call 14; (with_reducible refine (mintagelaw12_num.calls t307 t310 _ A16.out).mono ?_); rintro e w' ⟨rfl, ⟨nd, rfl⟩⟩) | (go_at_call 16; (with_reducible refine (mintagelaw12_wakes.calls  t311 _ A18.out).mono ?_); rintro e w19 ⟨rfl, hb⟩; have n0_ := Aside0.mk (below_step (by repeat (first | (with_reducible first | exact HB.out | apply below_alloc | apply pw_below_drewN | apply below_drew1) | exact HB.out)) hb); clear HB; have HB := n0_; clear n0_; (try clear hb); (try clear hb2); (try clear hk); (try clear hi)))
              go_ret
              exact ⟨by first | rfl | (simp [errW_none, errW_some] <;> rfl) | (simp [*, errW_none, errW_some] <;> rfl), by repeat (first | (with_reducible first | exact HB.out | apply below_alloc | apply pw_below_drewN | apply below_drew1) | exact HB.out)⟩
            · rw [if_neg c17] at H
              have c17b0 : (t310 == 123) = false := beq_eq_false_iff_ne.mpr c17
              have c17b1 : (t310 != 123) = true := bne_iff_ne.mpr c17
              exact absurd ((Option.some.inj H).trans HT.out) (by decide)
          · rw [if_neg c15] at H
            have c15b0 : (t309 == 123) = false := beq_eq_false_iff_ne.mpr c15
            have c15b1 : (t309 != 123) = true := bne_iff_ne.mpr c15
            exact absurd ((Option.some.inj H).trans HT.out) (by decide)
        · rw [if_neg c13] at H
          have c13b0 : (t302 == x9_5) = false := beq_eq_false_iff_ne.mpr c13
          have c13b1 : (t302 != x9_5) = true := bne_iff_ne.mpr c13
          exact absurd ((Option.some.inj H).trans HT.out) (by decide)
      · rw [if_neg c12] at H
        have c12b0 : (t308 == 0) = false := beq_eq_false_iff_ne.mpr c12
        have c12b1 : (t308 != 0) = true := bne_iff_ne.mpr c12
        exact absurd ((Option.some.inj H).trans HT.out) (by decide)

/-- THE ONE PURE STATEMENT of mintagelaw12_ScaledOrder: yours. -/
def mintagelaw12_ScaledOrder.Pure : Prop := ∀ (a0 : Int) (a1 : Int), (Lit.int .u64 a0).wf = true → (Lit.int .u64 a1).wf = true → ∃ k, mintagelaw12_ScaledOrder.f k a0 a1 = some true
theorem mintagelaw12_ScaledOrder.walk (P : mintagelaw12_ScaledOrder.Pure) (a0 : Int) (a1 : Int) (w : World) (w0 : (Lit.int .u64 a0).wf = true) (w1 : (Lit.int .u64 a1).wf = true) :
    Calls Try.prog 6 #[.int .u64 a0, .int .u64 a1] w fun e w' => e = .returned (.bool true) ∧ Below w.heap.size w w' := by
  obtain ⟨k, h⟩ := P a0 a1 w0 w1
  refine (mintagelaw12_ScaledOrder.calls k a0 a1 true w h rfl).mono ?_
  rintro e w' ⟨rfl, hd⟩
  exact ⟨rfl, hd⟩

end Go.Proofs.Ytjefmcfkhalagaa.Q
