-- Printed functions, merged (wip/tools/pack.py).
import Derived.Test.YtjefmcfkhalagaaQ0ZScaledWrites
import Derived.Test.YtjefmcfkhalagaaSciZScaledWrites
namespace Go.Proofs.Ytjefmcfkhalagaa.Q
open Go.RowKit Go.Proofs.YtjefmcfkhalagaaW.PrintWords Go.Proofs.YtjefmcfkhalagaaW.PrintLast Go.Proofs.YtjefmcfkhalagaaW.PrintMore
attribute [local go_sem] max2_int min2_int max_two min_two max_three min_three max_four min_four   -- for this text's walks alone
set_option linter.unusedVariables false
set_option linter.unusedSimpArgs false

/-! ### scaled_Parse: function 12 -/
section
def scaled_Parse.f (k : Nat) (a0 : Int) (l1 : List Int) : Option (Int × Int × Int) := Go.Proofs.Ytjefmcfkhalagaa.Scr.parseF k l1 a0
theorem scaled_Parse.mono : ∀ a0 l1 k, LeO (scaled_Parse.f k a0 l1) (scaled_Parse.f (k + 1) a0 l1) := by
  intro a0 l1 k
  unfold scaled_Parse.f Go.Proofs.Ytjefmcfkhalagaa.Scr.parseF
  refine LeO.ite (LeO.refl _) (LeO.ite (LeO.refl _) ?_)
  have h : LeO (Go.Proofs.Ytjefmcfkhalagaa.Scr.readF k l1 a0.toNat) (Go.Proofs.Ytjefmcfkhalagaa.Scr.readF (k + 1) l1 a0.toNat) := by
    unfold Go.Proofs.Ytjefmcfkhalagaa.Scr.readF
    refine LeO.ite (LeO.refl _) ?_
    split
    · exact LeO.refl _
    · exact LeO.bind (digit_Value.mono _ _) (fun _ => LeO.refl _)
  intro r hr
  obtain ⟨o, ho, e⟩ := Option.map_eq_some_iff.1 hr
  rw [h o ho]; exact congrArg some e
theorem scaled_Parse.calls (k : Nat) (a0 : Int) (A1 : Option Addr) (c1 : Nat) (l1 : List Int) (r1 r2 r3 : Int) (w : World) (hC1 : Kd.C (Kd.int .u8) w A1 l1.length l1) (hc1 : l1.length ≤ c1) (h : scaled_Parse.f k a0 l1 = some (r1, r2, r3)) :
    Calls Try.prog 12 #[.int .i64 a0, .slice A1 l1.length c1] w fun e w' => e = .returned (.tuple #[.int .u64 r1, .int .i64 r2, .int .i64 r3]) ∧ Below w.heap.size w w' :=
  Go.Proofs.Ytjefmcfkhalagaa.Scr.Parse_calls w A1 c1 l1 a0 hC1 hc1 k r1 r2 r3 h

end

end Go.Proofs.Ytjefmcfkhalagaa.Q

namespace Go.Proofs.Ytjefmcfkhalagaa.Q
open Go.RowKit Go.Proofs.YtjefmcfkhalagaaW.PrintWords Go.Proofs.YtjefmcfkhalagaaW.PrintLast Go.Proofs.YtjefmcfkhalagaaW.PrintMore
attribute [local go_sem] max2_int min2_int max_two min_two max_three min_three max_four min_four   -- for this text's walks alone
set_option linter.unusedVariables false
set_option linter.unusedSimpArgs false

/-! ### mintagelaw12_wakes: function 16 -/
section
def mintagelaw12_wakes.f : Option Bool := some true
theorem mintagelaw12_wakes.const_reads (W : World) (xs : List Int) (e : TypeId) (fr : Nat × Nat) (h : xs.length ≤ 1000) : ReadsInt (W.alloc (.cells (nums .u8 xs).toArray e fr)) .u8 (some ⟨W.heap.size, 0, none⟩) xs.length xs := by
  refine ⟨rfl, by omega, fun _ => ⟨_, rfl, fun j hj => ?_⟩⟩
  rw [add_plain, cell_of_row _ _ _ _ _ fr (heap_alloc_new W _)]
  simp [nums, hj, List.getD_eq_getElem?_getD]
theorem mintagelaw12_wakes.p1 (A : Addr) (W : World) (h : ReadsInt W .u8 (some A) 4 [45, 49, 46, 53]) :
    Calls Try.prog 12 #[.int .i64 2, .slice (some A) 4 4] W fun e w' => e = .returned (.tuple #[.int .u64 18446744073709551466, .int .i64 0, .int .i64 0]) ∧ Below W.heap.size W w' :=
  scaled_Parse.calls 40 2 (some A) 4 [45, 49, 46, 53] 18446744073709551466 0 0 W (Kd.C_of_reads (d := (0 : Int)) (h1 := fun _ => rfl) h) (Nat.le_refl _) (by decide +kernel)
def mintagelaw12_wakes.tx : List Int := [48, 46, 48, 48, 53]
theorem mintagelaw12_wakes.p2 (W : World) : Calls Try.prog 19 #[.int .i64 3, .int .u64 5] W fun e w' => ∃ v0_ : Value, e = .returned (.tuple #[v0_, .int .i64 0]) ∧ Kd.R (Kd.int .u8) 5 w' W.heap.size (fun _ => True) v0_ mintagelaw12_wakes.tx ∧ Below W.heap.size W w' :=
  scaled_Print.calls 60 3 5 mintagelaw12_wakes.tx 0 W (by decide +kernel)
set_option maxHeartbeats 1000000 in
theorem mintagelaw12_wakes.calls (r : Bool) (w : World) (h : mintagelaw12_wakes.f = some r) : Calls Try.prog 16 #[] w fun e w' => e = .returned (.bool r) ∧ Below w.heap.size w w' := by
  obtain rfl : true = r := by simpa [mintagelaw12_wakes.f] using h
  clear h
  have kc := fun (w : World) (C : Array Value) (n c : Nat) => Lib.run_convert_bytes_const (P := Try.prog) w 22 5 C n c Try.underlying22 Try.underlying5
  go_enter Try.func16, Try.ntmps16
  go_wp2_with (first | (go_at_call 12; with_reducible refine (mintagelaw12_wakes.p1 _ _ (mintagelaw12_wakes.const_reads w [45, 49, 46, 53] 5 (4, 5) (by simp))).mono ?_; rintro e w1 ⟨rfl, hb⟩; have hB := Aside0.mk hb; clear hb) | (go_at_call 19; refine (mintagelaw12_wakes.p2 _).mono ?_; rintro e w2 ⟨v, rfl, ho, hb2⟩; have hB2 := Aside0.mk hb2; clear hb2; have hs := fun n => own_string (P := Try.prog) Try.underlying22 Try.underlying5 Try.underlying9 (Kd.own_of_R (Kd.R_drewN ho n))) | (go_at_call 14; refine (mintagelaw12_num.calls _ _ _ rfl).mono ?_; rintro e w3 ⟨rfl, ⟨nd, rfl⟩⟩))
  have hf : ((strOfNums mintagelaw12_wakes.tx).toList == [48, 46, 48, 48, 53]) = true := by decide +kernel
  rw [hf]
  go_ret
  exact ⟨rfl, by repeat (first | exact Below.refl _ _ | apply pw_below_drewN | refine below_step ?_ hB2.out | refine below_step ?_ hB.out | apply below_alloc)⟩

end

end Go.Proofs.Ytjefmcfkhalagaa.Q
