-- PRINTED by print.py (a twelfth state) out of the translation. Not trusted: Lean checks it.
import Derived.Test.YtlcglnnmcgpnpaaQx0
import Derived.Test.YtlcglnnmcgpnpaaQx4
import Derived.Test.YtlcglnnmcgpnpaaQx17
namespace Go.Proofs.Ytlcglnnmcgpnpaa.Q
open Go.RowKit Go.Proofs.YtlcglnnmcgpnpaaW.PrintWords Go.Proofs.YtlcglnnmcgpnpaaW.PrintLast Go.Proofs.YtlcglnnmcgpnpaaW.PrintMore
attribute [local go_sem] max2_int min2_int max_two min_two max_three min_three max_four min_four   -- for this text's walks alone
set_option linter.unusedVariables false
set_option linter.unusedSimpArgs false

/-! ### mintagelaw05_wakes: function 16 -/
section
def mintagelaw05_wakes.f : Option Bool := some true
theorem mintagelaw05_wakes.const_reads (W : World) (xs : List Int) (e : TypeId) (fr : Nat × Nat) (h : xs.length ≤ 1000) : ReadsInt (W.alloc (.cells (nums .u8 xs).toArray e fr)) .u8 (some ⟨W.heap.size, 0, none⟩) xs.length xs := by
  refine ⟨rfl, by omega, fun _ => ⟨_, rfl, fun j hj => ?_⟩⟩
  rw [add_plain, cell_of_row _ _ _ _ _ fr (heap_alloc_new W _)]
  simp [nums, hj, List.getD_eq_getElem?_getD]
theorem mintagelaw05_wakes.p1 (A : Addr) (W : World) (h : ReadsInt W .u8 (some A) 4 [45, 51, 48, 48]) :
    Calls Try.prog 11 #[.int .i64 2, .slice (some A) 4 4] W fun e w' => e = .returned (.tuple #[.int .u64 65236, .int .i64 0, .int .i64 0]) ∧ Below W.heap.size W w' :=
  whole_Parse.calls 20 2 (some A) 4 [45, 51, 48, 48] 65236 0 0 W (Kd.C_of_reads (d := (0 : Int)) (h1 := fun _ => rfl) h) (Nat.le_refl _) (by decide +kernel)
theorem mintagelaw05_wakes.p2 (A : Addr) (W : World) (h : ReadsInt W .u8 (some A) 3 [50, 53, 54]) :
    Calls Try.prog 11 #[.int .i64 5, .slice (some A) 3 3] W fun e w' => e = .returned (.tuple #[.int .u64 0, .int .i64 2, .int .i64 53]) ∧ Below W.heap.size W w' :=
  whole_Parse.calls 20 5 (some A) 3 [50, 53, 54] 0 2 53 W (Kd.C_of_reads (d := (0 : Int)) (h1 := fun _ => rfl) h) (Nat.le_refl _) (by decide +kernel)
set_option maxHeartbeats 1000000 in
theorem mintagelaw05_wakes.calls (r : Bool) (w : World) (h : mintagelaw05_wakes.f = some r) : Calls Try.prog 16 #[] w fun e w' => e = .returned (.bool r) ∧ Below w.heap.size w w' := by
  obtain rfl : true = r := by simpa [mintagelaw05_wakes.f] using h
  clear h
  have kc := fun (w : World) (C : Array Value) (n c : Nat) => Lib.run_convert_bytes_const (P := Try.prog) w 22 5 C n c Try.underlying22 Try.underlying5
  go_enter Try.func16, Try.ntmps16
  go_wp2_with (first | (go_at_call 11; with_reducible refine (mintagelaw05_wakes.p1 _ _ (mintagelaw05_wakes.const_reads w [45, 51, 48, 48] 5 (4, 5) (by simp))).mono ?_; rintro e w1 ⟨rfl, hb⟩; have hB := Aside0.mk hb; clear hb) | (go_at_call 11; with_reducible refine (mintagelaw05_wakes.p2 _ _ (mintagelaw05_wakes.const_reads _ [50, 53, 54] 5 (3, 4) (by simp))).mono ?_; rintro e w2 ⟨rfl, hb2⟩; have hB2 := Aside0.mk hb2; clear hb2) | (go_at_call 14; refine (mintagelaw05_num.calls _ _ _ rfl).mono ?_; rintro e w3 ⟨rfl, ⟨nd, rfl⟩⟩))

  go_ret
  exact ⟨rfl, by repeat (first | exact Below.refl _ _ | apply pw_below_drewN | refine below_step ?_ hB2.out | refine below_step ?_ hB.out | apply below_alloc)⟩

end

-- NOT PRINTED: function 3 (mintagelaw05_WholeReads)

end Go.Proofs.Ytlcglnnmcgpnpaa.Q
