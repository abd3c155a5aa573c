/- WholeEnds: a closed table, and the walk. -/
import Derived.Test.YtlcglnnmcgpnpaaConvZWholeEnds
import Derived.Test.YtlcglnnmcgpnpaaKeep0ZWholeEnds
import Derived.Deep.QuietTactic
import Derived.BigQuiet
import Derived.RegionTactic
import Derived.Test.YtlcglnnmcgpnpaaQ0ZWholeEnds
namespace Go.Proofs.Ytlcglnnmcgpnpaa.Keep
set_option linter.unusedVariables false
set_option linter.unusedSimpArgs false
open Go.RowKit Go.Proofs.Ytlcglnnmcgpnpaa.Q Go.Proofs.YtlcglnnmcgpnpaaW.PrintWords Go.Proofs.YtlcglnnmcgpnpaaW.PrintLast
def insL : List (List Int) := [[45, 49, 50, 56], [49, 50, 55], [45, 51, 50, 55, 54, 56], [51, 50, 55, 54, 55], [45, 50, 49, 52, 55, 52, 56, 51, 54, 52, 56], [50, 49, 52, 55, 52, 56, 51, 54, 52, 55], [45, 57, 50, 50, 51, 51, 55, 50, 48, 51, 54, 56, 53, 52, 55, 55, 53, 56, 48, 56], [57, 50, 50, 51, 51, 55, 50, 48, 51, 54, 56, 53, 52, 55, 55, 53, 56, 48, 55], [48], [50, 53, 53], [48], [54, 53, 53, 51, 53], [48], [52, 50, 57, 52, 57, 54, 55, 50, 57, 53], [48], [49, 56, 52, 52, 54, 55, 52, 52, 48, 55, 51, 55, 48, 57, 53, 53, 49, 54, 49, 53]]
def outL : List (List Int) := [[45, 49, 50, 57], [49, 50, 56], [45, 51, 50, 55, 54, 57], [51, 50, 55, 54, 56], [45, 50, 49, 52, 55, 52, 56, 51, 54, 52, 57], [50, 49, 52, 55, 52, 56, 51, 54, 52, 56], [45, 57, 50, 50, 51, 51, 55, 50, 48, 51, 54, 56, 53, 52, 55, 55, 53, 56, 48, 57], [57, 50, 50, 51, 51, 55, 50, 48, 51, 54, 56, 53, 52, 55, 55, 53, 56, 48, 56], [], [50, 53, 54], [], [54, 53, 53, 51, 54], [], [52, 50, 57, 52, 57, 54, 55, 50, 57, 54], [], [49, 56, 52, 52, 54, 55, 52, 52, 48, 55, 51, 55, 48, 57, 53, 53, 49, 54, 49, 54]]
def bitL : List Int := [128, 127, 32768, 32767, 2147483648, 2147483647, 9223372036854775808, 9223372036854775807, 0, 255, 0, 65535, 0, 4294967295, 0, 18446744073709551615]
def inB (i : Nat) : List Int := insL.getD i []
def outB (i : Nat) : List Int := outL.getD i []
def bitB (i : Nat) : Int := bitL.getD i 0
def erB (i : Nat) : Int := if outB i = [] then 51 else 53
def plB (i : Nat) : Int := if outB i = [] then 0 else ((outB i).length : Int) - 1
theorem tabP : ∀ i : Nat, i < 16 → whole_Parse.f 60 (1 + (i : Int) / 2) (inB i) = some (bitB i, 0, 0) := by decide +kernel
theorem tabQ : ∀ i : Nat, i < 16 → whole_Print.f 60 (1 + (i : Int) / 2) (bitB i) = some (inB i, 0) := by decide +kernel
theorem tabO : ∀ i : Nat, i < 16 → whole_Parse.f 60 (1 + (i : Int) / 2) (outB i) = some (0, plB i, erB i) := by decide +kernel
theorem tabL : ∀ i, i < 16 → (inB i).length ≤ 20 ∧ (outB i).length ≤ 20 := by decide +kernel
theorem tabS : ∀ i : Nat, i < 16 → outB i ≠ [] → (strOfNums (outB i)).toList ≠ [] := by decide +kernel
theorem btsB : ∀ i, i < 16 → (∀ c ∈ inB i, 0 ≤ c ∧ c < 256) ∧ (∀ c ∈ outB i, 0 ≤ c ∧ c < 256) := by decide +kernel
def valsOf (l : List (List Int)) : Array Value := (l.map fun x => Value.string (strOfNums x)).toArray
theorem vals_in {i : Nat} (h : i < 16) : (valsOf insL)[i]? = some (.string (strOfNums (inB i))) := by
  unfold valsOf inB
  rw [List.getElem?_toArray, List.getElem?_map, List.getD_eq_getElem?_getD]
  have : i < insL.length := h
  rw [List.getElem?_eq_getElem this]; rfl
theorem vals_out {i : Nat} (h : i < 16) : (valsOf outL)[i]? = some (.string (strOfNums (outB i))) := by
  unfold valsOf outB
  rw [List.getElem?_toArray, List.getElem?_map, List.getD_eq_getElem?_getD]
  have : i < outL.length := h
  rw [List.getElem?_eq_getElem this]; rfl
theorem w_id {x y : Int} (h : x = y) (h2 : -1000000 ≤ y ∧ y ≤ 1000000) : wrap64 x = y := by subst h; unfold wrap64; omega
theorem w_id2 {x y : Int} (h : x = y) (h2 : -1000000 ≤ y ∧ y ≤ 1000000) : IntKind.i64.wrap x = y := by subst h; rw [IntKind.wrap_i64]; omega
theorem w_both {x y : Int} (h : x = y) (h2 : -1000000 ≤ y ∧ y ≤ 1000000) : wrap64 x = y ∧ IntKind.i64.wrap x = y := ⟨w_id h h2, w_id2 h h2⟩
theorem tdiv2 (i : Nat) : Int.tdiv (i : Int) 2 = ((i / 2 : Nat) : Int) := by rw [Int.tdiv_eq_ediv_of_nonneg (by omega)]; omega
theorem num05 (e : Int) (w : World) : Calls Try.prog 14 #[.int .i64 e] w fun x w' => x = .returned (.int .i64 e) ∧ w' = w := by
  go_enter Try.func14, Try.ntmps14
  go_wp2_with fail
  go_ret
  exact ⟨rfl, rfl⟩
theorem one_reads (W : World) (x : Int) (e : TypeId) (fr : Nat × Nat) : Kd.C (Kd.int .u8) (W.alloc (.cells #[.int .u8 x] e fr)) (some ⟨W.heap.size, 0, none⟩) 1 [x] := by
  refine Kd.C_of_reads (d := (0 : Int)) (h1 := fun _ => rfl) (readsInt_of.1 ⟨rfl, by omega, fun _ => ⟨_, rfl, fun j hj => ?_⟩⟩)
  obtain rfl : j = 0 := by simpa using hj
  rw [add_plain, cell_of_row _ _ _ _ _ fr (heap_alloc_new W _)]
  rfl
theorem pz (A : Addr) (W : World) (h : Kd.C (Kd.int .u8) W (some A) 1 [49]) : Calls Try.prog 11 #[.int .i64 0, .slice (some A) 1 1] W fun e w' => e = .returned (.tuple #[.int .u64 0, .int .i64 0, .int .i64 50]) ∧ Below W.heap.size W w' :=
  whole_Parse.calls 20 0 (some A) 1 [49] 0 0 50 W h (Nat.le_refl _) (by decide +kernel)
theorem pf (A : Addr) (W : World) (h : Kd.C (Kd.int .u8) W (some A) 1 [120]) : Calls Try.prog 11 #[.int .i64 9, .slice (some A) 1 1] W fun e w' => e = .returned (.tuple #[.int .u64 0, .int .i64 0, .int .i64 50]) ∧ Below W.heap.size W w' :=
  whole_Parse.calls 20 9 (some A) 1 [120] 0 0 50 W h (Nat.le_refl _) (by decide +kernel)
theorem pp (W : World) : Calls Try.prog 17 #[.int .i64 99, .int .u64 0] W fun e w' => ∃ v0_ : Value, e = .returned (.tuple #[v0_, .int .i64 50]) ∧ Kd.R (Kd.int .u8) 5 w' W.heap.size (fun _ => True) v0_ [] ∧ Below W.heap.size W w' := whole_Print.calls 60 99 0 [] 50 W (by decide +kernel)
theorem pc (W : World) : Calls Try.prog 20 #[.int .i64 (-1), .int .u64 0, .int .u64 0] W fun e w' => e = .returned (.tuple #[.int .i64 0, .int .i64 50]) ∧ Below W.heap.size W w' := whole_Cmp.calls 60 (-1) 0 0 0 50 W (by decide +kernel)
set_option maxHeartbeats 8000000 in
set_option maxRecDepth 100000 in
theorem ends_walk (w : World) : Calls Try.prog 8 #[] w fun e w' => e = .returned (.bool true) ∧ Below w.heap.size w w' := by
  go_enter Try.func8, Try.ntmps8
  go_upto_region 3 with fail
  change Code.wp _ _ _ _ ((w.alloc (Obj.cells (valsOf insL) 9)).alloc (Obj.cells (valsOf outL) 9))
  have B0 : Aside0 (Below w.heap.size w ((w.alloc (Obj.cells (valsOf insL) 9)).alloc (Obj.cells (valsOf outL) 9))) := ⟨((Below.refl _ _).alloc (Nat.le_refl _) _).alloc (by simp) _⟩
  have H1 : Aside0 (((w.alloc (Obj.cells (valsOf insL) 9)).alloc (Obj.cells (valsOf outL) 9)).heap[w.heap.size]? = some (.cells (valsOf insL) 9 (0, 0))) := ⟨blk_alloc (blk_new w _) _⟩
  have H2 : Aside0 (((w.alloc (Obj.cells (valsOf insL) 9)).alloc (Obj.cells (valsOf outL) 9)).heap[w.heap.size + 1]? = some (.cells (valsOf outL) 9 (0, 0))) := ⟨by have h := blk_new (w.alloc (Obj.cells (valsOf insL) 9)) (Obj.cells (valsOf outL) 9); have e : (w.alloc (Obj.cells (valsOf insL) 9)).heap.size = w.heap.size + 1 := (by simp); rwa [e] at h⟩
  generalize (w.alloc (Obj.cells (valsOf insL) 9)).alloc (Obj.cells (valsOf outL) 9) = W0 at B0 H1 H2 ⊢
  generalize w.heap.size + 1 = g2 at H2 ⊢
  generalize hg1 : w.heap.size = g1 at H1 ⊢
  go_upto_region 4 with fail
  go_loopw [3] (fun s3 wr => ∃ i : Nat, i ≤ 16 ∧ s3 = .int .i64 i ∧ Aside0 (Below W0.heap.size W0 wr)) (fun s3 _ => 16 - (intOf s3).toNat)
  case atStart => exact ⟨0, by omega, rfl, ⟨Below.refl _ _⟩⟩
  case round =>
    obtain ⟨i, hi, rfl, BR⟩ := hrel
    by_cases hlt : i < 16
    · have h1 := (BR.out.block g1 (blk_lt H1.out)).trans H1.out
      have h2 := (BR.out.block g2 (blk_lt H2.out)).trans H2.out
      have x1 : wr.cell? ⟨g1, i, none⟩ = some (.string (strOfNums (inB i))) := (blk_cell h1 i).trans (vals_in hlt)
      have HL := tabL i hlt
      have HBT := btsB i hlt
      have TP := Aside0.mk (tabP i hlt)
      have TQ := Aside0.mk (tabQ i hlt)
      have TO := Aside0.mk (tabO i hlt)
      have BI : Aside0 (Bts (inB i)) := ⟨HBT.1⟩
      have BO : Aside0 (Bts (outB i)) := ⟨HBT.2⟩
      have LI := Aside0.mk HL.1
      have LO := Aside0.mk HL.2
      have HLT := Aside0.mk hlt
      have E3 := Aside0.mk (w_both (x := 1 + (i : Int) / 2) rfl (by omega))
      have E2 := Aside0.mk (w_both (x := (i : Int) / 2) rfl (by omega))
      have E1 : Aside0 (Int.tdiv (i : Int) 2 = (i : Int) / 2) := ⟨Int.tdiv_eq_ediv_of_nonneg (by omega)⟩
      have E4 := Aside0.mk (w_both (x := (i : Int) + 1) rfl (by omega))
      have LI2 : Aside0 ((inB i).length ≤ 140737488355328 ∧ (outB i).length ≤ 140737488355328) := ⟨by omega⟩
      have q1 : (i : Int) < 16 := by omega
      have q2 : (0 : Int) ≤ (i : Int) := by omega
      clear HL HBT h1 h2
      have p1 := eq_true q1
      have p2 := eq_true q2
      clear q1 q2
      have e1 := E1.out
      obtain ⟨e2, e2'⟩ := E2.out
      obtain ⟨e3, e3'⟩ := E3.out
      go_upto_region 7 with fail
      clear e1 e2 e2' e3 e3'
      go_upto_region 8 with (first
        | (go_at_call 11; go_must ((with_reducible refine (whole_Parse.calls 60 (1 + (i : Int) / 2) (some A3_) c3_ (inB i) (bitB i) 0 0 w3 HC3.out HC_.out TP.out).mono ?_); rintro e_ w4 ⟨rfl, hb_⟩; have B4 := Aside0.mk (below_step B3.out hb_); clear hb_))
        | ((with_reducible refine gate_dst (N := 40) rfl ?_); refine conv_bytes rfl 9 22 5 _ rfl (inB i) BI.out rfl Try.underlying9 Try.underlying22 Try.underlying5 LI2.out.1 ?_; intro A3_ c3_ w3 hC_ hT_ hc_ hb_; have HC3 := Aside0.mk hC_; have B3 := Aside0.mk (below_step BR.out hb_); have HC_ := Aside0.mk hc_; clear hC_ hT_ hb_ hc_))
      clear B3 HC3 HC_
      go_upto_region 9 with (go_at_call 17; go_must ((with_reducible refine (whole_Print.calls 60 (1 + (i : Int) / 2) (bitB i) (inB i) 0 w4 TQ.out).mono ?_); rintro e_ w5 ⟨v5, rfl, hR_, hb_⟩; obtain ⟨A5, c5, rfl⟩ := Kd.R_slice hR_; have C5 := Aside0.mk (Kd.R_reads' hR_).2.2; have B5 := Aside0.mk (below_step B4.out hb_); clear hR_ hb_))
      have h2 := (B5.out.block g2 (blk_lt H2.out)).trans H2.out
      have x2 : w5.cell? ⟨g2, i, none⟩ = some (.string (strOfNums (outB i))) := (blk_cell h2 i).trans (vals_out HLT.out)
      clear h2 x1
      go_upto_region 10 with (first
        | (go_at_call 11; go_must ((with_reducible refine (whole_Parse.calls 60 (1 + (i : Int) / 2) (some A6_) c6_ (outB i) 0 (plB i) (erB i) w6 HC6.out HC_6.out TO.out).mono ?_); rintro e_ w7 ⟨rfl, hb_⟩; have B7 := Aside0.mk (below_step B6.out hb_); have C7 := Aside0.mk (Kd.C_below C6.out hb_); clear hb_))
        | ((with_reducible refine gate_dst (N := 57) rfl ?_); refine conv_bytes rfl 9 22 5 _ rfl (outB i) BO.out rfl Try.underlying9 Try.underlying22 Try.underlying5 LI2.out.2 ?_; intro A6_ c6_ w6 hC_ hT_ hc_ hb_; have HC6 := Aside0.mk hC_; have B6 := Aside0.mk (below_step B5.out hb_); have C6 := Aside0.mk (Kd.C_below C5.out hb_); have HC_6 := Aside0.mk hc_; clear hC_ hT_ hb_ hc_))
      clear C5 B5 B4 C6 B6 HC6 HC_6 x2
      have h1 := (B7.out.block g1 (blk_lt H1.out)).trans H1.out
      have h2 := (B7.out.block g2 (blk_lt H2.out)).trans H2.out
      have x1 : w7.cell? ⟨g1, i, none⟩ = some (.string (strOfNums (inB i))) := (blk_cell h1 i).trans (vals_in HLT.out)
      have VS := fun n => Kd.C_string (P := Try.prog) (w := w7.drewN n) (A := A5) (c := c5) Try.underlying22 Try.underlying5 Try.underlying9 (Kd.C_drewN C7.out n)
      have NM : Aside0 (∀ n, Calls Try.prog 14 #[.int .i64 0] (w7.drewN n) fun e w' => e = .returned (.int .i64 0) ∧ w' = w7.drewN n) := ⟨fun n => num05 0 _⟩
      go_quiet (first | (go_at_call 14; with_reducible exact Calls.quiet_of_same (NM.out _)))
      have B8 : Aside0 (Below W0.heap.size W0 (w7.drewN nq)) := ⟨pw_below_drewN B7.out _⟩
      clear VS NM x1 h1 h2 C7 B7
      generalize w7.drewN nq = w8 at B8 ⊢
      have h2 := (B8.out.block g2 (blk_lt H2.out)).trans H2.out
      have x2 : w8.cell? ⟨g2, i, none⟩ = some (.string (strOfNums (outB i))) := (blk_cell h2 i).trans (vals_out HLT.out)
      have R1 : Aside0 (i + 1 ≤ 16 ∧ 16 - (i + 1) < 16 - i) := ⟨by have := HLT.out; omega⟩
      clear h2
      by_cases ho : outB i = []
      · have her : erB i = 51 := if_pos ho
        have hS : strOfNums (outB i) = ByteArray.empty := by rw [ho]; rfl
        rw [hS] at x2
        rw [her]
        clear hS her ho
        obtain ⟨e4, e4'⟩ := E4.out
        go_wp2_with (first | (go_at_call 14; (with_reducible refine (num05 51 w8).mono ?_); rintro e_ w9 ⟨rfl, hq_⟩; cases hq_))
        go_roundw
        case rel => exact ⟨i + 1, R1.out.1, by go_num, B8⟩
        case measure => clear e4 e4' p1 p2; have := R1.out.2; simp [intOf]; omega
      · have her : erB i = 53 := if_neg ho
        have hpl : plB i = ((outB i).length : Int) - 1 := if_neg ho
        obtain ⟨S, hS⟩ : ∃ S, S = strOfNums (outB i) := ⟨_, rfl⟩
        have hsz : S.size = (outB i).length := by rw [hS]; exact strOfNums_size _
        have hne : S.toList ≠ [] := by rw [hS]; exact tabS i HLT.out ho
        have s1 : (S.toList == []) = false := by rw [beq_eq_false_iff_ne]; exact hne
        have s3 := eq_false hne
        rw [← hS] at x2
        rw [her, hpl]
        obtain ⟨N, hN⟩ : ∃ N : Nat, N = (outB i).length := ⟨_, rfl⟩
        rw [← hN] at hsz ⊢
        have hN2 : N ≤ 20 := by rw [hN]; exact LO.out
        have E9 := Aside0.mk (w_both (x := (N : Int) - 1) rfl (by omega))
        clear her hpl hS hN hne ho hN2
        obtain ⟨e9, e9'⟩ := E9.out
        obtain ⟨e4, e4'⟩ := E4.out
        go_wp2_with (first | (go_at_call 14; (with_reducible refine (num05 53 w8).mono ?_); rintro e_ w9 ⟨rfl, hq_⟩; cases hq_))
        go_roundw
        case rel => exact ⟨i + 1, R1.out.1, by go_num, B8⟩
        case measure => clear e4 e4' e9 e9' p1 p2 s1 s3; have := R1.out.2; simp [intOf]; omega
    · have hi16 : i = 16 := by omega
      subst hi16
      have kc := fun (w : World) (C : Array Value) (n c : Nat) => Lib.run_convert_bytes_const (P := Try.prog) w 22 5 C n c Try.underlying22 Try.underlying5
      have BW : Aside0 (Below w.heap.size w wr) := ⟨B0.out.trans (BR.out.mono B0.out.size)⟩
      go_upto_region 15 with (go_at_call 11; go_must ((with_reducible refine (pz _ _ (one_reads wr 49 5 (1, 2))).mono ?_); rintro e_ w1 ⟨rfl, hb_⟩; have C1 := Aside0.mk (below_step (below_alloc BW.out _) hb_); clear hb_))
      go_upto_region 16 with (go_at_call 11; go_must ((with_reducible refine (pf _ _ (one_reads w1 120 5 (1, 2))).mono ?_); rintro e_ w2 ⟨rfl, hb_⟩; have C2 := Aside0.mk (below_step (below_alloc C1.out _) hb_); clear hb_))
      go_upto_region 17 with (go_at_call 17; go_must ((with_reducible refine (pp w2).mono ?_); rintro e_ w3 ⟨v3, rfl, hR_, hb_⟩; have C3 := Aside0.mk (below_step C2.out hb_); clear hR_ hb_))
      go_upto_region 18 with (go_at_call 20; go_must ((with_reducible refine (pc w3).mono ?_); rintro e_ w4 ⟨rfl, hb_⟩; have C4 := Aside0.mk (below_step C3.out hb_); clear hb_))
      clear kc
      go_wp2_with (first
        | (go_at_call 16; go_must ((refine (mintagelaw05_wakes.calls true w4 rfl).mono ?_); rintro e_ w5 ⟨rfl, hb_⟩; have C5 := Aside0.mk (below_step C4.out hb_); clear hb_))
        | (go_at_call 14; (with_reducible refine (num05 50 w4).mono ?_); rintro e_ w9 ⟨rfl, hq_⟩; cases hq_))
      go_ret
      exact ⟨rfl, C5.out⟩
end Go.Proofs.Ytlcglnnmcgpnpaa.Keep
