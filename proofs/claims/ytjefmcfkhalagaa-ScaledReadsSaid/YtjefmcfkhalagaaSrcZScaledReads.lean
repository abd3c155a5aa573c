/- The document's Parse, walked: what its answer is. -/
import Derived.Test.YtjefmcfkhalagaaSrbZScaledReads
import Derived.Test.YtjefmcfkhalagaaKeep0ZScaledReads
import Derived.Test.YtjefmcfkhalagaaIrZScaledReads
import Derived.Outline
import Derived.Test.YtjefmcfkhalagaaQ1ZScaledReads
import Derived.Test.YtjefmcfkhalagaaQ0ZScaledReads
namespace Go.Proofs.Ytjefmcfkhalagaa.Scr
set_option linter.unusedVariables false
set_option linter.unusedSimpArgs false
open Go.RowKit Go.Proofs.Ytjefmcfkhalagaa.Q Go.Proofs.YtjefmcfkhalagaaW.PrintWords Go.Proofs.YtjefmcfkhalagaaW.PrintLast Go.Proofs.YtjefmcfkhalagaaW.PrintMore Go.Proofs.Ytjefmcfkhalagaa.Dig Go.Proofs.Ytjefmcfkhalagaa.Keep Go.Proofs.Ytjefmcfkhalagaa.Big

def Told3 (w : World) (r : Int × Int × Int) (e : Ending) (w' : World) : Prop := e = .returned (.tuple #[.int .u64 r.1, .int .i64 r.2.1, .int .i64 r.2.2]) ∧ Below w.heap.size w w'
theorem scaleOK_ev (a : Int) : mintageref12_scaleOK.f a = some (decide (0 ≤ a ∧ a ≤ 18)) := by
  unfold mintageref12_scaleOK.f
  by_cases h : a ≥ 0
  · rw [if_pos h]; congr 2; apply propext; omega
  · rw [if_neg h]; congr 1; symm; rw [decide_eq_false_iff_not]; omega
theorem str_at {l : List Int} (hl : Bts l) {i : Nat} (h : i < l.length) (W : World) : (Instr.index 9 (.string (strOfNums l)) (.int .i64 (i : Int))).run Try.prog W = .ok (.int .u8 (rd l (i : Int))) W := by
  rw [run_index_string (h := Try.underlying9)]
  have hs : (strOfNums l).size = l.length := strOfNums_size l
  rw [dif_pos ⟨by omega, by omega⟩]
  have hg := str_get hl (j := i) h
  have e : ((i : Int)).toNat = i := by omega
  have hv : (((strOfNums l)[((i : Int)).toNat]'(by omega)).toNat : Int) = rd l (i : Int) := by
    have hr : rd l (i : Int) = l.getD i 0 := by unfold rd; rw [Int.toNat_natCast]
    rw [hr, ← hg]
    congr 2
    have h1 : (strOfNums l).data.toList.getD i 0 = (strOfNums l)[((i : Int)).toNat]'(by omega) := by
      rw [List.getD_eq_getElem?_getD, List.getElem?_eq_getElem (show i < (strOfNums l).data.toList.length by rw [strOfNums_data, List.length_map]; omega)]
      simp [e]; rfl
    exact h1.symm
  rw [hv]
theorem str_till {l : List Int} {k : Nat} (h : k ≤ l.length) (W : World) : (Instr.slice 9 (.string (strOfNums l)) none (some (.int .i64 (k : Int))) none).run Try.prog W = .ok (.string (strOfNums (l.take k))) W := by
  have hs : (strOfNums l).size = l.length := strOfNums_size l
  rw [run_slice_string_h (ht := Try.underlying9) (h0 := by omega) (h2 := by omega)]
  rw [Int.toNat_natCast, str_extract, List.drop_zero]
set_option maxHeartbeats 1000000 in
set_option maxRecDepth 100000 in
theorem rp_scale (sc : Int) (l : List Int) (A : Option Addr) (c : Nat) (w : World) (h : ¬ (0 ≤ sc ∧ sc ≤ 18)) : Calls Try.prog 13 #[.int .i64 sc, .slice A l.length c] w (Told3 w (0, 0, 120)) := by
  have H1 : Aside0 (mintageref12_scaleOK.f sc = some false) := ⟨by rw [scaleOK_ev, decide_eq_false h]⟩
  clear h
  go_enter Try.func13, Try.ntmps13
  go_wp2_with (first | (go_at_call 31; refine (mintageref12_scaleOK.calls sc false _ H1.out).mono ?_; rintro e_ w1 ⟨rfl, hd_⟩; have HB := Aside0.mk hd_.below; clear hd_))
  go_ret3
  exact ⟨rfl, HB.out⟩
set_option maxHeartbeats 1000000 in
set_option maxRecDepth 100000 in
theorem rp_long (sc : Int) (l : List Int) (A : Option Addr) (c : Nat) (w : World) (h : 0 ≤ sc ∧ sc ≤ 18) (hl : 1024 < l.length) : Calls Try.prog 13 #[.int .i64 sc, .slice A l.length c] w (Told3 w (0, 0, 80)) := by
  have H1 : Aside0 (mintageref12_scaleOK.f sc = some true) := ⟨by rw [scaleOK_ev, decide_eq_true h]⟩
  clear h
  go_enter Try.func13, Try.ntmps13
  go_wp2_with (first | (go_at_call 31; refine (mintageref12_scaleOK.calls sc true _ H1.out).mono ?_; rintro e_ w1 ⟨rfl, hd_⟩; have HB := Aside0.mk hd_.below; clear hd_))
  go_ret3
  exact ⟨rfl, HB.out⟩
set_option maxHeartbeats 2000000 in
set_option maxRecDepth 100000 in
theorem rp_form (sc : Int) (l : List Int) (hb : Bts l) (A : Option Addr) (c : Nat) (w : World) (h : 0 ≤ sc ∧ sc ≤ 18) (hl : l.length ≤ 1024) (hC : Kd.C (Kd.int .u8) w A l.length l) (hf : NoForm l) : Calls Try.prog 13 #[.int .i64 sc, .slice A l.length c] w (Told3 w (0, (endAt l : Int), 121)) := by
  have H1 : Aside0 (mintageref12_scaleOK.f sc = some true) := ⟨by rw [scaleOK_ev, decide_eq_true h]⟩
  have HN : Aside0 ((strOfNums l).size = l.length) := ⟨strOfNums_size l⟩
  have HE : Aside0 (endAt l ≤ l.length) := ⟨end_le l⟩
  have ST : Aside0 (∀ k, k ≤ l.length → ∀ W, (Instr.slice 9 (.string (strOfNums l)) none (some (.int .i64 (k : Int))) none).run Try.prog W = .ok (.string (strOfNums (l.take k))) W) := ⟨fun k hk W => str_till hk W⟩
  have BT : Aside0 (∀ k, k ≤ l.length → endAt l ≤ k → ∃ b, Ev (fun n => mintageref12_begins.f n (strOfNums (l.take k))) (decide (k = endAt l), b)) := ⟨fun k h1 h2 => begins_take hb (by omega) h1 h2⟩
  obtain ⟨K, hK⟩ := begins_is hb (by omega)
  have H2 : Aside0 (mintageref12_begins.f K (strOfNums l) = some (decide (endAt l = l.length), false)) := ⟨by have := hK K (Nat.le_refl _); rw [decide_eq_false (show ¬ ¬ NoForm l from fun q => q hf)] at this; exact this⟩
  have HC := Aside0.mk hC
  clear h hK hf hb hC
  go_enter Try.func13, Try.ntmps13
  go_upto_region 5 with (first | (go_at_call 31; refine (mintageref12_scaleOK.calls sc true _ H1.out).mono ?_; rintro e_ w1 ⟨rfl, hd_⟩; have HB := Aside0.mk hd_.below; clear hd_))
  have cs := Kd.C_string (P := Try.prog) (A := A) (c := c) Try.underlying22 Try.underlying5 Try.underlying9 (Kd.C_below HC.out HB.out)
  go_upto_region 6 with fail
  obtain ⟨S, hS⟩ : ∃ S, strOfNums l = S := ⟨_, rfl⟩
  rw [hS] at H2 ST HN
  rw [hS]
  clear cs hS
  have hz := HN.out
  go_upto_region 9 with (first | (go_at_call 32; refine (mintageref12_begins.calls K S _ false _ H2.out).mono ?_; rintro e_ w2 ⟨rfl, hd_⟩; have HB2 := Aside0.mk (below_step HB.out hd_.below); clear hd_))
  go_loopw [10] (fun v wr => ∃ k : Nat, endAt l ≤ k ∧ k ≤ l.length ∧ v = .int .i64 (k : Int) ∧ Aside0 (Below w.heap.size w wr)) (fun v _ => (intOf v).toNat)
  case atStart => exact ⟨l.length, HE.out, Nat.le_refl _, by first | rfl | rw [hz], HB2⟩
  case round =>
    obtain ⟨k, h1, h2, rfl, B⟩ := hrel
    clear hz
    obtain ⟨b, Kb, hb⟩ := BT.out k h2 h1
    have hb := Aside0.mk (hb Kb (Nat.le_refl _))
    have st := ST.out k h2
    by_cases hk : k = 0
    · subst hk
      have e0 : endAt l = 0 := by omega
      go_wp2_with fail
      go_ret3
      exact ⟨by first | rfl | (rw [e0]; rfl), B.out⟩
    · by_cases he : k = endAt l
      · have hb2 : Aside0 (mintageref12_begins.f Kb (strOfNums (l.take k)) = some (true, b)) := ⟨by have := hb.out; rw [decide_eq_true he] at this; exact this⟩
        have HK := Aside0.mk he
        clear hb he h1
        go_wp2_with (first | (go_at_call 32; refine (mintageref12_begins.calls Kb _ true b _ hb2.out).mono ?_; rintro e_ w2 ⟨rfl, hd_⟩; have HB3 := Aside0.mk (below_step B.out hd_.below); clear hd_))
        go_ret3
        exact ⟨by first | rfl | (rw [← HK.out]; rfl), HB3.out⟩
      · have hb2 : Aside0 (mintageref12_begins.f Kb (strOfNums (l.take k)) = some (false, b)) := ⟨by have := hb.out; rw [decide_eq_false he] at this; exact this⟩
        have HK := Aside0.mk (show endAt l ≤ k - 1 ∧ k - 1 ≤ l.length ∧ k - 1 < k by omega)
        have hw : wrap64 ((k : Int) - 1) = ((k - 1 : Nat) : Int) := by rw [wrap64_id (by omega) (by omega)]; omega
        have HW := Aside0.mk hw
        clear hb he h1 hw
        go_wp2_with (first | (go_at_call 32; refine (mintageref12_begins.calls Kb _ false b _ hb2.out).mono ?_; rintro e_ w2 ⟨rfl, hd_⟩; have HB3 := Aside0.mk (below_step B.out hd_.below); clear hd_))
        go_roundw
        case rel => exact ⟨k - 1, HK.out.1, HK.out.2.1, by first | exact congrArg (Value.int .i64) HW.out | go_num, HB3⟩
        case measure => have := HK.out.2.2; simp [intOf]; omega
end Go.Proofs.Ytjefmcfkhalagaa.Scr
