/- MergePlays: at, without, walked; a row of puts that came in. -/
import Derived.Test.YtmbljhkblmdkoaaMyZMergePlays
import Derived.Test.YtmbljhkblmdkoaaIrZMergePlays
import Derived.Deep.Slices
import Derived.ChangeSame
import Derived.SizedLaws
import Derived.OpenShut
import Derived.ProofKit
namespace Go.Proofs.Ytmbljhkblmdkoaa.Mg
set_option linter.unusedVariables false
set_option linter.unusedSimpArgs false
open Go.RowKit Go.Proofs.Ytmbljhkblmdkoaa.Q Go.Proofs.YtmbljhkblmdkoaaW.PrintWords Go.Proofs.YtmbljhkblmdkoaaW.PrintLast Go.Proofs.YtmbljhkblmdkoaaW.PrintMore Go.Proofs.Ytmbljhkblmdkoaa.Keep
set_option maxHeartbeats 2000000 in
set_option maxRecDepth 100000 in
theorem atq (w : World) (A : Option Addr) (c m : Nat) (l : List Int) (n : Int) (hm : l.length = m) (hr : Kd.C (Kd.int .i64) w A l.length l) (hl : l.length ≤ 1000000) :
    Calls Try.prog 9 #[.slice A m c, .int .i64 n] w fun e w' => e = .returned (.int .i64 (atI l n)) ∧ w = w' := by
  subst hm
  have HR := Aside0.mk hr
  clear hr
  go_enter Try.func9, Try.ntmps9
  go_upto_region 2 with fail
  go_loopw [5] (fun s5 wx => ∃ i : Nat, i ≤ l.length ∧ s5 = .int .i64 i ∧ Aside0 (∀ j, j < i → l.getD j 0 ≠ n) ∧ w = wx) (fun s5 _ => l.length - (intOf s5).toNat)
  case atStart => exact ⟨0, Nat.zero_le _, rfl, ⟨fun j hj => by omega⟩, rfl⟩
  case round =>
    obtain ⟨i, hi, rfl, HN, rfl⟩ := hrel
    by_cases hlt : i < l.length
    · obtain ⟨ad, e, hx⟩ := Kd.at_int HR.out (i : Int) (by omega) (by omega)
      simp only [Int.toNat_natCast] at hx
      subst e
      have hd : rd l (i : Int) = l.getD i 0 := by unfold rd; rw [Int.toNat_natCast]
      rw [hd] at hx
      obtain ⟨x, hxx⟩ : ∃ x, x = l.getD i 0 := ⟨_, rfl⟩
      rw [← hxx] at hx
      have HX := Aside0.mk hxx
      have E1 := Aside0.mk (show wrap64 ((i : Int) + 1) = (i : Int) + 1 by unfold wrap64; omega)
      have R1 : Aside0 (i + 1 ≤ l.length ∧ l.length - (i + 1) < l.length - i) := ⟨by omega⟩
      have q1 : (i : Int) < (l.length : Int) := by omega
      have q2 : (0 : Int) ≤ (i : Int) := by omega
      have p1 := eq_true q1
      have p2 := eq_true q2
      clear q1 q2 hd hxx
      by_cases hxn : x = n
      · have p3 : (x == n) = true := by rw [beq_iff_eq]; exact hxn
        have HXN := Aside0.mk hxn
        have HLT := Aside0.mk hlt
        clear hxn
        go_wp2_with fail
        go_ret
        exact ⟨congrArg (fun z => Ending.returned (.int .i64 z)) (atI_first HLT.out HN.out (HX.out.symm.trans HXN.out)).symm, rfl⟩
      · have p3 : (x == n) = false := by rw [beq_eq_false_iff_ne]; exact hxn
        have HXN := Aside0.mk hxn
        have e1 := E1.out
        clear hxn
        go_wp2_with fail
        go_roundw
        case rel => exact ⟨i + 1, R1.out.1, by go_num, ⟨fun j hj => by
          by_cases q : j = i
          · subst q; rw [← HX.out]; exact HXN.out
          · exact HN.out j (by omega)⟩, by first | rfl | trivial⟩
        case measure => clear e1 p1 p2 p3; have := R1.out.2; simp [intOf]; omega
    · have hil : i = l.length := by omega
      subst hil
      have q1 : ¬ (l.length : Int) < (l.length : Int) := by omega
      have p1 := eq_false q1
      clear q1
      go_wp2_with fail
      go_ret
      exact ⟨congrArg (fun z => Ending.returned (.int .i64 z)) (atI_none HN.out).symm, rfl⟩
theorem drop_at {l : List Int} {j : Nat} (hj : j < l.length) : l.take j ++ l.drop (j + 1) = l.eraseIdx j := by rw [List.eraseIdx_eq_take_drop_succ]
theorem addr_add (g n i : Nat) : (⟨g, n, none⟩ : Addr).add i = ⟨g, n + i, none⟩ := by unfold Addr.add; split <;> simp_all
theorem IRdrop {w : World} {g : Nat} {l : List Int} (h : IR .i64 3 w g l) (n : Nat) (hl : l.length ≤ 1000000) : Kd.C (Kd.int .i64) w (some ⟨g, n, none⟩) (l.length - n) (l.drop n) := by
  refine Kd.C_of_reads (d := (0 : Int)) (h1 := fun _ => rfl) (readsInt_of.1 ⟨by rw [List.length_drop], by omega, fun _ => ⟨_, rfl, fun i hi => ?_⟩⟩)
  rw [addr_add, h.cell (by omega), List.getD_eq_getElem?_getD, List.getD_eq_getElem?_getD, List.getElem?_drop]
theorem IRtake {w : World} {g : Nat} {l : List Int} (h : IR .i64 3 w g l) (n : Nat) (hn : n ≤ l.length) (hl : l.length ≤ 1000000) : Kd.C (Kd.int .i64) w (some ⟨g, 0, none⟩) n (l.take n) := by
  refine Kd.C_of_reads (d := (0 : Int)) (h1 := fun _ => rfl) (readsInt_of.1 ⟨by rw [List.length_take]; omega, by omega, fun _ => ⟨_, rfl, fun i hi => ?_⟩⟩)
  rw [add_plain, h.cell (by omega), List.getD_eq_getElem?_getD, List.getD_eq_getElem?_getD, List.getElem?_take, if_pos hi]
theorem without_calls (w : World) (g c m : Nat) (l : List Int) (j : Nat) (hm : l.length = m) (hj : j < l.length) (hc : l.length ≤ c) (hr : IR .i64 3 w g l) (hl : l.length ≤ 1000000) :
    Calls Try.prog 10 #[.slice (some ⟨g, 0, none⟩) m c, .int .i64 (j : Int)] w fun e w' => ∃ v, e = .returned v ∧ Kd.R (Kd.int .i64) 3 w' w.heap.size (fun _ => True) v (l.eraseIdx j) ∧ Below w.heap.size w w' := by
  subst hm
  have H1 := Aside0.mk (IRtake hr j (by omega) hl)
  have H2 := Aside0.mk (IRdrop hr (j + 1) hl)
  have H3 : Aside0 (c = j + 1 → Kd.C (Kd.int .i64) w (some ⟨g, 0, none⟩) (l.length - (j + 1)) (l.drop (j + 1))) := ⟨fun e => by
    have e0 : l.length - (j + 1) = 0 := by omega
    have e1 : l.drop (j + 1) = [] := List.drop_of_length_le (by omega)
    rw [e0, e1]; exact IRtake hr 0 (by omega) hl⟩
  have LL1 : Aside0 ((([] : List Int).length + j) * 8 ≤ 140737488355328) := ⟨by simp; omega⟩
  have LL2 : Aside0 (((l.take j).length + (l.length - (j + 1))) * 8 ≤ 140737488355328) := ⟨by rw [List.length_take]; omega⟩
  have HJ := Aside0.mk hj
  have e1 : wrap64 ((j : Int) + 1) = (j : Int) + 1 := by unfold wrap64; omega
  have q1 : (0 : Int) ≤ (j : Int) := by omega
  have q2 : (j : Int) ≤ (c : Int) := by omega
  have q3 : (0 : Int) ≤ (j : Int) + 1 := by omega
  have q4 : (j : Int) + 1 ≤ (l.length : Int) := by omega
  have q5 : (l.length : Int) ≤ (c : Int) := by omega
  have p1 := eq_true q1
  have p2 := eq_true q2
  have p3 := eq_true q3
  have p4 := eq_true q4
  have p5 := eq_true q5
  clear q1 q2 q3 q4 q5 hr
  by_cases hcj : c = j + 1
  · have H2' := Aside0.mk (H3.out hcj)
    have p6 := eq_true hcj
    clear hcj H2 H3 hj
    have H2 := H2'
    clear H2'
    go_enter Try.func10, Try.ntmps10
    go_upto_region 3 with (first
      | ((with_reducible refine gate_builtin (b := .append) (xs := #[.tmp 6, .tmp 9]) rfl ?_); at_builtin; go_must (refine Kd.R_append_rows (Kd.int .i64) (w0 := w) w.heap.size rfl (.tmp 6) (.tmp 9) 29 3 (.int .i64 0) 8 rfl Try.underlying29 info3 rfl (by decide) (by omega) (.slice none 0 0) ([] : List Int) (l.take j) _ _ _ (fun _ => True) (fun _ => False) rfl rfl (Kd.R_nil _ _ _ _ _) H1.out (fun _ _ h => h) (fun _ hk => hk.elim) (fun _ _ => trivial) (Below.refl _ _) (Nat.le_refl _) LL1.out ?_; intro v7 w1 ho_ hb_ hg_ hat_; rw [List.nil_append] at ho_; have HO1 := Aside0.mk ho_; have HB1 := Aside0.mk hb_; have H4 := Aside0.mk (Kd.C_below H2.out hb_); clear ho_ hb_ hg_ hat_)))
    go_wp2_with (first
      | ((with_reducible refine gate_builtin (b := .append) (xs := #[.tmp 11, .tmp 15]) rfl ?_); at_builtin; go_must (refine Kd.R_append_rows (Kd.int .i64) (w0 := w) w.heap.size rfl (.tmp 11) (.tmp 15) 29 3 (.int .i64 0) 8 rfl Try.underlying29 info3 rfl (by decide) (by omega) v7 (l.take j) (l.drop (j + 1)) _ _ _ (fun _ => True) (fun _ => False) rfl rfl HO1.out H4.out (fun _ _ h => h) (fun _ hk => hk.elim) (fun _ _ => trivial) HB1.out (below_size HB1.out) LL2.out ?_; intro v8 w2 ho_ hb_ hg_ hat_; rw [drop_at HJ.out] at ho_; have HO2 := Aside0.mk ho_; have HB2 := Aside0.mk hb_; clear ho_ hb_ hg_ hat_)))
    go_ret
    exact ⟨v8, rfl, HO2.out, HB2.out⟩
  · have p6 := eq_false hcj
    clear hcj H3 hj
    go_enter Try.func10, Try.ntmps10
    go_upto_region 3 with (first
      | ((with_reducible refine gate_builtin (b := .append) (xs := #[.tmp 6, .tmp 9]) rfl ?_); at_builtin; go_must (refine Kd.R_append_rows (Kd.int .i64) (w0 := w) w.heap.size rfl (.tmp 6) (.tmp 9) 29 3 (.int .i64 0) 8 rfl Try.underlying29 info3 rfl (by decide) (by omega) (.slice none 0 0) ([] : List Int) (l.take j) _ _ _ (fun _ => True) (fun _ => False) rfl rfl (Kd.R_nil _ _ _ _ _) H1.out (fun _ _ h => h) (fun _ hk => hk.elim) (fun _ _ => trivial) (Below.refl _ _) (Nat.le_refl _) LL1.out ?_; intro v7 w1 ho_ hb_ hg_ hat_; rw [List.nil_append] at ho_; have HO1 := Aside0.mk ho_; have HB1 := Aside0.mk hb_; have H4 := Aside0.mk (Kd.C_below H2.out hb_); clear ho_ hb_ hg_ hat_)))
    go_wp2_with (first
      | ((with_reducible refine gate_builtin (b := .append) (xs := #[.tmp 11, .tmp 15]) rfl ?_); at_builtin; go_must (refine Kd.R_append_rows (Kd.int .i64) (w0 := w) w.heap.size rfl (.tmp 11) (.tmp 15) 29 3 (.int .i64 0) 8 rfl Try.underlying29 info3 rfl (by decide) (by omega) v7 (l.take j) (l.drop (j + 1)) _ _ _ (fun _ => True) (fun _ => False) rfl rfl HO1.out H4.out (fun _ _ h => h) (fun _ hk => hk.elim) (fun _ _ => trivial) HB1.out (below_size HB1.out) LL2.out ?_; intro v8 w2 ho_ hb_ hg_ hat_; rw [drop_at HJ.out] at ho_; have HO2 := Aside0.mk ho_; have HB2 := Aside0.mk hb_; clear ho_ hb_ hg_ hat_)))
    go_ret
    exact ⟨v8, rfl, HO2.out, HB2.out⟩
end Go.Proofs.Ytmbljhkblmdkoaa.Mg
