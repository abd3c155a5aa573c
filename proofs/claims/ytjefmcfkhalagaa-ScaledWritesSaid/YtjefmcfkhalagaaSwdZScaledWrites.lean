/- ScaledWrites, walked. -/
import Derived.Test.YtjefmcfkhalagaaSwcZScaledWrites
import Derived.Test.YtjefmcfkhalagaaLive2ZScaledWrites
import Derived.Outline
import Derived.Test.YtjefmcfkhalagaaQ0ZScaledWrites
import Derived.Test.YtjefmcfkhalagaaQ2ZScaledWrites
import Derived.Test.YtjefmcfkhalagaaQ3ZScaledWrites
import Derived.Test.YtjefmcfkhalagaaQ1ZScaledWrites
namespace Go.Proofs.Ytjefmcfkhalagaa.Swx
set_option linter.unusedVariables false
set_option linter.unusedSimpArgs false
open Go.Proofs.YtjefmcfkhalagaaW.PrintWords hiding bt
open Go.RowKit Go.Proofs.Ytjefmcfkhalagaa.Q Go.Proofs.YtjefmcfkhalagaaW.PrintLast Go.Proofs.YtjefmcfkhalagaaW.PrintMore Go.Proofs.Ytjefmcfkhalagaa.Dig Go.Proofs.Ytjefmcfkhalagaa.Big Go.Proofs.Ytjefmcfkhalagaa.Keep
theorem pt_len {neg : Bool} {ds : List Int} {s : Nat} : (pt neg ds s).length ≤ ds.length + 2 := by
  unfold pt sgl
  rw [List.length_append, List.length_append, List.length_take]
  have h1 : (if neg = true then ([45] : List Int) else []).length ≤ 1 := by split <;> simp
  by_cases h : s = 0
  · rw [if_pos h]; simp only [List.length_nil]; omega
  · rw [if_neg h, List.length_cons, List.length_drop]; omega
theorem print_same {b : Int} (hb : 0 ≤ b ∧ b < 18446744073709551616) (s : Int) : ∃ t e K, scaled_Print.f K s b = some (t, e) ∧ t.length ≤ 100 ∧ ∀ w : World, Calls Try.prog 22 #[.int .i64 s, .int .u64 b] w (ToldR w t e) := by
  by_cases hs : 0 ≤ s ∧ s ≤ 18
  · rcases szor b hb with ⟨x, hx, rfl⟩ | ⟨⟨v, n, e1⟩, ⟨v', n', e2⟩⟩
    · obtain ⟨S, rfl⟩ := Int.eq_ofNat_of_zero_le hs.1
      obtain ⟨c, wd, h1, h2, h3, h4, h5, h6, ⟨K1, k1⟩⟩ := print_ev hx (s := S) (by omega)
      have hr := ab_range hx
      obtain ⟨X, hX⟩ := Int.eq_ofNat_of_zero_le hr.1
      have ep : ((10 ^ (c + 1) : Nat) : Int) = 10 ^ (c + 1) := by simp
      have ep2 : ((10 ^ c : Nat) : Int) = 10 ^ c := by simp
      obtain ⟨K2, k2⟩ := num1_ev (w := (X : Int)) (by omega) (by omega)
      obtain ⟨K3, k3⟩ := digits_ev (x := X) (c := c) (by omega) (by omega) (by rcases h2 with h | h; exact .inl h; exact .inr (by omega)) (by omega)
      rw [Int.toNat_natCast] at k2
      refine ⟨_, 0, K1 + K2 + K3, k1 _ (by omega), ?_, fun w => ?_⟩
      · have := pt_len (neg := decide (x < 0)) (ds := digit_Pad.D wd (ab x)) (s := S)
        rw [D_lenb] at this
        omega
      · rw [hX]
        have hf := fits_bt hx
        rw [hX] at hf
        exact rpr_ok S (K1 + K2 + K3) (bt x) (decide (x < 0)) X c wd w (by omega) hf (k2 _ (by omega)) (k3 _ (by omega)) (by omega) (by rw [← hX]; exact h1) h3 h4 h5 h6
    · refine ⟨[], 123, 0, ?_, by simp, fun w => rpr_not s b w hs n' v' e2⟩
      unfold scaled_Print.f
      simp only [e1, (may_is s).1, Option.bind_some, decide_eq_true hs, if_true, Bool.false_eq_true, if_false]
  · refine ⟨[], 120, 0, ?_, by simp, fun w => rpr_scale s b w hs⟩
    obtain ⟨v, n, o, e⟩ := size_any b
    unfold scaled_Print.f
    simp only [e, (may_is s).1, Option.bind_some, decide_eq_false hs, Bool.false_eq_true, if_false]
theorem scale_some (a : Int) : ∃ r, mintagelaw12_scale.f a = some r := by
  unfold mintagelaw12_scale.f
  split
  · exact ⟨_, rfl⟩
  · unfold mintagekeep_Within.f
    have e1 : wrap64 (wrap64 ((18 : Int) - 0) + 1) = 19 := by unfold wrap64; omega
    rw [e1, if_neg (by omega)]
    split <;> exact ⟨_, rfl⟩
theorem rows_live {w W : World} {l : List Ent} (h : Keep.Rows w W l) : Live w (W.alloc (.cells #[.slice none 0 0, .slice none 0 0, .slice none 0 0, .slice none 0 0, .slice none 0 0, .slice none 0 0] 59)) (fun j => j = W.heap.size) W.heap.size l :=
  ⟨h.below (below_alloc (Below.refl _ _) _), Bk.new W _ h.bel.size, fun i p hp _ j hj e => by
    have := own_lt (h.own i p hp) j hj
    omega⟩
theorem el8 : El 5 := ⟨by decide, by decide, by decide⟩
theorem no8 : 5 ∉ BT := by decide
theorem same_self (t : List Int) : mintagekeep_Same.f t t = some true := by unfold mintagekeep_Same.f; simp
set_option maxHeartbeats 2000000 in
set_option maxRecDepth 100000 in
theorem scaledWrites_walk (n m a b : Int) (w : World) (_ : (Lit.int .i64 n).wf = true) (_ : (Lit.int .i64 m).wf = true) (wa : (Lit.int .u64 a).wf = true) (wb : (Lit.int .u64 b).wf = true) :
    Calls Try.prog 8 #[.int .i64 n, .int .i64 m, .int .u64 a, .int .u64 b] w fun e w' => e = .returned (.bool true) ∧ Below w.heap.size w w' := by
  obtain ⟨s, hs⟩ := scale_some n
  obtain ⟨r, hr⟩ := scale_some m
  obtain ⟨t, e, K1, k1, lt, ht⟩ := print_same (wf_u64b wa) s
  obtain ⟨⟨v, g⟩, ⟨K2, k2⟩, ⟨K3, k3⟩⟩ := resc_same (wf_u64b wa) s r
  obtain ⟨⟨x, i⟩, ⟨K4, k4⟩, ⟨K5, k5⟩⟩ := cmp_same (wf_u64b wa) (wf_u64b wb)
  have H0 := Aside0.mk hs
  have H1 := Aside0.mk hr
  have HP := Aside0.mk k1
  have HT := Aside0.mk ht
  have HS := Aside0.mk (k2 K2 (Nat.le_refl _))
  have HR := Aside0.mk (k3 K3 (Nat.le_refl _))
  have HC := Aside0.mk (k4 K4 (Nat.le_refl _))
  have HD := Aside0.mk (k5 K5 (Nat.le_refl _))
  have L0 := Aside0.mk (Keep.Rows.start w)
  clear hs hr k1 ht k2 k3 k4 k5 wa wb
  go_enter Try.func8, Try.ntmps8
  go_wp2_with (first
    | (go_at_call 16; refine (mintagelaw12_wakes.calls true _ rfl).mono ?_; rintro e_ w19 ⟨rfl, hd_⟩; have L19 := Aside0.mk (L18.out.below hd_); clear hd_)
    | (go_at_call 27; refine L17.out.close_calls.mono ?_; rintro e_ w18 ⟨rfl, L_⟩; have L18 := Aside0.mk L_; clear L_)
    | (go_at_call 14; refine (mintagelaw12_num.calls i i w16 rfl).mono ?_; rintro e_ w17 ⟨rfl, hd_⟩; have L17 := Aside0.mk (L16.out.below hd_.below); clear hd_)
    | (go_at_call 14; refine (mintagelaw12_num.calls g g w15 rfl).mono ?_; rintro e_ w16 ⟨rfl, hd_⟩; have L16 := Aside0.mk (L15.out.below hd_.below); clear hd_)
    | (go_at_call 14; refine (mintagelaw12_num.calls e e w14 rfl).mono ?_; rintro e_ w15 ⟨rfl, hd_⟩; have L15 := Aside0.mk (L14.out.below hd_.below); clear hd_)
    | (go_at_call 26; refine (mintagekeep_Same.calls A3 c3 t A4 c4 t true w13 (L13.out.rows.C 1 rfl) l3 R13.out.c hc4 (same_self t)).mono ?_; rintro e_ w14 ⟨rfl, hd_⟩; have L14 := Aside0.mk (L13.out.below hd_.below); clear hd_)
    | (go_at_call 25; refine (L12.out.bytes_calls2 0 (A := A9) (c := c9) (xs := t) rfl (by omega)).mono ?_; rintro e_ w13 ⟨rfl, ⟨ok13, L_⟩, T_⟩; have L13 := Aside0.mk L_; have R13 := Aside0.mk (R12.out.typed T_ no8); clear L_ T_)
    | (go_at_call 25; refine (L9.out.bytes_calls2 1 (A := A3) (c := c3) (xs := t) rfl (by omega)).mono ?_; rintro e_ w12 ⟨rfl, ⟨ok12, L_⟩, T_⟩; have L12 := Aside0.mk L_; have R12 := Aside0.mk (R9.out.typed T_ no8); clear L_ T_)
    | (go_at_call 19; refine (scaled_Print.calls K1 s a t e w8 HP.out).mono ?_; rintro e_ w9 ⟨v_, rfl, hR_, hB_⟩; obtain ⟨A9, c9, rfl, l9, L_⟩ := L8.out.made hR_ hB_ el8; have L9 := Aside0.mk (rows_live L_); have R9 := Aside0.mk ((R8.out.below hB_).below (below_alloc (Below.refl _ _) (.cells #[.slice none 0 0, .slice none 0 0, .slice none 0 0, .slice none 0 0, .slice none 0 0, .slice none 0 0] 59))); clear hR_ hB_ L_)
    | (go_at_call 24; refine (mintageref12_Cmp.calls K5 a b x i w7 HD.out).mono ?_; rintro e_ w8 ⟨rfl, hd_⟩; have L8 := Aside0.mk (L7.out.below hd_.below); have R8 := Aside0.mk (R7.out.below hd_.below); clear hd_)
    | (go_at_call 20; refine (scaled_Cmp.calls K4 a b x i w6 HC.out).mono ?_; rintro e_ w7 ⟨rfl, hd_⟩; have L7 := Aside0.mk (L6.out.below hd_.below); have R7 := Aside0.mk (R6.out.below hd_.below); clear hd_)
    | (go_at_call 23; refine (mintageref12_Rescale.calls K3 a s r v g w5 HR.out).mono ?_; rintro e_ w6 ⟨rfl, hd_⟩; have L6 := Aside0.mk (L5.out.below hd_); have R6 := Aside0.mk (R5.out.below hd_); clear hd_)
    | (go_at_call 21; refine (scaled_Rescale.calls K2 a s r v g w4 HS.out).mono ?_; rintro e_ w5 ⟨rfl, hd_⟩; have L5 := Aside0.mk (L4.out.below hd_); have R5 := Aside0.mk (R4.out.below hd_); clear hd_)
    | (go_at_call 22; refine (HT.out w3).mono ?_; rintro e_ w4 ⟨A4, c4, rfl, hR_, hc4, hd_⟩; have L4 := Aside0.mk (L3.out.below hd_); have R4 := Aside0.mk hR_; clear hd_ hR_)
    | (go_at_call 19; refine (scaled_Print.calls K1 s a t e w2 HP.out).mono ?_; rintro e_ w3 ⟨v_, rfl, hR_, hB_⟩; obtain ⟨A3, c3, rfl, l3, L_⟩ := L2.out.made hR_ hB_ el8; have L3 := Aside0.mk L_; clear hR_ hB_ L_)
    | (go_at_call 11; refine (mintagelaw12_scale.calls m r w1 H1.out).mono ?_; rintro e_ w2 ⟨rfl, hd_⟩; have L2 := Aside0.mk (L1.out.below hd_.below); clear hd_)
    | (go_at_call 11; refine (mintagelaw12_scale.calls n s w H0.out).mono ?_; rintro e_ w1 ⟨rfl, hd_⟩; have L1 := Aside0.mk (L0.out.below hd_.below); clear hd_))
  go_ret
  exact ⟨rfl, L19.out.bel⟩
end Go.Proofs.Ytjefmcfkhalagaa.Swx
