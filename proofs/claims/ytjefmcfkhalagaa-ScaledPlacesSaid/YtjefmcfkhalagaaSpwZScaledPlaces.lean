/- ScaledPlaces, walked. -/
import Derived.Test.YtjefmcfkhalagaaPlaZScaledPlaces
import Derived.Test.YtjefmcfkhalagaaLendZScaledPlaces
import Derived.Test.YtjefmcfkhalagaaIrZScaledPlaces
import Derived.Test.YtjefmcfkhalagaaQ0ZScaledPlaces
import Derived.Test.YtjefmcfkhalagaaQ1ZScaledPlaces
namespace Go.Proofs.Ytjefmcfkhalagaa.Scr
set_option linter.unusedVariables false
set_option linter.unusedSimpArgs false
open Go.RowKit Go.Proofs.Ytjefmcfkhalagaa.Q Go.Proofs.YtjefmcfkhalagaaW.PrintWords Go.Proofs.YtjefmcfkhalagaaW.PrintLast Go.Proofs.YtjefmcfkhalagaaW.PrintMore Go.Proofs.Ytjefmcfkhalagaa.Dig Go.Proofs.Ytjefmcfkhalagaa.Keep
theorem endAt_le (l : List Int) : endAt l ≤ l.length := by
  unfold endAt
  split
  · rename_i h
    have h1 : pt l < l.length := isb_lt h
    unfold m2
    rw [if_pos h]
    have := lead_le (l.drop (pt l + 1))
    rw [List.length_drop] at this
    omega
  · exact pt_le l
theorem within18 (a : Int) : ∃ m : Nat, mintagekeep_Within.f a 0 18 = some (m : Int) ∧ m ≤ 18 := by
  unfold mintagekeep_Within.f
  have e1 : wrap64 (wrap64 ((18 : Int) - 0) + 1) = 19 := by unfold wrap64; omega
  rw [e1, if_neg (by omega)]
  have b1 := Int.tmod_lt_of_pos a (show (0 : Int) < 19 by omega)
  have b2 := Int.lt_tmod_of_pos a (show (0 : Int) < 19 by omega)
  by_cases h : Int.tmod a 19 < 0
  · rw [if_pos h]
    refine ⟨(Int.tmod a 19 + 19).toNat, ?_, by omega⟩
    congr 1
    unfold wrap64; omega
  · rw [if_neg h]
    refine ⟨(Int.tmod a 19).toNat, ?_, by omega⟩
    congr 1
    unfold wrap64; omega
theorem numq (e : Int) (w : World) : Calls Try.prog 14 #[.int .i64 e] w fun x w' => x = .returned (.int .i64 e) ∧ w = w' := by
  go_enter Try.func14, Try.ntmps14
  go_wp2_with fail
  go_ret
  exact ⟨rfl, rfl⟩
theorem wakesq (w : World) : Calls Try.prog 16 #[] w fun x w' => x = .returned (.bool true) ∧ Below w.heap.size w w' := (mintagelaw12_wakes.calls true w rfl).mono fun _ _ ⟨a, b⟩ => ⟨a, b⟩
theorem view {w : World} {A : Option Addr} {l : List Int} (hr : Kd.C (Kd.int .u8) w A l.length l) (n : Nat) : Kd.C (Kd.int .u8) w A (l.take n).length (l.take n) := by
  have hr' : ReadsInt w .u8 A l.length l := readsInt_of.2 (Kd.reads_of_C (d := (0 : Int)) (h1 := fun _ => rfl) hr)
  refine Kd.C_of_reads (readsInt_of.1 ?_)
  have := reads_take hr' (min n l.length) (by omega)
  have e : l.take n = l.take (min n l.length) := by
    rcases Nat.le_total n l.length with h | h
    · rw [Nat.min_eq_left h]
    · rw [Nat.min_eq_right h, List.take_of_length_le h, List.take_of_length_le (Nat.le_refl _)]
  rw [e]; simpa using this
/-- Parse, with the kind of its answer. -/
theorem parseq (w : World) (A : Option Addr) (c n : Nat) (l : List Int) (s : Nat) (hn : l.length = n) (hr : Kd.C (Kd.int .u8) w A l.length l) (hc : l.length ≤ c) (hs : s ≤ 18) (hl : l.length ≤ 1024) :
    Calls Try.prog 12 #[.int .i64 (s : Int), .slice A n c] w fun e w' => ∃ b p er, e = .returned (.tuple #[.int .u64 b, .int .i64 p, .int .i64 er]) ∧ PC l s b p er ∧ Below w.heap.size w w' := by
  subst hn
  obtain ⟨K, b, p, er, hF, hP⟩ := parse_cases l s hs hl
  refine (Parse_calls w A c l s hr hc K b p er hF).mono ?_
  rintro e w' ⟨h1, h2⟩
  exact ⟨b, p, er, h1, hP, h2⟩
theorem cut200 (w : World) (A : Option Addr) (c : Nat) (xs : List Int) (hr : Kd.C (Kd.int .u8) w A xs.length xs) (hc : xs.length ≤ c) (ys : List Int) (hy : ys = xs.take 200) :
    Calls Try.prog 9 #[.slice A xs.length c, .int .i64 200] w fun e w' => e = .returned (.slice A ys.length c) ∧ w = w' := cut_calls w A c 200 xs hr hc ys hy
theorem oneU (W : World) (u : Int) : Kd.M (Kd.int .u8) W 0 (fun _ => True) u [.int .u8 u] := rfl
set_option maxHeartbeats 4000000 in
set_option maxRecDepth 100000 in
theorem places_walk (n0 : Int) (A1 A2 : Option Addr) (l1 l2 : List Int) (c1 c2 : Nat) (w : World) (h1 : Kd.C (Kd.int .u8) w A1 l1.length l1) (hc1 : l1.length ≤ c1) (h2 : Kd.C (Kd.int .u8) w A2 l2.length l2) (hc2 : l2.length ≤ c2) :
    Calls Try.prog 5 #[.int .i64 n0, .slice A1 l1.length c1, .slice A2 l2.length c2] w fun e w' => e = .returned (.bool true) ∧ Below w.heap.size w w' := by
  obtain ⟨s, hs, hs18⟩ := within18 n0
  obtain ⟨xs, hxs⟩ : ∃ xs, xs = l1.take 200 := ⟨_, rfl⟩
  obtain ⟨ys, hys⟩ : ∃ ys, ys = l2.take 200 := ⟨_, rfl⟩
  have hx200 : xs.length ≤ 200 := by rw [hxs, List.length_take]; omega
  have hy200 : ys.length ≤ 200 := by rw [hys, List.length_take]; omega
  have hxc : xs.length ≤ c1 := by rw [hxs, List.length_take]; omega
  have hyc : ys.length ≤ c2 := by rw [hys, List.length_take]; omega
  have HX : Aside0 (Kd.C (Kd.int .u8) w A1 xs.length xs) := ⟨by rw [hxs]; exact view h1 200⟩
  have HY : Aside0 (Kd.C (Kd.int .u8) w A2 ys.length ys) := ⟨by rw [hys]; exact view h2 200⟩
  have HXS := Aside0.mk hxs
  have HYS := Aside0.mk hys
  have C1 := Aside0.mk h1
  have C2 := Aside0.mk h2
  have HS := Aside0.mk hs
  have L1 := Aside0.mk hc1
  have L2 := Aside0.mk hc2
  have HXC := Aside0.mk hxc
  have HYC := Aside0.mk hyc
  clear h1 h2 hxs hys hs hc1 hc2 hxc hyc
  go_enter Try.func5, Try.ntmps5
  go_upto_region 4 with (first
    | (go_at_call 12; go_must (refine (parseq w1 A1 c1 xs.length xs s rfl (Kd.C_below HX.out B1.out) HXC.out hs18 (by omega)).mono ?_); rintro e_ w2 ⟨b, p, er, rfl, hP_, hb_⟩; have HP := Aside0.mk hP_; have B2 := Aside0.mk (below_step B1.out hb_); clear hP_ hb_)
    | (go_at_call 9; (with_reducible refine (cut200 w1 A2 c2 l2 (Kd.C_below C2.out B1.out) L2.out ys HYS.out).mono ?_); rintro e_ w9 ⟨rfl, rfl⟩)
    | (go_at_call 9; (with_reducible refine (cut200 w1 A1 c1 l1 (Kd.C_below C1.out B1.out) L1.out xs HXS.out).mono ?_); rintro e_ w9 ⟨rfl, rfl⟩)
    | (go_at_call 17; go_must (refine (mintagekeep_Within.calls n0 0 18 (s : Int) w HS.out).mono ?_); rintro e_ w1 ⟨rfl, hd_⟩; have B1 := Aside0.mk hd_.below; clear hd_))
  have CX := Aside0.mk (Kd.C_below HX.out B2.out)
  have CY := Aside0.mk (Kd.C_below HY.out B2.out)
  clear HX HY C1 C2 HXS HYS L1 L2 B1 HS
  have hsz2 := B2.out.size
  have LX : Aside0 ((([] : List Int).length + xs.length) * 1 ≤ 140737488355328) := ⟨by simp; omega⟩
  rcases HP.out with ⟨hf⟩ | ⟨i, hf, hb⟩ | ⟨b', er', hf, he⟩
  · have hle := endAt_le xs
    clear HP
    by_cases q : endAt xs < xs.length
    · obtain ⟨hfs, hes⟩ := form_stays (more := ys) q
      obtain ⟨ad, e, -⟩ := CX.out.2.2 (by omega)
      subst e
      have CT : Aside0 (Kd.C (Kd.int .u8) w2 (some ad) (endAt xs + 1) (xs.take (endAt xs + 1))) := ⟨by have h := view CX.out (endAt xs + 1); rwa [show (xs.take (endAt xs + 1)).length = endAt xs + 1 by rw [List.length_take]; omega] at h⟩
      have e1 : wrap64 ((endAt xs : Int) + 1) = ((endAt xs : Int) + 1) := by unfold wrap64; omega
      have e2 : IntKind.i64.wrap ((endAt xs : Int) + 1) = ((endAt xs : Int) + 1) := by rw [IntKind.wrap_i64]; omega
      have L1 : Aside0 ((([] : List Int).length + (endAt xs + 1)) * 1 ≤ 140737488355328) := ⟨by simp; omega⟩
      have hml : (xs.take (endAt xs + 1)).length = endAt xs + 1 := by rw [List.length_take]; omega
      have L2 : Aside0 ((([] ++ xs.take (endAt xs + 1) : List Int).length + ys.length) * 1 ≤ 140737488355328) := ⟨by simp; omega⟩
      have L3 : Aside0 ((xs.take (endAt xs + 1) ++ ys).length ≤ 1024) := ⟨by rw [List.length_append]; omega⟩
      have HFS := Aside0.mk hfs
      have HES := Aside0.mk hes
      have q1 : ¬ ((xs.length : Int) < (endAt xs : Int)) := by omega
      have q2 : ((endAt xs : Int) == (xs.length : Int)) = false := by rw [beq_eq_false_iff_ne]; omega
      have q3 : (0 : Int) ≤ ((endAt xs : Int) + 1) := by omega
      have q4 : ((endAt xs : Int) + 1) ≤ (c1 : Int) := by have := HXC.out; omega
      have p1 := eq_false q1
      have p3 := eq_true q3
      have p4 := eq_true q4
      clear hfs hes q1 q3 q4
      go_upto_region 18 with (first
        | (go_at_call 14; (with_reducible refine (numq _ w2).mono ?_); rintro e_ w9 ⟨rfl, rfl⟩))
      clear p1 q2
      go_upto_region 19 with (first
        | (go_at_call 12; go_must (refine (parseq wd Ad cd N (xs.take (endAt xs + 1) ++ ys) s HN.out.symm CD.out HDC.out hs18 L3.out).mono ?_); rintro e_ w5 ⟨b5, p5, er5, rfl, hP_, hb_⟩; have HP5 := Aside0.mk hP_; have B5 := Aside0.mk (below_step BD.out hb_); clear hP_ hb_)
        | ((with_reducible refine gate_builtin (b := .append) (xs := #[.tmp 141, .tmp 142]) rfl ?_); at_builtin; go_must (refine Kd.R_append_rows (Kd.int .u8) (w0 := w2) w2.heap.size rfl (.tmp 141) (.tmp 142) 22 5 (.int .u8 0) 1 rfl Try.underlying22 info5 rfl (by decide) (by omega) vc ([] ++ xs.take (endAt xs + 1)) ys _ _ _ (fun _ => True) (fun _ => False) rfl rfl HOc.out HCc.out (fun _ _ h => h) (fun _ hk => hk.elim) (fun _ _ => trivial) HLc.out (below_size HLc.out) L2.out ?_; intro vd wd ho_ hb_ hg_ hat_; rw [List.nil_append] at ho_; obtain ⟨Ad, cd, rfl⟩ := Kd.R_slice ho_; have hrd_ := Kd.R_reads' ho_; obtain ⟨N, hN⟩ : ∃ N : Nat, N = (xs.take (endAt xs + 1) ++ ys).length := ⟨_, rfl⟩; rw [← hN]; have HN := Aside0.mk hN; clear hN; have CD := Aside0.mk hrd_.2.2; have HDC := Aside0.mk hrd_.2.1; have BD : Aside0 (Below w.heap.size w wd) := ⟨B2.out.trans (hb_.mono hsz2)⟩; clear hrd_ ho_ hb_ hg_ hat_))
        | ((with_reducible refine gate_builtin (b := .append) (xs := #[.tmp 136, .tmp 140]) rfl ?_); at_builtin; go_must (refine Kd.R_append_rows (Kd.int .u8) (w0 := w2) w2.heap.size rfl (.tmp 136) (.tmp 140) 22 5 (.int .u8 0) 1 rfl Try.underlying22 info5 rfl (by decide) (by omega) vl ([] : List Int) (xs.take (endAt xs + 1)) _ _ _ (fun _ => True) (fun _ => False) rfl rfl HOl.out (Kd.C_below CT.out HLl.out) (fun _ _ h => h) (fun _ hk => hk.elim) (fun _ _ => trivial) HLl.out (below_size HLl.out) L1.out ?_; intro vc wc ho_ hb_ hg_ hat_; have HOc := Aside0.mk ho_; have HLc := Aside0.mk hb_; have HCc := Aside0.mk (Kd.C_below CY.out (Below.mono hb_ (Nat.le_refl _))); clear ho_ hb_ hg_ hat_))
        | ((with_reducible refine gate_dst (N := 136) rfl ?_); go_must (refine Kd.R_lit (Kd.int .u8) w2.heap.size 5 ?hg (N := 136) ?hd (xs := ([] : List Int)) (inner := ([] : List Value)) (ok := fun _ => True) (okp := fun _ => True) ?hr ?hp (fun _ hk => hk) trivial (Below.refl w2.heap.size w2) (Nat.le_refl _) (by simp) ?_; (case hd => rfl); (case hg => rfl); (case hr => first | (go_simp; done) | (go_simp; rfl)); (case hp => exact (Reps.none _ _)); intro vl wl ho_ hb_ hg_ hnew_; have HOl := Aside0.mk ho_; have HLl := Aside0.mk hb_; clear ho_ hb_ hg_ hnew_)))
      rcases HP5.out with ⟨hf5⟩ | ⟨i5, hf5, hb5⟩ | ⟨b5, er5, hf5, he5⟩
      · rw [HES.out]
        have HB5 := B5
        clear HP5
        go_wp2_with (first
          | (go_at_call 16; (refine (wakesq w5).mono ?_); rintro e_ w6 ⟨rfl, hb_⟩; have B6 := Aside0.mk (below_step B5.out hb_); clear hb_)
          | (go_at_call 14; (with_reducible refine (numq _ w5).mono ?_); rintro e_ w9 ⟨rfl, rfl⟩))
        go_ret
        exact ⟨rfl, B6.out⟩
      · exact absurd HFS.out hf5
      · exact absurd HFS.out hf5
    · have hend : endAt xs = xs.length := by omega
      have hm0 : m1 xs + m2 xs = 0 := by rcases hf with h | h <;> omega
      obtain ⟨hn7, hp7⟩ := bare_seven hm0 q
      rw [hend]
      have q1 : ¬ ((xs.length : Int) < (xs.length : Int)) := by omega
      have p1 := eq_false q1
      have L2 : Aside0 ((([] ++ xs : List Int).length + 1) * 1 ≤ 140737488355328) := ⟨by simp; omega⟩
      have L3 : Aside0 ((xs ++ [55]).length ≤ 1024) := ⟨by rw [List.length_append]; simp; omega⟩
      have HN7 := Aside0.mk hn7
      have HP7 := Aside0.mk hp7
      clear hn7 hp7 q1 q hf hm0
      go_upto_region 16 with (first
        | (go_at_call 14; (with_reducible refine (numq _ w2).mono ?_); rintro e_ w9 ⟨rfl, rfl⟩))
      clear p1
      go_upto_region 17 with (first
        | (go_at_call 12; go_must (refine (parseq wd Ad cd N (xs ++ [55]) s HN.out.symm CD.out HDC.out hs18 L3.out).mono ?_); rintro e_ w5 ⟨b5, p5, er5, rfl, hP_, hb_⟩; have HP5 := Aside0.mk hP_; have B5 := Aside0.mk (below_step BD.out hb_); clear hP_ hb_)
        | ((with_reducible refine gate_builtin (b := .append) (xs := #[.tmp 115, .tmp 116]) rfl ?_); at_builtin; go_must (refine Kd.R_append (Kd.int .u8) (w0 := w2) w2.heap.size rfl (.tmp 115) (.tmp 116) 22 5 (.int .u8 0) 1 rfl Try.underlying22 info5 rfl (by decide) (by omega) vc ([] ++ xs) 55 [.int .u8 55] (fun _ => True) (fun _ => False) rfl rfl ?aP (fun _ hk => hk.elim) (fun _ _ => trivial) HOc.out HLc.out (below_size HLc.out) L2.out ?_; (case aP => rfl); intro vd wd ho_ hb_ hg_ hat_; rw [List.nil_append] at ho_; obtain ⟨Ad, cd, rfl⟩ := Kd.R_slice ho_; have hrd_ := Kd.R_reads' ho_; obtain ⟨N, hN⟩ : ∃ N : Nat, N = (xs ++ [55]).length := ⟨_, rfl⟩; rw [← hN]; have HN := Aside0.mk hN; clear hN; have CD := Aside0.mk hrd_.2.2; have HDC := Aside0.mk hrd_.2.1; have BD : Aside0 (Below w.heap.size w wd) := ⟨B2.out.trans (hb_.mono hsz2)⟩; clear hrd_ ho_ hb_ hg_ hat_))
        | ((with_reducible refine gate_builtin (b := .append) (xs := #[.tmp 113, .tmp 114]) rfl ?_); at_builtin; go_must (refine Kd.R_append_rows (Kd.int .u8) (w0 := w2) w2.heap.size rfl (.tmp 113) (.tmp 114) 22 5 (.int .u8 0) 1 rfl Try.underlying22 info5 rfl (by decide) (by omega) vl ([] : List Int) xs _ _ _ (fun _ => True) (fun _ => False) rfl rfl HOl.out (Kd.C_below CX.out HLl.out) (fun _ _ h => h) (fun _ hk => hk.elim) (fun _ _ => trivial) HLl.out (below_size HLl.out) LX.out ?_; intro vc wc ho_ hb_ hg_ hat_; have HOc := Aside0.mk ho_; have HLc := Aside0.mk hb_; clear ho_ hb_ hg_ hat_))
        | ((with_reducible refine gate_dst (N := 113) rfl ?_); go_must (refine Kd.R_lit (Kd.int .u8) w2.heap.size 5 ?hg (N := 113) ?hd (xs := ([] : List Int)) (inner := ([] : List Value)) (ok := fun _ => True) (okp := fun _ => True) ?hr ?hp (fun _ hk => hk) trivial (Below.refl w2.heap.size w2) (Nat.le_refl _) (by simp) ?_; (case hd => rfl); (case hg => rfl); (case hr => first | (go_simp; done) | (go_simp; rfl)); (case hp => exact (Reps.none _ _)); intro vl wl ho_ hb_ hg_ hnew_; have HOl := Aside0.mk ho_; have HLl := Aside0.mk hb_; clear ho_ hb_ hg_ hnew_)))
      rcases HP5.out with ⟨hf5⟩ | ⟨i5, hf5, hb5⟩ | ⟨b5, er5, hf5, he5⟩
      · exact absurd hf5 HN7.out
      · have hlt := (badAt_some hb5).1
        have hq : ((pt (xs ++ [55]) + 1 + i5 : Nat) : Int) ≤ (xs.length : Int) := by have := HP7.out i5 hlt; omega
        obtain ⟨P, hPP⟩ : ∃ P : Int, P = ((pt (xs ++ [55]) + 1 + i5 : Nat) : Int) := ⟨_, rfl⟩
        rw [← hPP] at hq
        rw [← hPP]
        have p1 := eq_true hq
        clear HP5 hq hPP hlt hend
        go_wp2_with (first
          | (go_at_call 16; (refine (wakesq w5).mono ?_); rintro e_ w6 ⟨rfl, hb_⟩; have B6 := Aside0.mk (below_step B5.out hb_); clear hb_)
          | (go_at_call 14; (with_reducible refine (numq _ w5).mono ?_); rintro e_ w9 ⟨rfl, rfl⟩))
        go_ret
        exact ⟨rfl, B6.out⟩
      · clear HP5
        have p1 := eq_true (show (0 : Int) ≤ (xs.length : Int) by omega)
        clear hend
        rcases he5 with rfl | rfl
        all_goals
          go_wp2_with (first
            | (go_at_call 16; (refine (wakesq w5).mono ?_); rintro e_ w6 ⟨rfl, hb_⟩; have B6 := Aside0.mk (below_step B5.out hb_); clear hb_)
            | (go_at_call 14; (with_reducible refine (numq _ w5).mono ?_); rintro e_ w9 ⟨rfl, rfl⟩))
          go_ret
          exact ⟨rfl, B6.out⟩
  · obtain ⟨f1, f2, f3, f4, f5⟩ := lost_stays hf hb
    obtain ⟨P, hPP⟩ : ∃ P : Nat, P = pt xs + 1 + i := ⟨_, rfl⟩
    rw [← hPP] at f1 f2 f3 f4 f5 HP
    rw [← hPP]
    have hne : xs ≠ [] := by intro h; rw [h] at f1; simp at f1
    have HNE := Aside0.mk hne
    have HF3 := Aside0.mk f3
    have HF4 := Aside0.mk f4
    have HF5 := Aside0.mk f5
    have HPP := Aside0.mk hPP
    have HF1 := Aside0.mk f1
    have q1 : ¬ (xs.length : Int) ≤ (P : Int) := by omega
    have L3 : Aside0 ((xs.set P 48).length ≤ 1024) := ⟨by rw [List.length_set]; omega⟩
    have q5 : (rd xs (P : Int) == 48) = false := by rw [beq_eq_false_iff_ne]; exact f2
    have q6 : (0 : Int) ≤ (P : Int) := by omega
    have q7 : (P : Int) < (xs.length : Int) := by omega
    have p1 := eq_false q1
    have p6 := eq_true q6
    have p7 := eq_true q7
    clear HP f1 f2 f3 f4 f5 hPP hne q1 q6 q7 hf hb
    go_upto_region 6 with (first
      | (go_at_call 14; (with_reducible refine (numq _ w2).mono ?_); rintro e_ w9 ⟨rfl, rfl⟩)
      | ((with_reducible refine gate_builtin (b := .append) (xs := #[.tmp 37, .tmp 38]) rfl ?_); at_builtin; go_must (refine Kd.R_append_rows (Kd.int .u8) (w0 := w2) w2.heap.size rfl (.tmp 37) (.tmp 38) 22 5 (.int .u8 0) 1 rfl Try.underlying22 info5 rfl (by decide) (by omega) vl ([] : List Int) xs _ _ _ (fun _ => True) (fun _ => False) rfl rfl HOl.out (Kd.C_below CX.out HLl.out) (fun _ _ h => h) (fun _ hk => hk.elim) (fun _ _ => trivial) HLl.out (below_size HLl.out) LX.out ?_; intro vd wd ho_ hb_ hg_ hat_; rw [List.nil_append] at ho_; obtain ⟨gd, cd, rfl, hgd_, hir_, hcd_⟩ := IR.of_R ho_ HNE.out; have RW := Aside0.mk hir_; have HDC := Aside0.mk hcd_; have GD : Aside0 (w.heap.size ≤ gd) := ⟨Nat.le_trans hsz2 hgd_⟩; have BD : Aside0 (Below w.heap.size w wd) := ⟨B2.out.trans (hb_.mono hsz2)⟩; clear ho_ hb_ hg_ hat_ hgd_ hir_ hcd_))
      | ((with_reducible refine gate_dst (N := 37) rfl ?_); go_must (refine Kd.R_lit (Kd.int .u8) w2.heap.size 5 ?hg (N := 37) ?hd (xs := ([] : List Int)) (inner := ([] : List Value)) (ok := fun _ => True) (okp := fun _ => True) ?hr ?hp (fun _ hk => hk) trivial (Below.refl w2.heap.size w2) (Nat.le_refl _) (by simp) ?_; (case hd => rfl); (case hg => rfl); (case hr => first | (go_simp; done) | (go_simp; rfl)); (case hp => exact (Reps.none _ _)); intro vl wl ho_ hb_ hg_ hnew_; have HOl := Aside0.mk ho_; have HLl := Aside0.mk hb_; clear ho_ hb_ hg_ hnew_)))
    have xw := RW.out.cell HF1.out
    have fw := RW.out.frozen P
    rw [show xs.getD P 0 = rd xs (P : Int) by unfold rd; rw [Int.toNat_natCast]] at xw
    go_upto_region 9 with fail
    have RS := Aside0.mk (RW.out.put HF1.out 48)
    have BS2 : Aside0 (Below w.heap.size w (wd.setCell ⟨gd, P, none⟩ (.int .u8 48))) := ⟨BD.out.setCell GD.out _⟩
    clear xw fw RW BD q5 p1 p6 p7
    generalize wd.setCell ⟨gd, P, none⟩ (.int .u8 48) = w4 at RS BS2 ⊢
    go_upto_region 10 with (first
      | (go_at_call 12; go_must (refine (parseq w4 (some ⟨gd, 0, none⟩) cd xs.length (xs.set P 48) s (by rw [List.length_set]) (RS.out.C (by rw [List.length_set]; omega)) (by rw [List.length_set]; exact HDC.out) hs18 L3.out).mono ?_); rintro e_ w5 ⟨b5, p5, er5, rfl, hP_, hb_⟩; have HP5 := Aside0.mk hP_; have B5 := Aside0.mk (below_step BS2.out hb_); clear hP_ hb_))
    rcases HP5.out with ⟨hf5⟩ | ⟨i5, hf5, hb5⟩ | ⟨b5, er5, hf5, he5⟩
    · exact absurd hf5 HF3.out
    · have hlt := HF5.out i5 hb5
      have hq : (P : Int) < ((pt (xs.set P 48) + 1 + i5 : Nat) : Int) := by have := HF4.out; have := HPP.out; omega
      obtain ⟨P2, hP2⟩ : ∃ P2 : Int, P2 = ((pt (xs.set P 48) + 1 + i5 : Nat) : Int) := ⟨_, rfl⟩
      rw [← hP2] at hq
      rw [← hP2]
      have p1 := eq_true hq
      clear HP5 hq hP2 hlt
      go_wp2_with (first
        | (go_at_call 16; (refine (wakesq w5).mono ?_); rintro e_ w6 ⟨rfl, hb_⟩; have B6 := Aside0.mk (below_step B5.out hb_); clear hb_)
        | (go_at_call 14; (with_reducible refine (numq _ w5).mono ?_); rintro e_ w9 ⟨rfl, rfl⟩))
      go_ret
      exact ⟨rfl, B6.out⟩
    · clear HP5
      rcases he5 with rfl | rfl
      all_goals
        go_wp2_with (first
          | (go_at_call 16; (refine (wakesq w5).mono ?_); rintro e_ w6 ⟨rfl, hb_⟩; have B6 := Aside0.mk (below_step B5.out hb_); clear hb_)
          | (go_at_call 14; (with_reducible refine (numq _ w5).mono ?_); rintro e_ w9 ⟨rfl, rfl⟩))
        go_ret
        exact ⟨rfl, B6.out⟩
  · clear HP
    rcases he with rfl | rfl
    all_goals
      go_wp2_with (first
        | (go_at_call 16; (refine (wakesq w2).mono ?_); rintro e_ w3 ⟨rfl, hb_⟩; have B3 := Aside0.mk (below_step B2.out hb_); clear hb_)
        | (go_at_call 14; (with_reducible refine (numq _ w2).mono ?_); rintro e_ w9 ⟨rfl, rfl⟩))
      go_ret
      exact ⟨rfl, B3.out⟩
end Go.Proofs.Ytjefmcfkhalagaa.Scr
