/- AuditTakes, walked. -/
import Derived.Test.YtbjoinocajobhaaTkwZAuditTakes
namespace Go.Proofs.Ytbjoinocajobhaa.Ju
set_option linter.unusedVariables false
set_option linter.unusedSimpArgs false
open Go.RowKit Go.Proofs.Ytbjoinocajobhaa.Q Go.Proofs.YtbjoinocajobhaaW.PrintWords Go.Proofs.YtbjoinocajobhaaW.PrintLast Go.Proofs.YtbjoinocajobhaaW.PrintMore
theorem C_drop {w : World} {ad : Addr} {l : List S32} (h : Kd.C k32 w (some ad) l.length l) (n : Nat) (hn : n ≤ l.length) : Kd.C k32 w (some (ad.add (n * 5))) (l.length - n) (l.drop n) := by
  refine ⟨by rw [List.length_drop], by have := h.2.1; omega, fun hp => ⟨_, rfl, fun j p hj => ?_⟩⟩
  rw [List.getElem?_drop] at hj
  obtain ⟨ad', e, hc⟩ := h.2.2 (by omega)
  injection e with e
  subst e
  obtain ⟨c, h1, h2, h3⟩ := hc (n + j) p hj
  refine ⟨c, h1, h2, fun i u hu => ?_⟩
  have := h3 i u hu
  rw [Deep.add_add]
  rw [show n * 5 + (j * k32.sz + i) = (n + j) * k32.sz + i from (by show n * 5 + (j * 5 + i) = (n + j) * 5 + i; omega)]
  exact this
theorem C_dropif {w : World} {ad : Addr} {l : List S32} {c n : Nat} (h : Kd.C k32 w (some ad) l.length l) (hn : n ≤ l.length) (hc : l.length ≤ c) : Kd.C k32 w (if c = n then some ad else some (ad.add (n * 5))) (l.length - n) (l.drop n) := by
  by_cases e : c = n
  · rw [if_pos e]
    refine ⟨by rw [List.length_drop], by omega, fun hp => by omega⟩
  · rw [if_neg e]; exact C_drop h n hn
theorem C_addr {w : World} {A : Option Addr} {l : List S32} (h : Kd.C k32 w A l.length l) (h0 : l ≠ []) : ∃ ad, A = some ad := by
  obtain ⟨ad, e, _⟩ := h.2.2 (List.length_pos_iff.2 h0)
  exact ⟨ad, e⟩
theorem R_where {e : TypeId} {W : World} {base n c : Nat} {ok : Nat → Prop} {A : Option Addr} {l : List S32} (h : Kd.R k32 e W base ok (.slice A n c) l) : (A = none ∧ n = 0 ∧ c = 0) ∨ ∃ ad, A = some ad := by
  obtain ⟨inner, o⟩ := Kd.R_own h
  rcases o.2 with ⟨hn, _⟩ | ⟨g, cap, cur, hv2, hb, _⟩
  · injection hn with h1 h2 h3
    exact .inl ⟨h1, h2, h3⟩
  · injection hv2 with h1 h2 h3
    exact .inr ⟨_, h1⟩
set_option maxHeartbeats 8000000 in
set_option maxRecDepth 100000 in
theorem takes_walk (A : Option Addr) (l : List T4) (c : Nat) (tn : Int) (w : World) (ht : TR w A l) (hc : l.length ≤ c) :
    Calls Try.prog 5 #[.slice A l.length c, .int .i64 tn] w fun e w' => e = .returned (.bool true) ∧ Below w.heap.size w w' := by
  have HT := Aside0.mk ht
  have hu32 := Try.underlying32
  clear ht
  go_enter Try.func5, Try.ntmps5
  go_upto_region 2 with (go_at_call 19; go_must (refine (done_calls A l c w HT.out hc).mono ?_; rintro e_ w1 ⟨ss, q, v, rfl, ho_, hd_, h14_, hb_⟩; obtain ⟨A1, c1, rfl⟩ := Kd.R_slice ho_; have HV := Aside0.mk (R_where ho_); have hrd_ := Kd.R_reads' ho_; have C1 := Aside0.mk hrd_.2.2; have HL1 := Aside0.mk hrd_.2.1; have DN := Aside0.mk hd_; have L14 := Aside0.mk h14_; have B1 := Aside0.mk hb_; clear ho_ hd_ h14_ hb_ hrd_))
  obtain ⟨n, hn, hnl⟩ := within0 tn ss.length (by have := L14.out; omega)
  have HN := Aside0.mk hn
  have HNL := Aside0.mk hnl
  clear hn hnl
  go_upto_region 6 with (first
    | (go_at_call 20; go_must (refine (mintagekeep_Within.calls tn 0 (ss.length : Int) (n : Int) w3 HN.out).mono ?_; rintro e_ w4 ⟨rfl, hd_⟩; have B4 := Aside0.mk (below_step B3.out hd_.below); have C4 := Aside0.mk (Kd.C_below C3.out hd_.below); clear hd_))
    | (go_at_call 14; go_must (refine (num_calls 0 w2).mono ?_; rintro e_ w3 ⟨rfl, hd_⟩; have B3 := Aside0.mk (below_step B2.out hd_.below); have C3 := Aside0.mk (Kd.C_below C2.out hd_.below); clear hd_))
    | (go_at_call 11; go_must (refine (judge_yes w1 A1 c1 ss.length ss rfl C1.out (self_judge DN.out L14.out)).mono ?_; rintro e_ w2 ⟨v1, rfl, hb_⟩; have B2 := Aside0.mk (below_step B1.out hb_); have C2 := Aside0.mk (Kd.C_below C1.out hb_); clear hb_)))
  have HROT := Aside0.mk (rot_judge DN.out L14.out HNL.out)
  have LDR : Aside0 ((ss.drop n ++ ss.take n).length = ss.length) := ⟨by rw [List.length_append, List.length_drop, List.length_take]; have := HNL.out; omega⟩
  clear C1 C2 C3 B1 B2 B3 HN
  go_cut [10] (fun v wx => ∃ A5 c5, v = .slice A5 ss.length c5 ∧ Aside0 (Kd.C k32 wx A5 ss.length (ss.drop n ++ ss.take n)) ∧ Aside0 (Below w4.heap.size w4 wx))
  case first =>
    rcases HV.out with ⟨hA, hs0, hc0⟩ | ⟨ad, e⟩
    · subst hA
      have CD : Aside0 (Kd.C k32 w4 none (ss.length - n) (ss.drop n)) := ⟨⟨by rw [List.length_drop], by omega, fun h => by omega⟩⟩
      have CT : Aside0 (Kd.C k32 w4 none n (ss.take n)) := ⟨⟨by rw [List.length_take]; have := HNL.out; omega, by have := HNL.out; omega, fun h => by have := HNL.out; omega⟩⟩
      have q1 : (0 : Int) ≤ (n : Int) := by omega
      have q2 : (n : Int) ≤ (ss.length : Int) := by have := HNL.out; omega
      have q3 : (n : Int) ≤ (c1 : Int) := by have := HNL.out; omega
      have q4 : (ss.length : Int) ≤ (c1 : Int) := by have := HL1.out; omega
      have q5 : c1 = n := by have := HNL.out; omega
      have LX1 : Aside0 ((([] : List S32).length + (ss.length - n)) * 40 ≤ 140737488355328) := ⟨by have := L14.out; simp; omega⟩
      have LX2 : Aside0 ((([] ++ ss.drop n : List S32).length + n) * 40 ≤ 140737488355328) := ⟨by have := L14.out; simp; omega⟩
      have p1 := eq_true q1
      have p2 := eq_true q2
      have p3 := eq_true q3
      have p4 := eq_true q4
      have p5 := eq_true q5
      clear q1 q2 q3 q4 q5 hs0 hc0
      go_region_law (first
        | (refine Kd.R_append_rows_step k32 (w0 := w4) w4.heap.size rfl (.tmp 37) (.tmp 40) 22 32 _ 40 rfl Try.underlying22 info32 rfl (by decide) (by omega) v7 ([] ++ ss.drop n) (ss.take n) _ _ _ (fun _ => True) (fun _ => False) rfl rfl (by repeat (first | exact HOq.out | (with_reducible refine Kd.R_alloc ?_ _) | (with_reducible refine Kd.R_drew ?_))) (by show Kd.C k32 _ _ _ _; repeat (first | exact CTq.out | (with_reducible refine Kd.C_alloc ?_ _) | (with_reducible refine Kd.C_drew ?_))) kM (fun _ hk => hk.elim) (fun _ _ => trivial) (by repeat (first | exact HQ.out | (with_reducible first | apply below_alloc | apply below_drew))) (by have hq_ := HQ.out.size; first | exact hq_ | (simp <;> omega)) LX2.out ?_; intro v8 wd ho_ hb_ hg_ hat_; rw [List.nil_append] at ho_; obtain ⟨A5, c5, rfl⟩ := Kd.R_slice ho_; have hrd_ := Kd.R_reads' ho_; rw [LDR.out] at hrd_; rw [LDR.out]; have C5 := Aside0.mk hrd_.2.2; have B5 := Aside0.mk hb_; clear ho_ hb_ hg_ hat_ hrd_)
        | (refine Kd.R_append_rows_step k32 (w0 := w4) w4.heap.size rfl (.tmp 33) (.tmp 36) 22 32 _ 40 rfl Try.underlying22 info32 rfl (by decide) (by omega) (Value.slice (some ⟨_, 0, none⟩) 0 0) ([] : List S32) (ss.drop n) _ _ _ (fun _ => True) (fun _ => False) rfl rfl ?HO (by show Kd.C k32 _ _ _ _; repeat (first | exact CD.out | (with_reducible refine Kd.C_alloc ?_ _) | (with_reducible refine Kd.C_drew ?_))) kM (fun _ hk => hk.elim) (fun _ _ => trivial) ?HB ?hbase LX1.out ?_; (case HO => refine lit0R ?_ (by first | exact Nat.le_refl _ | (simp <;> omega)); (repeat (first | (refine new_sz ?_; (first | rfl | (simp; done)); done) | (with_reducible refine blk_alloc ?_ _) | (with_reducible refine old_drew ?_)))); (case HB => (repeat (first | exact Below.refl _ _ | (with_reducible first | apply below_alloc | apply below_drew)))); (case hbase => first | exact Nat.le_refl _ | (simp <;> omega)); intro v7 wq ho_ hb_ hg_ hat_; have HOq := Aside0.mk ho_; have HQ := Aside0.mk hb_; have CTq := Aside0.mk (Kd.C_below CT.out hb_); clear ho_ hb_ hg_ hat_))
      all_goals
        go_wp2_with fail
        go_meet
        case rel => exact ⟨A5, c5, rfl, C5, B5⟩
    · subst e
      have CD := Aside0.mk (C_dropif C4.out HNL.out HL1.out)
      have CT : Aside0 (Kd.C k32 w4 (some ad) n (ss.take n)) := ⟨by have h := C_take C4.out n HNL.out; rwa [show (ss.take n).length = n by rw [List.length_take]; have := HNL.out; omega] at h⟩
      have q1 : (0 : Int) ≤ (n : Int) := by omega
      have q2 : (n : Int) ≤ (ss.length : Int) := by have := HNL.out; omega
      have q3 : (n : Int) ≤ (c1 : Int) := by have := HNL.out; have := HL1.out; omega
      have q4 : (ss.length : Int) ≤ (c1 : Int) := by have := HL1.out; omega
      have LX1 : Aside0 ((([] : List S32).length + (ss.length - n)) * 40 ≤ 140737488355328) := ⟨by have := L14.out; simp; omega⟩
      have LX2 : Aside0 ((([] ++ ss.drop n : List S32).length + n) * 40 ≤ 140737488355328) := ⟨by have := L14.out; simp; omega⟩
      have p1 := eq_true q1
      have p2 := eq_true q2
      have p3 := eq_true q3
      have p4 := eq_true q4
      clear q1 q2 q3 q4
      have CD' := CD
      clear CD
      by_cases hcn : c1 = n
      · have CD : Aside0 (Kd.C k32 w4 (some ad) (ss.length - n) (ss.drop n)) := ⟨by have h := CD'.out; rwa [if_pos hcn] at h⟩
        have p5 := eq_true hcn
        clear hcn CD'
        go_region_law (first
          | (refine Kd.R_append_rows_step k32 (w0 := w4) w4.heap.size rfl (.tmp 37) (.tmp 40) 22 32 _ 40 rfl Try.underlying22 info32 rfl (by decide) (by omega) v7 ([] ++ ss.drop n) (ss.take n) _ _ _ (fun _ => True) (fun _ => False) rfl rfl (by repeat (first | exact HOq.out | (with_reducible refine Kd.R_alloc ?_ _) | (with_reducible refine Kd.R_drew ?_))) (by show Kd.C k32 _ _ _ _; repeat (first | exact CTq.out | (with_reducible refine Kd.C_alloc ?_ _) | (with_reducible refine Kd.C_drew ?_))) kM (fun _ hk => hk.elim) (fun _ _ => trivial) (by repeat (first | exact HQ.out | (with_reducible first | apply below_alloc | apply below_drew))) (by have hq_ := HQ.out.size; first | exact hq_ | (simp <;> omega)) LX2.out ?_; intro v8 wd ho_ hb_ hg_ hat_; rw [List.nil_append] at ho_; obtain ⟨A5, c5, rfl⟩ := Kd.R_slice ho_; have hrd_ := Kd.R_reads' ho_; rw [LDR.out] at hrd_; rw [LDR.out]; have C5 := Aside0.mk hrd_.2.2; have B5 := Aside0.mk hb_; clear ho_ hb_ hg_ hat_ hrd_)
          | (refine Kd.R_append_rows_step k32 (w0 := w4) w4.heap.size rfl (.tmp 33) (.tmp 36) 22 32 _ 40 rfl Try.underlying22 info32 rfl (by decide) (by omega) (Value.slice (some ⟨_, 0, none⟩) 0 0) ([] : List S32) (ss.drop n) _ _ _ (fun _ => True) (fun _ => False) rfl rfl ?HO (by show Kd.C k32 _ _ _ _; repeat (first | exact CD.out | (with_reducible refine Kd.C_alloc ?_ _) | (with_reducible refine Kd.C_drew ?_))) kM (fun _ hk => hk.elim) (fun _ _ => trivial) ?HB ?hbase LX1.out ?_; (case HO => refine lit0R ?_ (by first | exact Nat.le_refl _ | (simp <;> omega)); (repeat (first | (refine new_sz ?_; (first | rfl | (simp; done)); done) | (with_reducible refine blk_alloc ?_ _) | (with_reducible refine old_drew ?_)))); (case HB => (repeat (first | exact Below.refl _ _ | (with_reducible first | apply below_alloc | apply below_drew)))); (case hbase => first | exact Nat.le_refl _ | (simp <;> omega)); intro v7 wq ho_ hb_ hg_ hat_; have HOq := Aside0.mk ho_; have HQ := Aside0.mk hb_; have CTq := Aside0.mk (Kd.C_below CT.out hb_); clear ho_ hb_ hg_ hat_))
        all_goals
          go_wp2_with fail
          go_meet
          case rel => exact ⟨A5, c5, rfl, C5, B5⟩
      · have CD : Aside0 (Kd.C k32 w4 (some (ad.add (n * 5))) (ss.length - n) (ss.drop n)) := ⟨by have h := CD'.out; rwa [if_neg hcn] at h⟩
        have p5 := eq_false hcn
        clear hcn CD'
        go_region_law (first
          | (refine Kd.R_append_rows_step k32 (w0 := w4) w4.heap.size rfl (.tmp 37) (.tmp 40) 22 32 _ 40 rfl Try.underlying22 info32 rfl (by decide) (by omega) v7 ([] ++ ss.drop n) (ss.take n) _ _ _ (fun _ => True) (fun _ => False) rfl rfl (by repeat (first | exact HOq.out | (with_reducible refine Kd.R_alloc ?_ _) | (with_reducible refine Kd.R_drew ?_))) (by show Kd.C k32 _ _ _ _; repeat (first | exact CTq.out | (with_reducible refine Kd.C_alloc ?_ _) | (with_reducible refine Kd.C_drew ?_))) kM (fun _ hk => hk.elim) (fun _ _ => trivial) (by repeat (first | exact HQ.out | (with_reducible first | apply below_alloc | apply below_drew))) (by have hq_ := HQ.out.size; first | exact hq_ | (simp <;> omega)) LX2.out ?_; intro v8 wd ho_ hb_ hg_ hat_; rw [List.nil_append] at ho_; obtain ⟨A5, c5, rfl⟩ := Kd.R_slice ho_; have hrd_ := Kd.R_reads' ho_; rw [LDR.out] at hrd_; rw [LDR.out]; have C5 := Aside0.mk hrd_.2.2; have B5 := Aside0.mk hb_; clear ho_ hb_ hg_ hat_ hrd_)
          | (refine Kd.R_append_rows_step k32 (w0 := w4) w4.heap.size rfl (.tmp 33) (.tmp 36) 22 32 _ 40 rfl Try.underlying22 info32 rfl (by decide) (by omega) (Value.slice (some ⟨_, 0, none⟩) 0 0) ([] : List S32) (ss.drop n) _ _ _ (fun _ => True) (fun _ => False) rfl rfl ?HO (by show Kd.C k32 _ _ _ _; repeat (first | exact CD.out | (with_reducible refine Kd.C_alloc ?_ _) | (with_reducible refine Kd.C_drew ?_))) kM (fun _ hk => hk.elim) (fun _ _ => trivial) ?HB ?hbase LX1.out ?_; (case HO => refine lit0R ?_ (by first | exact Nat.le_refl _ | (simp <;> omega)); (repeat (first | (refine new_sz ?_; (first | rfl | (simp; done)); done) | (with_reducible refine blk_alloc ?_ _) | (with_reducible refine old_drew ?_)))); (case HB => (repeat (first | exact Below.refl _ _ | (with_reducible first | apply below_alloc | apply below_drew)))); (case hbase => first | exact Nat.le_refl _ | (simp <;> omega)); intro v7 wq ho_ hb_ hg_ hat_; have HOq := Aside0.mk ho_; have HQ := Aside0.mk hb_; have CTq := Aside0.mk (Kd.C_below CT.out hb_); clear ho_ hb_ hg_ hat_))
        all_goals
          go_wp2_with fail
          go_meet
          case rel => exact ⟨A5, c5, rfl, C5, B5⟩
  case rest =>
    obtain ⟨A5, c5, rfl, C5, B5⟩ := hcut
    have BW := Aside0.mk (below_step B4.out B5.out)
    clear C4 B4 B5
    go_wp2_with (first
      | (go_at_call 17; go_must (refine (wakes_calls w7).mono ?_; rintro e_ w8 ⟨rfl, hd_⟩; have B8 := Aside0.mk (below_step B7.out hd_); clear hd_))
      | (go_at_call 14; go_must (refine (num_calls 0 w6).mono ?_; rintro e_ w7 ⟨rfl, hd_⟩; have B7 := Aside0.mk (below_step B6.out hd_.below); clear hd_))
      | (go_at_call 11; go_must (refine (judge_yes wc A5 c5 ss.length (ss.drop n ++ ss.take n) LDR.out (by rw [LDR.out]; exact C5.out) HROT.out).mono ?_; rintro e_ w6 ⟨v6, rfl, hb_⟩; have B6 := Aside0.mk (below_step BW.out hb_); clear hb_)))
    go_ret
    exact ⟨rfl, B8.out⟩
end Go.Proofs.Ytbjoinocajobhaa.Ju
