/- The document's Judge, walked. -/
import Derived.Test.YtbjoinocajobhaaRmZAuditJudges
namespace Go.Proofs.Ytbjoinocajobhaa.Ju
set_option linter.unusedVariables false
set_option linter.unusedSimpArgs false
open Go.RowKit Go.Proofs.Ytbjoinocajobhaa.Q Go.Proofs.YtbjoinocajobhaaW.PrintWords Go.Proofs.YtbjoinocajobhaaW.PrintLast Go.Proofs.Ytbjoinocajobhaa.Keep Go.Maps
theorem infoBool_ : (Try.prog.info? 4).map (fun i => (i.zero, i.size, i.bytes)) = some (some (.bool false), 1, 1) := by kernel_rfl
theorem size_steps {n : Nat} (h : n ≤ 14) : (wrap64 (((n : Int) + 1) * 2 ^ n) = ((n : Int) + 1) * 2 ^ n ∧ IntKind.i64.wrap (((n : Int) + 1) * 2 ^ n) = ((n : Int) + 1) * 2 ^ n) ∧
    (wrap64 (((n : Int) + 1) * 2 ^ n * ((n : Int) + 1)) = ((((n + 1) * 2 ^ n) * (n + 1) : Nat) : Int) ∧ IntKind.i64.wrap (((n : Int) + 1) * 2 ^ n * ((n : Int) + 1)) = ((((n + 1) * 2 ^ n) * (n + 1) : Nat) : Int)) := by
  have hs := size_le h
  have e2 : ((2 ^ n : Nat) : Int) = 2 ^ n := by simp
  have e1 : ((n : Int) + 1) * 2 ^ n = (((n + 1) * 2 ^ n : Nat) : Int) := by rw [Int.natCast_mul, e2]; push_cast; rfl
  have e3 : ((n : Int) + 1) * 2 ^ n * ((n : Int) + 1) = ((((n + 1) * 2 ^ n) * (n + 1) : Nat) : Int) := by rw [e1, Int.natCast_mul]; push_cast; rfl
  rw [e3, e1]
  have h1 : (n + 1) * 2 ^ n ≤ (n + 1) * 2 ^ n * (n + 1) := Nat.le_mul_of_pos_right _ (by omega)
  generalize (n + 1) * 2 ^ n * (n + 1) = y at hs h1 ⊢
  generalize (n + 1) * 2 ^ n = x at h1 ⊢
  exact ⟨w_idL rfl (by omega), w_idL rfl (by omega)⟩
theorem bad_is (x : S32) : badSpan x = (decide (x.f0 < 1) || (decide (4 < x.f0) || (decide (x.f1 < 0) || (decide (x.f2 < x.f1) && (x.f2 != -1))))) := by
  unfold badSpan kindB ended
  by_cases h1 : x.f0 < 1
  · rw [decide_eq_true h1, decide_eq_false (show ¬ (1 ≤ x.f0 ∧ x.f0 ≤ 4) by omega)]; rfl
  · by_cases h2 : 4 < x.f0
    · rw [decide_eq_true h2, decide_eq_false (show ¬ (1 ≤ x.f0 ∧ x.f0 ≤ 4) by omega)]; simp
    · rw [decide_eq_false h1, decide_eq_false h2, decide_eq_true (show (1 ≤ x.f0 ∧ x.f0 ≤ 4) by omega)]; rfl
theorem good_kinds {l : List S32} (h : ∀ i, i < l.length → badSpan (sp l i) = false) : ∀ j, j < l.length → 1 ≤ (sp l j).f0 ∧ (sp l j).f0 ≤ 4 := fun j hj => by
  have := h j hj
  rw [bad_is] at this
  simp only [Bool.or_eq_false_iff, decide_eq_false_iff_not] at this
  omega
theorem RS.made {w W W1 : World} {A : Option Addr} {c : Nat} {l : List S32} {g : Nat} (hr : Kd.C k32 w A l.length l) (hb : Below w.heap.size w W) (hx : W1.heap[g]? = some (.cells #[.slice A l.length c, .slice (some ⟨W.heap.size, 0, none⟩) (NN l) (NN l), .slice none 0 0] 74 (0, 0)))
    (hg : g = W.heap.size + 1) (hf : W1.rowIs W.heap.size 4 (NN l) (fun _ => .bool false)) (hB : Below W.heap.size W W1) : RS w.heap.size W1 g W.heap.size A c l (.slice none 0 0) [] (fun _ => false) := by
  have hsz := hb.size
  refine ⟨hx, fun W' hW => ?_, hf, Kd.R_nil _ _ _ _ _, by omega, by omega, by omega, fun m q _ _ h => by cases h⟩
  refine Kd.Heap.C heap32 (fun k hk => ?_) hr
  rw [hW k hk, hB.block k (by omega), hb.block k hk]
set_option maxHeartbeats 4000000 in
set_option maxRecDepth 100000 in
theorem refJudge_calls (w : World) (A : Option Addr) (c : Nat) (l : List S32) (hr : Kd.C k32 w A l.length l) :
    Calls Try.prog 12 #[.slice A l.length c] w fun e w' => ∃ v, e = .returned (.tuple #[v, .bool (judgeF l).2.1, .int .i64 (judgeF l).2.2]) ∧ Kd.R (Kd.int .i64) 3 w' w.heap.size (fun _ => True) v (judgeF l).1 ∧ Below w.heap.size w w' := by
  have CR := Aside0.mk hr
  clear hr
  by_cases hl : 14 < l.length
  · have e1 : judgeF l = ([], false, 311) := by unfold judgeF; rw [if_pos hl]
    rw [e1]
    have p1 := eq_true (show (14 : Int) < (l.length : Int) by omega)
    clear e1
    go_enter Try.func12, Try.ntmps12
    go_wp2_with fail
    go_ret3
    exact ⟨_, rfl, Kd.R_nil _ _ _ _ _, Below.refl _ _⟩
  · have p1 := eq_false (show ¬ ((14 : Int) < (l.length : Int)) by omega)
    go_enter Try.func12, Try.ntmps12
    go_upto_region 4 with fail
    clear p1
    go_loopw [5] (fun s5 wr => ∃ j : Nat, j ≤ l.length ∧ s5 = .int .i64 (j : Int) ∧ Aside0 (Below w.heap.size w wr) ∧ Aside0 (∀ i, i < j → badSpan (sp l i) = false)) (fun s5 _ => l.length - (intOf s5).toNat)
    case atStart => exact ⟨0, Nat.zero_le _, rfl, ⟨Below.refl _ _⟩, ⟨fun i hi => by omega⟩⟩
    case round =>
      obtain ⟨j, hj, rfl, HB, HT⟩ := hrel
      by_cases hlt : j < l.length
      · obtain ⟨ad, e, h0, h1, h2, h3, h4⟩ := span_at CR.out HB.out hlt
        subst e
        clear h3 h4
        have p1 := eq_true (show (0 : Int) ≤ (j : Int) by omega)
        have p2 := eq_true (show (j : Int) < (l.length : Int) by omega)
        go_upto_region 6 with fail
        go_cut [59] from 17 to 59 (fun s59 wx => s59 = .bool (badSpan (sp l j)) ∧ Aside0 (Below w.heap.size w wx))
        case first =>
          have hbs := bad_is (sp l j)
          have HBS := Aside0.mk hbs
          clear hbs
          by_cases c1 : (sp l j).f0 < 1
          · have d1 := decide_eq_true c1
            go_quiet (fail)
            go_wp2_with fail
            go_meet
            case rel => exact ⟨by rw [HBS.out, d1]; rfl, ⟨pw_below_drewN HB.out _⟩⟩
          · have d1 := decide_eq_false c1
            by_cases c2 : 4 < (sp l j).f0
            · have d2 := decide_eq_true c2
              go_quiet (fail)
              go_wp2_with fail
              go_meet
              case rel => exact ⟨by rw [HBS.out, d1, d2]; rfl, ⟨pw_below_drewN HB.out _⟩⟩
            · have d2 := decide_eq_false c2
              by_cases c3 : (sp l j).f1 < 0
              · have d3 := decide_eq_true c3
                go_quiet (fail)
                go_wp2_with fail
                go_meet
                case rel => exact ⟨by rw [HBS.out, d1, d2, d3]; rfl, ⟨pw_below_drewN HB.out _⟩⟩
              · have d3 := decide_eq_false c3
                by_cases c4 : (sp l j).f2 < (sp l j).f1
                · have d4 := decide_eq_true c4
                  go_quiet (fail)
                  go_wp2_with fail
                  go_meet
                  case rel => exact ⟨by rw [HBS.out, d1, d2, d3, d4]; rfl, ⟨pw_below_drewN HB.out _⟩⟩
                · have d4 := decide_eq_false c4
                  go_quiet (fail)
                  go_wp2_with fail
                  go_meet
                  case rel => exact ⟨by rw [HBS.out, d1, d2, d3, d4]; rfl, ⟨pw_below_drewN HB.out _⟩⟩
        case rest =>
          obtain ⟨rfl, HB5⟩ := hcut
          clear h0 h1 h2
          cases hB : badSpan (sp l j)
          case true =>
            go_wp2_with fail
            go_ret3
            have e1 : judgeF l = ([], false, 310) := by unfold judgeF; rw [if_neg hl, if_pos (any_true hlt hB)]
            rw [e1]
            exact ⟨_, rfl, Kd.R_nil _ _ _ _ _, HB5.out⟩
          case false =>
            go_wp2_with fail
            go_roundw
            case rel => exact ⟨j + 1, by omega, by go_num, HB5, ⟨upto HT.out hB⟩⟩
            case measure => simp [intOf]; omega
      · obtain rfl : j = l.length := by omega
        have p2 := eq_false (show ¬ ((l.length : Int) < (l.length : Int)) by omega)
        have hNB : Aside0 (l.any badSpan = false) := ⟨any_false HT.out⟩
        have HKD := Aside0.mk (good_kinds HT.out)
        obtain ⟨s1, s2⟩ := size_steps (n := l.length) (by omega)
        have hNN : Aside0 (NN l ≤ 3686400) := ⟨size_le (by omega)⟩
        have HNE : Aside0 (((l.length + 1) * 2 ^ l.length) * (l.length + 1) = NN l) := ⟨rfl⟩
        rw [HNE.out] at s2
        have S1 := Aside0.mk s1
        have S2 := Aside0.mk s2
        have hmk := run_make_row' (P := Try.prog) 42 4 (.bool false) 1 Try.underlying42 infoBool_ rfl .i64 .i64 (NN l) (by have := hNN.out; omega) (by have := hNN.out; omega)
        have KE := Aside0.mk (w_idL (x := (l.length : Int) + 1) rfl (by omega))
        have q1 := eq_true (show (l.length : Int) ≤ 63 by omega)
        clear s1 s2
        obtain ⟨a1, a2⟩ := KE.out
        obtain ⟨b1, b2⟩ := S1.out
        obtain ⟨c1, c2⟩ := S2.out
        go_upto_region 10 with fail
        clear a1 a2 b1 b2 c1 c2 hmk S1 S2 KE HNE p2 q1
        have SM : Aside0 (RS w.heap.size ((wr.alloc (.cells (madeCells #[.bool false] (NN l)) 4)).alloc (.cells #[.slice A l.length c, .slice (some ⟨wr.heap.size, 0, none⟩) (NN l) (NN l), .slice none 0 0] 74)) (wr.heap.size + 1) wr.heap.size A c l (.slice none 0 0) [] (fun _ => false)) :=
          ⟨RS.made CR.out HB.out (by have := (Go.MapKept.heap_alloc (wr.alloc (.cells (madeCells #[.bool false] (NN l)) 4)) (.cells #[.slice A l.length c, .slice (some ⟨wr.heap.size, 0, none⟩) (NN l) (NN l), .slice none 0 0] 74)).1; simpa using this) rfl ((World.rowIs_made wr (.bool false) (NN l) 4).alloc _) (below_alloc (below_alloc (Below.refl _ _) _) _)⟩
        have HBM : Aside0 (Below w.heap.size w ((wr.alloc (.cells (madeCells #[.bool false] (NN l)) 4)).alloc (.cells #[.slice A l.length c, .slice (some ⟨wr.heap.size, 0, none⟩) (NN l) (NN l), .slice none 0 0] 74))) := ⟨below_alloc (below_alloc HB.out _) _⟩
        generalize (wr.alloc (.cells (madeCells #[.bool false] (NN l)) 4)).alloc (.cells #[.slice A l.length c, .slice (some ⟨wr.heap.size, 0, none⟩) (NN l) (NN l), .slice none 0 0] 74) = WM at SM HBM ⊢
        have hle : w.heap.size ≤ wr.heap.size := HB.out.size
        generalize wr.heap.size = bm at SM hle ⊢
        have hfr := free_le 0 l.length
        have KEY := try_calls w.heap.size (bm + 1) bm A c l (by omega) HKD.out (free 0 l.length) WM (.slice none 0 0) [] (fun _ => false) 0 q0 SM.out rfl (Nat.two_pow_pos _) (RQ.start l) (by simp; omega)
        have HKEY := Aside0.mk KEY
        have hno : ∀ k, (Value.slice none 0 0).ownBlock = some k → False := fun k hk => by simp [Value.ownBlock] at hk
        clear KEY hfr
        cases hC : C l 0 q0
        case some r =>
          have e1 : judgeF l = (r, true, 0) := by unfold judgeF; rw [if_neg hl, if_neg (by rw [hNB.out]; simp), hC]
          have HE1 := Aside0.mk e1
          clear e1
          go_wp2_with (go_at_call 28; go_must (refine HKEY.out.mono ?_; rintro e_ WG HP; have hP := HP.out; rw [hC] at hP; subst hP; obtain ⟨v7, F7, S7, V7⟩ := HP.ss; rw [hC] at S7; obtain ⟨A7, c7, rfl⟩ := Kd.R_slice S7.ord; have HS7 := Aside0.mk S7; have HC7 := Aside0.mk HP.chg; have y2 : WG.cell? ⟨bm + 1, 2, none⟩ = some (.slice A7 ([] ++ (some r).getD []).length c7) := (blk_cell S7.blk 2).trans rfl; clear HP V7 S7))
          go_ret3
          rw [HE1.out]
          exact ⟨_, rfl, Kd.R_mono HS7.out.ord (fun _ _ => trivial), HBM.out.trans (HC7.out.below HBM.out.size (fun k hk => by
            rcases hk with h | h | h
            · omega
            · omega
            · exact (hno k h).elim))⟩
        case none =>
          have e1 : judgeF l = ([], false, 0) := by unfold judgeF; rw [if_neg hl, if_neg (by rw [hNB.out]; simp), hC]
          have HE1 := Aside0.mk e1
          clear e1
          go_wp2_with (go_at_call 28; go_must (refine HKEY.out.mono ?_; rintro e_ WG HP; have hP := HP.out; rw [hC] at hP; subst hP; have HC7 := Aside0.mk HP.chg; clear HP))
          go_ret3
          rw [HE1.out]
          exact ⟨_, rfl, Kd.R_nil _ _ _ _ _, HBM.out.trans (HC7.out.below HBM.out.size (fun k hk => by
            rcases hk with h | h | h
            · omega
            · omega
            · exact (hno k h).elim))⟩
end Go.Proofs.Ytbjoinocajobhaa.Ju
