/- audit.Judge, walked. -/
import Derived.Test.YtbjoinocajobhaaJubZAuditSpans
import Derived.Carry
import Derived.Test.YtbjoinocajobhaaQ0ZAuditSpans
namespace Go.Proofs.Ytbjoinocajobhaa.Ju
set_option linter.unusedVariables false
set_option linter.unusedSimpArgs false
open Go.RowKit Go.Proofs.Ytbjoinocajobhaa.Q Go.Proofs.YtbjoinocajobhaaW.PrintWords Go.Proofs.YtbjoinocajobhaaW.PrintLast Go.Proofs.Ytbjoinocajobhaa.Keep Go.Maps
def kindB (k : Int) : Bool := decide (1 ≤ k ∧ k ≤ 4)
def badSpan (x : S32) : Bool := !kindB x.f0 || (decide (x.f1 < 0) || (decide (x.f2 < x.f1) && ended x))
def q0 : Qs := ⟨0, 0, false, false⟩
def judgeF (l : List S32) : List Int × Bool × Int :=
  if 14 < l.length then ([], false, 311) else if l.any badSpan = true then ([], false, 310) else
    match C l 0 q0 with
    | some o => (o, true, 0)
    | none => ([], false, 0)
theorem kind_calls (k : Int) (w : World) : Calls Try.prog 25 #[.int .i64 k] w fun e w' => e = .returned (.bool (kindB k)) ∧ Drawn0 w w' := by
  refine audit_kind.calls k (kindB k) w ?_
  unfold audit_kind.f kindB
  by_cases h : k ≥ 1
  · rw [if_pos h]; congr 1; apply decide_eq_decide.2; omega
  · rw [if_neg h]; congr 1; symm; rw [decide_eq_false_iff_not]; omega
theorem heap32 : Kd.Heap k32 := Kd.heap_iso _ (Kd.heap_pair (Kd.heap_int _) (Kd.heap_pair (Kd.heap_int _) (Kd.heap_pair (Kd.heap_int _) (Kd.heap_pair (Kd.heap_int _) (Kd.heap_int _)))))
theorem any_true {l : List S32} {j : Nat} (hj : j < l.length) (h : badSpan (sp l j) = true) : l.any badSpan = true := by
  rw [List.any_eq_true]
  refine ⟨l[j], List.getElem_mem hj, ?_⟩
  have e : sp l j = l[j] := by
    unfold sp rd_T32
    rw [Int.toNat_natCast, List.getD_eq_getElem?_getD, List.getElem?_eq_getElem hj]; rfl
  rw [← e]; exact h
theorem any_false {l : List S32} (h : ∀ j, j < l.length → badSpan (sp l j) = false) : l.any badSpan = false := by
  rw [List.any_eq_false]
  intro x hx
  obtain ⟨j, hj, rfl⟩ := List.getElem_of_mem hx
  have e : sp l j = l[j] := by
    unfold sp rd_T32
    rw [Int.toNat_natCast, List.getD_eq_getElem?_getD, List.getElem?_eq_getElem hj]; rfl
  rw [← e, h j hj]; simp
/-- The search's state, as Judge makes it. -/
theorem SS.made {w W W1 : World} {A : Option Addr} {c : Nat} {l : List S32} {g : Nat} (hr : Kd.C k32 w A l.length l) (hb : Below w.heap.size w W) (hx : W1.heap[g]? = some (.cells #[.slice A l.length c, .map (some W.heap.size), .slice none 0 0] 64 (0, 0)))
    (hg : g = W.heap.size + 1) (hB : Below (W.heap.size + 1) (W.alloc (.map #[] 0)) W1) : SS w.heap.size W1 g W.heap.size A c l (.slice none 0 0) [] 0 (.map []) := by
  have hsz := hb.size
  have hm := World.ownsMap_made (H := Unit) W Try.prog 70 unitElem
  have hal : (W.alloc (.map #[] 0)).heap.size = W.heap.size + 1 := by simp
  refine ⟨hx, fun W' hW => ?_, ?_, Kd.R_nil _ _ _ _ _, by omega, by omega, by omega, fun m q kl h1 h2 => ?_⟩
  · refine Kd.Heap.C heap32 (fun k hk => ?_) hr
    rw [hW k hk, hB.block k (by omega), (World.grownBy_alloc W (.map #[] 0) none).block k (by omega) (by simp), hb.block k hk]
  · obtain ⟨es, clock, h1, h2⟩ := hm
    exact ⟨es, clock, (hB.block _ (by omega)).trans h1, h2⟩
  · simp [Maps.has] at h2
theorem wq0 : Wq q0 := ⟨by decide, by decide⟩
set_option maxHeartbeats 4000000 in
set_option maxRecDepth 100000 in
theorem judge_calls (w : World) (A : Option Addr) (c : Nat) (l : List S32) (hr : Kd.C k32 w A l.length l) :
    Calls Try.prog 11 #[.slice A l.length c] w fun e w' => ∃ v, e = .returned (.tuple #[v, .bool (judgeF l).2.1, .int .i64 (judgeF l).2.2]) ∧ Kd.R (Kd.int .i64) 3 w' w.heap.size (fun _ => True) v (judgeF l).1 ∧ Below w.heap.size w w' := by
  have CR := Aside0.mk hr
  have hu32 := Try.underlying32
  have hmm := @run_makeMap Try.prog
  clear hr
  by_cases hl : 14 < l.length
  · have e1 : judgeF l = ([], false, 311) := by unfold judgeF; rw [if_pos hl]
    rw [e1]
    have p1 := eq_true (show (14 : Int) < (l.length : Int) by omega)
    clear e1
    go_enter Try.func11, Try.ntmps11
    go_wp2_with fail
    go_ret3
    exact ⟨_, rfl, Kd.R_nil _ _ _ _ _, Below.refl _ _⟩
  · have p1 := eq_false (show ¬ ((14 : Int) < (l.length : Int)) by omega)
    go_enter Try.func11, Try.ntmps11
    go_wp2_with fail
    clear p1
    go_loopw [13] (fun s13 wr => ∃ j : Nat, j ≤ l.length ∧ s13 = .int .i64 j ∧ Aside0 (Below w.heap.size w wr) ∧ Aside0 (∀ i, i < j → badSpan (sp l i) = false)) (fun s13 _ => l.length - (intOf s13).toNat)
    case atStart => exact ⟨0, Nat.zero_le _, rfl, ⟨Below.refl _ _⟩, ⟨fun i hi => by omega⟩⟩
    case round =>
      obtain ⟨j, hj, rfl, HB, HT⟩ := hrel
      by_cases hlt : j < l.length
      · obtain ⟨ad, e, h0, h1, h2, h3, h4⟩ := span_at CR.out HB.out hlt
        subst e
        have p1 := eq_true (show (0 : Int) ≤ (j : Int) by omega)
        have p2 := eq_true (show (j : Int) < (l.length : Int) by omega)
        go_upto_region 6 with (first | ((with_reducible refine gate_dst (N := 6) rfl ?_); refine box_event ?hg (N := 6) ?hd (cs := #[.int .i64 0, .int .i64 0, .int .i64 0, .int .i64 0, .int .i64 0]) (t := 32) ?hr ?_; (case hd => rfl); (case hg => rfl); (case hr => first | (go_simp; done) | (go_simp; rfl)); intro gb hg w11 hbox hb; have HB1 := Aside0.mk (below_step HB.out hb); have BX := Aside0.mk hbox; have GE := Aside0.mk (show w.heap.size ≤ gb by rw [hg]; exact HB.out.size); clear hb hbox hg; have z0 := (blk_cell BX.out 0); have z1 := (blk_cell BX.out 1); have z2 := (blk_cell BX.out 2); have z3 := (blk_cell BX.out 3); have z4 := (blk_cell BX.out 4); have f0 := blk_frozen BX.out 0; have f1 := blk_frozen BX.out 1; have f2 := blk_frozen BX.out 2; have f3 := blk_frozen BX.out 3; have f4 := blk_frozen BX.out 4))
        obtain ⟨W4, hW4, B4, X4, -, -⟩ := laid5 HB1.out BX.out GE.out (sp l j)
        rw [hW4]
        clear hW4 z0 z1 z2 z3 z4 f0 f1 f2 f3 f4 h0 h1 h2 h3 h4 BX HB1
        have HB4 := Aside0.mk B4
        have HX4 := Aside0.mk X4
        clear B4 X4
        have x0 : W4.cell? ⟨gb, 0, none⟩ = some (.int .i64 (sp l j).f0) := (blk_cell HX4.out 0).trans rfl
        have x1 : W4.cell? ⟨gb, 1, none⟩ = some (.int .i64 (sp l j).f1) := (blk_cell HX4.out 1).trans rfl
        have x2 : W4.cell? ⟨gb, 2, none⟩ = some (.int .i64 (sp l j).f2) := (blk_cell HX4.out 2).trans rfl
        have x3 : W4.cell? ⟨gb, 3, none⟩ = some (.int .i64 (sp l j).f3) := (blk_cell HX4.out 3).trans rfl
        have x4 : W4.cell? ⟨gb, 4, none⟩ = some (.int .i64 (sp l j).f4) := (blk_cell HX4.out 4).trans rfl
        go_cut [36] from 14 to 35 (fun s36 wx => s36 = .bool (badSpan (sp l j)) ∧ Aside0 (Below W4.heap.size W4 wx))
        case first =>
          cases hK : kindB (sp l j).f0
          case false =>
            go_wp2_with (go_at_call 25; (with_reducible refine (kind_calls (sp l j).f0 W4).mono ?_); rintro e_ w5 ⟨rfl, hd_⟩; rw [hK]; have HD_ := Aside0.mk hd_.below; clear hd_)
            go_meet
            case rel => exact ⟨by unfold badSpan; rw [hK]; rfl, HD_⟩
          case true =>
            by_cases hF : (sp l j).f1 < 0
            · have hF1 := decide_eq_true hF
              have hF2 := eq_true hF
              clear hF
              go_wp2_with (go_at_call 25; (with_reducible refine (kind_calls (sp l j).f0 W4).mono ?_); rintro e_ w5 ⟨rfl, hd_⟩; rw [hK]; have HD_ := Aside0.mk hd_.below; obtain ⟨nd, rfl⟩ := hd_.out; clear hd_)
              go_meet
              case rel => exact ⟨by unfold badSpan; rw [hK, hF1]; rfl, HD_⟩
            · have hF1 := decide_eq_false hF
              have hF2 := eq_false hF
              clear hF
              by_cases hG : (sp l j).f2 < (sp l j).f1
              · have hG1 := decide_eq_true hG
                have hG2 := eq_true hG
                clear hG
                go_wp2_with (first | (go_at_call 26; go_must (refine (ended_calls (sp l j) _).mono ?_; rintro e_ w6 ⟨rfl, hd2_⟩; have HD2 := Aside0.mk (below_step HD_.out hd2_); clear hd2_)) | (go_at_call 25; (with_reducible refine (kind_calls (sp l j).f0 W4).mono ?_); rintro e_ w5 ⟨rfl, hd_⟩; rw [hK]; have HD_ := Aside0.mk hd_.below; obtain ⟨nd, rfl⟩ := hd_.out; clear hd_))
                go_meet
                case rel => exact ⟨by unfold badSpan; rw [hK, hF1, hG1]; rfl, HD2⟩
              · have hG1 := decide_eq_false hG
                have hG2 := eq_false hG
                clear hG
                go_wp2_with (go_at_call 25; (with_reducible refine (kind_calls (sp l j).f0 W4).mono ?_); rintro e_ w5 ⟨rfl, hd_⟩; rw [hK]; have HD_ := Aside0.mk hd_.below; obtain ⟨nd, rfl⟩ := hd_.out; clear hd_)
                go_meet
                case rel => exact ⟨by unfold badSpan; rw [hK, hF1, hG1]; rfl, HD_⟩
        case rest =>
          obtain ⟨rfl, BD⟩ := hcut
          have HB5 := Aside0.mk (below_step HB4.out BD.out)
          clear x0 x1 x2 x3 x4 HX4 BD
          cases hB : badSpan (sp l j)
          case true =>
            go_wp2_with fail
            go_ret3
            have e1 : judgeF l = ([], false, 310) := by unfold judgeF; rw [if_neg hl, if_pos (any_true hlt hB)]
            rw [e1]
            exact ⟨_, rfl, Kd.R_nil _ _ _ _ _, HB5.out⟩
          case false =>
            go_wp2_with fail
            go_roundw
            case rel => exact ⟨j + 1, by omega, by go_num, HB5, ⟨upto HT.out hB⟩⟩
            case measure => simp [intOf]; omega
      · obtain rfl : j = l.length := by omega
        have p2 := eq_false (show ¬ ((l.length : Int) < (l.length : Int)) by omega)
        have hNB : Aside0 (l.any badSpan = false) := ⟨any_false HT.out⟩
        go_upto_region 10 with fail
        have SM : Aside0 (SS w.heap.size ((wr.alloc (.map #[] 0)).alloc (.cells #[.slice A l.length c, .map (some wr.heap.size), .slice none 0 0] 64)) (wr.heap.size + 1) wr.heap.size A c l (.slice none 0 0) [] 0 (.map [])) :=
          ⟨SS.made CR.out HB.out (by have := (Go.MapKept.heap_alloc (wr.alloc (.map #[] 0)) (.cells #[.slice A l.length c, .map (some wr.heap.size), .slice none 0 0] 64)).1; simpa using this) rfl ((Below.refl _ _).alloc (by simp) _)⟩
        have HBM : Aside0 (Below w.heap.size w ((wr.alloc (.map #[] 0)).alloc (.cells #[.slice A l.length c, .map (some wr.heap.size), .slice none 0 0] 64))) := ⟨below_alloc (below_alloc HB.out _) _⟩
        generalize (wr.alloc (.map #[] 0)).alloc (.cells #[.slice A l.length c, .map (some wr.heap.size), .slice none 0 0] 64) = WM at SM HBM ⊢
        have hle : w.heap.size ≤ wr.heap.size := HB.out.size
        generalize wr.heap.size = bm at SM hle ⊢
        have hfr := free_le 0 l.length
        have hpw : 0 + 15 ^ free 0 l.length < 2000000000000000000 := by
          have h1 : 15 ^ free 0 l.length ≤ 15 ^ 14 := Nat.pow_le_pow_right (by omega) (by omega)
          have h2 : (15 : Nat) ^ 14 = 29192926025390625 := by decide
          omega
        have KEY := from_calls w.heap.size (bm + 1) bm A c l (by omega) (free 0 l.length) WM (.slice none 0 0) [] 0 (.map []) 0 q0 SM.out rfl (Nat.two_pow_pos _) wq0 hpw (by simp; omega)
        have HKEY := Aside0.mk KEY
        have hno : ∀ k, (Value.slice none 0 0).ownBlock = some k → False := fun k hk => by simp [Value.ownBlock] at hk
        clear hpw KEY hfr
        cases hC : C l 0 q0
        case some r =>
          have e1 : judgeF l = (r, true, 0) := by unfold judgeF; rw [if_neg hl, if_neg (by rw [hNB.out]; simp), hC]
          go_wp2_with (go_at_call 27; go_must (refine HKEY.out.mono ?_; rintro e_ WG HP; have hP := HP.out; rw [hC] at hP; subst hP; obtain ⟨v7, D7, S7, V7⟩ := HP.ss; rw [hC] at S7; obtain ⟨A7, c7, rfl⟩ := Kd.R_slice S7.ord; have HS7 := Aside0.mk S7; have HC7 := Aside0.mk HP.chg; have y2 : WG.cell? ⟨bm + 1, 2, none⟩ = some (.slice A7 ([] ++ (some r).getD []).length c7) := (blk_cell S7.blk 2).trans rfl; clear HP V7 S7))
          go_ret3
          rw [e1]
          exact ⟨_, rfl, Kd.R_mono HS7.out.ord (fun _ _ => trivial), HBM.out.trans (HC7.out.below HBM.out.size (fun k hk => by
            rcases hk with h | h | h
            · omega
            · omega
            · exact (hno k h).elim))⟩
        case none =>
          have e1 : judgeF l = ([], false, 0) := by unfold judgeF; rw [if_neg hl, if_neg (by rw [hNB.out]; simp), hC]
          go_wp2_with (go_at_call 27; go_must (refine HKEY.out.mono ?_; rintro e_ WG HP; have hP := HP.out; rw [hC] at hP; subst hP; have HC7 := Aside0.mk HP.chg; clear HP))
          go_ret3
          rw [e1]
          exact ⟨_, rfl, Kd.R_nil _ _ _ _ _, HBM.out.trans (HC7.out.below HBM.out.size (fun k hk => by
            rcases hk with h | h | h
            · omega
            · omega
            · exact (hno k h).elim))⟩
end Go.Proofs.Ytbjoinocajobhaa.Ju
