/- MergePlays, walked. NOT WHOLE YET. -/
import Derived.Test.YtmbljhkblmdkoaaMylZMergePlays
import Derived.Test.YtmbljhkblmdkoaaQ0ZMergePlays
namespace Go.Proofs.Ytmbljhkblmdkoaa.Mg
set_option linter.unusedVariables false
set_option linter.unusedSimpArgs false
open Go.RowKit Go.Proofs.Ytmbljhkblmdkoaa.Q Go.Proofs.YtmbljhkblmdkoaaW.PrintWords Go.Proofs.YtmbljhkblmdkoaaW.PrintLast Go.Proofs.YtmbljhkblmdkoaaW.PrintMore Go.Proofs.Ytmbljhkblmdkoaa.Keep Go.Maps
/-- What the law wants of a Put. -/
theorem put_er (win nx : Int) (f : Hd Int) (k : Nat) (s v : Int) : (put win nx f k s v).er = if s < nx ∨ (f s).isSome = true then 271 else if s - nx ≥ win then 272 else 0 := by
  unfold put
  split
  · rfl
  · split <;> rfl
theorem new_sz {W : World} {o : Obj} {g : Nat} (h : g = W.heap.size) : (W.alloc o).heap[g]? = some o := by subst h; exact blk_new W o
theorem old_drew {W : World} {o : Obj} {g : Nat} (h : W.heap[g]? = some o) : W.drew.heap[g]? = some o := h
theorem boxC {W : World} {a : Nat} {x : Int} (h : W.heap[a]? = some (.cells #[.int .i64 x] 3 (0, 0))) : Kd.C (Kd.int .i64) W (some ⟨a, 0, none⟩) 1 [x] := by
  refine Kd.C_of_reads (d := (0 : Int)) (h1 := fun _ => rfl) (readsInt_of.1 ⟨rfl, by omega, fun _ => ⟨_, rfl, fun j hj => ?_⟩⟩)
  obtain rfl : j = 0 := by simpa using hj
  rw [add_plain, blk_cell h 0]; rfl
theorem rng_lt {W : World} {base : Nat} {ok : Nat → Prop} {b j : Nat} (h : Bk W base ok b) (hj : ok j) : j < W.heap.size := (h.rng j hj).2
theorem put_no {win nx : Int} {f : Hd Int} {k : Nat} {s v : Int} {p : Pu Int} (hp : p = put win nx f k s v) (he : p.er ≠ 0) : p.f = f ∧ p.nx = nx ∧ p.k = k ∧ p.out = [] := by
  subst hp
  unfold put at he ⊢
  split at he
  · rename_i q; rw [if_pos q]; exact ⟨rfl, rfl, rfl, rfl⟩
  · split at he
    · rename_i q q2; rw [if_neg q, if_pos q2]; exact ⟨rfl, rfl, rfl, rfl⟩
    · exact absurd rfl he
theorem put_yes {win nx : Int} {f : Hd Int} {k : Nat} {s v : Int} {p : Pu Int} (hp : p = put win nx f k s v) (he : p.er = 0) :
    f s = none ∧ p.f = (drain (k + 1) (upd f s (some v)) nx).1 ∧ p.nx = (drain (k + 1) (upd f s (some v)) nx).2.1 ∧ p.k = k + 1 - (drain (k + 1) (upd f s (some v)) nx).2.2.length ∧ p.out = (drain (k + 1) (upd f s (some v)) nx).2.2 := by
  rw [hp] at he ⊢
  unfold put at he ⊢
  split at he
  · exact absurd he (by simp)
  · split at he
    · exact absurd he (by simp)
    · rename_i q q2
      rw [if_neg q, if_neg q2]
      refine ⟨?_, rfl, rfl, rfl, rfl⟩
      cases e : f s with
      | none => rfl
      | some u => exact absurd (.inr (by rw [e]; rfl)) q
/-- What a Put leaves, plainly. -/
structure Pf (nx : Int) (k : Nat) (p : Pu Int) : Prop where
  gone : p.f p.nx = none
  pos : 0 ≤ p.nx
  sum : p.nx + p.k ≤ nx + k + 1
  out : p.out.length ≤ k + 1
theorem drain_len : ∀ (k : Nat) (f : Hd Int) (nx : Int), (drain k f nx).2.2.length ≤ k ∧ (drain k f nx).2.1 = nx + (drain k f nx).2.2.length
  | 0, f, nx => by simp [drain]
  | k + 1, f, nx => by
    cases e : f nx with
    | none => rw [drain_none e]; simp
    | some v =>
      rw [drain_some e]
      have := drain_len k (upd f nx none) (nx + 1)
      simp only [List.length_cons]
      exact ⟨by omega, by omega⟩
theorem drain_rp : ∀ (k : Nat) (f : Hd Int) (nx : Int) (seq val : List Int), Rp f k seq val → (drain k f nx).1 (drain k f nx).2.1 = none
  | 0, f, nx, seq, val, h => by
    show f nx = none
    cases e : f nx with
    | none => rfl
    | some v =>
      have := h.all nx (by rw [e]; simp)
      have hl := List.length_eq_zero_iff.1 h.len
      rw [hl] at this; cases this
  | k + 1, f, nx, seq, val, h => by
    cases e : f nx with
    | none => rw [drain_none e]; exact e
    | some v =>
      rw [drain_some e]
      obtain ⟨j, hj, ej⟩ := List.getElem_of_mem (h.all nx (by rw [e]; simp))
      have hr := h.less (j := j) (by rw [← h.len]; exact hj)
      have : seq.getD j 0 = nx := by rw [List.getD_eq_getElem?_getD, List.getElem?_eq_getElem hj]; exact ej
      rw [this] at hr
      exact drain_rp k _ _ _ _ hr
theorem put_pf {win nx : Int} {f : Hd Int} {k : Nat} {s v : Int} {p : Pu Int} {seq val : List Int} (hp : p = put win nx f k s v) (h : Rp f k seq val) (hg : f nx = none) (hn : 0 ≤ nx) : Pf nx k p := by
  by_cases he : p.er = 0
  · have e : p = ⟨(drain (k + 1) (upd f s (some v)) nx).1, (drain (k + 1) (upd f s (some v)) nx).2.1, k + 1 - (drain (k + 1) (upd f s (some v)) nx).2.2.length, (drain (k + 1) (upd f s (some v)) nx).2.2, 0⟩ ∧ f s = none := by
      rw [hp] at he ⊢
      unfold put at he ⊢
      split at he
      · exact absurd he (by simp)
      · split at he
        · exact absurd he (by simp)
        · rename_i q q2
          rw [if_neg q, if_neg q2]
          refine ⟨rfl, ?_⟩
          cases e : f s with
          | none => rfl
          | some u => exact absurd (.inr (by rw [e]; rfl)) q
    obtain ⟨e, hfs⟩ := e
    have hl := drain_len (k + 1) (upd f s (some v)) nx
    have hr := drain_rp (k + 1) _ nx _ _ (h.more v hfs)
    rw [e]
    exact ⟨hr, by dsimp only; omega, by dsimp only; omega, by dsimp only; omega⟩
  · obtain ⟨e1, e2, e3, e4⟩ := put_no hp he
    exact ⟨by rw [e1, e2]; exact hg, by rw [e2]; exact hn, by rw [e2, e3]; omega, by rw [e4]; simp⟩
theorem MS.appTell {w W W1 : World} {base g bm b : Nat} {ok : Nat → Prop} {win nx : Int} {f : Hd Int} {k n : Nat} {vs vv tv : Value} {seq val xs : List Int} (h : MS w W base g bm b ok win nx f k n vs vv seq val) (ht : TL W base ok vs vv tv xs) (hg : W.grownBy W1 tv.ownBlock) : MS w W1 base g bm b ok win nx f k n vs vv seq val :=
  h.other (okc := fun j => tv.ownBlock = some j) ⟨hg.os, hg.tape, hg.output, hg.size, fun j hj hn => hg.block j hj (fun e => hn e.symm)⟩ (fun j hj => ⟨(RI.lt ht hj).1, (RI.lt ht hj).2.2⟩)
theorem MS.newer {w W : World} {base g bm b : Nat} {ok : Nat → Prop} {win nx : Int} {f : Hd Int} {k n : Nat} {vs vv : Value} {seq val : List Int} (h : MS w W base g bm b ok win nx f k n vs vv seq val) (j : Nat) (hj : W.heap.size ≤ j) : ¬ ok j ∧ vs.ownBlock ≠ some j ∧ vv.ownBlock ≠ some j :=
  ⟨fun q => by have := rng_lt h.bk q; omega, fun q => by have := (RI.lt h.rs q).2.1; omega, fun q => by have := (RI.lt h.rv q).2.1; omega⟩
theorem RI.ir {W : World} {base g n c : Nat} {ok : Nat → Prop} {l : List Int} (h : RI W base ok (.slice (some ⟨g, 0, none⟩) n c) l) (h0 : l ≠ []) : IR .i64 3 W g l := by
  obtain ⟨g', c', e, _, hi, _⟩ := IR.of_R h h0
  injection e with e1 e2 e3
  obtain rfl : g = g' := by injection e1 with e1; injection e1
  exact hi
set_option maxHeartbeats 8000000 in
set_option maxRecDepth 100000 in
theorem plays_walk (win : Int) (A : Option Addr) (l : List (Int × Int)) (c : Nat) (w : World) (hp : PR w A l) (hc : l.length ≤ c) (hwin : (Lit.int .i64 win).wf = true) :
    Calls Try.prog 3 #[.int .i64 win, .slice A l.length c] w fun e w' => e = .returned (.bool true) ∧ Below w.heap.size w w' := by
  have HP := Aside0.mk hp
  have hlb := hp.1
  clear hp
  by_cases hbad : win < 1 ∨ 64 < win
  · have HBAD := Aside0.mk hbad
    by_cases h1 : win < 1
    · have p1 := eq_true h1
      clear h1 hbad
      go_enter Try.func3, Try.ntmps3
      go_wp2_with (first
        | (go_at_call 8; (with_reducible refine (Ms.wakes_calls w1).mono ?_); rintro e_ w2 ⟨rfl, hb_⟩; have B2 := Aside0.mk (below_step B1.out hb_); clear hb_)
        | (go_at_call 7; (with_reducible refine (numq 270 w1).mono ?_); rintro e_ w9 ⟨rfl, rfl⟩)
        | (go_at_call 6; (with_reducible refine (new_bad win HBAD.out w).mono ?_); rintro e_ w1 ⟨rfl, hb_⟩; have B1 := Aside0.mk hb_; clear hb_))
      go_ret
      exact ⟨rfl, B2.out⟩
    · have p1 := eq_false h1
      have p2 := eq_true (show 64 < win by omega)
      clear h1 hbad
      go_enter Try.func3, Try.ntmps3
      go_wp2_with (first
        | (go_at_call 8; (with_reducible refine (Ms.wakes_calls w1).mono ?_); rintro e_ w2 ⟨rfl, hb_⟩; have B2 := Aside0.mk (below_step B1.out hb_); clear hb_)
        | (go_at_call 7; (with_reducible refine (numq 270 w1).mono ?_); rintro e_ w9 ⟨rfl, rfl⟩)
        | (go_at_call 6; (with_reducible refine (new_bad win HBAD.out w).mono ?_); rintro e_ w1 ⟨rfl, hb_⟩; have B1 := Aside0.mk hb_; clear hb_))
      go_ret
      exact ⟨rfl, B2.out⟩
  have hw1 : 1 ≤ win ∧ win ≤ 64 := by omega
  have HW1 := Aside0.mk hw1
  have p1 := eq_false (show ¬ win < 1 by omega)
  have p2 := eq_false (show ¬ 64 < win by omega)
  clear hbad
  go_enter Try.func3, Try.ntmps3
  go_upto_region 8 with (first
    | (go_at_call 7; (with_reducible refine (numq 0 w1).mono ?_); rintro e_ w9 ⟨rfl, rfl⟩)
    | (go_at_call 6; (with_reducible refine (new_calls win HW1.out.1 HW1.out.2 w).mono ?_); rintro e_ w1 ⟨g, bm, rfl, hS_, hg_, hbm_, hb_⟩; have S1 := Aside0.mk hS_; have B1 := Aside0.mk hb_; have LG := Aside0.mk hg_; have LB := Aside0.mk hbm_; clear hS_ hg_ hbm_ hb_))
  clear p1 p2 hw1
  go_upto_region 10 with fail
  have M0 : Aside0 (MS w (w1.alloc (.cells #[.slice none 0 0, .slice none 0 0, .slice none 0 0, .slice none 0 0, .slice none 0 0, .slice none 0 0] 35)) w1.heap.size g bm w1.heap.size (fun j => j = w1.heap.size) win 0 (fun _ => none) 0 0 (.slice none 0 0) (.slice none 0 0) [] []) :=
    ⟨⟨S1.out.below (below_alloc (Below.refl _ _) _), Bk.new w1 w1.heap.size (Nat.le_refl _), Kd.R_nil _ _ _ _ _, Kd.R_nil _ _ _ _ _, fun j hj => by simp [Value.ownBlock] at hj, B1.out.trans ((below_alloc (Below.refl w1.heap.size w1) _).mono B1.out.size), ⟨LG.out, LB.out, S1.out.lt.1, S1.out.lt.2, by simp⟩⟩⟩
  generalize w1.alloc (.cells #[.slice none 0 0, .slice none 0 0, .slice none 0 0, .slice none 0 0, .slice none 0 0, .slice none 0 0] 35) = W0 at M0 ⊢
  generalize w1.heap.size = base at M0 ⊢
  go_loopw [7, 8, 9, 11] (fun s7 s8 s9 s11 wr => ∃ (i : Nat) (nx : Int) (f : Hd Int) (k : Nat) (ok : Nat → Prop) (seq val : List Int), i ≤ l.length ∧ i ≤ 300 ∧ s11 = .int .i64 i ∧ s9 = .int .i64 nx ∧ 0 ≤ nx ∧ nx + k ≤ i ∧ Aside0 (MS w wr base g bm base ok win nx f k i s7 s8 seq val) ∧ Aside0 (Rp f k seq val) ∧ Aside0 (f nx = none)) (fun _ _ _ s11 _ => l.length - (intOf s11).toNat)
  case atStart => exact ⟨0, 0, fun _ => none, 0, _, [], [], Nat.zero_le _, by decide, rfl, rfl, by decide, by decide, M0, ⟨Rp.start⟩, ⟨rfl⟩⟩
  case round =>
    obtain ⟨i, nx, f, k, ok, seq, val, hi, hi3, rfl, rfl, hn0, hnk, MR, RP, HG⟩ := hrel
    clear M0
    by_cases hlt : i < l.length ∧ i < 300
    · obtain ⟨ad, s, v, e, wfs, wfv, hcell⟩ := HP.out.at_ hlt.1
      subst e
      have HCELL := Aside0.mk hcell
      have WFS := Aside0.mk wfs
      have WFV := Aside0.mk wfv
      have hsb := wf_of wfs
      obtain ⟨x0, x1⟩ := hcell wr MR.out.bel
      obtain ⟨A7, c7, rfl, C7, hc7⟩ := MR.out.readSeq
      obtain ⟨A8, c8, rfl, C8, hc8⟩ := MR.out.readVal
      have HC7 := Aside0.mk C7
      have HC8 := Aside0.mk C8
      have HC7' := Aside0.mk hc7
      have HC8' := Aside0.mk hc8
      have hls : seq.length = k := RP.out.len
      have hlv : val.length = k := RP.out.same
      have HLS : Aside0 (seq.length ≤ 1000000) := ⟨by omega⟩
      obtain ⟨p, hp⟩ : ∃ p, p = put win nx f k s v := ⟨_, rfl⟩
      have HPP := Aside0.mk hp
      have her := put_er win nx f k s v
      rw [← hp] at her
      have q1 : (i : Int) < (l.length : Int) := by omega
      have q2 : (i : Int) < 300 := by omega
      have q3 : (0 : Int) ≤ (i : Int) := by omega
      clear hcell wfs wfv C7 C8 hc7 hc8 hp hls hlv
      have p1 := eq_true q1
      have p2 := eq_true q2
      have p3 := eq_true q3
      go_upto_region 14 with fail
      clear p1 p2 p3 q1 q2 q3 x0 x1
      go_cut [71] (fun s71 wx => s71 = .bool (decide (s < nx ∨ (f s).isSome = true)) ∧ wr = wx)
      case first =>
        by_cases h1 : s < nx
        · have hd : decide (s < nx ∨ (f s).isSome = true) = true := decide_eq_true (.inl h1)
          have p1 := eq_true h1
          have HD := Aside0.mk hd
          clear h1 her hsb hd
          go_wp2_with fail
          go_meet
          case rel => exact ⟨by rw [HD.out], rfl⟩
        · have p1 := eq_false h1
          rcases atI_cases seq s with ⟨ha, hn⟩ | ⟨j, ha, hj, hjs⟩
          · have hfs : ¬ (f s).isSome = true := fun q => hn ((RP.out.mem s).1 q)
            have HD : Aside0 (decide (s < nx ∨ (f s).isSome = true) = false) := ⟨decide_eq_false (by rintro (q | q); exact h1 q; exact hfs q)⟩
            have HA := Aside0.mk ha
            clear h1 her hsb ha hn hfs
            go_wp2_with (first | (go_at_call 9; (with_reducible refine (atq wr A7 c7 seq.length seq s rfl HC7.out HLS.out).mono ?_); rintro e_ w9 ⟨rfl, rfl⟩; rw [HA.out]))
            go_meet
            case rel => exact ⟨by rw [HD.out], rfl⟩
          · have hm : s ∈ seq := by
              rw [List.getD_eq_getElem?_getD, List.getElem?_eq_getElem hj] at hjs
              exact hjs ▸ List.getElem_mem hj
            have HD : Aside0 (decide (s < nx ∨ (f s).isSome = true) = true) := ⟨decide_eq_true (.inr ((RP.out.mem s).2 hm))⟩
            have HA := Aside0.mk ha
            have q4 : (0 : Int) ≤ (j : Int) := by omega
            have p4 := eq_true q4
            clear h1 her hsb ha hm hjs hj q4
            go_wp2_with (first | (go_at_call 9; (with_reducible refine (atq wr A7 c7 seq.length seq s rfl HC7.out HLS.out).mono ?_); rintro e_ w9 ⟨rfl, rfl⟩; rw [HA.out]))
            go_meet
            case rel => exact ⟨by rw [HD.out], rfl⟩
      case rest =>
      obtain ⟨rfl, rfl⟩ := hcut
      obtain ⟨d, hd⟩ : ∃ d, d = decide (s < nx ∨ (f s).isSome = true) := ⟨_, rfl⟩
      rw [← hd]
      go_upto_if 71 with fail
      go_cut [13] from 72 to 76 (fun s13 wx => s13 = .int .i64 p.er ∧ wr = wx)
      case first =>
        cases d
        case true =>
          have HER : Aside0 (p.er = 271) := ⟨by rw [her, if_pos (of_decide_eq_true hd.symm)]⟩
          clear her hsb hd
          go_wp2_with fail
          go_meet
          case rel => exact ⟨by rw [HER.out], rfl⟩
        case false =>
          have hnd := of_decide_eq_false hd.symm
          by_cases h2 : win ≤ s - nx
          · have HER : Aside0 (p.er = 272) := ⟨by rw [her, if_neg hnd, if_pos h2]⟩
            have E1 : Aside0 (wrap64 (s - nx) = s - nx ∧ IntKind.i64.wrap (s - nx) = s - nx) := ⟨by have h1 : ¬ s < nx := fun q => hnd (.inl q); clear hd her hnd; exact ⟨by unfold wrap64; omega, by rw [IntKind.wrap_i64]; omega⟩⟩
            have p2 := eq_true h2
            obtain ⟨e1, e1'⟩ := E1.out
            clear h2 her hsb hd hnd
            go_wp2_with fail
            go_meet
            case rel => exact ⟨by rw [HER.out], rfl⟩
          · have HER : Aside0 (p.er = 0) := ⟨by rw [her, if_neg hnd, if_neg (by omega)]⟩
            have E1 : Aside0 (wrap64 (s - nx) = s - nx ∧ IntKind.i64.wrap (s - nx) = s - nx) := ⟨by have h1 : ¬ s < nx := fun q => hnd (.inl q); clear hd her hnd; exact ⟨by unfold wrap64; omega, by rw [IntKind.wrap_i64]; omega⟩⟩
            have p2 := eq_false h2
            obtain ⟨e1, e1'⟩ := E1.out
            clear h2 her hsb hd hnd
            go_wp2_with fail
            go_meet
            case rel => exact ⟨by rw [HER.out], rfl⟩
      case rest =>
        obtain ⟨rfl, rfl⟩ := hcut
        have HPF := Aside0.mk (put_pf HPP.out RP.out HG.out hn0)
        clear her hd hsb
        go_upto_region 19 with fail
        have DE : Aside0 ((p.er == 0) = decide (p.er = 0)) := ⟨by by_cases q : p.er = 0 <;> simp [q]⟩
        obtain ⟨z, hz⟩ : ∃ z : Bool, z = (p.er == 0) := ⟨_, rfl⟩
        have hz2 := hz.symm
        have HZ := Aside0.mk hz
        clear hz
        go_upto_if 78 with fail
        clear hz2
        go_cut [7, 8, 9, 14, 15] from 79 to 113 (fun s7 s8 s9 s14 s15 wx => ∃ seq' val', s9 = .int .i64 p.nx ∧ Aside0 (Rp p.f p.k seq' val') ∧ Aside0 (MS w wx base g bm base ok win nx f k i s7 s8 seq' val') ∧ Aside0 (TL wx base ok s7 s8 s14 p.out))
        case first =>
          cases z
          case false =>
            have hne : p.er ≠ 0 := by have := HZ.out; rw [eq_comm, beq_eq_false_iff_ne] at this; exact this
            obtain ⟨n1, n2, n3, n4⟩ := put_no HPP.out hne
            have N1 := Aside0.mk n1
            have N2 := Aside0.mk n2
            have N3 := Aside0.mk n3
            have N4 := Aside0.mk n4
            clear n1 n2 n3 n4 hne
            go_wp2_with fail
            go_meet
            case rel => exact ⟨seq, val, by rw [N2.out], ⟨by rw [N1.out, N3.out]; exact RP.out⟩, MR, ⟨by rw [N4.out]; exact Kd.R_nil _ _ _ _ _⟩⟩
          case true =>
            have her : p.er = 0 := by have := HZ.out; rw [eq_comm, beq_iff_eq] at this; exact this
            have HER := Aside0.mk her
            clear her
            go_upto_region 20 with fail
            go_cut [7, 8] from 79 to 90 (fun s7 s8 wx => Aside0 (MS w wx base g bm base ok win nx f k i s7 s8 (seq ++ [s]) (val ++ [v])))
            case first =>
              have hls : seq.length = k := RP.out.len
              have hlv : val.length = k := RP.out.same
              have LX : Aside0 ((seq.length + 1) * 8 ≤ 140737488355328) := ⟨by omega⟩
              have LX2 : Aside0 ((val.length + 1) * 8 ≤ 140737488355328) := ⟨by omega⟩
              obtain ⟨y0, y1⟩ := HCELL.out wr MR.out.bel
              obtain ⟨-, y2⟩ := HCELL.out (wr.alloc (.cells #[.int .i64 s] 3)) (MR.out.below (below_alloc (Below.refl _ _) _)).bel
              have LTS : Aside0 (∀ j, (Value.slice A7 seq.length c7).ownBlock = some j → j < wr.heap.size) := ⟨fun j hj => (RI.lt MR.out.rs hj).2.1⟩
              have LTV : Aside0 (∀ j, (Value.slice A8 val.length c8).ownBlock = some j → j < wr.heap.size) := ⟨fun j hj => (RI.lt MR.out.rv hj).2.1⟩
              have q1 : (i : Int) < (l.length : Int) := by omega
              have q3 : (0 : Int) ≤ (i : Int) := by omega
              have p1 := eq_true q1
              have p3 := eq_true q3
              clear q1 q3 hls hlv y0
              go_region_law (first
                | (refine Kd.R_append_rows_step (Kd.int .i64) base rfl (.tmp 79) (.tmp 81) 29 3 (.int .i64 0) 8 rfl Try.underlying29 info3 rfl (by decide) (by omega) (.slice A7 seq.length c7) seq [s] _ _ _ (fun j => ¬ ok j) (fun _ => False) rfl rfl ?HO ?HC (fun _ _ h => h) (fun _ hk => hk.elim) ?hf (Below.refl _ _) ?hb LX.out ?_; (case HO => exact MS.rs (by (first | (refine MS.below MN.out ?_; (repeat (first | exact Below.refl _ _ | (with_reducible first | apply below_alloc | apply below_drew))); done) | (refine MS.below MR.out ?_; (repeat (first | exact Below.refl _ _ | (with_reducible first | apply below_alloc | apply below_drew))); done)))); (case HC => show Kd.C (Kd.int .i64) _ _ _ _; refine boxC ?_; first | ((repeat (first | (refine new_sz ?_; (first | rfl | (simp; done)); done) | (with_reducible refine blk_alloc ?_ _) | (with_reducible refine old_drew ?_))); done) | ((repeat (first | (refine new_sz ?_; (first | rfl | (simp; done)); done) | (with_reducible refine blk_alloc ?_ _) | (with_reducible refine old_drew ?_))); refine (HGN.out.block _ (by simp <;> omega) (by intro e_; first | (have h_ := LTS.out _ e_.symm; (try simp at h_); (try omega); done) | (have h_ := LTV.out _ e_.symm; (try simp at h_); (try omega); done))).trans ?_; (repeat (first | (refine new_sz ?_; (first | rfl | (simp; done)); done) | (with_reducible refine blk_alloc ?_ _) | (with_reducible refine old_drew ?_))); done)); (case hf => exact fun j hj hq => Nat.lt_irrefl _ (Nat.lt_of_lt_of_le (rng_lt (MS.bk (show MS w _ base g bm base ok win nx f k i _ _ _ _ from by (first | (refine MS.below MN.out ?_; (repeat (first | exact Below.refl _ _ | (with_reducible first | apply below_alloc | apply below_drew))); done) | (refine MS.below MR.out ?_; (repeat (first | exact Below.refl _ _ | (with_reducible first | apply below_alloc | apply below_drew))); done)))) hq) hj)); (case hb => exact (MS.lo (show MS w _ base g bm base ok win nx f k i _ _ _ _ from by (first | (refine MS.below MN.out ?_; (repeat (first | exact Below.refl _ _ | (with_reducible first | apply below_alloc | apply below_drew))); done) | (refine MS.below MR.out ?_; (repeat (first | exact Below.refl _ _ | (with_reducible first | apply below_alloc | apply below_drew))); done)))).2.2.2.2); intro v9_ w9_ ho_ hb_ hg_ hat_; have MN_ := Aside0.mk (MS.appSeq (show MS w _ base g bm base ok win nx f k i _ _ _ _ from by (first | (refine MS.below MN.out ?_; (repeat (first | exact Below.refl _ _ | (with_reducible first | apply below_alloc | apply below_drew))); done) | (refine MS.below MR.out ?_; (repeat (first | exact Below.refl _ _ | (with_reducible first | apply below_alloc | apply below_drew))); done))) hg_ ho_ hat_); have HGN := Aside0.mk hg_; have MN := MN_; have xq := (HCELL.out _ MN_.out.bel).2; clear ho_ hb_ hg_ hat_ MN_)
                | (refine Kd.R_append_rows_step (Kd.int .i64) base rfl (.tmp 83) (.tmp 89) 29 3 (.int .i64 0) 8 rfl Try.underlying29 info3 rfl (by decide) (by omega) (.slice A8 val.length c8) val [v] _ _ _ (fun j => ¬ ok j) (fun _ => False) rfl rfl ?HO ?HC (fun _ _ h => h) (fun _ hk => hk.elim) ?hf (Below.refl _ _) ?hb LX2.out ?_; (case HO => exact MS.rv (by (first | (refine MS.below MN.out ?_; (repeat (first | exact Below.refl _ _ | (with_reducible first | apply below_alloc | apply below_drew))); done) | (refine MS.below MR.out ?_; (repeat (first | exact Below.refl _ _ | (with_reducible first | apply below_alloc | apply below_drew))); done)))); (case HC => show Kd.C (Kd.int .i64) _ _ _ _; refine boxC ?_; first | ((repeat (first | (refine new_sz ?_; (first | rfl | (simp; done)); done) | (with_reducible refine blk_alloc ?_ _) | (with_reducible refine old_drew ?_))); done) | ((repeat (first | (refine new_sz ?_; (first | rfl | (simp; done)); done) | (with_reducible refine blk_alloc ?_ _) | (with_reducible refine old_drew ?_))); refine (HGN.out.block _ (by simp <;> omega) (by intro e_; first | (have h_ := LTS.out _ e_.symm; (try simp at h_); (try omega); done) | (have h_ := LTV.out _ e_.symm; (try simp at h_); (try omega); done))).trans ?_; (repeat (first | (refine new_sz ?_; (first | rfl | (simp; done)); done) | (with_reducible refine blk_alloc ?_ _) | (with_reducible refine old_drew ?_))); done)); (case hf => exact fun j hj hq => Nat.lt_irrefl _ (Nat.lt_of_lt_of_le (rng_lt (MS.bk (show MS w _ base g bm base ok win nx f k i _ _ _ _ from by (first | (refine MS.below MN.out ?_; (repeat (first | exact Below.refl _ _ | (with_reducible first | apply below_alloc | apply below_drew))); done) | (refine MS.below MR.out ?_; (repeat (first | exact Below.refl _ _ | (with_reducible first | apply below_alloc | apply below_drew))); done)))) hq) hj)); (case hb => exact (MS.lo (show MS w _ base g bm base ok win nx f k i _ _ _ _ from by (first | (refine MS.below MN.out ?_; (repeat (first | exact Below.refl _ _ | (with_reducible first | apply below_alloc | apply below_drew))); done) | (refine MS.below MR.out ?_; (repeat (first | exact Below.refl _ _ | (with_reducible first | apply below_alloc | apply below_drew))); done)))).2.2.2.2); intro v9_ w9_ ho_ hb_ hg_ hat_; have MN_ := Aside0.mk (MS.appVal (show MS w _ base g bm base ok win nx f k i _ _ _ _ from by (first | (refine MS.below MN.out ?_; (repeat (first | exact Below.refl _ _ | (with_reducible first | apply below_alloc | apply below_drew))); done) | (refine MS.below MR.out ?_; (repeat (first | exact Below.refl _ _ | (with_reducible first | apply below_alloc | apply below_drew))); done))) hg_ ho_ hat_); have HGN := Aside0.mk hg_; have MN := MN_; have xq := (HCELL.out _ MN_.out.bel).2; clear ho_ hb_ hg_ hat_ MN_))
              all_goals
                go_wp2_with fail
                go_meet
                case rel => exact ⟨by first | exact MN.out | exact MN.out.below (below_drew (Below.refl _ _))⟩
            case rest =>
              have M1 := hcut
              clear hcut
              obtain ⟨hfs, hpf, hpn, hpk, hpo⟩ := put_yes HPP.out HER.out
              have RP1 := Aside0.mk (RP.out.more v hfs)
              obtain ⟨sq, hsq⟩ : ∃ q, q = seq ++ [s] := ⟨_, rfl⟩
              obtain ⟨vl, hvl⟩ : ∃ q, q = val ++ [v] := ⟨_, rfl⟩
              rw [← hsq, ← hvl] at M1 RP1
              obtain ⟨A7', c7', rfl, C7', hc7'⟩ := M1.out.readSeq
              obtain ⟨f1, hf1⟩ : ∃ f1, f1 = upd f s (some v) := ⟨_, rfl⟩
              rw [← hf1] at hpf hpn hpk hpo RP1
              obtain ⟨FE, hFE⟩ : ∃ F, F = drain (k + 1) f1 nx := ⟨_, rfl⟩
              rw [← hFE] at hpf hpn hpk hpo
              have HFE := Aside0.mk hFE
              have HPE := Aside0.mk (show p.f = FE.1 ∧ p.nx = FE.2.1 ∧ p.k = k + 1 - FE.2.2.length ∧ p.out = FE.2.2 from ⟨hpf, hpn, hpk, hpo⟩)
              have HS1 : Aside0 (sq.length ≤ 1000000) := ⟨by rw [RP1.out.len]; omega⟩
              have C7a := Aside0.mk C7'
              clear hfs hpf hpn hpk hpo hf1 hFE C7' hc7' hsq hvl
              go_upto_region 22 with (first | (go_at_call 9; (with_reducible refine (atq wc A7' c7' sq.length sq nx rfl C7a.out HS1.out).mono ?_); rintro e_ w9 ⟨rfl, rfl⟩))
              go_loopw [7, 8, 9, 14, 15] (fun s7 s8 s9 s14 s15 wx => ∃ (pre : List Int) (f' : Hd Int) (k' : Nat) (m : Int) (seq' val' : List Int), m = nx + pre.length ∧ s9 = .int .i64 m ∧ s15 = .int .i64 (atI seq' m) ∧ pre.length + k' = k + 1 ∧ (∃ A c, s14 = .slice A pre.length c) ∧ Aside0 (FE = ((drain k' f' m).1, (drain k' f' m).2.1, pre ++ (drain k' f' m).2.2)) ∧ Aside0 (Rp f' k' seq' val') ∧
                Aside0 (MS w wx base g bm base ok win nx f k i s7 s8 seq' val') ∧ Aside0 (TL wx base ok s7 s8 s14 pre)) (fun _ _ _ s14 _ _ => k + 1 - lenV s14)
              case atStart => exact ⟨[], f1, k + 1, nx, sq, vl, by simp, rfl, rfl, by simp, ⟨none, 0, rfl⟩, ⟨by rw [HFE.out]; simp⟩, RP1, M1, ⟨Kd.R_nil _ _ _ _ _⟩⟩
              case round =>
                clear M1
                obtain ⟨pre, f', k', m, seq', val', hm, rfl, rfl, hk', ⟨A14, c14, rfl⟩, HE, RP', MW, TW⟩ := hrel
                rcases atI_cases seq' m with ⟨ha, hn⟩ | ⟨j, ha, hj, hjs⟩
                · have hfm : f' m = none := by
                    cases e : f' m with
                    | none => rfl
                    | some u => exact absurd ((RP'.out.mem m).1 (by rw [e]; rfl)) hn
                  have HFM := Aside0.mk hfm
                  have HK := Aside0.mk hk'
                  rw [ha]
                  clear ha hn hfm hm hk'
                  go_wp2_with fail
                  go_meet
                  case rel =>
                    have E := HE.out
                    rw [drain_none HFM.out, List.append_nil] at E
                    obtain ⟨z1, z2, z3, z4⟩ := HPE.out
                    rw [E] at z1 z2 z3 z4
                    dsimp only at z1 z2 z3 z4
                    have hk9 : k + 1 - pre.length = k' := by have := HK.out; omega
                    rw [hk9] at z3
                    exact ⟨seq', val', by rw [z2], ⟨by rw [z1, z3]; exact RP'.out⟩, MW, ⟨by rw [z4]; exact TW.out⟩⟩
                · have hkk := RP'.out.len
                  have hkv := RP'.out.same
                  obtain ⟨k2, rfl⟩ : ∃ k2, k' = k2 + 1 := ⟨k' - 1, by omega⟩
                  obtain ⟨x, hx⟩ : ∃ x, x = val'.getD j 0 := ⟨_, rfl⟩
                  have hfm : f' m = some x := by rw [← hjs, hx]; exact RP'.out.get j (by omega)
                  have hls := RP'.out.less (j := j) (by omega)
                  rw [hjs] at hls
                  obtain ⟨sq2, hsq2⟩ : ∃ q, q = seq'.eraseIdx j := ⟨_, rfl⟩
                  obtain ⟨vl2, hvl2⟩ : ∃ q, q = val'.eraseIdx j := ⟨_, rfl⟩
                  rw [← hsq2, ← hvl2] at hls
                  have HLS := Aside0.mk hls
                  have HSQ := Aside0.mk hsq2
                  have HVL := Aside0.mk hvl2
                  obtain ⟨g7, c7', e7, _, I7, hc7'⟩ := IR.of_R MW.out.rs (fun q => by rw [q] at hj; simp at hj)
                  obtain ⟨g8, c8', e8, _, I8, hc8'⟩ := IR.of_R MW.out.rv (fun q => by rw [q] at hkv; simp at hkv)
                  subst e7 e8
                  have NE7 : Aside0 (seq' ≠ []) := ⟨fun q => by rw [q] at hj; simp at hj⟩
                  have NE8 : Aside0 (val' ≠ []) := ⟨fun q => by rw [q] at hkv; simp at hkv⟩
                  have x0 := I8.cell (j := j) (by omega)
                  rw [← hx] at x0
                  have L7 := Aside0.mk (show seq'.length ≤ 1000000 by omega)
                  have L8 := Aside0.mk (show val'.length ≤ 1000000 by omega)
                  have HC7' := Aside0.mk hc7'
                  have HC8' := Aside0.mk hc8'
                  have L9 := Aside0.mk (show sq2.length ≤ 1000000 by rw [hls.len]; omega)
                  have LP : Aside0 ((pre.length + 1) * 8 ≤ 140737488355328) := ⟨by omega⟩
                  have HJ := Aside0.mk hj
                  have HJ8 := Aside0.mk (show j < val'.length by omega)
                  have HE2 : Aside0 (FE = ((drain k2 (upd f' m none) (m + 1)).1, (drain k2 (upd f' m none) (m + 1)).2.1, (pre ++ [x]) ++ (drain k2 (upd f' m none) (m + 1)).2.2)) := ⟨by rw [HE.out, drain_some hfm, List.append_assoc]; rfl⟩
                  have E1 := Aside0.mk (show wrap64 (m + 1) = m + 1 ∧ IntKind.i64.wrap (m + 1) = m + 1 from ⟨w_id rfl (by omega), w_id2 rfl (by omega)⟩)
                  have R1 := Aside0.mk (show m + 1 = nx + ((pre ++ [x]).length : Int) ∧ (pre ++ [x]).length + k2 = k + 1 ∧ k + 1 - (pre ++ [x]).length < k + 1 - pre.length by rw [List.length_append, List.length_singleton]; omega)
                  have q1 : (0 : Int) ≤ (j : Int) := by omega
                  have q2 : (j : Int) < (val'.length : Int) := by omega
                  rw [ha]
                  obtain ⟨e1, e1'⟩ := E1.out
                  have p1 := eq_true q1
                  have p2 := eq_true q2
                  clear ha hj hjs hm hk' hkk hkv hx hfm hls hsq2 hvl2 I7 I8 hc7' hc8' q1 q2 HE
                  go_wp2_with (first
                    | ((with_reducible refine gate_builtin (b := .append) (xs := #[.tmp 99, .tmp 104]) rfl ?_); at_builtin; go_must (refine Kd.R_append (Kd.int .i64) base rfl (.tmp 99) (.tmp 104) 29 3 (.int .i64 0) 8 rfl Try.underlying29 info3 rfl (by decide) (by omega) (.slice A14 pre.length c14) pre x [.int .i64 x] (fun j => ¬ ok j ∧ _ ≠ some j ∧ _ ≠ some j) (fun _ => False) rfl rfl ?aP (fun _ hk => hk.elim) (MS.newer MW.out) TW.out (Below.refl _ _) MW.out.lo.2.2.2.2 LP.out ?_; (case aP => rfl); intro v14 w2 ho_ hb_ hg_ hat_; have M2 := Aside0.mk (MW.out.appTell TW.out hg_); obtain ⟨A14', c14', rfl⟩ := Kd.R_slice ho_; obtain ⟨N, hN⟩ : ∃ N : Nat, N = (pre ++ [x]).length := ⟨_, rfl⟩; rw [← hN] at ho_ ⊢; have HN := Aside0.mk hN; have T2 := Aside0.mk ho_; clear hN ho_ hb_ hg_ hat_))
                    | (go_at_call 10; (with_reducible refine (without_calls w2 g7 c7' seq'.length seq' j rfl HJ.out HC7'.out (RI.ir M2.out.rs NE7.out) L7.out).mono ?_); rintro e_ w3 ⟨v7, rfl, hR_, hb_⟩; rw [← HSQ.out] at hR_; obtain ⟨A7', c7', rfl⟩ := Kd.R_slice hR_; have M3 := Aside0.mk (M2.out.newSeq hb_ hR_); have T3 := Aside0.mk (Kd.R_below (TL.newSeq T2.out (fun j hj => (RI.lt hR_ hj).1)) hb_); clear hR_ hb_)
                    | (go_at_call 10; (with_reducible refine (without_calls w3 g8 c8' val'.length val' j rfl HJ8.out HC8'.out (RI.ir M3.out.rv NE8.out) L8.out).mono ?_); rintro e_ w4 ⟨v8, rfl, hR_, hb_⟩; rw [← HVL.out] at hR_; have M4 := Aside0.mk (M3.out.newVal hb_ hR_); have T4 := Aside0.mk (Kd.R_below (TL.newVal T3.out (fun j hj => (RI.lt hR_ hj).1)) hb_); have C4 := Aside0.mk (Kd.R_reads' M4.out.rs).2.2; clear hR_ hb_)
                    | (go_at_call 9; (with_reducible refine (atq w4 A7' _ sq2.length sq2 (m + 1) rfl C4.out L9.out).mono ?_); rintro e_ w9 ⟨rfl, rfl⟩))
                  go_roundw
                  case rel => exact ⟨pre ++ [x], upd f' m none, k2, m + 1, sq2, vl2, R1.out.1, by first | rfl | trivial, by first | rfl | trivial, R1.out.2.1, ⟨A14', c14', by rw [HN.out]⟩, HE2, HLS, M4, T4⟩
                  case measure => clear e1 e1' p1 p2; have := R1.out.2.2; rw [← HN.out] at this; simp [lenV]; omega
        case rest =>
          obtain ⟨seq', val', rfl, RP', MW, TW⟩ := hcut
          obtain ⟨A9, c9, rfl, C9, hc9⟩ := MW.out.readSeq
          obtain ⟨A14, c14, rfl⟩ := Kd.R_slice TW.out
          obtain ⟨y0, x1⟩ := HCELL.out wc MW.out.bel
          have HPO := HPF.out.out
          have HPSU := HPF.out.sum
          have HPOS := HPF.out.pos
          have hls' : seq'.length = p.k := RP'.out.len
          have NB : Aside0 (i < 1000000 ∧ 0 ≤ nx ∧ nx < 1000000) := ⟨by omega⟩
          have WFN : Aside0 ((Lit.int .i64 p.nx).wf = true) := ⟨wf_i64 (by omega)⟩
          have HLS' : Aside0 (seq'.length ≤ 1000000) := ⟨by omega⟩
          have HSZ : Aside0 (p.out.length ≤ 10000000000000) := ⟨by omega⟩
          have R2 : Aside0 (i + 1 ≤ l.length ∧ i + 1 ≤ 300 ∧ p.nx + p.k ≤ ((i + 1 : Nat) : Int) ∧ l.length - (i + 1) < l.length - i) := ⟨by omega⟩
          obtain ⟨ki, hki⟩ := ints_refl p.out (by omega)
          have HKI := Aside0.mk hki
          have QK : Aside0 (((p.k : Int) != (seq'.length : Int)) = false) := ⟨by rw [hls']; simp⟩
          have E4 := Aside0.mk (show wrap64 ((i : Int) + 1) = (i : Int) + 1 ∧ IntKind.i64.wrap ((i : Int) + 1) = (i : Int) + 1 from ⟨w_id rfl (by omega), w_id2 rfl (by omega)⟩)
          have q1 : (i : Int) < (l.length : Int) := by omega
          have q3 : (0 : Int) ≤ (i : Int) := by omega
          have p1 := eq_true q1
          have p2 := trivial
          have p3 := eq_true q3
          clear HPO HPSU HPOS hls' hki C9 hc9 y0 q1 q3
          go_upto_region 28 with (first
            | (go_at_call 11; go_must ((refine (put_calls wc g bm i win nx f k MW.out.bs NB.out.1 NB.out.2 s v WFS.out WFV.out).mono ?_); rw [← HPP.out]; rintro e_ w5 ⟨⟨v5, rfl, hR_⟩, hS_, hC_⟩; obtain ⟨A5, c5, rfl⟩ := Kd.R_slice hR_; have M5 := Aside0.mk (MW.out.put hS_ hC_); have G5 := Aside0.mk (TL.fresh MW.out hR_); have T5 := Aside0.mk (R_chg TW.out hC_ (fun j hj => by have := MW.out.lo; omega)); clear hR_ hS_ hC_)))
          have R5 := Aside0.mk (Kd.R_reads' G5.out)
          have RT := Aside0.mk (Kd.R_reads' T5.out)
          clear x1 MW TW MR
          have qk := QK.out
          obtain ⟨e4, e4'⟩ := E4.out
          rcases atI_cases seq' s with ⟨ha, hn⟩ | ⟨j, ha, hj, hjs⟩
          · have HB : Aside0 ((p.f s).isSome = false) := ⟨by
              cases hq : (p.f s).isSome with
              | false => rfl
              | true => exact absurd ((RP'.out.mem s).1 hq) hn⟩
            have HA := Aside0.mk ha
            have PX := trivial
            clear ha hn
            go_wp2_with (first
              | (go_at_call 15; (with_reducible refine (hasq w6 g bm (i + 1) win p.nx p.f p.k M6.out.bs p.nx WFN.out).mono ?_); rintro e_ w9 ⟨rfl, rfl⟩; rw [HPF.out.gone, Option.isSome_none])
              | (go_at_call 15; (with_reducible refine (hasq w6 g bm (i + 1) win p.nx p.f p.k M6.out.bs s WFS.out).mono ?_); rintro e_ w9 ⟨rfl, rfl⟩; rw [HB.out])
              | (go_at_call 9; (with_reducible refine (atq w6 A9 c9 seq'.length seq' s rfl C6.out HLS'.out).mono ?_); rintro e_ w9 ⟨rfl, rfl⟩; rw [HA.out])
              | (go_at_call 14; (with_reducible refine (heldq w6 g bm (i + 1) win p.nx p.f p.k M6.out.bs).mono ?_); rintro e_ w9 ⟨rfl, rfl⟩)
              | (go_at_call 13; (with_reducible refine (nextq w6 g bm (i + 1) win p.nx p.f p.k M6.out.bs).mono ?_); rintro e_ w9 ⟨rfl, rfl⟩)
              | (go_at_call 12; go_must ((refine (mintagekeep_Ints.calls ki A5 c5 p.out A14 c14 p.out true w5 R5.out.2.2 R5.out.2.1 RT.out.2.2 RT.out.2.1 HKI.out).mono ?_); rintro e_ w6 ⟨rfl, hd_⟩; have M6 := Aside0.mk (M5.out.below hd_.below); have G6 := Aside0.mk (show TL w6 base ok _ _ _ _ from Kd.R_below G5.out hd_.below); have C6 := Aside0.mk ((Kd.R_reads' (M5.out.below hd_.below).rs).2.2); clear hd_))
              | (go_at_call 7; (with_reducible refine (numq p.er w5).mono ?_); rintro e_ w9 ⟨rfl, rfl⟩)
              | (go_at_call 16; go_must ((refine (Keep.ints_calls M6.out.bk A5 c5 p.out (Kd.own_of_R G6.out) (fun j hj => (G6.out.1 j hj).1) HSZ.out M6.out.lo.2.2.2.2).mono ?_); rintro e_ w7 ⟨rfl, hc_, hb_⟩; have M7 := Aside0.mk (M6.out.ints G6.out hc_ (fun j h => h.1) hb_); clear hc_ hb_)))
            go_roundw
            case rel => exact ⟨i + 1, p.nx, p.f, p.k, _, seq', val', R2.out.1, R2.out.2.1, by go_num, by first | rfl | trivial, HPF.out.pos, R2.out.2.2.1, M7, RP', ⟨HPF.out.gone⟩⟩
            case measure => clear e4 e4' p1 p2 p3 qk PX; have := R2.out.2.2.2; simp [intOf]; omega
          · have HB : Aside0 ((p.f s).isSome = true) := ⟨(RP'.out.mem s).2 (by
              rw [List.getD_eq_getElem?_getD, List.getElem?_eq_getElem hj] at hjs
              exact hjs ▸ List.getElem_mem hj)⟩
            have HA := Aside0.mk ha
            have PX := eq_true (show (0 : Int) ≤ (j : Int) by omega)
            clear ha hj hjs
            go_wp2_with (first
              | (go_at_call 15; (with_reducible refine (hasq w6 g bm (i + 1) win p.nx p.f p.k M6.out.bs p.nx WFN.out).mono ?_); rintro e_ w9 ⟨rfl, rfl⟩; rw [HPF.out.gone, Option.isSome_none])
              | (go_at_call 15; (with_reducible refine (hasq w6 g bm (i + 1) win p.nx p.f p.k M6.out.bs s WFS.out).mono ?_); rintro e_ w9 ⟨rfl, rfl⟩; rw [HB.out])
              | (go_at_call 9; (with_reducible refine (atq w6 A9 c9 seq'.length seq' s rfl C6.out HLS'.out).mono ?_); rintro e_ w9 ⟨rfl, rfl⟩; rw [HA.out])
              | (go_at_call 14; (with_reducible refine (heldq w6 g bm (i + 1) win p.nx p.f p.k M6.out.bs).mono ?_); rintro e_ w9 ⟨rfl, rfl⟩)
              | (go_at_call 13; (with_reducible refine (nextq w6 g bm (i + 1) win p.nx p.f p.k M6.out.bs).mono ?_); rintro e_ w9 ⟨rfl, rfl⟩)
              | (go_at_call 12; go_must ((refine (mintagekeep_Ints.calls ki A5 c5 p.out A14 c14 p.out true w5 R5.out.2.2 R5.out.2.1 RT.out.2.2 RT.out.2.1 HKI.out).mono ?_); rintro e_ w6 ⟨rfl, hd_⟩; have M6 := Aside0.mk (M5.out.below hd_.below); have G6 := Aside0.mk (show TL w6 base ok _ _ _ _ from Kd.R_below G5.out hd_.below); have C6 := Aside0.mk ((Kd.R_reads' (M5.out.below hd_.below).rs).2.2); clear hd_))
              | (go_at_call 7; (with_reducible refine (numq p.er w5).mono ?_); rintro e_ w9 ⟨rfl, rfl⟩)
              | (go_at_call 16; go_must ((refine (Keep.ints_calls M6.out.bk A5 c5 p.out (Kd.own_of_R G6.out) (fun j hj => (G6.out.1 j hj).1) HSZ.out M6.out.lo.2.2.2.2).mono ?_); rintro e_ w7 ⟨rfl, hc_, hb_⟩; have M7 := Aside0.mk (M6.out.ints G6.out hc_ (fun j h => h.1) hb_); clear hc_ hb_)))
            go_roundw
            case rel => exact ⟨i + 1, p.nx, p.f, p.k, _, seq', val', R2.out.1, R2.out.2.1, by go_num, by first | rfl | trivial, HPF.out.pos, R2.out.2.2.1, M7, RP', ⟨HPF.out.gone⟩⟩
            case measure => clear e4 e4' p1 p2 p3 qk PX; have := R2.out.2.2.2; simp [intOf]; omega
    · have q0 : i < l.length → ¬ (i : Int) < 300 := by omega
      have hcl := close_calls MR.out.bk MR.out.lo.2.2.2.2
      have HCL := Aside0.mk hcl
      have HOK : Aside0 (∀ j, ok j → w.heap.size ≤ j) := ⟨fun j hj => by have := (MR.out.bk.rng j hj).1; have := MR.out.lo; omega⟩
      have BEL := Aside0.mk MR.out.bel
      clear hcl
      by_cases hil : i < l.length
      · have q1 := q0 hil
        have q2 : (i : Int) < (l.length : Int) := by omega
        have p1 := eq_true q2
        have p2 := eq_false q1
        clear q0 q1 q2
        go_wp2_with (first
          | (go_at_call 8; (with_reducible refine (Ms.wakes_calls w3).mono ?_); rintro e_ w4 ⟨rfl, hb_⟩; have B4 := Aside0.mk (below_step B3.out hb_); clear hb_)
          | (go_at_call 17; (with_reducible refine HCL.out.mono ?_); rintro e_ w3 ⟨rfl, hc_⟩; have B3 : Aside0 (Below w.heap.size w w3) := ⟨BEL.out.trans (hc_.below BEL.out.size HOK.out)⟩; clear hc_))
        go_ret
        exact ⟨rfl, B4.out⟩
      · have q2 : ¬ (i : Int) < (l.length : Int) := by omega
        have p1 := eq_false q2
        clear q0 q2
        go_wp2_with (first
          | (go_at_call 8; (with_reducible refine (Ms.wakes_calls w3).mono ?_); rintro e_ w4 ⟨rfl, hb_⟩; have B4 := Aside0.mk (below_step B3.out hb_); clear hb_)
          | (go_at_call 17; (with_reducible refine HCL.out.mono ?_); rintro e_ w3 ⟨rfl, hc_⟩; have B3 : Aside0 (Below w.heap.size w w3) := ⟨BEL.out.trans (hc_.below BEL.out.size HOK.out)⟩; clear hc_))
        go_ret
        exact ⟨rfl, B4.out⟩
end Go.Proofs.Ytmbljhkblmdkoaa.Mg
