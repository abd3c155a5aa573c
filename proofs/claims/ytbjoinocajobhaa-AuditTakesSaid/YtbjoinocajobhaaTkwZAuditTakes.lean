/- AuditTakes: done, walked. -/
import Derived.Test.YtbjoinocajobhaaTkZAuditTakes
import Derived.Test.YtbjoinocajobhaaTktZAuditTakes
import Derived.Test.YtbjoinocajobhaaLowZAuditTakes
import Derived.Test.YtbjoinocajobhaaQ0ZAuditTakes
namespace Go.Proofs.Ytbjoinocajobhaa.Ju
set_option linter.unusedVariables false
set_option linter.unusedSimpArgs false
open Go.RowKit Go.Proofs.Ytbjoinocajobhaa.Q Go.Proofs.YtbjoinocajobhaaW.PrintWords Go.Proofs.YtbjoinocajobhaaW.PrintLast Go.Proofs.YtbjoinocajobhaaW.PrintMore
theorem w_id {x y : Int} (h : x = y) (h2 : -1000000 ≤ y ∧ y ≤ 1000000) : wrap64 x = y := by subst h; unfold wrap64; omega
theorem w_id2 {x y : Int} (h : x = y) (h2 : -1000000 ≤ y ∧ y ≤ 1000000) : IntKind.i64.wrap x = y := by subst h; rw [IntKind.wrap_i64]; omega
theorem w_both {x y : Int} (h : x = y) (h2 : -1000000 ≤ y ∧ y ≤ 1000000) : wrap64 x = y ∧ IntKind.i64.wrap x = y := ⟨w_id h h2, w_id2 h h2⟩
theorem withinq (a : Int) : ∃ m : Nat, m ≤ 5000 ∧ ∀ w : World, Calls Try.prog 20 #[.int .i64 a, .int .i64 0, .int .i64 5000] w fun e w' => e = .returned (.int .i64 (m : Int)) ∧ w = w' := by
  have b1 := Int.tmod_lt_of_pos a (show (0 : Int) < 5001 by omega)
  have b2 := Int.lt_tmod_of_pos a (show (0 : Int) < 5001 by omega)
  obtain ⟨r, hr⟩ : ∃ r, r = Int.tmod a 5001 := ⟨_, rfl⟩
  rw [← hr] at b1 b2
  by_cases h : r < 0
  · refine ⟨(r + 5001).toNat, by omega, fun w => ?_⟩
    have e1 : wrap64 (r + 5001) = ((r + 5001).toNat : Int) := by unfold wrap64; omega
    have e2 : wrap64 ((r + 5001).toNat : Int) = ((r + 5001).toNat : Int) := by unfold wrap64; omega
    generalize ((r + 5001).toNat : Int) = m at e1 e2 ⊢
    have p1 := eq_true h
    have hr2 := hr.symm
    clear hr b1 b2 h
    go_enter Try.func20, Try.ntmps20
    go_wp2_with fail
    go_ret
    exact ⟨congrArg (fun z => Ending.returned (.int .i64 z)) e2, rfl⟩
  · refine ⟨r.toNat, by omega, fun w => ?_⟩
    have e1 : r = (r.toNat : Int) := by omega
    have e2 : wrap64 (r.toNat : Int) = (r.toNat : Int) := by unfold wrap64; omega
    generalize (r.toNat : Int) = m at e1 e2 ⊢
    subst e1
    have p1 := eq_false h
    have hr2 := hr.symm
    clear hr b1 b2 h
    go_enter Try.func20, Try.ntmps20
    go_wp2_with fail
    go_ret
    exact ⟨congrArg (fun z => Ending.returned (.int .i64 z)) e2, rfl⟩
theorem TR.at_ {W : World} {A : Option Addr} {l : List T4} (h : TR W A l) {j : Nat} (hj : j < l.length) : ∃ (ad : Addr) (x : T4), A = some ad ∧ ∀ W' : World, Below W.heap.size W W' → W'.cell? (ad.add (j * 4)) = some (.int .i64 x.f0) ∧ W'.cell? ⟨(ad.add (j * 4)).block, (ad.add (j * 4)).off + 1, none⟩ = some (.int .i64 x.f1) ∧
    W'.cell? ⟨(ad.add (j * 4)).block, (ad.add (j * 4)).off + 2, none⟩ = some (.int .i64 x.f2) ∧ W'.cell? ⟨(ad.add (j * 4)).block, (ad.add (j * 4)).off + 3, none⟩ = some (.bool x.f3) := by
  obtain ⟨ad, e, hc⟩ := h.2 (by omega)
  refine ⟨ad, l.getD j default, e, fun W' hb => ?_⟩
  obtain ⟨c0, c1, c2, c3⟩ := hc j hj
  exact ⟨(hb.cell (World.block_lt_of_cell? W _ c0)).trans c0, (hb.cell (World.block_lt_of_cell? W _ c1)).trans c1, (hb.cell (World.block_lt_of_cell? W _ c2)).trans c2, (hb.cell (World.block_lt_of_cell? W _ c3)).trans c3⟩
theorem callQ_cant {q q' : Qs} {k code num : Int} (hk : 1 ≤ k ∧ k ≤ 4) (h : callQ q k = (code, num, q', false)) : q' = q := by
  unfold callQ at h
  split at h
  · split at h
    · simp at h
    · split at h
      · simp at h
      · split at h <;> simp at h
  · split at h
    · split at h
      · simp at h
      · split at h
        · simp at h
        · simp at h; exact h.2.2.1.symm
    · split at h
      · simp at h
      · split at h
        · simp at h
        · omega
set_option maxHeartbeats 8000000 in
set_option maxRecDepth 100000 in
theorem done_calls (A : Option Addr) (l : List T4) (c : Nat) (w : World) (ht : TR w A l) (hc : l.length ≤ c) :
    Calls Try.prog 19 #[.slice A l.length c] w fun e w' => ∃ (ss : List S32) (q : Qs) (v : Value), e = .returned v ∧ Kd.R k32 32 w' w.heap.size (fun _ => True) v ss ∧ Dn ss q ∧ ss.length ≤ 14 ∧ Below w.heap.size w w' := by
  have HT := Aside0.mk ht
  have hlb := ht.1
  have hu32 := Try.underlying32
  clear ht
  go_enter Try.func19, Try.ntmps19
  go_upto_region 4 with fail
  have HQ0 : Aside0 (IsS44 w (w.alloc (.cells #[.int .i64 0, .int .i64 0, .bool false, .bool false] 44)) w.heap.size q0.i q0.o q0.cl q0.ca) := ⟨⟨blk_new w _, Nat.le_refl _⟩⟩
  have HB0 : Aside0 (Below w.heap.size w (w.alloc (.cells #[.int .i64 0, .int .i64 0, .bool false, .bool false] 44))) := ⟨below_alloc (Below.refl _ _) _⟩
  generalize w.alloc (.cells #[.int .i64 0, .int .i64 0, .bool false, .bool false] 44) = W0 at HQ0 HB0 ⊢
  generalize hg : w.heap.size = g at HQ0
  go_loopw [3, 5] (fun s3 s5 wr => ∃ (i : Nat) (ss : List S32) (q : Qs), i ≤ l.length ∧ s5 = .int .i64 i ∧ (∃ A c, s3 = .slice A ss.length c) ∧ ss.length ≤ 14 ∧ Aside0 (Dn ss q) ∧ Aside0 (Wq q) ∧ Aside0 (IsS44 w wr g q.i q.o q.cl q.ca) ∧ Aside0 (Below w.heap.size w wr) ∧ Aside0 (Kd.R k32 32 wr w.heap.size (fun k => k ≠ g) s3 ss)) (fun _ s5 _ => l.length - (intOf s5).toNat)
  case atStart => exact ⟨0, [], q0, Nat.zero_le _, rfl, ⟨none, 0, rfl⟩, by simp, ⟨Dn.nil⟩, ⟨wq0⟩, HQ0, HB0, ⟨Kd.R_nil _ _ _ _ _⟩⟩
  case round =>
    clear HQ0 HB0
    obtain ⟨i, ss, q, hi, rfl, ⟨A3, c3, rfl⟩, h14, DN, WQ, QR, BR, RR⟩ := hrel
    by_cases hlt : i < l.length ∧ ss.length < 14
    · obtain ⟨ad, x, e, hcell⟩ := HT.out.at_ hlt.1
      subst e
      have HCELL := Aside0.mk hcell
      obtain ⟨x0, -, -, -⟩ := hcell wr BR.out
      obtain ⟨kd, hkd, hk1, hk4⟩ := within14 x.f0
      have HKD := Aside0.mk hkd
      obtain ⟨⟨code, num, q', can⟩, hcq⟩ : ∃ r, callQ q kd = r := ⟨_, rfl⟩
      obtain ⟨kk, hkk⟩ := (take_ev WQ.out kd ⟨hk1, hk4⟩).rounds
      have hwq := wq_call WQ.out kd
      rw [hcq] at hkk hwq
      dsimp only at hkk hwq
      have HCQ := Aside0.mk hcq
      have HKK := Aside0.mk hkk
      have HWQ := Aside0.mk hwq
      have R1 : Aside0 (i + 1 ≤ l.length ∧ l.length - (i + 1) < l.length - i) := ⟨by omega⟩
      have HK14 := Aside0.mk (show 1 ≤ kd ∧ kd ≤ 4 from ⟨hk1, hk4⟩)
      have q1 : (i : Int) < (l.length : Int) := by omega
      have q2 : (ss.length : Int) < 14 := by omega
      have q3 : (0 : Int) ≤ (i : Int) := by omega
      have E5 : Aside0 (wrap64 ((i : Int) + 1) = (i : Int) + 1 ∧ IntKind.i64.wrap ((i : Int) + 1) = (i : Int) + 1) := ⟨by constructor <;> first | (unfold wrap64; omega) | (rw [IntKind.wrap_i64]; omega)⟩
      clear hcell hkd hcq hkk hwq hk1 hk4
      have p1 := eq_true q1
      have p2 := eq_true q2
      have p3 := eq_true q3
      go_upto_region 8 with (first
        | (go_at_call 18; go_must (refine (mintageref31_Queue_Take.calls kk g q.i q.o q.cl q.ca kd code num can q'.i q'.o q'.cl q'.ca w w5 Q5.out B5.out HKK.out).mono ?_; rintro e_ w6 ⟨rfl, hi_, hb_, hk_⟩; have Q6 := Aside0.mk hi_; have B6 := Aside0.mk hb_; have R6 := Aside0.mk (Kd.R_keep R5.out hk_ (fun _ h => h)); clear hi_ hb_ hk_))
        | (go_at_call 20; go_must (refine (mintagekeep_Within.calls x.f0 1 4 kd wr HKD.out).mono ?_; rintro e_ w5 ⟨rfl, hd_⟩; have Q5 : Aside0 (IsS44 w w5 g q.i q.o q.cl q.ca) := ⟨⟨(hd_.below.block g (blk_lt QR.out.1)).trans QR.out.1, QR.out.2⟩⟩; have B5 := Aside0.mk (below_step BR.out hd_.below); have R5 := Aside0.mk (Kd.R_below RR.out hd_.below); clear hd_)))
      clear p1 p2 p3 q1 q2 q3 x0 QR BR RR WQ HKK HKD
      cases can
      case false =>
        have hqq := callQ_cant HK14.out HCQ.out
        subst hqq
        obtain ⟨e5, e5'⟩ := E5.out
        go_wp2_with fail
        go_roundw
        case rel => exact ⟨i + 1, ss, q', R1.out.1, by go_num, ⟨A3, c3, rfl⟩, h14, DN, HWQ, Q6, B6, R6⟩
        case measure => clear e5 e5'; have := R1.out.2; simp [intOf]; omega
      case true =>
        obtain ⟨a, ha, hwa⟩ := withinq x.f1
        obtain ⟨b, hb, hwb⟩ := withinq x.f2
        have HWA := Aside0.mk hwa
        have HWB := Aside0.mk hwb
        obtain ⟨y, hy⟩ : ∃ y : S32, y = ⟨kd, 100000 + 1000 * (ss.length : Int) - a, 100000 + 1000 * (ss.length : Int) + b, code, num⟩ := ⟨_, rfl⟩
        obtain ⟨at_, hat⟩ : ∃ at_ : Int, at_ = 100000 + 1000 * (ss.length : Int) := ⟨_, rfl⟩
        have E6 := Aside0.mk (w_both (x := 1000 * (ss.length : Int)) rfl (by omega))
        have E7 := Aside0.mk (w_both (x := 100000 + 1000 * (ss.length : Int)) (y := at_) (by omega) (by omega))
        have E8 := Aside0.mk (w_both (x := at_ - (a : Int)) rfl (by omega))
        have E9 := Aside0.mk (w_both (x := at_ + (b : Int)) rfl (by omega))
        rw [← hat] at hy
        have HY := Aside0.mk hy
        have SOK : Aside0 (SpOk y ss.length q q') := ⟨by rw [hy]; exact ⟨HK14.out, HCQ.out, ⟨by dsimp only; omega, by dsimp only; omega⟩, .inr (by dsimp only; omega)⟩⟩
        have SOK2 : Aside0 (SpOk { y with f2 := -1 } ss.length q q') := ⟨⟨SOK.out.kind, SOK.out.call, SOK.out.lo, .inl rfl⟩⟩
        have L14 : Aside0 (ss.length + 1 ≤ 14 ∧ (ss.length + 1) * 40 ≤ 140737488355328) := ⟨by omega⟩
        have q1 : (i : Int) < (l.length : Int) := by omega
        have q3 : (0 : Int) ≤ (i : Int) := by omega
        have p1 := eq_true q1
        have p3 := eq_true q3
        obtain ⟨e6, e6'⟩ := E6.out
        obtain ⟨e7, e7'⟩ := E7.out
        obtain ⟨e8, e8'⟩ := E8.out
        obtain ⟨e9, e9'⟩ := E9.out
        clear ha hb hwa hwb hat hy q1 q3
        go_upto_region 10 with fail
        clear e6 e6' e7 e7'
        go_cut [11] (fun v wx => ∃ gb : Nat, v = .pointer (some ⟨gb, 0, none⟩) ∧ w6.heap.size ≤ gb ∧ Aside0 (Bx wx gb y) ∧ Aside0 (Below w6.heap.size w6 wx))
        case first =>
          obtain ⟨O, hO⟩ : ∃ O : Obj, O = .cells #[.int .i64 0, .int .i64 0, .int .i64 0, .int .i64 0, .int .i64 0] 32 (0, 0) := ⟨_, rfl⟩
          have hBO : Below w6.heap.size w6 (w6.alloc O) := below_alloc (Below.refl _ _) O
          obtain ⟨-, m1, m2, m3⟩ := HCELL.out w6 B6.out
          obtain ⟨-, n1, n2, n3⟩ := HCELL.out (w6.alloc O) (below_step B6.out hBO)
          have hbx : (w6.alloc O).heap[w6.heap.size]? = some (.cells #[.int .i64 0, .int .i64 0, .int .i64 0, .int .i64 0, .int .i64 0] 32 (0, 0)) := by rw [hO]; exact blk_new w6 _
          have z0 := blk_cell hbx 0
          have z1 := blk_cell hbx 1
          have z2 := blk_cell hbx 2
          have z3 := blk_cell hbx 3
          have z4 := blk_cell hbx 4
          have f0 := blk_frozen hbx 0
          have f1 := blk_frozen hbx 1
          have f2 := blk_frozen hbx 2
          have f3 := blk_frozen hbx 3
          have f4 := blk_frozen hbx 4
          have HBX := Aside0.mk hbx
          have HBO := Aside0.mk hBO
          subst hO
          clear hbx hBO
          go_region_with (go_at_call 20; (first | ((with_reducible refine (HWA.out _).mono ?_); rintro e_ w_ ⟨rfl, rfl⟩) | ((with_reducible refine (HWB.out _).mono ?_); rintro e_ w_ ⟨rfl, rfl⟩)))
          all_goals
            go_wp2_with fail
            go_meet
            case rel => exact ⟨w6.heap.size, rfl, Nat.le_refl _, ⟨by rw [HY.out]; exact blk_new w6 _⟩, ⟨below_drew (below_alloc (Below.refl _ _) _)⟩⟩
        case rest =>
          obtain ⟨gb, rfl, hgb, XB, BB⟩ := hcut
          clear HWA HWB e8 e8' e9 e9'
          obtain ⟨-, -, -, m3⟩ := HCELL.out wc (below_step B6.out BB.out)
          cases hf3 : x.f3
          case false =>
            rw [hf3] at m3
            clear hf3
            obtain ⟨e5, e5'⟩ := E5.out
            have z0 := XB.out.c0
            have z1 := XB.out.c1
            have z2 := XB.out.c2
            have z3 := XB.out.c3
            have z4 := XB.out.c4
            have LGB : Aside0 (g < wc.heap.size ∧ w.heap.size ≤ wc.heap.size) := ⟨by have := blk_lt Q6.out.1; have := BB.out.size; have := B6.out.size; omega⟩
            have RR := Aside0.mk (Kd.R_below R6.out BB.out)
            have QQ : Aside0 (IsS44 w wc g q'.i q'.o q'.cl q'.ca) := ⟨⟨(BB.out.block g (blk_lt Q6.out.1)).trans Q6.out.1, Q6.out.2⟩⟩
            have BW := Aside0.mk (below_step B6.out BB.out)
            go_wp2_with (first
              | (at_builtin; go_must (refine Kd.R_append k32 (w0 := w) w.heap.size rfl (.tmp 67) (.tmp 69) 22 32 _ 40 rfl Try.underlying22 info32 rfl (by decide) (by omega) (.slice A3 ss.length c3) ss y [.int .i64 (y).f0, .int .i64 (y).f1, .int .i64 (y).f2, .int .i64 (y).f3, .int .i64 (y).f4] (fun k => k ≠ g) (fun _ => False) rfl rfl (k32_mkM _ _ _ _) (fun _ hk => hk.elim) (fun k hk => by have := LGB.out.1; omega) RR.out BW.out LGB.out.2 L14.out.2 ?_; intro v7 w9 ho_ hb_ hg_ hat; obtain ⟨A7, c7, rfl⟩ := Kd.R_slice ho_; have K7 := Aside0.mk ho_; have HB9 := Aside0.mk hb_; have Q9 := Aside0.mk (QQ.out.grown hg_ (fun e => RR.out.1 g e.symm rfl)); clear ho_ hb_ hg_ hat)))
            go_roundw
            case rel =>
              have hl : (ss ++ [(y : S32)]).length = ss.length + 1 := by simp
              rw [hl] at K7
              exact ⟨i + 1, ss ++ [y], q', R1.out.1, by go_num, ⟨A7, c7, by rw [hl]⟩, by rw [List.length_append, List.length_singleton]; exact L14.out.1, ⟨DN.out.more SOK.out⟩, HWQ, Q9, HB9, K7⟩
            case measure => clear e5 e5' p1 p3; have := R1.out.2; simp [intOf]; omega
          case true =>
            rw [hf3] at m3
            clear hf3
            have z2 := XB.out.c2
            have zf := XB.out.fr 2
            go_upto_region 13 with fail
            have XB2 : Aside0 (Bx (wc.setCell ⟨gb, 2, none⟩ (.int .i64 (-1))) gb { y with f2 := -1 }) := ⟨XB.out.put2 (-1)⟩
            have BB2 : Aside0 (Below w6.heap.size w6 (wc.setCell ⟨gb, 2, none⟩ (.int .i64 (-1)))) := ⟨BB.out.setCell hgb _⟩
            clear z2 zf XB BB
            generalize wc.setCell ⟨gb, 2, none⟩ (.int .i64 (-1)) = w8 at XB2 BB2 ⊢
            have XB := XB2
            have BB := BB2
            clear XB2 BB2
            clear p1 p3 m3
            obtain ⟨e5, e5'⟩ := E5.out
            have z0 := XB.out.c0
            have z1 := XB.out.c1
            have z2 := XB.out.c2
            have z3 := XB.out.c3
            have z4 := XB.out.c4
            have LGB : Aside0 (g < w8.heap.size ∧ w.heap.size ≤ w8.heap.size) := ⟨by have := blk_lt Q6.out.1; have := BB.out.size; have := B6.out.size; omega⟩
            have RR := Aside0.mk (Kd.R_below R6.out BB.out)
            have QQ : Aside0 (IsS44 w w8 g q'.i q'.o q'.cl q'.ca) := ⟨⟨(BB.out.block g (blk_lt Q6.out.1)).trans Q6.out.1, Q6.out.2⟩⟩
            have BW := Aside0.mk (below_step B6.out BB.out)
            go_wp2_with (first
              | (at_builtin; go_must (refine Kd.R_append k32 (w0 := w) w.heap.size rfl (.tmp 67) (.tmp 69) 22 32 _ 40 rfl Try.underlying22 info32 rfl (by decide) (by omega) (.slice A3 ss.length c3) ss { y with f2 := -1 } [.int .i64 y.f0, .int .i64 y.f1, .int .i64 (-1), .int .i64 y.f3, .int .i64 y.f4] (fun k => k ≠ g) (fun _ => False) rfl rfl (k32_mkM _ _ _ _) (fun _ hk => hk.elim) (fun k hk => by have := LGB.out.1; omega) RR.out BW.out LGB.out.2 L14.out.2 ?_; intro v7 w9 ho_ hb_ hg_ hat; obtain ⟨A7, c7, rfl⟩ := Kd.R_slice ho_; have K7 := Aside0.mk ho_; have HB9 := Aside0.mk hb_; have Q9 := Aside0.mk (QQ.out.grown hg_ (fun e => RR.out.1 g e.symm rfl)); clear ho_ hb_ hg_ hat)))
            go_roundw
            case rel =>
              have hl : (ss ++ [({ y with f2 := -1 } : S32)]).length = ss.length + 1 := by simp
              rw [hl] at K7
              exact ⟨i + 1, ss ++ [{ y with f2 := -1 }], q', R1.out.1, by go_num, ⟨A7, c7, by rw [hl]⟩, by rw [List.length_append, List.length_singleton]; exact L14.out.1, ⟨DN.out.more SOK2.out⟩, HWQ, Q9, HB9, K7⟩
            case measure => clear e5 e5'; have := R1.out.2; simp [intOf]; omega
    · have q0 : i < l.length → ¬ (ss.length : Int) < 14 := by omega
      by_cases hil : i < l.length
      · have q1 := q0 hil
        have q2 : (i : Int) < (l.length : Int) := by omega
        have p1 := eq_true q2
        have p2 := eq_false q1
        clear q0 q1 q2
        go_wp2_with fail
        go_ret
        exact ⟨ss, q, _, rfl, Kd.R_mono RR.out (fun _ _ => trivial), DN.out, h14, BR.out⟩
      · have q2 : ¬ (i : Int) < (l.length : Int) := by omega
        have p1 := eq_false q2
        clear q0 q2
        go_wp2_with fail
        go_ret
        exact ⟨ss, q, _, rfl, Kd.R_mono RR.out (fun _ _ => trivial), DN.out, h14, BR.out⟩
end Go.Proofs.Ytbjoinocajobhaa.Ju
