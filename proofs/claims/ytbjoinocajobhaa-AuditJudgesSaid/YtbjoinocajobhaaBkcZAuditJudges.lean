/- The book's Close. -/
import Derived.Test.YtbjoinocajobhaaBkZAuditJudges
namespace Go.Proofs.Ytbjoinocajobhaa.Keep
set_option linter.unusedVariables false
set_option linter.unusedSimpArgs false
open Go.RowKit Go.Proofs.Ytbjoinocajobhaa.Q Go.Proofs.YtbjoinocajobhaaW.PrintWords Go.Proofs.YtbjoinocajobhaaW.PrintLast

def Ty (w : World) (e : TypeId) (k : Nat) : Prop := ∃ cells, w.heap[k]? = some (.cells cells e (0, 0))
theorem Ty.ne {w : World} {e f : TypeId} {k : Nat} (h : Ty w e k) (h' : Ty w f k) (hn : e ≠ f) : False := by
  obtain ⟨c, h⟩ := h
  obtain ⟨d, h'⟩ := h'
  rw [h] at h'
  injection h' with h'
  injection h' with _ h' _
  exact hn h'
theorem Fam.ty {w : World} {base : Nat} {e : TypeId} {k : IntKind} {l : List (Value × List Int)} (h : Fam w base e k l) {p : Value × List Int} (hp : p ∈ l) {j : Nat} (hj : p.1.ownBlock = some j) : Ty w e j := by
  obtain ⟨r, hr⟩ := List.getElem?_of_mem hp
  exact own_typed (h.1 r p hr) j hj
theorem Fam.lt {w : World} {base : Nat} {e : TypeId} {k : IntKind} {l : List (Value × List Int)} (h : Fam w base e k l) {p : Value × List Int} (hp : p ∈ l) {j : Nat} (hj : p.1.ownBlock = some j) : j < w.heap.size := by
  obtain ⟨r, hr⟩ := List.getElem?_of_mem hp
  exact own_lt (h.1 r p hr) j hj
theorem closeBytes_bk {w : World} {base : Nat} {ok : Nat → Prop} {b : Nat} (h : Bk w base ok b) (hbase : base ≤ w.heap.size) :
    Calls Try.prog 30 #[.pointer (some ⟨b, 0, none⟩)] w fun e w' => e = .returned (.bool true) ∧ Chg (fun k => ok k ∧ Ty w 5 k) w w' := by
  obtain ⟨v0, v1, v4, v5, LB, SB, LI, SI, hb, t1, t2⟩ := h.ex
  obtain ⟨A0, c0, e0⟩ := own_slice t1.r0
  subst e0
  have tb : Ty w 38 b := ⟨_, hb⟩
  refine (closeBytes_calls w base b A0 c0 v1 _ _ v4 v5 LB hb t1.r0 t1.f0 ?_ ?_ hbase t1.len (fun p hp => Nat.le_trans (t1.sz p hp) (by decide)) ?_ (h.rng b h.okb).2 (own_lt t1.r0)).mono ?_
  · rintro ⟨p, hp, e⟩
    exact (t1.f0.ty hp e).ne tb (by decide)
  · rintro k hk ⟨p, hp, e⟩
    exact (t1.f0.ty hp e).ne (own_typed t1.r0 k hk) (by decide)
  · rintro k ⟨p, hp, e⟩
    exact t1.f0.lt hp e
  · rintro e w' ⟨rfl, hc⟩
    exact ⟨rfl, hc.mono fun k _ ⟨p, hp, e⟩ => ⟨t1.oL p hp k e, t1.f0.ty hp e⟩⟩
theorem closeInts_bk {w : World} {base : Nat} {ok : Nat → Prop} {b : Nat} (h : Bk w base ok b) (hbase : base ≤ w.heap.size) {w1 : World} (hc : Chg (fun k => ok k ∧ Ty w 5 k) w w1) :
    w1.cell? ⟨b, 2, none⟩ = some (.slice none 0 0) ∧
    Calls Try.prog 32 #[.pointer (some ⟨b, 0, none⟩)] w1 fun e w' => e = .returned (.bool true) ∧ Chg ok w w' := by
  obtain ⟨v0, v1, v4, v5, LB, SB, LI, SI, hb, t1, t2⟩ := h.ex
  obtain ⟨A4, c4, e4⟩ := own_slice t2.r0
  subst e4
  have tb : Ty w 38 b := ⟨_, hb⟩
  have hb1 := hc.blk hb (fun q => q.2.ne tb (by decide))
  have r1 := hc.own t2.r0 (fun k hk q => q.2.ne (own_typed t2.r0 k hk) (by decide))
  have f1 := t2.f0.chg hc (fun p hp k hk q => q.2.ne (t2.f0.ty hp hk) (by decide))
  have tb1 : Ty w1 38 b := ⟨_, hb1⟩
  refine ⟨(blk_cell hb1 2).trans rfl, (Keepi.closeInts_calls w1 base b A4 c4 v0 v1 _ _ v5 LI hb1 r1 f1 ?_ ?_ (Nat.le_trans hbase hc.size) t2.len (fun p hp => t2.sz p hp) ?_ (blk_lt hb1) (own_lt r1)).mono ?_⟩
  · rintro ⟨p, hp, e⟩
    exact (f1.ty hp e).ne tb1 (by decide)
  · rintro k hk ⟨p, hp, e⟩
    exact (f1.ty hp e).ne (own_typed r1 k hk) (by decide)
  · rintro k ⟨p, hp, e⟩
    exact f1.lt hp e
  · rintro e w' ⟨rfl, hd⟩
    exact ⟨rfl, (hc.mono fun k _ q => q.1).trans (hd.mono fun k _ ⟨p, hp, e⟩ => t2.oL p hp k e)⟩
set_option maxHeartbeats 1000000 in
set_option maxRecDepth 100000 in
theorem close_calls {w : World} {base : Nat} {ok : Nat → Prop} {b : Nat} (h : Bk w base ok b) (hbase : base ≤ w.heap.size) :
    Calls Try.prog 16 #[.pointer (some ⟨b, 0, none⟩)] w fun e w' => e = .returned (.bool true) ∧ Chg ok w w' := by
  have HB := Aside0.mk h
  clear h
  go_enter Try.func16, Try.ntmps16
  go_wp2_with (first
    | (go_at_call 29; refine (look_calls _ _ _ b HB.out).mono ?_; rintro e w' ⟨rfl, ⟨m, rfl⟩⟩)
    | (go_at_call 30; refine (closeBytes_bk (HB.out.drewN m) hbase).mono ?_; rintro e w1 ⟨rfl, hc1⟩; have C1 := Aside0.mk hc1; have C2 := Aside0.mk (closeInts_bk (HB.out.drewN m) hbase hc1); clear hc1)
    | (go_at_call 31; refine (closeWords_calls _ b C2.out.1).mono ?_; rintro e w2 ⟨rfl, rfl⟩)
    | (go_at_call 32; refine C2.out.2.mono ?_; rintro e w3 ⟨rfl, hc3⟩; have C3 := Aside0.mk hc3; clear hc3))
  go_ret
  exact ⟨rfl, ⟨C3.out.os, C3.out.tape, C3.out.output, C3.out.size, C3.out.block⟩⟩
end Go.Proofs.Ytbjoinocajobhaa.Keep
