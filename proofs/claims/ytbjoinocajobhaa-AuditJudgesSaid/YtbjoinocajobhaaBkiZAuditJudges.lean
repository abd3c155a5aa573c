/- Ints: one answer more. -/
import Derived.Test.YtbjoinocajobhaaBkaZAuditJudges
import Derived.Test.YtbjoinocajobhaaLiveZAuditJudges
import Derived.Deep.RegionLaw
import Derived.Deep.AppendLies
namespace Go.Proofs.Ytbjoinocajobhaa.Keep
set_option linter.unusedVariables false
set_option linter.unusedSimpArgs false
open Go.RowKit Go.Proofs.Ytbjoinocajobhaa.Q Go.Proofs.YtbjoinocajobhaaW.PrintWords Go.Proofs.YtbjoinocajobhaaW.PrintLast

theorem info_slI : (Try.prog.info? 23).map (fun i => (i.zero, i.size, i.bytes)) = some (some (.slice none 0 0), 1, 24) := by kernel_rfl
theorem info_i64b : (Try.prog.info? 3).map (fun i => (i.zero, i.size, i.bytes)) = some (some (.int .i64 0), 1, 8) := by kernel_rfl
theorem h8i : 0 < 8 := by decide
theorem L400i {n : Nat} (h : n < 400) : (n + 1) * 24 ≤ 140737488355328 := by omega
theorem one1i : 0 < 1 := by decide
theorem h24i : 0 < 24 := by decide
theorem cell1i (A : Option Addr) (n c : Nat) : ∀ u ∈ [Value.slice A n c], u.oneCell' = true := by
  intro u hu; rw [List.mem_singleton.1 hu]; rfl
set_option maxHeartbeats 1000000 in
set_option maxRecDepth 100000 in
theorem ints_calls {w : World} {base : Nat} {ok : Nat → Prop} {b : Nat} (h : Bk w base ok b) (A : Option Addr) (c : Nat) (xs : List Int) (hv : w.ownsRow base 3 1 (.slice A xs.length c) xs.length (nums .i64 xs))
    (hno : ∀ j, (Value.slice A xs.length c).ownBlock = some j → ¬ ok j) (hsz : xs.length ≤ 10000000000000) (hbase : base ≤ w.heap.size) :
    Calls Try.prog 15 #[.pointer (some ⟨b, 0, none⟩), .slice A xs.length c] w fun e w' => e = .returned (.tuple #[]) ∧ Chg (fun j => ok j ∧ (Ty w 38 j ∨ Ty w 23 j)) w w' ∧
      Bk w' base (fun j => ok j ∨ (Value.slice A xs.length c).ownBlock = some j ∨ (w.heap.size ≤ j ∧ j < w'.heap.size)) b := by
  obtain ⟨v0, v1, v4, v5, LB, SB, LI, SI, hb, t1, t2⟩ := h.ex
  obtain ⟨A0, c0, e0⟩ := own_slice t2.r0
  obtain ⟨A1, c1, e1⟩ := own_slice t2.r1
  have l1 : SI.length = LI.length := by have := congrArg List.length t2.same; simpa using this
  rw [l1] at e1
  subst e0 e1
  have k0 : w.cell? ⟨b, 4, none⟩ = some (.slice A0 LI.length c0) := (blk_cell hb 4).trans rfl
  have hlen := t2.len
  have HB := Aside0.mk h
  have HBB := Aside0.mk hb
  have T1 := Aside0.mk t1
  have T2 := Aside0.mk t2
  have HV := Aside0.mk hv
  have HN := Aside0.mk hno
  have R0 : Aside0 (w.ownsRow base 23 1 (.slice A0 LI.length c0) LI.length (LI.map (·.1))) := ⟨t2.r0⟩
  clear t1 t2 hb h hv hno
  by_cases hlt : LI.length < 400
  · have L1 := Aside0.mk (L400i hlt)
    go_enter Try.func15, Try.ntmps15
    go_wp2_with (first
      | (at_builtin; (refine print_append_cells (w0 := w) (W := w) base rfl _ _ 36 23 (.slice none 0 0) 1 24 rfl Try.underlying36 info_slI rfl one1i h24i (.slice A0 LI.length c0) LI.length (LI.map (·.1)) [.slice A xs.length c] rfl rfl rfl (cell1i _ _ _) R0.out (Below.refl _ _) hbase L1.out ?_; intro z1 w1 o1 _ g1 a1; obtain ⟨AZ, cz, hz⟩ := own_slice o1; subst hz; have O1 := Aside0.mk o1; have G1 := Aside0.mk g1; have A1' := Aside0.mk a1; have kb := blk_grown HBB.out g1 (fun q => Ty.ne (own_typed R0.out b q.symm) ⟨_, HBB.out⟩ (by decide)); have kc : w1.cell? ⟨b, 4, none⟩ = some (.slice A0 LI.length c0) := (blk_cell kb 4).trans rfl; have kf := blk_frozen kb 4; clear o1 g1 a1)))
    have kb2 := blk_set kb 4 (.slice AZ (LI.length + 1) cz)
    have W0 : Aside0 (∃ W, W = w1.setCell ⟨b, 4, none⟩ (.slice AZ (LI.length + 1) cz)) := ⟨⟨_, rfl⟩⟩
    obtain ⟨W, hW⟩ := W0.out
    rw [← hW] at kb2 ⊢
    have R1 : Aside0 (W.ownsRow base 23 1 (.slice A1 LI.length c1) SI.length (SI.map (·.1))) := ⟨by
      have r1 := T2.out.r1
      have nb : ∀ j, (Value.slice A1 LI.length c1).ownBlock = some j → j ≠ b := fun j hj q => Ty.ne (own_typed r1 j hj) ⟨_, q ▸ HBB.out⟩ (by decide)
      refine own_move r1 fun j hj => ?_
      rw [hW]
      exact (Below.heap_setCell w1 ⟨b, 4, none⟩ _ j (nb j hj)).trans (G1.out.block j (own_lt r1 j hj) (fun q => T2.out.ne j q.symm hj))⟩
    have kc2 : W.cell? ⟨b, 5, none⟩ = some (.slice A1 LI.length c1) := (blk_cell kb2 5).trans rfl
    have kf2 := blk_frozen kb2 5
    have KB2 := Aside0.mk kb2
    have HC : Aside0 (ReadsInt W .i64 A xs.length xs) := ⟨by
      obtain ⟨A', d', e', hr⟩ := own_reads (w := W) (own_move HV.out fun j hj => by
        rw [hW]
        refine (Below.heap_setCell w1 ⟨b, 4, none⟩ _ j (fun q => Ty.ne (own_typed HV.out j hj) ⟨_, (show j = b from q) ▸ HBB.out⟩ (by decide))).trans (G1.out.block j (own_lt HV.out j hj) (fun q => Ty.ne (own_typed HV.out j hj) (own_typed R0.out j q.symm) (by decide))))
      injection e' with e1 e2 e3
      rw [e1]; exact hr⟩
    have cle := own_le HV.out
    have HCr : Aside0 (ReadsRow ((Kd.int .i64).K W) (Kd.int .i64).sz W A xs.length xs) := ⟨Kd.C_of_reads (readsInt_of.1 HC.out)⟩
    have LX : Aside0 ((([] : List Int).length + xs.length) * 8 ≤ 140737488355328) := ⟨by simp; omega⟩
    clear kb kb2 kc kf
    have L3 : Aside0 ((SI.length + 1) * 24 ≤ 140737488355328) := ⟨by rw [l1]; omega⟩
    have HW := Aside0.mk hW
    have hbW : base ≤ W.heap.size := by rw [hW]; have := G1.out.size; simp; omega
    clear hW
    go_region_law (first
      | (refine Kd.R_append_rows_step (Kd.int .i64) (Rr := (Kd.int .i64).K W) (w0 := W.drew) (W := W.drew) W.heap.size (by rfl) _ _ 23 3 (.int .i64 0) 8 rfl Try.underlying23 info_i64b rfl one1i h8i (.slice none 0 0) [] xs A xs.length c (fun _ => True) (fun _ => False) rfl rfl (Kd.R_nil _ _ _ _ _) HCr.out (fun _ _ h => h) (fun _ h => h.elim) (fun _ _ => trivial) (Below.refl _ _) (Nat.le_refl _) LX.out ?_; intro tv w2 hR hb2' _ _; have ho := Kd.own_of_R hR; simp only [List.nil_append] at ho; obtain ⟨AT, ct, hs⟩ := own_slice ho; subst hs; have HT := Aside0.mk ho; have hb2 : Below W.heap.size W w2 := (below_drew (Below.refl _ _)).trans hb2'; have HB2 := Aside0.mk hb2; have kd := blk_below KB2.out hb2; have kc3 : w2.cell? ⟨b, 5, none⟩ = some (.slice A1 LI.length c1) := (blk_cell kd 5).trans rfl; have kf3 := blk_frozen kd 5; have kc5 : (w2.alloc (.cells #[.slice AT xs.length ct] 23)).cell? ⟨b, 5, none⟩ = some (.slice A1 LI.length c1) := (blk_cell (blk_alloc kd (.cells #[.slice AT xs.length ct] 23)) 5).trans rfl; have KD := Aside0.mk kd; have hbW2 : base ≤ w2.heap.size := Nat.le_trans hbW hb2.size; have R3 : Aside0 (w2.ownsRow base 23 1 (.slice A1 LI.length c1) SI.length (SI.map (·.1))) := ⟨own_move R1.out fun j hj => hb2.block j (own_lt R1.out j hj)⟩; clear hR hb2' ho hb2 kd kc2 kf2)
      | (refine step_append_cells (w0 := w2) (W := w2) base (by rfl) _ _ 36 23 (.slice none 0 0) 1 24 rfl Try.underlying36 info_slI rfl one1i h24i (.slice A1 LI.length c1) SI.length (SI.map (·.1)) [.slice AT xs.length ct] rfl rfl rfl (cell1i _ _ _) R3.out (Below.refl _ _) hbW2 L3.out ?_; intro z3 w3 o3 _ g3 a3; obtain ⟨A3z, c3z, hz⟩ := own_slice o3; subst hz; have O3 := Aside0.mk o3; have G3 := Aside0.mk g3; have A3' := Aside0.mk a3; have ke := blk_grown KD.out g3 (fun q => Ty.ne (own_typed R3.out b q.symm) ⟨_, KD.out⟩ (by decide)); have kc4 : w3.cell? ⟨b, 5, none⟩ = some (.slice A1 LI.length c1) := (blk_cell ke 5).trans rfl; have kf4 := blk_frozen ke 5; clear o3 g3 a3 kc3 kf3))
    all_goals go_wp2_with fail
    all_goals go_end0
    all_goals exact ⟨rfl, booki HBB.out T1.out T2.out HB.out.okb HB.out.rng HV.out HN.out hsz hlt hbase ⟨O1.out, G1.out, A1'.out, (by have q := HB2.out; rw [HW.out] at q; simpa using q), (by have q := HT.out; exact own_weaken q (by rw [HW.out]; simp)), (by have q := O3.out; rw [l1] at q ⊢; exact q), G3.out, (by have q := A3'.out; rw [l1] at q; exact q)⟩⟩
  · go_enter Try.func15, Try.ntmps15
    go_wp2_with fail
    go_end0
    exact ⟨rfl, Chg.refl _ _, HB.out.move (fun _ _ => rfl) (fun j hj => .inl hj) (Nat.le_refl _) (fun j hj => by
      rcases hj with hj | hj | hj
      · exact HB.out.rng j hj
      · exact ⟨own_base HV.out j hj, own_lt HV.out j hj⟩
      · omega)⟩
theorem Live.ints_calls {w W : World} {ok : Nat → Prop} {b : Nat} {l : List Ent} (h : Live w W ok b l) (i : Nat) {A : Option Addr} {c : Nat} {xs : List Int} (hi : l[i]? = some ⟨3, .i64, .slice A xs.length c, xs, true⟩) (hsz : xs.length ≤ 10000000000000) :
    Calls Try.prog 15 #[.pointer (some ⟨b, 0, none⟩), .slice A xs.length c] W fun e w' => e = .returned (.tuple #[]) ∧ ∃ ok', Live w w' ok' b (l.set i ⟨3, .i64, .slice A xs.length c, xs, false⟩) :=
  (Keep.ints_calls h.bk A c xs (h.rows.own i _ hi) (h.free i _ hi rfl) hsz h.rows.bel.size).mono fun _ _ ⟨he, hc, hb⟩ => ⟨he, _, h.kept hi (.inr rfl) hc hb⟩
end Go.Proofs.Ytbjoinocajobhaa.Keep
