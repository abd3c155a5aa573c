/- scaled.Parse: the deferred closure. -/
import Derived.Test.YtjefmcfkhalagaaScgZScaledWrites
import Derived.Test.YtjefmcfkhalagaaRecZScaledWrites
import Derived.Laws.Pointers
import Derived.WalkLawsBesides
import Derived.RegionTactic
import Derived.ChangeAlike
namespace Go.Proofs.Ytjefmcfkhalagaa.Scr
set_option linter.unusedVariables false
set_option linter.unusedSimpArgs false
open Go.RowKit Go.Proofs.Ytjefmcfkhalagaa.Q Go.Proofs.YtjefmcfkhalagaaW.PrintWords Go.Proofs.YtjefmcfkhalagaaW.PrintLast Go.Proofs.Ytjefmcfkhalagaa.Keep Go.Proofs.Ytjefmcfkhalagaa.Dig
theorem ta_some (v : Value) (w : World) : Sem.run Try.prog (Instr.typeAssert (.iface 64 v) 20 64 true) w = .ok (.tuple #[v, .bool true]) w := by
  kernel_rfl
theorem ta_none (w : World) : Sem.run Try.prog (Instr.typeAssert .nilIface 20 64 true) w = .ok (.tuple #[.agg #[.int .i64 0, .int .i64 0], .bool false]) w := by
  kernel_rfl
theorem cell_lt {w : World} {b o : Nat} {v : Value} (h : w.cell? ⟨b, o, none⟩ = some v) : b < w.heap.size := by
  by_cases hb : b < w.heap.size
  · exact hb
  · simp [World.cell?, Array.getElem?_eq_none (Nat.le_of_not_lt hb)] at h
set_option maxHeartbeats 1000000 in
set_option maxRecDepth 100000 in
theorem catch_panicking (B : Nat) (x0 x1 x2 : Int) (pl er : Int) (w : World)
    (c0 : w.cell? ⟨B, 0, none⟩ = some (.int .u64 x0)) (c1 : w.cell? ⟨B + 1, 0, none⟩ = some (.int .i64 x1)) (c2 : w.cell? ⟨B + 2, 0, none⟩ = some (.int .i64 x2))
    (f0 : w.frozen? ⟨B, 0, none⟩ = false) (f1 : w.frozen? ⟨B + 1, 0, none⟩ = false) (f2 : w.frozen? ⟨B + 2, 0, none⟩ = false) :
    CallsD Try.prog 28 #[.pointer (some ⟨B, 0, none⟩), .pointer (some ⟨B + 1, 0, none⟩), .pointer (some ⟨B + 2, 0, none⟩)] (.panicking [{ v := .iface 64 (.agg #[.int .i64 pl, .int .i64 er]), recovered := false }]) w fun e u' w' =>
      u' = .panicking [{ v := .iface 64 (.agg #[.int .i64 pl, .int .i64 er]), recovered := true }] ∧ e = .returned (.tuple #[]) ∧
        ∃ o, w' = ((((w.alloc o).setCell ⟨B, 0, none⟩ (.int .u64 0)).setCell ⟨B + 1, 0, none⟩ (.int .i64 pl)).setCell ⟨B + 2, 0, none⟩ (.int .i64 er)).drew := by
  refine Rec.callsD_recover (o := ⟨some 6, _, _, _, _, _⟩) (v := .iface 64 (.agg #[.int .i64 pl, .int .i64 er])) Try.func28 rfl rfl ?_ ?_ ?_
  · intro a; rfl
  · intro c cs h; refine .inl ?_; simp [recoverD, h]
  simp only [Try.ntmps28, List.size_toArray, List.length_cons, List.length_nil, Nat.reduceAdd, Nat.reduceSub, Array.replicate_succ,
     Array.replicate_zero, List.push_toArray, List.append_toArray, List.nil_append, List.cons_append, Act.put]
  have hta := fun w => ta_some (.agg #[.int .i64 pl, .int .i64 er]) w
  go_wp2
  have hlt : B + 2 < w.heap.size := cell_lt c2
  have q1 : ∀ b o, b < w.heap.size → (w.alloc o).cell? ⟨b, 0, none⟩ = w.cell? ⟨b, 0, none⟩ := fun b o h => by simp only [World.cell?, (World.grownBy_alloc w o none).block b h (by simp)]
  have q2 : ∀ b o, b < w.heap.size → (w.alloc o).frozen? ⟨b, 0, none⟩ = w.frozen? ⟨b, 0, none⟩ := fun b o h => by simp only [World.frozen?, (World.grownBy_alloc w o none).block b h (by simp)]
  obtain ⟨O, hO⟩ : ∃ O, O = Obj.cells #[Value.int IntKind.i64 pl, Value.int IntKind.i64 er] 64 := ⟨_, rfl⟩
  have d0 : (w.alloc O).cell? ⟨w.heap.size, 0, none⟩ = some (.int .i64 pl) := by subst hO; simp [go_sem]
  have d1 : (w.alloc O).cell? ⟨w.heap.size, 1, none⟩ = some (.int .i64 er) := by subst hO; simp [go_sem]
  have e0 := (q1 B O (by omega)).trans c0
  have e1 := (q1 (B + 1) O (by omega)).trans c1
  have e2 := (q1 (B + 2) O (by omega)).trans c2
  have g0 := (q2 B O (by omega)).trans f0
  have g1 := (q2 (B + 1) O (by omega)).trans f1
  have g2 := (q2 (B + 2) O (by omega)).trans f2
  refine (?_ : _)
  have n0 : ¬ w.heap.size = B := by omega
  have n1 : ¬ w.heap.size = B + 1 := by omega
  have n2 : ¬ w.heap.size = B + 2 := by omega
  have n0' : ¬ B = w.heap.size := by omega
  have n1' : ¬ B + 1 = w.heap.size := by omega
  have n2' : ¬ B + 2 = w.heap.size := by omega
  rw [← hO]
  have key : ∃ o, w.alloc O = w.alloc o := ⟨_, rfl⟩
  generalize w.alloc O = W at *
  generalize w.heap.size = H at *
  clear q1 q2 c0 c1 c2 f0 f1 f2 hlt hta
  go_region
  go_end0
  obtain ⟨o, hk⟩ := key
  exact ⟨rfl, o, by rw [← hk]⟩
set_option maxHeartbeats 1000000 in
set_option maxRecDepth 100000 in
theorem catch_idle (B : Nat) (w : World) :
    CallsD Try.prog 28 #[.pointer (some ⟨B, 0, none⟩), .pointer (some ⟨B + 1, 0, none⟩), .pointer (some ⟨B + 2, 0, none⟩)] .returning w fun e u' w' =>
      u' = .returning ∧ e = .returned (.tuple #[]) ∧ ∃ o, w' = w.alloc o := by
  refine Rec.callsD_recover (o := ⟨some 6, _, _, _, _, _⟩) (v := .nilIface) Try.func28 rfl rfl ?_ ?_ ?_
  · intro a; rfl
  · intro c cs h; refine .inr ?_; simp [recoverD, h]
  simp only [Try.ntmps28, List.size_toArray, List.length_cons, List.length_nil, Nat.reduceAdd, Nat.reduceSub, Array.replicate_succ,
     Array.replicate_zero, List.push_toArray, List.append_toArray, List.nil_append, List.cons_append, Act.put]
  have hta := ta_none
  go_wp2
  go_end0
  exact ⟨rfl, _, rfl⟩
end Go.Proofs.Ytjefmcfkhalagaa.Scr
