/- audit.Spans: its state. -/
import Derived.Test.YtbjoinocajobhaaEvoZAuditSpans
import Derived.Test.YtbjoinocajobhaaKeep0ZAuditSpans
import Derived.Maps.OwnSet
import Derived.RegionTactic
import Derived.ChangeAlike
import Derived.BigRegion
import Derived.Carry
namespace Go.Proofs.Ytbjoinocajobhaa.Evs
set_option linter.unusedVariables false
set_option linter.unusedSimpArgs false
open Go.RowKit Go.Proofs.Ytbjoinocajobhaa.Q Go.Proofs.YtbjoinocajobhaaW.PrintWords Go.Proofs.YtbjoinocajobhaaW.PrintLast Go.Proofs.Ytbjoinocajobhaa.Ju Go.Proofs.Ytbjoinocajobhaa.Keep Go.Maps
def eV (e : E6) : Value := .agg #[.int .i64 e.f0, .int .i64 e.f1, .int .i64 e.f2, .bool e.f3, .int .i64 e.f4, .int .i64 e.f5]
/-- An element of the map. -/
def ov (e : E6) (n : Nat) : Value := .agg #[.int .i64 e.f0, .int .i64 e.f1, .int .i64 e.f2, .bool e.f3, .int .i64 e.f4, .int .i64 e.f5, .int .i64 (n : Int)]
def odw (e : E6) (n : Int) : DataW Unit := .agg [.lit (.int .i64 e.f0), .lit (.int .i64 e.f1), .lit (.int .i64 e.f2), .lit (.bool e.f3), .lit (.int .i64 e.f4), .lit (.int .i64 e.f5), .lit (.int .i64 n)]
def openR (v : Value) : Option (DataW Unit × List MemPlace) :=
  match v with
  | .agg ⟨[.int .i64 a, .int .i64 b, .int .i64 c, .bool d, .int .i64 e, .int .i64 f, .int .i64 n]⟩ => some (odw ⟨a, b, c, d, e, f⟩ n, [])
  | _ => none
theorem openR_mk (e : E6) (n : Nat) : openR (ov e n) = some (odw e n, []) := rfl
theorem openR_inv {v : Value} {e : E6} {n : Nat} {ps : List MemPlace} (h : openR v = some (odw e n, ps)) : v = ov e n := by
  unfold openR at h
  split at h
  · injection h with h
    injection h with h _
    unfold odw at h
    simp only [DataW.agg.injEq, List.cons.injEq, DataW.lit.injEq, Lit.int.injEq, Lit.bool.injEq, true_and, and_true] at h
    obtain ⟨h1, h2, h3, h4, h5, h6, h7⟩ := h
    subst h1 h2 h3 h4 h5 h6 h7
    rfl
  · cases h
def zE : E6 := ⟨0, 0, 0, false, 0, 0⟩
theorem zeroO (w : World) : (zeroValue 85).run Try.prog w = .ok (ov zE 0) w := by kernel_rfl
theorem klawI : Keyed Try.prog 3 := int_keyed Try.underlying3
theorem int_ne {s x : Int} (h : x ≠ s) : (Lit.int .i64 x) ≠ .int .i64 s := fun e => h (by injection e)
structure HoldE (D : DataW Unit) (g : Go_) : Prop where
  tidy : Tidy D
  has : ∀ c, has D (.int .i64 c) = (g c).isSome
  val : ∀ c p, g c = some p → ∀ z, D.atKey (.int .i64 c) z = odw p.1 p.2
theorem HoldE.empty : HoldE (.map []) (fun _ => none) := ⟨tidy_empty, fun s => rfl, fun s v h => (by cases h)⟩
theorem HoldE.put {D : DataW Unit} {g : Go_} (h : HoldE D g) {c : Int} (p : E6 × Nat) : HoldE (D.put (.int .i64 c) (odw p.1 p.2)) (upd g c (some p)) := by
  have hk : WideAt.IsKeyLit (.int .i64 c) := by simp [WideAt.IsKeyLit]
  refine ⟨h.tidy.put hk _, fun x => ?_, fun x w hx z => ?_⟩
  · unfold upd
    by_cases e : x = c
    · subst e; rw [if_pos rfl, has_put_same h.tidy.isMap hk]; rfl
    · rw [if_neg e, has_put_other (int_ne e)]; exact h.has x
  · unfold upd at hx
    by_cases e : x = c
    · subst e; rw [if_pos rfl] at hx; injection hx with hx; subst hx; exact atKey_put_same h.tidy.isMap hk _ _
    · rw [if_neg e] at hx; rw [atKey_put_other (int_ne e)]; exact h.val x w hx z
theorem HoldE.del {D : DataW Unit} {g : Go_} (h : HoldE D g) (c : Int) : HoldE (D.del (.int .i64 c)) (upd g c none) := by
  refine ⟨h.tidy.del _, fun x => ?_, fun x w hx z => ?_⟩
  · unfold upd
    by_cases e : x = c
    · subst e; rw [if_pos rfl, has_del_same]; rfl
    · rw [if_neg e, has_del_other (int_ne e)]; exact h.has x
  · unfold upd at hx
    by_cases e : x = c
    · subst e; rw [if_pos rfl] at hx; cases hx
    · rw [if_neg e] at hx; rw [atKey_del_other (int_ne e)]; exact h.val x w hx z
/-- The state: the map, the row. -/
structure AS (w W : World) (bm n : Nat) (g : Go_) (out : List S32) (v : Value) : Prop where
  map : ∃ D : DataW Unit, W.ownsMap Try.prog 3 openR bm n D ∧ HoldE D g
  row : Kd.R k32 32 W w.heap.size (fun k => k ≠ bm) v out
  bel : Below w.heap.size w W
  hbm : w.heap.size ≤ bm
theorem AS.below {w W W' : World} {bm n : Nat} {g : Go_} {out : List S32} {v : Value} (h : AS w W bm n g out v) (hb : Below W.heap.size W W') : AS w W' bm n g out v := by
  obtain ⟨D, h1, h2⟩ := h.map
  exact ⟨⟨D, h1.kept (row := none) ⟨hb.os, hb.tape, hb.output, hb.size, fun k hk _ => hb.block k hk⟩ (by simp), h2⟩, Kd.R_below h.row hb, below_step h.bel hb, h.hbm⟩
theorem AS.look {w W : World} {bm n : Nat} {g : Go_} {out : List S32} {v : Value} (h : AS w W bm n g out v) {c : Int} (hc : (Lit.int .i64 c).wf = true) :
    (∀ p, g c = some p → (Instr.lookup 81 (.map (some bm)) (.int .i64 c) true).run Try.prog W = .ok (.tuple #[ov p.1 p.2, .bool true]) W) ∧ (g c = none → (Instr.lookup 81 (.map (some bm)) (.int .i64 c) true).run Try.prog W = .ok (.tuple #[ov zE 0, .bool false]) W) := by
  obtain ⟨D, h1, h2⟩ := h.map
  have hkey := keyOf_int_mk Try.underlying3 hc
  obtain ⟨v', ps, hrun, hR⟩ := h1.look_ok klawI Try.underlying81 (zeroO W) (openR_mk zE 0) hkey
  have hh := h2.has c
  refine ⟨fun p hp => ?_, fun hn => ?_⟩
  · rw [hp] at hh
    rw [h2.val c p hp] at hR
    rw [hrun, hh, openR_inv hR]; rfl
  · rw [hn] at hh
    have hat := atKey_of_not_has hh (odw zE 0)
    have e : (odw zE ((0 : Nat) : Int)) = odw zE 0 := rfl
    rw [e] at hR
    rw [hat] at hR
    rw [hrun, hh, openR_inv (n := 0) hR]; rfl
theorem AS.put {w W W' : World} {bm n : Nat} {g : Go_} {out : List S32} {v : Value} {D D' : DataW Unit} {n' : Nat} {g' : Go_} (h : AS w W bm n g out v) (ho : W'.ownsMap Try.prog 3 openR bm n' D') (hh : HoldE D' g') (ht : W.mapTurned W' bm) : AS w W' bm n' g' out v := by
  have hg := ht.grown
  refine ⟨⟨D', ho, hh⟩, Kd.R_grown h.row hg (fun k hk e => hk (Option.some.inj e)), ?_, h.hbm⟩
  exact ⟨hg.os.trans h.bel.os, hg.tape.trans h.bel.tape, hg.output.trans h.bel.output, Nat.le_trans h.bel.size hg.size, fun k hk => (hg.block k (Nat.lt_of_lt_of_le hk h.bel.size) (fun e => by have := Option.some.inj e; have := h.hbm; omega)).trans (h.bel.block k hk)⟩
end Go.Proofs.Ytbjoinocajobhaa.Evs
