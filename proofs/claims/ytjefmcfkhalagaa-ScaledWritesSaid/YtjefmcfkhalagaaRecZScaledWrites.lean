/- A deferred closure that begins by recovering: its first region's first operation is 'recover', what follows is walked as any other code. -/
import Derived.Test.YtjefmcfkhalagaaProg
import Derived.Defers
import Derived.Recover
import Derived.Tactics
namespace Go.Proofs.Ytjefmcfkhalagaa.Rec
open Go
theorem post_S {P : Program} {fn : Func} {u' : FrameMode} {R : Ending → World → Prop} {c₀ : Frame} {cs : List Frame} {e : Exit} {a : Act} {w : World}
    (h : bodyPost P fn R e a w) : bodyPostS P fn c₀ cs (fun e x w' => x = u' ∧ R e w') e a ({ c₀ with mode := u' } :: cs) w := by
  cases e with
  | normal => obtain ⟨hd, v, hr, hR⟩ := h; exact ⟨hd, u', rfl, v, hr, rfl, hR⟩
  | ret => obtain ⟨hd, v, hr, hR⟩ := h; exact ⟨hd, u', rfl, v, hr, rfl, hR⟩
  | panic ch => obtain ⟨hd, hR⟩ := h; exact ⟨hd, u', rfl, rfl, hR⟩
  | outgrown => exact ⟨u', rfl, h⟩
  | exit id => exact h.elim
  | goto l => exact h.elim
theorem callsD_recover {P : Program} {f : FuncId} {fn : Func} {id : Nat} {o : Oper} {l : List Oper} {y : Code} {args : Array Value} {u u' : FrameMode} {v : Value} {w : World} {R : Ending → World → Prop}
    (hf : P.funcs[f]? = some fn) (hb : fn.body = some (.seq (.region id (o :: l).toArray false) y)) (hg : o.guard = none)
    (hr : ∀ a : Act, (execOp a.eval o).run P w = .ok .recover w)
    (hrec : ∀ (c : Frame) (cs : List Frame), c.mode = u → (recoverD (c :: cs) = some (v, { c with mode := u' } :: cs)) ∨ (recoverD (c :: cs) = none ∧ v = .nilIface ∧ u' = u))
    (h : wpList P (o :: l).toArray (Exit.then (y.wp P (bodyPost P fn R)) (bodyPost P fn R)) l
      (Act.put { tmps := args ++ Array.replicate (fn.ntmps - args.size) undef, defers := [] } o.dst v) w) :
    CallsD P f args u w fun e x w' => x = u' ∧ R e w' := by
  refine callsD_of_wpS hf hb fun c₀ cs hu => ?_
  intro b k hb2 hr2
  have hs : List.range (o :: l).toArray.size = 0 :: List.range' 1 l.length := by
    simp [List.range_eq_range', List.range'_succ]
  have hw : ∀ a : Act, Region.wanted o (yielded (o :: l).toArray a.tmps) = true := fun a => by simp [Region.wanted, hg]
  have e0 : ((o :: l).toArray)[0]? = some o := by simp
  rw [← wpOps_eq_wpList (ops := (o :: l).toArray) l 1 (fun j => by simp [Nat.add_comm 1 j])] at h
  obtain ⟨e, a', w', hq, harr⟩ := wp_ops _ _ _ h b (.code y :: k) ({ c₀ with mode := u' } :: cs)
  have hrun := hr { tmps := args ++ Array.replicate (fn.ntmps - args.size) undef, defers := [] }
  generalize ({ tmps := args ++ Array.replicate (fn.ntmps - args.size) undef, defers := [] } : Act) = a at *
  have h1 : step P (lone (b.at a (.code (.region id (o :: l).toArray false) :: .code y :: k)) (c₀ :: cs) w) =
      .next (lone (b.at a (.inRegion (o :: l).toArray (0 :: List.range' 1 l.length) :: .code y :: k)) (c₀ :: cs) w) := by rw [← hs]; exact step_region
  have h2 : step P (lone (b.at a (.inRegion (o :: l).toArray (0 :: List.range' 1 l.length) :: .code y :: k)) (c₀ :: cs) w) =
      .next (lone (b.at (a.put o.dst v) (.inRegion (o :: l).toArray (List.range' 1 l.length) :: .code y :: k)) ({ c₀ with mode := u' } :: cs) w) := by
    have hg2 := stepG_op (P := P) (b := b) (k := .code y :: k) (cs := c₀ :: cs) (w := w) (rest := List.range' 1 l.length) e0 (hw a)
    have hfin : ∀ v, (b.at a (.inRegion (o :: l).toArray (0 :: List.range' 1 l.length) :: .code y :: k)).finish v = b.at (a.put o.dst v) (.inRegion (o :: l).toArray (List.range' 1 l.length) :: .code y :: k) := by
      intro v; rw [Frame.finish_at, e0]; rfl
    have htr := tryRecover_deferred (fr := b.at a (.inRegion (o :: l).toArray (0 :: List.range' 1 l.length) :: .code y :: k)) hb2 (c₀ :: cs)
    refine step_lone_go ?_
    rw [hg2, ← hfin]
    simp only [Frame.at] at htr ⊢
    rcases hrec c₀ cs hu with hrc | ⟨hrc, rfl, rfl⟩
    · simp [stepG.apply, hrun, htr, hrc]
    · subst hu
      simp [stepG.apply, hrun, htr, hrc]
  have harr' : Arrives P (lone (b.at a (.code (.region id (o :: l).toArray false) :: .code y :: k)) (c₀ :: cs) w) b (.code y :: k) ({ c₀ with mode := u' } :: cs) e a' w' := .of_steps (.head h1 (.one h2)) harr
  cases e with
  | normal =>
    obtain ⟨e2, a2, w2, hq2, harr2⟩ := hq b k ({ c₀ with mode := u' } :: cs)
    exact ⟨e2, a2, _, w2, post_S hq2, .of_steps (.head step_seq harr') harr2⟩
  | exit id => exact ⟨_, a', _, w', post_S (show bodyPost P fn R (.exit id) a' w' from hq), .of_steps (.one step_seq) (.pass (x := .code y) rfl (fun _ _ => .inl (by simp)) harr')⟩
  | goto l => exact ⟨_, a', _, w', post_S (show bodyPost P fn R (.goto l) a' w' from hq), .of_steps (.one step_seq) (.pass (x := .code y) rfl (fun _ _ => .inl (by simp)) harr')⟩
  | ret => exact ⟨_, a', _, w', post_S (show bodyPost P fn R (.ret) a' w' from hq), .of_steps (.one step_seq) (.pass (x := .code y) rfl (fun _ _ => .inl (by simp)) harr')⟩
  | panic ch => exact ⟨_, a', _, w', post_S (show bodyPost P fn R (.panic ch) a' w' from hq), .of_steps (.one step_seq) (.pass (x := .code y) rfl (fun _ _ => .inl (by simp)) harr')⟩
  | outgrown => exact ⟨_, a', _, w', post_S (show bodyPost P fn R (.outgrown) a' w' from hq), .of_steps (.one step_seq) (.pass (x := .code y) rfl (fun _ _ => .inl (by simp)) harr')⟩
end Go.Proofs.Ytjefmcfkhalagaa.Rec
