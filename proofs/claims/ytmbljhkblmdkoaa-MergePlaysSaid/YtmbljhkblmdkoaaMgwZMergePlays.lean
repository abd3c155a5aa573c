/- merge.Buffer, walked: New, Next, Held, Has, Put. -/
import Derived.Test.YtmbljhkblmdkoaaMgZMergePlays
import Derived.Test.YtmbljhkblmdkoaaKeep0ZMergePlays
import Derived.Maps.OwnSet
import Derived.Maps.OwnOps
import Derived.RegionTactic
import Derived.ChangeAlike
import Derived.BigRegion
import Derived.Deep.CutRange
import Derived.Deep.RegionLaw
import Derived.Deep.QuietTactic
import Derived.BigQuiet
import Derived.WalkSpells
import Derived.KernelRfl
import Derived.Test.YtmbljhkblmdkoaaQ0ZMergePlays
namespace Go.Proofs.Ytmbljhkblmdkoaa.Mg
set_option linter.unusedVariables false
set_option linter.unusedSimpArgs false
open Go.RowKit Go.Proofs.Ytmbljhkblmdkoaa.Q Go.Proofs.YtmbljhkblmdkoaaW.PrintWords Go.Proofs.YtmbljhkblmdkoaaW.PrintLast Go.Proofs.Ytmbljhkblmdkoaa.Keep Go.Maps
theorem klaw : Keyed Try.prog 3 := int_keyed Try.underlying3
theorem zeroI (w : World) : (zeroValue 3).run Try.prog w = .ok (.int .i64 0) w := by kernel_rfl
abbrev evI (v : Int) : DataW Unit := .lit (.int .i64 v)
abbrev zI : DataW Unit := .lit (.int .i64 0)
/-- A Buffer: its cells in block g, its map in block bm. -/
structure BS (W : World) (g bm n : Nat) (win nx : Int) (f : Hd Int) (k : Nat) : Prop where
  blk : W.heap[g]? = some (.cells #[.int .i64 win, .int .i64 nx, .map (some bm)] 52 (0, 0))
  map : ∃ D : DataW Unit, W.ownsMap Try.prog 3 (plainElem Try.prog 3) bm n D ∧ Hold evI zI D f k
  ne : g ≠ bm
theorem BS.below {W W1 : World} {g bm n : Nat} {win nx : Int} {f : Hd Int} {k : Nat} (h : BS W g bm n win nx f k) (hb : Below W.heap.size W W1) : BS W1 g bm n win nx f k := by
  obtain ⟨D, h1, h2⟩ := h.map
  exact ⟨(hb.block g (blk_lt h.blk)).trans h.blk, ⟨D, h1.kept (row := none) ⟨hb.os, hb.tape, hb.output, hb.size, fun k hk _ => hb.block k hk⟩ (by simp), h2⟩, h.ne⟩
theorem BS.chg {W W1 : World} {ok : Nat → Prop} {g bm n : Nat} {win nx : Int} {f : Hd Int} {k : Nat} (h : BS W g bm n win nx f k) (hc : Chg ok W W1) (h1 : ¬ ok g) (h2 : ¬ ok bm) : BS W1 g bm n win nx f k := by
  obtain ⟨D, ⟨es, clock, hb, hr⟩, h4⟩ := h.map
  exact ⟨hc.blk h.blk h1, ⟨D, ⟨es, clock, hc.blk hb h2, hr⟩, h4⟩, h.ne⟩
theorem BS.lt {W : World} {g bm n : Nat} {win nx : Int} {f : Hd Int} {k : Nat} (h : BS W g bm n win nx f k) : g < W.heap.size ∧ bm < W.heap.size := by
  obtain ⟨D, h1, h2⟩ := h.map
  exact ⟨blk_lt h.blk, h1.lt⟩
theorem BS.mono {W : World} {g bm n n' : Nat} {win nx : Int} {f : Hd Int} {k : Nat} (h : BS W g bm n win nx f k) (hn : n ≤ n') : BS W g bm n' win nx f k := by
  obtain ⟨D, h1, h2⟩ := h.map
  exact ⟨h.blk, ⟨D, h1.mono hn, h2⟩, h.ne⟩
theorem BS.size {W : World} {g bm n : Nat} {win nx : Int} {f : Hd Int} {k : Nat} (h : BS W g bm n win nx f k) : k ≤ n := by
  obtain ⟨D, h1, h2⟩ := h.map
  have := h1.size_le
  rw [h2.size] at this
  exact this
theorem below_eq {w w' : World} (h : w' = w) : Below w.heap.size w w' := h ▸ Below.refl _ _
section
variable {w : World} {g bm n : Nat} {win nx : Int} {f : Hd Int} {k : Nat}
theorem next_calls (w : World) (h : BS w g bm n win nx f k) : Calls Try.prog 13 #[.pointer (some ⟨g, 0, none⟩)] w fun e w' => e = .returned (.int .i64 nx) ∧ w' = w := by
  have c1 : w.cell? ⟨g, 1, none⟩ = some (.int .i64 nx) := (blk_cell h.blk 1).trans rfl
  clear h
  go_enter Try.func13, Try.ntmps13
  go_wp2_with fail
  go_ret
  exact ⟨rfl, rfl⟩
theorem held_calls (w : World) (h : BS w g bm n win nx f k) : Calls Try.prog 14 #[.pointer (some ⟨g, 0, none⟩)] w fun e w' => e = .returned (.int .i64 (k : Int)) ∧ w' = w := by
  have c2 : w.cell? ⟨g, 2, none⟩ = some (.map (some bm)) := (blk_cell h.blk 2).trans rfl
  obtain ⟨D, hD, hH⟩ := h.map
  have hs := hH.size
  have HD := Aside0.mk hD
  clear h hH hD
  go_enter Try.func14, Try.ntmps14
  go_wp2_with (first | (at_len; refine wpList_len_own _ rfl _ 50 rfl 3 3 Try.underlying50 _ bm n D rfl HD.out ?_; rw [hs]))
  go_ret
  exact ⟨rfl, rfl⟩
theorem has_calls (w : World) (h : BS w g bm n win nx f k) (s : Int) (hs : (Lit.int .i64 s).wf = true) : Calls Try.prog 15 #[.pointer (some ⟨g, 0, none⟩), .int .i64 s] w fun e w' => e = .returned (.bool (f s).isSome) ∧ w' = w := by
  have c2 : w.cell? ⟨g, 2, none⟩ = some (.map (some bm)) := (blk_cell h.blk 2).trans rfl
  obtain ⟨D, hD, hH⟩ := h.map
  have hh := hH.has s
  have HD := Aside0.mk hD
  have hkey := keyOf_int_mk Try.underlying3 hs
  clear h hH hD hs
  go_enter Try.func15, Try.ntmps15
  go_wp2_with (first | (at_lookup; refine wpList_lookup_own_ok_int _ rfl _ _ 50 rfl 3 3 .i64 klaw Try.underlying50 Try.underlying3 (zeroI _) bm n D rfl HD.out _ _ rfl hkey ?_; intro c hat hwc; rw [hh]))
  go_ret
  exact ⟨rfl, rfl⟩
theorem new_calls (win : Int) (h1 : 1 ≤ win) (h2 : win ≤ 64) (w : World) : Calls Try.prog 6 #[.int .i64 win] w fun e w' => ∃ g bm, e = .returned (.tuple #[.pointer (some ⟨g, 0, none⟩), .int .i64 0]) ∧ BS w' g bm 0 win 0 (fun _ => none) 0 ∧ w.heap.size ≤ g ∧ w.heap.size ≤ bm ∧ Below w.heap.size w w' := by
  have p1 := eq_false (show ¬ win < 1 by omega)
  have p2 := eq_false (show ¬ 64 < win by omega)
  have hmm := @run_makeMap Try.prog
  go_enter Try.func6, Try.ntmps6
  go_wp2_with (first | ((with_reducible refine gate_dst (N := 13) rfl ?_); refine box_event ?hg (N := 13) ?hd (cs := #[.int .i64 win, .int .i64 0, .map (some w.heap.size)]) (t := 52) ?hr ?_; (case hd => rfl); (case hg => rfl); (case hr => first | (go_simp; done) | (go_simp; rfl)); intro T hT w1 hbox hb; have B1 := Aside0.mk hb; have T1 := Aside0.mk hbox; have ET := Aside0.mk hT; clear hb hbox hT))
  go_ret2
  have hm := World.ownsMap_made (H := Unit) w Try.prog 3 (plainElem Try.prog 3)
  have hs : (w.alloc (.map #[] 0)).heap.size = w.heap.size + 1 := by simp
  have hT : T = w.heap.size + 1 := by rw [ET.out, hs]
  refine ⟨T, w.heap.size, rfl, ⟨T1.out, ⟨_, hm.kept (row := none) ⟨B1.out.os, B1.out.tape, B1.out.output, B1.out.size, fun k hk _ => B1.out.block k hk⟩ (by simp), Hold.empty⟩, by omega⟩, by omega, Nat.le_refl _, ?_⟩
  exact ((Below.refl w.heap.size w).alloc (Nat.le_refl _) _).trans (B1.out.mono (by rw [hs]; omega))
theorem new_bad (win : Int) (h1 : win < 1 ∨ 64 < win) (w : World) : Calls Try.prog 6 #[.int .i64 win] w fun e w' => e = .returned (.tuple #[.pointer none, .int .i64 270]) ∧ Below w.heap.size w w' := by
  by_cases h : win < 1
  · have p1 := eq_true h
    clear h h1
    go_enter Try.func6, Try.ntmps6
    go_wp2_with fail
    go_ret2
    exact ⟨rfl, Below.refl _ _⟩
  · have p1 := eq_false h
    have p2 := eq_true (show 64 < win by omega)
    clear h h1
    go_enter Try.func6, Try.ntmps6
    go_wp2_with fail
    go_ret2
    exact ⟨rfl, Below.refl _ _⟩
end
def lenV : Value → Nat
  | .slice _ n _ => n
  | _ => 0
def bnd (x : Int) : Prop := -9000000000000000000 ≤ x ∧ x ≤ 9000000000000000000
theorem wf_i64 {x : Int} (h : -9223372036854775808 ≤ x ∧ x < 9223372036854775808) : (Lit.int .i64 x).wf = true := by
  show (decide (IntKind.i64.min ≤ x) && decide (x ≤ IntKind.i64.max)) = true
  rw [show IntKind.i64.min = -9223372036854775808 from rfl, show IntKind.i64.max = 9223372036854775807 from rfl]
  simp; omega
theorem wf_of {a : Int} (h : (Lit.int .i64 a).wf = true) : -9223372036854775808 ≤ a ∧ a < 9223372036854775808 := by
  have h1 : (decide (IntKind.i64.min ≤ a) && decide (a ≤ IntKind.i64.max)) = true := h
  rw [show IntKind.i64.min = -9223372036854775808 from rfl, show IntKind.i64.max = 9223372036854775807 from rfl] at h1
  simp at h1
  omega
section
variable {P : Program} {ops : Array Oper} {o : Oper} {a : Act} {w : World} {Kc : Act → World → Prop} {Q : Exit → Act → World → Prop} {E : Prop} {H : Type}
/-- delete(m, k), as one step of a region that draws. -/
theorem step_delete (hg : o.guard = none) (m x : Operand) (t k : TypeId) (hop : o.op = Op.call { callee := Callee.builtin Builtin.delete, args := #[m, x], argTypes := #[t, k] })
    (e : TypeId) (K : Keyed P k) (ht : P.underlying t = some (.map k e)) (R : Value → Option (DataW H × List MemPlace)) (b n : Nat) (D : DataW H)
    (hm : a.eval m = .map (some b)) (hown : w.ownsMap P k R b n D) (key : Value) (kl : Lit) (hx : a.eval x = key) (hkey : keyOf P k key = some kl)
    (hK : ∀ w', w'.ownsMap P k R b n (D.del kl) → w.mapTurned w' b → Kc (a.put o.dst (.tuple #[])) w') :
    if Region.wanted o (yielded ops a.tmps) = true then Oper.wp P o a w Kc Q else E := by
  have hw : Region.wanted o (yielded ops a.tmps) = true := by simp [Region.wanted, hg]
  rw [if_pos hw]
  obtain ⟨w', hrun, r1, r2⟩ := hown.drop K ht hkey o.type
  unfold Oper.wp
  simp [execOp, hop, resolve, invoke, builtin, hm, hx, hrun, Result.andThen]
  exact hK w' r1 r2
end
theorem chg_base {B : Nat} {w w' : World} (h : Below B w w') : Chg (fun b => B ≤ b) w w' := ⟨h.os, h.tape, h.output, h.size, fun k _ ho => h.block k (by omega)⟩
theorem R_chg {W W1 : World} {ok okc : Nat → Prop} {B : Nat} {v : Value} {xs : List Int} (h : Kd.R (Kd.int .i64) 3 W B ok v xs) (hc : Chg okc W W1) (ho : ∀ b, okc b → b < B) : Kd.R (Kd.int .i64) 3 W1 B ok v xs := by
  have h1 : Kd.R (Kd.int .i64) 3 W B (fun b => ok b ∧ B ≤ b ∧ b < W.heap.size) v xs := by
    obtain ⟨a, inner, b, c⟩ := h
    exact ⟨fun k hk => ⟨a k hk, own_base b k hk, own_lt b k hk⟩, inner, b, c⟩
  have h2 := Kd.R_move h1 fun k hk => hc.block k hk.2.2 (fun q => by have := ho k q; omega)
  obtain ⟨a, inner, b, c⟩ := h2
  exact ⟨fun k hk => (a k hk).1, inner, b, c⟩
theorem oneC (W : World) (u : Int) : Kd.C (Kd.int .i64) (W.alloc (.cells #[.int .i64 u] 3)) (some ⟨W.heap.size, 0, none⟩) 1 [u] := by
  refine Kd.C_of_reads (d := (0 : Int)) (h1 := fun _ => rfl) (readsInt_of.1 ⟨rfl, by omega, fun _ => ⟨_, rfl, fun j hj => ?_⟩⟩)
  obtain rfl : j = 0 := by simpa using hj
  rw [add_plain, cell_of_row _ _ _ _ _ (0, 0) (heap_alloc_new W _)]
  rfl
/-- What a Put leaves and tells. -/
structure PutPost (w : World) (g bm n : Nat) (win : Int) (p : Pu Int) (e : Ending) (w' : World) : Prop where
  res : ∃ v, e = .returned (.tuple #[v, .int .i64 p.er]) ∧ Kd.R (Kd.int .i64) 3 w' w.heap.size (fun _ => True) v p.out
  st : BS w' g bm n win p.nx p.f p.k
  chg : Chg (fun b => b = g ∨ b = bm) w w'
theorem turned_chg {w w' : World} {b : Nat} {ok : Nat → Prop} (h : w.mapTurned w' b) (hb : ok b) : Chg ok w w' := Chg.of_grown h.grown fun k hk => by injection hk with hk; exact hk ▸ hb
set_option maxHeartbeats 8000000 in
set_option maxRecDepth 100000 in
theorem put_calls (w : World) (g bm n : Nat) (win nx : Int) (f : Hd Int) (k : Nat) (h : BS w g bm n win nx f k) (hn : n < 1000000) (hnx : 0 ≤ nx ∧ nx < 1000000) (s v : Int) (hs : (Lit.int .i64 s).wf = true) (hv : (Lit.int .i64 v).wf = true) :
    Calls Try.prog 11 #[.pointer (some ⟨g, 0, none⟩), .int .i64 s, .int .i64 v] w (PutPost w g bm (n + 1) win (put win nx f k s v)) := by
  have S0 := Aside0.mk h
  have hsb := wf_of hs
  have HWS := Aside0.mk hs
  have HWV := Aside0.mk hv
  have c0 : w.cell? ⟨g, 0, none⟩ = some (.int .i64 win) := (blk_cell h.blk 0).trans rfl
  have c1 : w.cell? ⟨g, 1, none⟩ = some (.int .i64 nx) := (blk_cell h.blk 1).trans rfl
  have c2 : w.cell? ⟨g, 2, none⟩ = some (.map (some bm)) := (blk_cell h.blk 2).trans rfl
  clear h hs hv
  by_cases h1 : s < nx
  · have e : put win nx f k s v = ⟨f, nx, k, [], 271⟩ := by unfold put; rw [if_pos (.inl h1)]
    rw [e]
    have p1 := eq_true h1
    clear h1 e hsb
    go_enter Try.func11, Try.ntmps11
    go_wp2_with fail
    go_ret2
    exact ⟨⟨_, rfl, Kd.R_nil _ _ _ _ _⟩, S0.out.mono (Nat.le_succ _), Chg.refl _ _⟩
  have p1 := eq_false h1
  cases hf : (f s).isSome
  case true =>
    have e : put win nx f k s v = ⟨f, nx, k, [], 271⟩ := by unfold put; rw [if_pos (.inr hf)]
    rw [e]
    have HF := Aside0.mk hf
    clear h1 e hsb hf
    go_enter Try.func11, Try.ntmps11
    go_wp2_with (first | (go_at_call 15; (with_reducible refine (has_calls w S0.out s HWS.out).mono ?_); rintro e_ w1 ⟨rfl, hb_⟩; replace hb_ := below_eq hb_; have B1 := Aside0.mk hb_; clear hb_; rw [HF.out]))
    go_ret2
    exact ⟨⟨_, rfl, Kd.R_nil _ _ _ _ _⟩, (S0.out.below B1.out).mono (Nat.le_succ _), Chg.of_below B1.out⟩
  have HF := Aside0.mk hf
  have e1 : wrap64 (s - nx) = s - nx := by unfold wrap64; omega
  have e2 : IntKind.i64.wrap (s - nx) = s - nx := by rw [IntKind.wrap_i64]; omega
  by_cases h2 : win ≤ s - nx
  · have e : put win nx f k s v = ⟨f, nx, k, [], 272⟩ := by unfold put; rw [if_neg (by rw [hf]; simp; omega), if_pos (by omega)]
    rw [e]
    have p2 := eq_true h2
    clear h1 h2 e hsb hf
    go_enter Try.func11, Try.ntmps11
    go_upto_region 3 with (first | (go_at_call 15; (with_reducible refine (has_calls w S0.out s HWS.out).mono ?_); rintro e_ w1 ⟨rfl, hb_⟩; replace hb_ := below_eq hb_; have B1 := Aside0.mk hb_; have S1 := Aside0.mk (S0.out.below hb_); clear hb_; rw [HF.out]))
    have d0 : w1.cell? ⟨g, 0, none⟩ = some (.int .i64 win) := (blk_cell S1.out.blk 0).trans rfl
    have d1 : w1.cell? ⟨g, 1, none⟩ = some (.int .i64 nx) := (blk_cell S1.out.blk 1).trans rfl
    go_quiet (fail)
    go_wp2_with fail
    go_ret2
    exact ⟨⟨_, rfl, Kd.R_nil _ _ _ _ _⟩, (S1.out.below (pw_below_drewN (Below.refl _ _) _)).mono (Nat.le_succ _), Chg.drewN_ (Chg.of_below B1.out) _⟩
  have hfn : f s = none := by
    cases e : f s with
    | none => rfl
    | some v => rw [e] at hf; cases hf
  have e : put win nx f k s v = ⟨(drain (k + 1) (upd f s (some v)) nx).1, (drain (k + 1) (upd f s (some v)) nx).2.1, k + 1 - (drain (k + 1) (upd f s (some v)) nx).2.2.length, (drain (k + 1) (upd f s (some v)) nx).2.2, 0⟩ := by
    unfold put; rw [if_neg (by rw [hf]; simp; omega), if_neg (by omega)]
  obtain ⟨f1, hf1⟩ : ∃ f1, f1 = upd f s (some v) := ⟨_, rfl⟩
  rw [← hf1] at e
  obtain ⟨FE, hFE⟩ : ∃ F, F = drain (k + 1) f1 nx := ⟨_, rfl⟩
  rw [← hFE] at e
  rw [e]
  have HF1 := Aside0.mk hf1
  have HFE := Aside0.mk hFE
  clear hf1 hFE
  have p2 := eq_false h2
  have HFN := Aside0.mk hfn
  clear h1 h2 e hsb hf hfn
  go_enter Try.func11, Try.ntmps11
  go_upto_region 3 with (first | (go_at_call 15; (with_reducible refine (has_calls w S0.out s HWS.out).mono ?_); rintro e_ w1 ⟨rfl, hb_⟩; replace hb_ := below_eq hb_; have B1 := Aside0.mk hb_; have S1 := Aside0.mk (S0.out.below hb_); clear hb_; rw [HF.out]))
  have d0 : w1.cell? ⟨g, 0, none⟩ = some (.int .i64 win) := (blk_cell S1.out.blk 0).trans rfl
  have d1 : w1.cell? ⟨g, 1, none⟩ = some (.int .i64 nx) := (blk_cell S1.out.blk 1).trans rfl
  go_quiet (fail)
  have S2 : Aside0 (BS (w1.drewN nq) g bm n win nx f k) := ⟨S1.out.below (pw_below_drewN (Below.refl _ _) _)⟩
  have C2 : Aside0 (Chg (fun b => b = g ∨ b = bm) w (w1.drewN nq)) := ⟨Chg.drewN_ (Chg.of_below B1.out) _⟩
  have LG := Aside0.mk S0.out.lt
  have S0n : Aside0 (k ≤ n) := ⟨S0.out.size⟩
  clear c0 c1 c2 d0 d1 S0 S1 B1
  generalize w1.drewN nq = w2 at S2 C2 ⊢
  obtain ⟨D, hD, hH⟩ := S2.out.map
  have c2 : w2.cell? ⟨g, 2, none⟩ = some (.map (some bm)) := (blk_cell S2.out.blk 2).trans rfl
  have HD := Aside0.mk hD
  have HH := Aside0.mk hH
  have hkey := keyOf_int_mk Try.underlying3 HWS.out
  have HK := Aside0.mk hkey
  have hmx : n < maxLen := by unfold maxLen; omega
  clear hD hH hkey
  go_upto_region 6 with (first | (at_mapUpdate; refine wpList_mapUpdate_in _ rfl _ _ _ 50 rfl 3 3 klaw Try.underlying50 _ bm n D rfl HD.out hmx _ _ _ rfl rfl HK.out _ [] (plainElem_int Try.underlying3 HWV.out) ?_; intro w3 hown1 hturn1; have O3 := Aside0.mk hown1; have T3 := Aside0.mk hturn1; clear hown1 hturn1))
  have S3 : Aside0 (BS w3 g bm (n + 1) win nx f1 (k + 1)) := ⟨⟨(T3.out.grown.block g (blk_lt S2.out.blk) (fun e => S2.out.ne (Option.some.inj e))).trans S2.out.blk, ⟨_, O3.out, by rw [HF1.out]; exact HH.out.put v (by simp [WideAt.IsKeyLit]) HFN.out⟩, S2.out.ne⟩⟩
  have C3 : Aside0 (Chg (fun b => b = g ∨ b = bm) w w3) := ⟨C2.out.trans (turned_chg T3.out (.inr rfl))⟩
  clear c2 S2 C2 HD HH O3 T3 hmx
  have HLG := LG
  go_upto_region 7 with fail
  go_loopw [8] (fun s8 wr => ∃ (pre : List Int) (f' : Hd Int) (k' : Nat), pre.length + k' = k + 1 ∧ (∃ A c, s8 = .slice A pre.length c) ∧ Aside0 (FE = ((drain k' f' (nx + pre.length)).1, (drain k' f' (nx + pre.length)).2.1, pre ++ (drain k' f' (nx + pre.length)).2.2)) ∧ Aside0 (Kd.R (Kd.int .i64) 3 wr w.heap.size (fun _ => True) s8 pre) ∧
    Aside0 (BS wr g bm (n + 1) win (nx + pre.length) f' k') ∧ Aside0 (Chg (fun b => b = g ∨ b = bm) w wr)) (fun s8 _ => k + 1 - lenV s8)
  case atStart => exact ⟨[], f1, k + 1, by simp, ⟨none, 0, rfl⟩, ⟨by simpa using HFE.out⟩, ⟨Kd.R_nil _ _ _ _ _⟩, ⟨by simpa using S3.out⟩, C3⟩
  case round =>
    obtain ⟨pre, f', k', hk', ⟨A, c, rfl⟩, HE, HR, SR, CR⟩ := hrel
    have hkn := Aside0.mk hk'
    have hsz := S0n.out
    clear S3 C3 hk'
    obtain ⟨m, hm⟩ : ∃ m : Int, m = nx + pre.length := ⟨_, rfl⟩
    have hmb : 0 ≤ m ∧ m < 3000000 := by have := hkn.out; omega
    rw [← hm] at HE SR
    have HM := Aside0.mk hm
    clear hm
    have hwm : (Lit.int .i64 m).wf = true := wf_i64 (by omega)
    have HWM := Aside0.mk hwm
    have e3 : wrap64 (m + 1) = m + 1 := by unfold wrap64; omega
    have e4 : IntKind.i64.wrap (m + 1) = m + 1 := by rw [IntKind.wrap_i64]; omega
    have y1 : wr.cell? ⟨g, 1, none⟩ = some (.int .i64 m) := (blk_cell SR.out.blk 1).trans rfl
    clear hwm hsz
    cases hf' : f' m with
    | none =>
      have HF' := Aside0.mk hf'
      clear hf'
      go_wp2_with (first | (go_at_call 15; (with_reducible refine (has_calls wr SR.out m HWM.out).mono ?_); rintro e_ w4 ⟨rfl, hb_⟩; replace hb_ := below_eq hb_; have B4 := Aside0.mk hb_; clear hb_; rw [HF'.out, Option.isSome_none]))
      go_ret2
      have E := HE.out
      rw [drain_none HF'.out] at E
      simp only [List.append_nil] at E
      rw [E]
      refine ⟨⟨_, rfl, Kd.R_below HR.out B4.out⟩, ?_, CR.out.trans (Chg.of_below B4.out)⟩
      have hk2 : k + 1 - pre.length = k' := by have := hkn.out; omega
      dsimp only
      rw [hk2]
      exact SR.out.below B4.out
    | some u =>
      have HF' := Aside0.mk hf'
      clear hf'
      go_upto_region 8 with (first | (go_at_call 15; (with_reducible refine (has_calls wr SR.out m HWM.out).mono ?_); rintro e_ w4 ⟨rfl, hb_⟩; replace hb_ := below_eq hb_; have B4 := Aside0.mk hb_; clear hb_; rw [HF'.out, Option.isSome_some]))
      have S4 := Aside0.mk (SR.out.below B4.out)
      have R4 := Aside0.mk (Kd.R_below HR.out B4.out)
      have C4 := Aside0.mk (CR.out.trans (Chg.of_below B4.out))
      clear SR HR CR B4
      have x1 : w4.cell? ⟨g, 1, none⟩ = some (.int .i64 m) := (blk_cell S4.out.blk 1).trans rfl
      have x2 : w4.cell? ⟨g, 2, none⟩ = some (.map (some bm)) := (blk_cell S4.out.blk 2).trans rfl
      obtain ⟨D4, hD4, hH4⟩ := S4.out.map
      have hkm := keyOf_int_mk Try.underlying3 HWM.out
      have HKM := Aside0.mk hkm
      have lk : Sem.run Try.prog (Instr.lookup 50 (.map (some bm)) (.int .i64 m) false) w4 = .ok (.int .i64 u) w4 := by
        obtain ⟨c9, h1, h2, h3⟩ := hD4.lookup_int klaw Try.underlying50 Try.underlying3 (zeroI _) hkm
        have h4 := hH4.val m u HF'.out
        rw [h2] at h4
        injection h4 with h4
        injection h4 with _ h4
        rw [← h4]; exact h1
      have lk1 : Sem.run Try.prog (Instr.lookup 50 (.map (some bm)) (.int .i64 m) false) w4.drew = .ok (.int .i64 u) w4.drew := by
        obtain ⟨c9, h1, h2, h3⟩ := hD4.drew.lookup_int klaw Try.underlying50 Try.underlying3 (zeroI _) hkm
        have h4 := hH4.val m u HF'.out
        rw [h2] at h4
        injection h4 with h4
        injection h4 with _ h4
        rw [← h4]; exact h1
      have LL4 : Aside0 ((pre.length + 1) * 8 ≤ 140737488355328) := ⟨by have := hkn.out; have := S0n.out; omega⟩
      have BS4 : Aside0 (w.heap.size ≤ w4.heap.size) := ⟨C4.out.size⟩
      clear hD4 hH4 hkm
      go_region_law (refine Kd.R_append_rows_step (Kd.int .i64) (w0 := w4) w.heap.size rfl (.tmp 45) (.tmp 55) 29 3 (.int .i64 0) 8 rfl Try.underlying29 info3 rfl (by decide) (by omega) (.slice A pre.length c) pre [u] _ _ _ (fun _ => True) (fun _ => False) rfl rfl (by repeat (first | exact R4.out | (with_reducible refine Kd.R_alloc ?_ _) | (with_reducible refine Kd.R_drew ?_))) (by show Kd.C (Kd.int .i64) _ _ _ _; repeat (first | exact oneC _ _ | (with_reducible refine Kd.C_drew ?_))) (fun _ _ h => h) (fun _ hk => hk.elim) (fun _ _ => trivial) ((Below.refl w.heap.size w4).alloc BS4.out _).drew (by have := BS4.out; simp; omega) LL4.out ?_; intro v9 w9 ho_ hb_ hg_ hat; have HO9 := Aside0.mk ho_; have HB9 := Aside0.mk hb_; clear ho_ hb_ hg_ hat)
      all_goals
        obtain ⟨A9, c9, rfl⟩ := Kd.R_slice HO9.out
        have C9 := chg_base HB9.out
        have S9 := Aside0.mk (S4.out.chg C9 (by have := LG.out; omega) (by have := LG.out; omega))
        have CC9 : Aside0 (Chg (fun b => b = g ∨ b = bm) w w9) := ⟨⟨C9.os.trans C4.out.os, C9.tape.trans C4.out.tape, C9.output.trans C4.out.output, Nat.le_trans C4.out.size C9.size, fun b hb ho => (C9.block b (Nat.lt_of_lt_of_le hb C4.out.size) (by omega)).trans (C4.out.block b hb ho)⟩⟩
        clear C9 x1 x2 lk lk1 S4 R4 C4 HB9
        obtain ⟨D9, hD9, hH9⟩ := S9.out.map
        have HD9 := Aside0.mk hD9
        have HH9 := Aside0.mk hH9
        clear hD9 hH9
        have x1 : w9.cell? ⟨g, 1, none⟩ = some (.int .i64 m) := (blk_cell S9.out.blk 1).trans rfl
        have x2 : w9.cell? ⟨g, 2, none⟩ = some (.map (some bm)) := (blk_cell S9.out.blk 2).trans rfl
        go_upto_region 9 with fail
        go_region_law (refine step_delete rfl (.tmp 60) (.tmp 64) 50 3 rfl 3 klaw Try.underlying50 _ bm (n + 1) D9 rfl (by first | exact HD9.out.drew | exact HD9.out) _ _ rfl HKM.out ?_; intro w6 ho_ ht_; have HO6 := Aside0.mk ho_; have HT6 : Aside0 (Chg (fun b => b = bm) w9 w6) := ⟨(Chg.drew_ (Chg.refl _ w9)).trans (turned_chg ht_ rfl)⟩; clear ho_ ht_)
        all_goals
          obtain ⟨k9, hk9, hdel9⟩ := HH9.out.del HF'.out
          have b6 := (HT6.out.blk S9.out.blk S9.out.ne)
          have HB6 := Aside0.mk b6
          have z1 : w6.cell? ⟨g, 1, none⟩ = some (.int .i64 m) := (blk_cell b6 1).trans rfl
          have zf : w6.frozen? ⟨g, 1, none⟩ = false := blk_frozen b6 1
          have HK9 := Aside0.mk hk9
          have HDEL := Aside0.mk hdel9
          clear b6 x1 x2 hk9 hdel9
          go_wp2_with fail
          go_roundw
          case rel =>
            have hk10 := hkn.out
            have hk11 := HK9.out
            have hl : (pre ++ [u]).length = pre.length + 1 := by simp
            refine ⟨pre ++ [u], upd f' m none, k9, by rw [hl]; omega, ⟨A9, c9, by rw [hl]⟩, ⟨?_⟩, ?_, ⟨?_⟩, ⟨?_⟩⟩
            · have E := HE.out
              rw [hk11, drain_some HF'.out] at E
              rw [hl, show nx + ((pre.length + 1 : Nat) : Int) = m + 1 by have := HM.out; omega, E]
              simp
            · refine ⟨?_⟩
              rw [← hl]
              exact R_chg HO9.out ((HT6.out.mono (ok' := fun b => b = g ∨ b = bm) (fun _ _ h => .inr h)).set_ (.inl rfl) _) (fun b hb => by have := LG.out; omega)
            · rw [hl, show nx + ((pre.length + 1 : Nat) : Int) = m + 1 by have := HM.out; omega]
              exact ⟨blk_put HB6.out 1 _ rfl, ⟨_, HO6.out.setCell (fun e => S9.out.ne e.symm) _, HDEL.out⟩, S9.out.ne⟩
            · exact (CC9.out.trans (HT6.out.mono (fun _ _ h => .inr h))).set_ (.inl rfl) _
          case measure => have := hkn.out; have := HK9.out; simp [lenV]; omega
/-- The same, for walks: the world's name stays. -/
theorem nextq (w : World) (g bm n : Nat) (win nx : Int) (f : Hd Int) (k : Nat) (h : BS w g bm n win nx f k) : Calls Try.prog 13 #[.pointer (some ⟨g, 0, none⟩)] w fun e w' => e = .returned (.int .i64 nx) ∧ w = w' := (next_calls w h).mono fun _ _ ⟨a, b⟩ => ⟨a, b.symm⟩
theorem heldq (w : World) (g bm n : Nat) (win nx : Int) (f : Hd Int) (k : Nat) (h : BS w g bm n win nx f k) : Calls Try.prog 14 #[.pointer (some ⟨g, 0, none⟩)] w fun e w' => e = .returned (.int .i64 (k : Int)) ∧ w = w' := (held_calls w h).mono fun _ _ ⟨a, b⟩ => ⟨a, b.symm⟩
theorem hasq (w : World) (g bm n : Nat) (win nx : Int) (f : Hd Int) (k : Nat) (h : BS w g bm n win nx f k) (s : Int) (hs : (Lit.int .i64 s).wf = true) : Calls Try.prog 15 #[.pointer (some ⟨g, 0, none⟩), .int .i64 s] w fun e w' => e = .returned (.bool (f s).isSome) ∧ w = w' := (has_calls w h s hs).mono fun _ _ ⟨a, b⟩ => ⟨a, b.symm⟩
theorem numq (e : Int) (w : World) : Calls Try.prog 7 #[.int .i64 e] w fun x w' => x = .returned (.int .i64 e) ∧ w = w' := by
  go_enter Try.func7, Try.ntmps7
  go_wp2_with fail
  go_ret
  exact ⟨rfl, rfl⟩
end Go.Proofs.Ytmbljhkblmdkoaa.Mg
