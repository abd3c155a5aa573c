/- audit.Judge: from, walked. -/
import Derived.Test.YtbjoinocajobhaaJuaZAuditSpans
import Derived.Test.YtbjoinocajobhaaKeep0ZAuditSpans
import Derived.Maps.OwnSet
import Derived.RegionTactic
import Derived.ChangeAlike
import Derived.BigRegion
import Derived.DeepKeys4
import Derived.Deep.CutRange
namespace Go.Proofs.Ytbjoinocajobhaa.Ju
set_option linter.unusedVariables false
set_option linter.unusedSimpArgs false
open Go.RowKit Go.Proofs.Ytbjoinocajobhaa.Q Go.Proofs.YtbjoinocajobhaaW.PrintWords Go.Proofs.YtbjoinocajobhaaW.PrintLast Go.Proofs.Ytbjoinocajobhaa.Keep Go.Maps
/-- A place in the search, as a value. -/
def tv (m : Nat) (q : Qs) : Value := .agg #[.int .u32 (m : Int), .int .i64 q.i, .int .i64 q.o, .bool q.cl, .bool q.ca]
theorem klaw : Keyed Try.prog 70 := Keyed.of_law (deep_law_laid (m := 5) (by kernel_rfl) (by decide) (of_decide_eq_true (by kernel_rfl)) (by kernel_rfl) (by kernel_rfl))
theorem key_of {m : Nat} {q : Qs} (hm : m < 4294967296) (hq : Wq q) : ∃ kl, keyOf Try.prog 70 (tv m q) = some kl := by
  have h1 : (Lit.int .u32 (m : Int)).wf = true := by
    show (decide (IntKind.u32.min ≤ (m : Int)) && decide ((m : Int) ≤ IntKind.u32.max)) = true
    rw [show IntKind.u32.min = 0 from rfl, show IntKind.u32.max = 4294967295 from rfl]
    simp; omega
  have hkt : Try.prog.keyType 70 = true := by kernel_rfl
  have c0 : Try.prog.cellsOf 70 = 5 := by kernel_rfl
  have c1 : Try.prog.cellsOf 68 = 4 := by kernel_rfl
  have c2 : Try.prog.cellsOf 3 = 1 := by kernel_rfl
  have c3 : Try.prog.cellsOf 4 = 1 := by kernel_rfl
  have c4 : Try.prog.cellsOf 66 = 1 := by kernel_rfl
  have hform : (tv m q).formed Try.prog 70 = true := by
    simp [tv, Value.formed, Try.underlying70, c0]
  obtain ⟨N, hN⟩ : ∃ N, Try.prog.types.size + 1 = N + 1 + 1 + 1 := ⟨Try.prog.types.size - 2, by
    have : 3 ≤ Try.prog.types.size := of_decide_eq_true (by kernel_rfl)
    omega⟩
  unfold keyOf
  simp only [Try.underlying70, hkt, hform, Bool.and_self, if_true, hN]
  simp [tv, Value.cells, Program.keyLits, Try.underlying70, Try.underlying68, Try.underlying3, Try.underlying4, Try.underlying66, c0, c1, c2, c3, c4, h1, hq.1, hq.2]
  rw [if_pos (by decide)]
  exact ⟨_, rfl⟩
theorem key_inj {m m' : Nat} {q q' : Qs} {kl : Lit} (h : keyOf Try.prog 70 (tv m q) = some kl) (h' : keyOf Try.prog 70 (tv m' q') = some kl) : m = m' ∧ q = q' := by
  have e := klaw.inj h h'
  unfold tv at e
  simp only [Value.agg.injEq, Array.mk.injEq, List.cons.injEq, Value.int.injEq, Value.bool.injEq, true_and, and_true] at e
  obtain ⟨e1, e2, e3, e4, e5⟩ := e
  refine ⟨by omega, ?_⟩
  cases q; cases q'; simp_all
/-- The state of the search. -/
structure SS (B0 : Nat) (W : World) (g bm : Nat) (A : Option Addr) (c : Nat) (l : List S32) (v : Value) (ord : List Int) (n : Nat) (D : DataW Unit) : Prop where
  blk : W.heap[g]? = some (.cells #[.slice A l.length c, .map (some bm), v] 64 (0, 0))
  row : ∀ W' : World, (∀ k, k < B0 → W'.heap[k]? = W.heap[k]?) → Kd.C k32 W' A l.length l
  map : W.ownsMap Try.prog 70 unitElem bm n D
  ord : Kd.R (Kd.int .i64) 3 W B0 (fun k => k ≠ g ∧ k ≠ bm) v ord
  hg : B0 ≤ g
  hbm : B0 ≤ bm
  ne : g ≠ bm
  snd : ∀ m q kl, keyOf Try.prog 70 (tv m q) = some kl → Maps.has D kl = true → C l m q = none
theorem SS.below {B0 : Nat} {W W1 : World} {g bm : Nat} {A : Option Addr} {c : Nat} {l : List S32} {v : Value} {ord : List Int} {n : Nat} {D : DataW Unit} (h : SS B0 W g bm A c l v ord n D) (hb : Below W.heap.size W W1) : SS B0 W1 g bm A c l v ord n D :=
  ⟨(hb.block g (blk_lt h.blk)).trans h.blk, fun W' hW => h.row W' fun k hk => (hW k hk).trans (hb.block k (Nat.lt_trans (Nat.lt_of_lt_of_le hk h.hg) (blk_lt h.blk))),
    h.map.kept (row := none) ⟨hb.os, hb.tape, hb.output, hb.size, fun k hk _ => hb.block k hk⟩ (by simp), Kd.R_below h.ord hb, h.hg, h.hbm, h.ne, h.snd⟩
theorem SS.C {B0 : Nat} {W : World} {g bm : Nat} {A : Option Addr} {c : Nat} {l : List S32} {v : Value} {ord : List Int} {n : Nat} {D : DataW Unit} (h : SS B0 W g bm A c l v ord n D) : Kd.C k32 W A l.length l := h.row W fun _ _ => rfl
theorem SS.mono {B0 : Nat} {W : World} {g bm : Nat} {A : Option Addr} {c : Nat} {l : List S32} {v : Value} {ord : List Int} {n n' : Nat} {D : DataW Unit} (h : SS B0 W g bm A c l v ord n D) (hn : n ≤ n') : SS B0 W g bm A c l v ord n' D :=
  ⟨h.blk, h.row, h.map.mono hn, h.ord, h.hg, h.hbm, h.ne, h.snd⟩
theorem zeroU (w : World) : (zeroValue 89).run Try.prog w = .ok (.agg #[]) w := by kernel_rfl
theorem laid4 {w0 W : World} {gb : Nat} (hb : Below w0.heap.size w0 W) (hx : W.heap[gb]? = some (.cells #[.int .i64 0, .int .i64 0, .bool false, .bool false] 68 (0, 0))) (ge : w0.heap.size ≤ gb) (x y : Int) (b d : Bool) :
    ∃ W', (((W.setCell ⟨gb, 0, none⟩ (.int .i64 x)).setCell ⟨gb, 1, none⟩ (.int .i64 y)).setCell ⟨gb, 2, none⟩ (.bool b)).setCell ⟨gb, 3, none⟩ (.bool d) = W' ∧
      Below w0.heap.size w0 W' ∧ W'.heap[gb]? = some (.cells #[.int .i64 x, .int .i64 y, .bool b, .bool d] 68 (0, 0)) ∧ (∀ k, k ≠ gb → W'.heap[k]? = W.heap[k]?) := by
  refine ⟨_, rfl, ?_, ?_, ?_⟩
  · exact (((hb.setCell ge _).setCell ge _).setCell ge _).setCell ge _
  · exact blk_put (blk_put (blk_put (blk_put hx 0 _ rfl) 1 _ rfl) 2 _ rfl) 3 _ rfl
  · intro k hk
    rw [Below.heap_setCell _ _ _ _ hk, Below.heap_setCell _ _ _ _ hk, Below.heap_setCell _ _ _ _ hk, Below.heap_setCell _ _ _ _ hk]
theorem wq_call {q : Qs} (h : Wq q) (kind : Int) : Wq (callQ q kind).2.2.1 := by
  have hw : ∀ x : Int, (Lit.int .i64 (wrap64 x)).wf = true := fun x => wrap64_wf x
  unfold callQ
  repeat' split
  all_goals first | exact h | exact ⟨hw _, h.2⟩ | exact ⟨h.1, hw _⟩
def bad (okk : Bool) (x : S32) (code num : Int) : Bool := !okk || (ended x && (code != x.f3 || num != x.f4))
theorem own_ge {e B0 : Nat} {W : World} {ok : Nat → Prop} {v : Value} {xs : List Int} (h : Kd.R (Kd.int .i64) e W B0 ok v xs) (k : Nat) (hk : v.ownBlock = some k) : B0 ≤ k := by
  obtain ⟨inner, ho⟩ := Kd.R_own h
  exact own_base ho k hk
theorem SS.put {B0 : Nat} {W w9 : World} {g bm : Nat} {A : Option Addr} {c : Nat} {l : List S32} {v v9 : Value} {ord ord9 : List Int} {n : Nat} {D : DataW Unit} (S : SS B0 W g bm A c l v ord n D)
    (hb : ∀ k, k < W.heap.size → some k ≠ v.ownBlock → w9.heap[k]? = W.heap[k]?) (ho : Kd.R (Kd.int .i64) 3 w9 B0 (fun k => k ≠ g ∧ k ≠ bm) v9 ord9) : SS B0 (w9.setCell ⟨g, 2, none⟩ v9) g bm A c l v9 ord9 n D := by
  have hgW := blk_lt S.blk
  have hg9 : w9.heap[g]? = some (.cells #[.slice A l.length c, .map (some bm), v] 64 (0, 0)) := (hb g hgW (fun e => (S.ord.1 g e.symm).1 rfl)).trans S.blk
  refine ⟨blk_put hg9 2 _ rfl, fun W' hW => S.row W' fun k hk => ?_, ?_, ?_, S.hg, S.hbm, S.ne, S.snd⟩
  · have hk2 : k < W.heap.size := Nat.lt_trans (Nat.lt_of_lt_of_le hk S.hg) hgW
    rw [hW k hk, Below.heap_setCell _ _ _ _ (by have := S.hg; show k ≠ g; omega), hb k hk2 (fun e => by have := own_ge S.ord k e.symm; omega)]
  · obtain ⟨es, clock, h1, h2⟩ := S.map
    refine ⟨es, clock, ?_, h2⟩
    rw [Below.heap_setCell _ _ _ _ (show bm ≠ g from S.ne.symm), hb bm S.map.lt (fun e => (S.ord.1 bm e.symm).2 rfl)]
    exact h1
  · exact Kd.R_move ho fun k hk => Below.heap_setCell _ _ _ _ hk.1
/-- What a search may write. -/
def Wr (g bm : Nat) (v : Value) (k : Nat) : Prop := k = g ∨ k = bm ∨ v.ownBlock = some k
theorem chg_app {g bm T : Nat} {v : Value} {W W1 w9 : World} {row : Option Nat} (h : Chg (Wr g bm v) W W1) (hg : W1.grownBy w9 row) (hr : ∀ k, row = some k → v.ownBlock = some k ∨ T < k) (hT : T = W.heap.size) : Chg (Wr g bm v) W w9 :=
  ⟨hg.os.trans h.os, hg.tape.trans h.tape, hg.output.trans h.output, Nat.le_trans h.size hg.size, fun k hk ho => by
    refine (hg.block k (Nat.lt_of_lt_of_le hk h.size) (fun e => ?_)).trans (h.block k hk ho)
    rcases hr k e.symm with h1 | h1
    · exact ho (.inr (.inr h1))
    · omega⟩
theorem wrap_two {j : Nat} (h : j < 32) : IntKind.u32.wrap (2 ^ j) = ((2 ^ j : Nat) : Int) := by
  have h1 : (2 : Nat) ^ j < 2 ^ 32 := Nat.pow_lt_pow_right (by omega) h
  have e : (2 : Int) ^ j = ((2 ^ j : Nat) : Int) := by norm_cast
  rw [IntKind.wrap_u32, e]
  generalize (2 : Nat) ^ j = p at *
  omega
theorem chg_comp {g bm T : Nat} {v v9 : Value} {W W1 w9 : World} (h : Chg (Wr g bm v) W W1) (hg : Chg (Wr g bm v9) W1 w9) (hr : ∀ k, v9.ownBlock = some k → v.ownBlock = some k ∨ T < k) (hT : T = W.heap.size) : Chg (Wr g bm v) W w9 :=
  ⟨hg.os.trans h.os, hg.tape.trans h.tape, hg.output.trans h.output, Nat.le_trans h.size hg.size, fun k hk ho => by
    refine (hg.block k (Nat.lt_of_lt_of_le hk h.size) (fun e => ?_)).trans (h.block k hk ho)
    rcases e with e | e | e
    · exact ho (.inl e)
    · exact ho (.inr (.inl e))
    · rcases hr k e with h1 | h1
      · exact ho (.inr (.inr h1))
      · omega⟩
theorem SS.stored {B0 : Nat} {W WM : World} {g bm : Nat} {A : Option Addr} {c : Nat} {l : List S32} {v : Value} {ord : List Int} {n m : Nat} {q : Qs} {D : DataW Unit} {kl : Lit} {d : DataW Unit} (S : SS B0 W g bm A c l v ord n D) (hg : W.grownBy WM (some bm))
    (ho : WM.ownsMap Try.prog 70 unitElem bm (n + 1) (D.put kl d)) (hk : keyOf Try.prog 70 (tv m q) = some kl) (hc : Ju.C l m q = none) : SS B0 WM g bm A c l v ord (n + 1) (D.put kl d) := by
  refine ⟨(hg.block g (blk_lt S.blk) (fun e => S.ne (Option.some.inj e))).trans S.blk, fun W' hW => S.row W' fun k hk => ?_, ho, Kd.R_grown S.ord hg (fun k hk e => hk.2 (Option.some.inj e)), S.hg, S.hbm, S.ne, fun m2 q2 kl2 h1 h2 => ?_⟩
  · rw [hW k hk, hg.block k (Nat.lt_trans (Nat.lt_of_lt_of_le hk S.hg) (blk_lt S.blk)) (fun e => by have := S.hbm; have := Option.some.inj e; omega)]
  · by_cases he : kl2 = kl
    · subst he
      obtain ⟨rfl, rfl⟩ := key_inj h1 hk
      exact hc
    · rw [Maps.has_put_other he] at h2
      exact S.snd m2 q2 kl2 h1 h2
theorem branch_bad {l : List S32} {m j : Nat} {q q' : Qs} {code num : Int} {okk : Bool} (hM : may l m j = true) (hc : callQ q (sp l j).f0 = (code, num, q', okk)) (hb : bad okk (sp l j) code num = true) : branch l m q j = none := by
  unfold branch step
  rw [if_pos hM, hc, if_neg]
  · rfl
  · unfold bad at hb
    cases okk <;> cases he : ended (sp l j) <;> simp_all
theorem branch_good {l : List S32} {m j : Nat} {q q' : Qs} {code num : Int} {okk : Bool} (hM : may l m j = true) (hc : callQ q (sp l j).f0 = (code, num, q', okk)) (hb : bad okk (sp l j) code num = false) : branch l m q j = (C l (m ||| 2 ^ j) q').map fun r => (j : Int) :: r := by
  unfold branch step
  rw [if_pos hM, hc, if_pos]
  · rfl
  · unfold bad at hb
    cases okk <;> cases he : ended (sp l j) <;> simp_all
theorem infoInt : (Try.prog.info? 3).map (fun i => (i.zero, i.size, i.bytes)) = some (some (.int .i64 0), 1, 8) := by kernel_rfl
theorem free_step (m j : Nat) : free m j ≤ free m (j + 1) := by
  show free m j ≤ free m j + _
  omega
theorem branch_may {l : List S32} {m j : Nat} {q : Qs} (h : may l m j = false) : branch l m q j = none := by
  unfold branch step
  rw [if_neg (by rw [h]; simp)]; rfl
structure FromPost (B0 : Nat) (W : World) (g bm : Nat) (A : Option Addr) (c : Nat) (l : List S32) (v : Value) (ord : List Int) (n : Nat) (m : Nat) (q : Qs) (e : Ending) (W' : World) : Prop where
  out : e = .returned (.bool (Ju.C l m q).isSome)
  chg : Chg (Wr g bm v) W W'
  ss : ∃ v' D', SS B0 W' g bm A c l v' (ord ++ (Ju.C l m q).getD []) n D' ∧ ∀ k, v'.ownBlock = some k → v.ownBlock = some k ∨ W.heap.size ≤ k
set_option maxHeartbeats 4000000 in
set_option maxRecDepth 100000 in
theorem from_calls (B0 g bm : Nat) (A : Option Addr) (c : Nat) (l : List S32) (hl : l.length ≤ 14) : ∀ (fu : Nat) (W : World) (v : Value) (ord : List Int) (n : Nat) (D : DataW Unit) (m : Nat) (q : Qs),
    SS B0 W g bm A c l v ord n D → free m l.length = fu → m < 2 ^ l.length → Wq q → n + 15 ^ fu < 2000000000000000000 → ord.length + fu ≤ 1000 →
    Calls Try.prog 27 #[.pointer (some ⟨g, 0, none⟩), tv m q] W (FromPost B0 W g bm A c l v ord (n + 15 ^ fu) m q) := by
  intro fu
  induction fu using Nat.strongRecOn with
  | ind fu ih =>
  intro W v ord n D m q hS hfu hm hq hn ho
  have HS := Aside0.mk hS
  have HIH := Aside0.mk ih
  have hm32 : m < 4294967296 := by have := Nat.pow_le_pow_right (n := 2) (by omega) hl; omega
  clear hS ih
  unfold tv
  go_enter Try.func27, Try.ntmps27
  go_upto_region 2 with (first
    | (go_at_call 34; (with_reducible refine (over_calls W1 g A c l m ((blk_cell S1.out.blk 0).trans rfl) S1.out.C hm32 hl).mono ?_); rintro e_ W2 ⟨rfl, hd_⟩; have T2 := Aside0.mk ((hd_.block T (blk_lt T1.out)).trans T1.out); have S2 := Aside0.mk (S1.out.below hd_); have B2 := Aside0.mk (below_step B1.out hd_); clear hd_)
    | ((with_reducible refine gate_dst (N := 3) rfl ?_); refine box_event ?hg (N := 3) ?hd (cs := #[.int .u32 (m : Int), .int .i64 q.i, .int .i64 q.o, .bool q.cl, .bool q.ca]) (t := 70) ?hr ?_; (case hd => rfl); (case hg => rfl); (case hr => first | (go_simp; done) | (go_simp; rfl)); intro T hT W1 hbox hb; have B1 := Aside0.mk hb; have T1 := Aside0.mk hbox; have ET := Aside0.mk hT; have S1 := Aside0.mk (HS.out.below hb); have t0 : W1.cell? ⟨T, 0, none⟩ = some (.int .u32 (m : Int)) := (blk_cell T1.out 0).trans rfl; clear hb hbox hT))
  · have hov : over l m = true := by assumption
    go_wp2_with fail
    go_ret
    have hC := C_over q hov
    have c2 : Chg (Wr g bm v) W W2 := Chg.of_below B2.out
    exact ⟨by rw [hC, hov]; rfl, c2, v, D, by rw [hC]; simpa using SS.mono S2.out (Nat.le_add_right _ _), fun k hk => .inl hk⟩
  · have hov : over l m = false := by assumption
    obtain ⟨kl, hkl⟩ := key_of hm32 hq
    obtain ⟨TC, hTC⟩ : ∃ o : Obj, o = .cells #[.int .u32 (m : Int), .int .i64 q.i, .int .i64 q.o, .bool q.cl, .bool q.ca] 70 (0, 0) := ⟨_, rfl⟩
    go_cut [5, 6] from 17 to 25 (fun s5 s6 wx => s6 = .bool (Maps.has D kl) ∧ Aside0 (Below W.heap.size W wx) ∧ Aside0 (SS B0 wx g bm A c l v ord n D) ∧ Aside0 (wx.heap[T]? = some (.cells #[.int .u32 (m : Int), .int .i64 q.i, .int .i64 q.o, .bool q.cl, .bool q.ca] 70 (0, 0))))
    case first =>
      have lk : ∀ W' : World, W'.ownsMap Try.prog 70 unitElem bm n D → Sem.run Try.prog (Instr.lookup 62 (.map (some bm)) (.agg #[.int .u32 (m : Int), .int .i64 q.i, .int .i64 q.o, .bool q.cl, .bool q.ca]) true) W' = .ok (.tuple #[.agg #[], .bool (Maps.has D kl)]) W' := by
        intro W' hW
        obtain ⟨v0, ps, h1, h2⟩ := World.ownsMap.look_ok hW klaw Try.underlying62 (zeroU W') (zd := .agg []) (zp := []) unitElem_mk hkl
        obtain ⟨rfl, _⟩ := unitElem_inv h2
        exact h1
      have lk1 := lk W2.drew S2.out.map.drew
      have lk2 := lk (W2.alloc (.cells #[] 89)) (S2.out.map.alloc _)
      have lk3 := lk (W2.alloc (.cells #[] 89)).drew (S2.out.map.alloc _).drew
      have lk4 := lk (W2.drew.alloc (.cells #[] 89)) (S2.out.map.drew.alloc _)
      clear lk
      have z0 : W2.cell? ⟨T, 0, none⟩ = some (.int .u32 (m : Int)) := (blk_cell T2.out 0).trans rfl
      have z1 : W2.cell? ⟨T, 1, none⟩ = some (.int .i64 q.i) := (blk_cell T2.out 1).trans rfl
      have z2 : W2.cell? ⟨T, 2, none⟩ = some (.int .i64 q.o) := (blk_cell T2.out 2).trans rfl
      have z3 : W2.cell? ⟨T, 3, none⟩ = some (.bool q.cl) := (blk_cell T2.out 3).trans rfl
      have z4 : W2.cell? ⟨T, 4, none⟩ = some (.bool q.ca) := (blk_cell T2.out 4).trans rfl
      have y1 : W2.cell? ⟨g, 1, none⟩ = some (.map (some bm)) := (blk_cell S2.out.blk 1).trans rfl
      have aT := (T2.out ▸ (World.grownBy_alloc W2 (.cells #[] 89) none).block T (blk_lt T2.out) (by simp) : (W2.alloc (.cells #[] 89)).heap[T]? = _)
      have aG := (S2.out.blk ▸ (World.grownBy_alloc W2 (.cells #[] 89) none).block g (blk_lt S2.out.blk) (by simp) : (W2.alloc (.cells #[] 89)).heap[g]? = _)
      have a0 : (W2.alloc (.cells #[] 89)).cell? ⟨T, 0, none⟩ = some (.int .u32 (m : Int)) := (blk_cell aT 0).trans rfl
      have a1 : (W2.alloc (.cells #[] 89)).cell? ⟨T, 1, none⟩ = some (.int .i64 q.i) := (blk_cell aT 1).trans rfl
      have a2 : (W2.alloc (.cells #[] 89)).cell? ⟨T, 2, none⟩ = some (.int .i64 q.o) := (blk_cell aT 2).trans rfl
      have a3 : (W2.alloc (.cells #[] 89)).cell? ⟨T, 3, none⟩ = some (.bool q.cl) := (blk_cell aT 3).trans rfl
      have a4 : (W2.alloc (.cells #[] 89)).cell? ⟨T, 4, none⟩ = some (.bool q.ca) := (blk_cell aT 4).trans rfl
      have b1 : (W2.alloc (.cells #[] 89)).cell? ⟨g, 1, none⟩ = some (.map (some bm)) := (blk_cell aG 1).trans rfl
      clear aT aG
      have hu70 := Try.underlying70
      have hu89 := Try.underlying89
      clear T1 S1 B1 t0
      go_region
      all_goals
        go_wp2_with fail
        go_meet
        case rel => exact ⟨rfl, ⟨below_drew (below_alloc B2.out _)⟩, ⟨(S2.out.below ((Below.refl _ _).alloc (Nat.le_refl _) (.cells #[] 89)).drew)⟩, ⟨(((World.grownBy_alloc W2 (.cells #[] 89) none).block T (blk_lt T2.out) (by simp)).trans T2.out)⟩⟩
    case rest =>
      obtain ⟨rfl, B3, S3, T3⟩ := hcut
      clear B2 S2 T2 B1 S1 T1 t0
      cases hD : Maps.has D kl
      case true =>
        go_wp2_with fail
        go_ret
        have hC := S3.out.snd m q kl hkl hD
        exact ⟨by rw [hC]; rfl, Chg.of_below B3.out, v, D, by rw [hC]; simpa using SS.mono S3.out (Nat.le_add_right _ _), fun k hk => .inl hk⟩
      case false =>
        obtain ⟨f, rfl⟩ : ∃ f, fu = f + 1 := by
          cases fu with
          | zero => rw [over_of_free hfu] at hov; cases hov
          | succ f => exact ⟨f, rfl⟩
        have HOV := Aside0.mk hov
        have HHD := Aside0.mk hD
        rw [hov]
        clear hov hD
        have y0 : wc.cell? ⟨g, 0, none⟩ = some (.slice A l.length c) := (blk_cell S3.out.blk 0).trans rfl
        go_upto_region 7 with fail
        clear y0
        have hTv : Aside0 (∀ k, v.ownBlock = some k → k < T) := ⟨fun k hk => by rw [ET.out]; exact Kd.R_lt HS.out.ord k hk⟩
        have hTg : Aside0 (T ≠ g ∧ T ≠ bm) := ⟨by have := blk_lt HS.out.blk; have h2 := HS.out.map.lt; have h3 := ET.out; omega⟩
        go_loopw [32] (fun s32 wr => ∃ (j : Nat) (v' : Value) (D' : DataW Unit), j ≤ l.length ∧ s32 = .int .i64 j ∧ Aside0 (Chg (Wr g bm v) W wr) ∧ Aside0 (SS B0 wr g bm A c l v' ord (n + free m j * 15 ^ f) D') ∧ Aside0 (∀ k, v'.ownBlock = some k → v.ownBlock = some k ∨ T < k) ∧
          Aside0 (wr.heap[T]? = some (.cells #[.int .u32 (m : Int), .int .i64 q.i, .int .i64 q.o, .bool q.cl, .bool q.ca] 70 (0, 0))) ∧ Aside0 (∀ i, i < j → branch l m q i = none)) (fun s32 _ => l.length - (intOf s32).toNat)
        case atStart => exact ⟨0, v, D, Nat.zero_le _, rfl, ⟨Chg.of_below B3.out⟩, ⟨by simpa [free] using S3.out⟩, ⟨fun k hk => .inl hk⟩, T3, ⟨fun i hi => by omega⟩⟩
        case round =>
          obtain ⟨j, v', D', hj, rfl, CG, SR, VR, TR, BR⟩ := hrel
          clear S3 T3 B3
          by_cases hlt : j < l.length
          · obtain ⟨ad, e, h0, h1, h2, h3, h4⟩ := span_at SR.out.C (Below.refl _ _) hlt
            subst e
            have p1 := eq_true (show (0 : Int) ≤ (j : Int) by omega)
            have p2 := eq_true (show (j : Int) < (l.length : Int) by omega)
            have p3 := eq_true (show (j : Int) ≤ 32 by omega)
            go_upto_region 9 with (first | ((with_reducible refine gate_dst (N := 8) rfl ?_); refine box_event ?hg (N := 8) ?hd (cs := #[.int .i64 0, .int .i64 0, .int .i64 0, .int .i64 0, .int .i64 0]) (t := 32) ?hr ?_; (case hd => rfl); (case hg => rfl); (case hr => first | (go_simp; done) | (go_simp; rfl)); intro gb hg w11 hbox hb; have HB1 := Aside0.mk hb; have BX := Aside0.mk hbox; have GE := Aside0.mk (show wr.heap.size ≤ gb by rw [hg]; exact Nat.le_refl _); clear hb hbox hg; have z0 := (blk_cell BX.out 0); have z1 := (blk_cell BX.out 1); have z2 := (blk_cell BX.out 2); have z3 := (blk_cell BX.out 3); have z4 := (blk_cell BX.out 4); have f0 := blk_frozen BX.out 0; have f1 := blk_frozen BX.out 1; have f2 := blk_frozen BX.out 2; have f3 := blk_frozen BX.out 3; have f4 := blk_frozen BX.out 4))
            obtain ⟨W8, hW8, B8, X8, -, -⟩ := laid5 HB1.out BX.out GE.out (sp l j)
            rw [hW8]
            clear hW8 z0 z1 z2 z3 z4 f0 f1 f2 f3 f4 h0 h1 h2 h3 h4 BX HB1
            have CG8 : Aside0 (Chg (Wr g bm v) W W8) := ⟨CG.out.trans (Chg.of_below B8)⟩
            have S8 := Aside0.mk (SR.out.below B8)
            have T8 := Aside0.mk ((B8.block T (blk_lt TR.out)).trans TR.out)
            have HX8 := Aside0.mk X8
            clear CG SR TR X8 B8
            have z0 : W8.cell? ⟨T, 0, none⟩ = some (.int .u32 (m : Int)) := (blk_cell T8.out 0).trans rfl
            cases hM : may l m j
            case false =>
              go_wp2_with (first | (go_at_call 35; (with_reducible refine (may_calls W8 g (some ad) c l m j ((blk_cell S8.out.blk 0).trans rfl) S8.out.C hm32 hl hlt).mono ?_); rintro e_ W9 ⟨rfl, hd_⟩; rw [hM]; have CG9 : Aside0 (Chg (Wr g bm v) W W9) := ⟨CG8.out.trans (Chg.of_below hd_)⟩; have S9 := Aside0.mk (S8.out.below hd_); have T9 := Aside0.mk ((hd_.block T (blk_lt T8.out)).trans T8.out); clear hd_))
              go_roundw
              case rel => exact ⟨j + 1, v', D', by omega, by go_num, CG9, ⟨SS.mono S9.out (Nat.add_le_add_left (Nat.mul_le_mul_right _ (free_step m j)) _)⟩, VR, T9, ⟨upto BR.out (branch_may hM)⟩⟩
              case measure => simp [intOf]; omega
            case true =>
              have HMT := Aside0.mk hM
              obtain ⟨⟨code, num, q', okk⟩, hcq⟩ : ∃ r, callQ q (sp l j).f0 = r := ⟨_, rfl⟩
              obtain ⟨kk, hkk⟩ := (call_ev q (sp l j).f0).rounds
              rw [hcq] at hkk
              dsimp only at hkk
              have hq' : Wq q' := by have := wq_call hq (sp l j).f0; rw [hcq] at this; exact this
              have HCQ := Aside0.mk hcq
              clear hcq
              have HKK := Aside0.mk hkk
              clear hkk
              go_upto_region 11 with (first
                | (go_at_call 35; (with_reducible refine (may_calls W8 g (some ad) c l m j ((blk_cell S8.out.blk 0).trans rfl) S8.out.C hm32 hl hlt).mono ?_); rintro e_ W9 ⟨rfl, hd_⟩; rw [HMT.out]; have CG9 : Aside0 (Chg (Wr g bm v) W W9) := ⟨CG8.out.trans (Chg.of_below hd_)⟩; have S9 := Aside0.mk (S8.out.below hd_); have T9 := Aside0.mk ((hd_.block T (blk_lt T8.out)).trans T8.out); have X9 := Aside0.mk ((hd_.block gb (blk_lt HX8.out)).trans HX8.out); clear hd_; have t0 : W9.cell? ⟨T, 0, none⟩ = some (.int .u32 (m : Int)) := (blk_cell T9.out 0).trans rfl; have t1 : W9.cell? ⟨T, 1, none⟩ = some (.int .i64 q.i) := (blk_cell T9.out 1).trans rfl; have t2 : W9.cell? ⟨T, 2, none⟩ = some (.int .i64 q.o) := (blk_cell T9.out 2).trans rfl; have t3 : W9.cell? ⟨T, 3, none⟩ = some (.bool q.cl) := (blk_cell T9.out 3).trans rfl; have t4 : W9.cell? ⟨T, 4, none⟩ = some (.bool q.ca) := (blk_cell T9.out 4).trans rfl; have x0 : W9.cell? ⟨gb, 0, none⟩ = some (.int .i64 (sp l j).f0) := (blk_cell X9.out 0).trans rfl)
                | (go_at_call 33; (with_reducible refine (audit_state_call.calls kk q.i q.o q.cl q.ca (sp l j).f0 code num q'.i q'.o q'.cl q'.ca okk W9 HKK.out).mono ?_); rintro e_ WA ⟨rfl, hd_⟩; have BA := Aside0.mk hd_; clear hd_)
                | ((with_reducible refine gate_dst (N := 11) rfl ?_); refine box_event ?hg (N := 11) ?hd (cs := #[.int .i64 0, .int .i64 0, .bool false, .bool false]) (t := 68) ?hr ?_; (case hd => rfl); (case hg => rfl); (case hr => first | (go_simp; done) | (go_simp; rfl)); intro gn hg WB hbox hb; have BB := Aside0.mk (below_step BA.out hb); have BY := Aside0.mk hbox; have GN := Aside0.mk (show W9.heap.size ≤ gn by rw [hg]; exact BA.out.size); clear hb hbox hg; have n0 := (blk_cell BY.out 0); have n1 := (blk_cell BY.out 1); have n2 := (blk_cell BY.out 2); have n3 := (blk_cell BY.out 3); have o0 := blk_frozen BY.out 0; have o1 := blk_frozen BY.out 1; have o2 := blk_frozen BY.out 2; have o3 := blk_frozen BY.out 3))
              obtain ⟨WC, hWC, BC, XC, FC⟩ := laid4 BB.out BY.out GN.out q'.i q'.o q'.cl q'.ca
              rw [hWC]
              clear hWC n0 n1 n2 n3 o0 o1 o2 o3 t0 t1 t2 t3 t4 x0 z0
              have CGC : Aside0 (Chg (Wr g bm v) W WC) := ⟨CG9.out.trans (Chg.of_below BC)⟩
              have SC := Aside0.mk (S9.out.below BC)
              have TC := Aside0.mk ((BC.block T (blk_lt T9.out)).trans T9.out)
              have GC := Aside0.mk ((BC.block gb (blk_lt X9.out)).trans X9.out)
              have NC := Aside0.mk XC
              have HGN : Aside0 (g < gn) := ⟨Nat.lt_of_lt_of_le (blk_lt S9.out.blk) GN.out⟩
              have VG : Aside0 (∀ k, v'.ownBlock = some k → k < gn) := ⟨fun k hk => Nat.lt_of_lt_of_le (Kd.R_lt S9.out.ord k hk) GN.out⟩
              clear BC XC FC BB BY BA GN CG9 S9 T9 X9 CG8 S8 T8 HX8 GE
              have x0 : WC.cell? ⟨gb, 0, none⟩ = some (.int .i64 (sp l j).f0) := (blk_cell GC.out 0).trans rfl
              have x1 : WC.cell? ⟨gb, 1, none⟩ = some (.int .i64 (sp l j).f1) := (blk_cell GC.out 1).trans rfl
              have x2 : WC.cell? ⟨gb, 2, none⟩ = some (.int .i64 (sp l j).f2) := (blk_cell GC.out 2).trans rfl
              have x3 : WC.cell? ⟨gb, 3, none⟩ = some (.int .i64 (sp l j).f3) := (blk_cell GC.out 3).trans rfl
              have x4 : WC.cell? ⟨gb, 4, none⟩ = some (.int .i64 (sp l j).f4) := (blk_cell GC.out 4).trans rfl
              go_cut [12, 70] from 34 to 69 (fun s12 s70 wx => s12 = .bool okk ∧ s70 = .bool (bad okk (sp l j) code num) ∧ Aside0 (Below WC.heap.size WC wx))
              case first =>
                cases hok : okk
                case false =>
                  go_wp2_with fail
                  go_meet
                  case rel => exact ⟨by rw [hok], by unfold bad; rw [hok]; rfl, ⟨Below.refl _ _⟩⟩
                case true =>
                  cases hE : ended (sp l j)
                  case false =>
                    go_wp2_with (first | (go_at_call 26; (with_reducible refine (ended_calls (sp l j) WC).mono ?_); rintro e_ WD ⟨rfl, hd_⟩; rw [hE]; have HD_ := Aside0.mk hd_; clear hd_))
                    go_meet
                    case rel => exact ⟨by rw [hok], by unfold bad; rw [hok, hE]; rfl, HD_⟩
                  case true =>
                    by_cases hc : code = (sp l j).f3
                    · have hc' : (code != (sp l j).f3) = false := by simp [hc]
                      by_cases hnm : num = (sp l j).f4
                      · have hn' : (num != (sp l j).f4) = false := by simp [hnm]
                        clear hc hnm
                        go_wp2_with (first | (go_at_call 26; (with_reducible refine (ended_calls (sp l j) WC).mono ?_); rintro e_ WD ⟨rfl, hd_⟩; rw [hE]; have HD_ := Aside0.mk hd_; have x3' := (hd_.cell (World.block_lt_of_cell? _ _ x3)).trans x3; have x4' := (hd_.cell (World.block_lt_of_cell? _ _ x4)).trans x4; clear hd_))
                        go_meet
                        case rel => exact ⟨by rw [hok], by unfold bad; rw [hok, hE, hc', hn']; rfl, HD_⟩
                      · have hn' : (num != (sp l j).f4) = true := by simpa using hnm
                        clear hc hnm
                        go_wp2_with (first | (go_at_call 26; (with_reducible refine (ended_calls (sp l j) WC).mono ?_); rintro e_ WD ⟨rfl, hd_⟩; rw [hE]; have HD_ := Aside0.mk hd_; have x3' := (hd_.cell (World.block_lt_of_cell? _ _ x3)).trans x3; have x4' := (hd_.cell (World.block_lt_of_cell? _ _ x4)).trans x4; clear hd_))
                        go_meet
                        case rel => exact ⟨by rw [hok], by unfold bad; rw [hok, hE, hc', hn']; rfl, HD_⟩
                    · have hc' : (code != (sp l j).f3) = true := by simpa using hc
                      clear hc
                      go_wp2_with (first | (go_at_call 26; (with_reducible refine (ended_calls (sp l j) WC).mono ?_); rintro e_ WD ⟨rfl, hd_⟩; rw [hE]; have HD_ := Aside0.mk hd_; have x3' := (hd_.cell (World.block_lt_of_cell? _ _ x3)).trans x3; clear hd_))
                      go_meet
                      case rel => exact ⟨by rw [hok], by unfold bad; rw [hok, hE, hc']; rfl, HD_⟩
              case rest =>
                obtain ⟨rfl, rfl, BD⟩ := hcut
                have CGD : Aside0 (Chg (Wr g bm v) W wc) := ⟨CGC.out.trans (Chg.of_below BD.out)⟩
                have SD := Aside0.mk (SC.out.below BD.out)
                have TD := Aside0.mk ((BD.out.block T (blk_lt TC.out)).trans TC.out)
                have ND := Aside0.mk ((BD.out.block gn (blk_lt NC.out)).trans NC.out)
                clear CGC SC TC GC NC BD x0 x1 x2 x3 x4
                cases hB : bad okk (sp l j) code num
                case true =>
                  go_wp2_with fail
                  go_roundw
                  case rel => exact ⟨j + 1, v', D', by omega, by go_num, CGD, ⟨SS.mono SD.out (Nat.add_le_add_left (Nat.mul_le_mul_right _ (free_step m j)) _)⟩, VR, TD, ⟨upto BR.out (branch_bad HMT.out HCQ.out hB)⟩⟩
                  case measure => simp [intOf]; omega
                case false =>
                  have HBAD := Aside0.mk hB
                  clear hB
                  obtain ⟨A3, c3, rfl⟩ := Kd.R_slice SD.out.ord
                  have y2 : wc.cell? ⟨g, 2, none⟩ = some (.slice A3 (ord ++ []).length c3) := by simpa using (blk_cell SD.out.blk 2).trans rfl
                  have LL : Aside0 ((ord.length + 1) * 8 ≤ 140737488355328) := ⟨by omega⟩
                  have BS : Aside0 (B0 ≤ wc.heap.size) := ⟨Nat.le_of_lt (Nat.lt_of_le_of_lt SD.out.hg (blk_lt SD.out.blk))⟩
                  have OKF : Aside0 (∀ k, wc.heap.size ≤ k → k ≠ g ∧ k ≠ bm) := ⟨fun k hk => by have := blk_lt SD.out.blk; have := SD.out.map.lt; omega⟩
                  rw [List.append_nil] at y2
                  go_upto_region 13 with (first
                    | (at_builtin; go_must (refine Kd.R_append (Kd.int .i64) (w0 := wc) B0 rfl (.tmp 75) (.tmp 77) 23 3 (.int .i64 0) 8 rfl Try.underlying23 infoInt rfl (by decide) (by omega) (.slice A3 ord.length c3) ord (j : Int) [.int .i64 (j : Int)] (fun k => k ≠ g ∧ k ≠ bm) (fun _ => False) rfl rfl ?aP (fun _ hk => hk.elim) OKF.out SD.out.ord (Below.refl _ _) BS.out LL.out ?_; (case aP => rfl); intro v9 w9 ho_ hb_ hg_ hat; obtain ⟨A9, c9, rfl⟩ := Kd.R_slice ho_; have HO9 := Aside0.mk ho_; have HG9 := Aside0.mk hg_; have HAT := Aside0.mk hat; have y29 : w9.cell? ⟨g, 2, none⟩ = some (.slice A3 ord.length c3) := (blk_cell ((hg_.block g (blk_lt SD.out.blk) (fun e => (SD.out.ord.1 g e.symm).1 rfl)).trans SD.out.blk) 2).trans rfl; have f29 : w9.frozen? ⟨g, 2, none⟩ = false := blk_frozen ((hg_.block g (blk_lt SD.out.blk) (fun e => (SD.out.ord.1 g e.symm).1 rfl)).trans SD.out.blk) 2; clear ho_ hb_ hg_ hat)))
                  have VR9 : Aside0 (∀ k, (Value.slice A9 (ord ++ [(j : Int)]).length c9).ownBlock = some k → v.ownBlock = some k ∨ T < k) := ⟨fun k hk => by
                    rcases HAT.out with h1 | ⟨b, h1, h2⟩
                    · exact VR.out k (h1 ▸ hk)
                    · rw [h1] at hk; obtain rfl := Option.some.inj hk
                      have := blk_lt TD.out; exact .inr (by omega)⟩
                  have SE := Aside0.mk (SD.out.put (fun k hk hne => HG9.out.block k hk hne) HO9.out)
                  have CGE : Aside0 (Chg (Wr g bm v) W (w9.setCell ⟨g, 2, none⟩ (.slice A9 (ord ++ [(j : Int)]).length c9))) := ⟨(chg_app CGD.out HG9.out VR.out ET.out).set_ (ok := Wr g bm v) (g := g) (.inl rfl) _⟩
                  have TE : Aside0 ((w9.setCell ⟨g, 2, none⟩ (.slice A9 (ord ++ [(j : Int)]).length c9)).heap[T]? = some (.cells #[.int .u32 (m : Int), .int .i64 q.i, .int .i64 q.o, .bool q.cl, .bool q.ca] 70 (0, 0))) := ⟨by
                    rw [Below.heap_setCell _ _ _ _ hTg.out.1, HG9.out.block T (blk_lt TD.out) (fun e => by rcases VR.out T e.symm with h1 | h1; (have := hTv.out T h1; omega); omega)]
                    exact TD.out⟩
                  have NE : Aside0 ((w9.setCell ⟨g, 2, none⟩ (.slice A9 (ord ++ [(j : Int)]).length c9)).heap[gn]? = some (.cells #[.int .i64 q'.i, .int .i64 q'.o, .bool q'.cl, .bool q'.ca] 68 (0, 0))) := ⟨by
                    have hne : gn ≠ g := by have := HGN.out; omega
                    rw [Below.heap_setCell _ _ _ _ hne, HG9.out.block gn (blk_lt ND.out) (fun e => by have := VG.out gn e.symm; omega)]
                    exact ND.out⟩
                  rw [List.length_append, List.length_singleton] at SE CGE TE NE VR9
                  generalize w9.setCell ⟨g, 2, none⟩ (.slice A9 (ord.length + 1) c9) = WE at SE CGE TE NE ⊢
                  clear HO9 HG9 HAT y29 f29 y2 SD CGD TD ND VG HGN LL BS OKF
                  have z0 : WE.cell? ⟨T, 0, none⟩ = some (.int .u32 (m : Int)) := (blk_cell TE.out 0).trans rfl
                  have n0 : WE.cell? ⟨gn, 0, none⟩ = some (.int .i64 q'.i) := (blk_cell NE.out 0).trans rfl
                  have n1 : WE.cell? ⟨gn, 1, none⟩ = some (.int .i64 q'.o) := (blk_cell NE.out 1).trans rfl
                  have n2 : WE.cell? ⟨gn, 2, none⟩ = some (.bool q'.cl) := (blk_cell NE.out 2).trans rfl
                  have n3 : WE.cell? ⟨gn, 3, none⟩ = some (.bool q'.ca) := (blk_cell NE.out 3).trans rfl
                  have hj14 : j < 32 := by omega
                  go_still_tail 8, (by kernel_rfl)
                  clear z0 n0 n1 n2 n3
                  change wpList _ _ _ _ _ WE.drew
                  have SF := Aside0.mk (SE.out.below (Below.refl _ _).drew)
                  have CGF : Aside0 (Chg (Wr g bm v) W WE.drew) := ⟨CGE.out.drew_⟩
                  have TF : Aside0 (WE.drew.heap[T]? = some (.cells #[.int .u32 (m : Int), .int .i64 q.i, .int .i64 q.o, .bool q.cl, .bool q.ca] 70 (0, 0))) := ⟨TE.out⟩
                  clear SE CGE TE NE
                  generalize WE.drew = WF at SF CGF TF ⊢
                  have hbit := may_bit HMT.out
                  have hfs := free_set hbit (n := l.length) hlt
                  have hm' : m ||| 2 ^ j < 2 ^ l.length := Nat.or_lt_two_pow hm (Nat.pow_lt_pow_right (by omega) hlt)
                  have hf' : free (m ||| 2 ^ j) l.length = f := by omega
                  have hb1 : free m j ≤ 14 := Nat.le_trans (free_le m j) (by omega)
                  have hpw : n + free m j * 15 ^ f + 15 ^ f < 2000000000000000000 := by
                    have h1 : free m j * 15 ^ f ≤ 14 * 15 ^ f := Nat.mul_le_mul_right _ hb1
                    rw [Nat.pow_succ] at hn
                    omega
                  have hor : Go.bits .or .u32 (m : Int) (IntKind.u32.wrap (2 ^ j)) = ((m ||| 2 ^ j : Nat) : Int) := by rw [wrap_two hj14]; exact setz hm32 hj14
                  rw [hor]
                  have KEY := HIH.out f (by omega) WF (.slice A9 (ord.length + 1) c9) (ord ++ [(j : Int)]) (n + free m j * 15 ^ f) D' (m ||| 2 ^ j) q' SF.out hf' hm' hq' hpw (by rw [List.length_append, List.length_singleton]; omega)
                  unfold tv at KEY
                  have HBG := Aside0.mk (branch_good (q := q) HMT.out HCQ.out HBAD.out)
                  clear hor hm' hf' hbit
                  generalize m ||| 2 ^ j = mm at KEY HBG ⊢
                  have HKEY := Aside0.mk KEY
                  clear KEY
                  cases hC : C l mm q'
                  case some r =>
                    go_wp2_with (go_at_call 27; go_must (refine HKEY.out.mono ?_; rintro e_ WG HP; have hP := HP.out; rw [hC] at hP; subst hP; have HPP := Aside0.mk HP; clear HP))
                    go_ret
                    obtain ⟨v7, D7, S7, V7⟩ := HPP.out.ss
                    have hCM : C l m q = some ((j : Int) :: r) := C_some (by rw [HOV.out]; simp) hlt BR.out (by rw [HBG.out, hC]; rfl)
                    have hpow : n + free m j * 15 ^ f + 15 ^ f ≤ n + 15 ^ (f + 1) := by
                      have h1 : free m j * 15 ^ f ≤ 14 * 15 ^ f := Nat.mul_le_mul_right _ hb1
                      rw [Nat.pow_succ]; omega
                    refine ⟨by rw [hCM]; rfl, chg_comp CGF.out HPP.out.chg VR9.out ET.out, v7, D7, ?_, fun k hk => ?_⟩
                    · rw [hC] at S7
                      have := SS.mono S7 hpow
                      simpa [hCM] using this
                    · have hsz := CGF.out.size
                      rcases V7 k hk with h1 | h1
                      · rcases VR9.out k h1 with h2 | h2
                        · exact .inl h2
                        · have := ET.out; exact .inr (by omega)
                      · exact .inr (by omega)
                  case none =>
                    go_upto_region 15 with (go_at_call 27; go_must (refine HKEY.out.mono ?_; rintro e_ WG HP; have hP := HP.out; rw [hC] at hP; subst hP; obtain ⟨v7, D7, S7, V7⟩ := HP.ss; rw [hC] at S7; obtain ⟨A7, c7, rfl⟩ := Kd.R_slice S7.ord; have HS7 := Aside0.mk S7; have HV7 := Aside0.mk V7; have HC7 := Aside0.mk HP.chg; clear HP V7 S7))
                    have HS8 : Aside0 (SS B0 WG g bm (some ad) c l (.slice A7 (ord.length + 1) c7) (ord ++ [(j : Int)]) (n + free m j * 15 ^ f + 15 ^ f) D7) := ⟨by simpa using HS7.out⟩
                    have y2 : WG.cell? ⟨g, 2, none⟩ = some (.slice A7 (ord.length + 1) c7) := (blk_cell HS8.out.blk 2).trans rfl
                    have f2 : WG.frozen? ⟨g, 2, none⟩ = false := blk_frozen HS8.out.blk 2
                    have hle7 := (Kd.R_reads' HS8.out.ord).2.1
                    have w7 : IntKind.i64.wrap (ord.length : Int) = (ord.length : Int) := by rw [IntKind.wrap_i64]; omega
                    have q7 := eq_true (show (ord.length : Int) ≤ (c7 : Int) by omega)
                    have q8 := eq_true (show (0 : Int) ≤ (ord.length : Int) by omega)
                    go_region
                    have HSP : Aside0 (SS B0 (WG.setCell ⟨g, 2, none⟩ (.slice A7 ord.length c7)).drew g bm (some ad) c l (.slice A7 ord.length c7) ord (n + free m (j + 1) * 15 ^ f) D7) := ⟨by
                      have ht := Kd.R_take HS8.out.ord (m := ord.length) (by simp)
                      rw [List.take_left] at ht
                      have hp := (HS8.out.put (w9 := WG) (fun _ _ _ => rfl) ht).below (Below.refl _ _).drew
                      have he : free m (j + 1) = free m j + 1 := by
                        show free m j + _ = _
                        rw [may_bit HMT.out]; simp
                      rw [he, Nat.add_mul, Nat.one_mul, ← Nat.add_assoc]; exact hp⟩
                    have HCH : Aside0 (Chg (Wr g bm v) W (WG.setCell ⟨g, 2, none⟩ (.slice A7 ord.length c7)).drew) := ⟨((chg_comp CGF.out HC7.out VR9.out ET.out).set_ (ok := Wr g bm v) (g := g) (.inl rfl) _).drew_⟩
                    have HTT : Aside0 ((WG.setCell ⟨g, 2, none⟩ (.slice A7 ord.length c7)).drew.heap[T]? = some (.cells #[.int .u32 (m : Int), .int .i64 q.i, .int .i64 q.o, .bool q.cl, .bool q.ca] 70 (0, 0))) := ⟨by
                      show (WG.setCell ⟨g, 2, none⟩ (.slice A7 ord.length c7)).heap[T]? = _
                      rw [Below.heap_setCell _ _ _ _ hTg.out.1, HC7.out.block T (blk_lt TF.out) (fun e => by
                        rcases e with e | e | e
                        · exact hTg.out.1 e
                        · exact hTg.out.2 e
                        · rcases VR9.out T e with h1 | h1
                          · have := hTv.out T h1; omega
                          · omega)]
                      exact TF.out⟩
                    have HVV : Aside0 (∀ k, (Value.slice A7 ord.length c7).ownBlock = some k → v.ownBlock = some k ∨ T < k) := ⟨fun k hk => by
                      have hk2 : (Value.slice A7 (ord ++ [(j : Int)] ++ (none : Option (List Int)).getD []).length c7).ownBlock = some k := by cases A7 <;> exact hk
                      rcases HV7.out k hk2 with h1 | h1
                      · exact VR9.out k h1
                      · have := blk_lt TF.out; exact .inr (by omega)⟩
                    clear y2 f2 HS8 HS7 HC7 HV7 w7 q7 q8
                    generalize (WG.setCell ⟨g, 2, none⟩ (.slice A7 ord.length c7)).drew = WH at *
                    go_wp2_with fail
                    go_roundw
                    case rel => exact ⟨j + 1, _, D7, by omega, by go_num, HCH, HSP, HVV, HTT, ⟨upto BR.out (by rw [HBG.out, hC]; rfl)⟩⟩
                    case measure => simp [intOf]; omega
          · obtain rfl : j = l.length := by omega
            have hCN : C l m q = none := C_none (by rw [HOV.out]; simp) BR.out
            have p2 := eq_false (show ¬ ((l.length : Int) < (l.length : Int)) by omega)
            have hb1 : free m l.length ≤ 14 := Nat.le_trans (free_le m l.length) hl
            have hpow : n + free m l.length * 15 ^ f + 1 ≤ n + 15 ^ (f + 1) := by
              have h1 : free m l.length * 15 ^ f ≤ 14 * 15 ^ f := Nat.mul_le_mul_right _ hb1
              have h2 : 1 ≤ 15 ^ f := Nat.pos_of_ne_zero (by simp)
              rw [Nat.pow_succ]; omega
            obtain ⟨WM, hrun, hown, htur⟩ := SR.out.map.drew.store klaw Try.underlying62 (by unfold maxLen; omega) hkl (unitElem_mk (H := Unit))
            unfold tv at hrun
            have HOWN := Aside0.mk hown
            have HTUR := Aside0.mk htur
            have HPW := Aside0.mk hpow
            have HCN := Aside0.mk hCN
            clear hown htur hpow hCN
            have z0 : wr.cell? ⟨T, 0, none⟩ = some (.int .u32 (m : Int)) := (blk_cell TR.out 0).trans rfl
            have z1 : wr.cell? ⟨T, 1, none⟩ = some (.int .i64 q.i) := (blk_cell TR.out 1).trans rfl
            have z2 : wr.cell? ⟨T, 2, none⟩ = some (.int .i64 q.o) := (blk_cell TR.out 2).trans rfl
            have z3 : wr.cell? ⟨T, 3, none⟩ = some (.bool q.cl) := (blk_cell TR.out 3).trans rfl
            have z4 : wr.cell? ⟨T, 4, none⟩ = some (.bool q.ca) := (blk_cell TR.out 4).trans rfl
            have y1 : wr.cell? ⟨g, 1, none⟩ = some (.map (some bm)) := (blk_cell SR.out.blk 1).trans rfl
            go_wp2_with fail
            go_region
            go_wp2_with fail
            go_ret
            have hg := HTUR.out.grown
            refine ⟨by rw [HCN.out]; rfl, CG.out.drew_.trans (Chg.of_grown hg (fun k hk => .inr (.inl (Option.some.inj hk).symm))), v', D'.put kl (.agg []), ?_, fun k hk => ?_⟩
            · have := (SR.out.below (Below.refl _ _).drew).stored hg HOWN.out hkl HCN.out
              have := SS.mono this HPW.out
              simpa [HCN.out] using this
            · rcases VR.out k hk with h1 | h1
              · exact .inl h1
              · have := ET.out; exact .inr (by omega)
end Go.Proofs.Ytbjoinocajobhaa.Ju
