/- mintagekeep.Book: closeInts (the marks that are written, the rows that are grown, what is looked at). -/
import Derived.Test.YtbjoinocajobhaaKeep0ZAuditJudges
import Derived.Test.YtbjoinocajobhaaCloseZAuditJudges
import Derived.Outline
import Derived.WalkSpells
import Derived.KernelRfl
namespace Go.Proofs.Ytbjoinocajobhaa.Keepi
set_option linter.unusedVariables false
set_option linter.unusedSimpArgs false
open Go.Proofs.Ytbjoinocajobhaa.Keep Go.RowKit Go.Proofs.YtbjoinocajobhaaW.PrintWords Go.Proofs.YtbjoinocajobhaaW.PrintLast

/-- The mark of row r. -/
def mark (r : Nat) : Int := (r : Int)
def okL (l : List (Value × List Int)) (k : Nat) : Prop := ∃ p ∈ l, p.1.ownBlock = some k
/-- While the rows are written full: rows ahead of n, and j of row n's. -/
structure St (w wr : World) (base b : Nat) (cs : Array Value) (v0 : Value) (LB : List (Value × List Int)) (n j : Nat) : Prop where
  blk : wr.heap[b]? = some (.cells cs 38 (0, 0))
  row : wr.ownsRow base 23 1 v0 LB.length (LB.map (·.1))
  chg : Chg (okL LB) w wr
  fam : ∃ l : List (Value × List Int), l.map (·.1) = LB.map (·.1) ∧ l.map (·.2.length) = LB.map (·.2.length) ∧ Fam wr base 3 .i64 l ∧
    (∀ (r : Nat) (p : Value × List Int), l[r]? = some p → r < n → ∀ t, t < p.2.length → p.2.getD t 0 = mark r) ∧ (∀ p : Value × List Int, l[n]? = some p → ∀ t, t < j → t < p.2.length → p.2.getD t 0 = mark n)
theorem at_map {α β : Type} {f : α → β} {l m : List α} (h : l.map f = m.map f) {n : Nat} {p : α} (hp : m[n]? = some p) : ∃ q, l[n]? = some q ∧ f q = f p := by
  have : (l.map f)[n]? = some (f p) := by rw [h, List.getElem?_map, hp]; rfl
  rw [List.getElem?_map] at this
  exact Option.map_eq_some_iff.1 this
theorem St.at_ {w wr : World} {base b : Nat} {cs : Array Value} {v0 : Value} {LB : List (Value × List Int)} {n j : Nat} (h : St w wr base b cs v0 LB n j) (hn : n < LB.length) :
    ∃ g0 c0 A ln c xs, v0 = .slice (some ⟨g0, 0, none⟩) LB.length c0 ∧ wr.cell? ⟨g0, n, none⟩ = some (.slice A ln c) ∧ LB[n]? = some (.slice A ln c, xs) ∧ xs.length = ln ∧ ln ≤ 9223372036854775807 := by
  obtain ⟨g0, c0, hv, -, -⟩ := h.row.form (by omega)
  obtain ⟨l, e1, e2, hf, -, -⟩ := h.fam
  have hp : LB[n]? = some LB[n] := List.getElem?_eq_getElem hn
  obtain ⟨q, hq, eq⟩ := at_map e1 hp
  obtain ⟨q2, hq2, eq2⟩ := at_map e2 hp
  rw [hq] at hq2
  injection hq2 with hq2
  subst hq2
  have ho := hf.1 n q hq
  obtain ⟨A, c, hs⟩ := own_slice ho
  refine ⟨g0, c0, A, q.2.length, c, LB[n].2, hv, ?_, ?_, eq2.symm, ?_⟩
  · have hc := h.row.cells (g := g0) (by rw [hv]; rfl) n LB[n].1 (by rw [List.getElem?_map, hp]; rfl)
    rw [add_plain] at hc
    rw [hc, ← eq, hs]
  · rw [hp, ← hs, eq]
  · rcases ho.2 with ⟨_, h1⟩ | ⟨g', cap', cur, he, _, _, h1, h2, _⟩
    · omega
    · simp only [maxLen] at h2; omega
theorem St.store {w wr : World} {base b : Nat} {cs : Array Value} {v0 : Value} {LB : List (Value × List Int)} {n j : Nat} (h : St w wr base b cs v0 LB n j) (hb : ¬ okL LB b) (h0 : ∀ k, v0.ownBlock = some k → ¬ okL LB k)
    {A : Option Addr} {ln c : Nat} {xs : List Int} (hp : LB[n]? = some (.slice A ln c, xs)) (hj : j < ln) :
    ∃ g, A = some ⟨g, 0, none⟩ ∧ St w (wr.setCell ⟨g, j, none⟩ (.int .i64 (mark n))) base b cs v0 LB n (j + 1) ∧ (∃ y, wr.cell? ⟨g, j, none⟩ = some (.int .i64 y)) ∧ wr.frozen? ⟨g, j, none⟩ = false := by
  obtain ⟨l, e1, e2, hf, hd, hc⟩ := h.fam
  obtain ⟨q, hq, eq⟩ := at_map e1 hp
  obtain ⟨q2, hq2, eq2⟩ := at_map e2 hp
  rw [hq] at hq2
  injection hq2 with hq2
  subst hq2
  have eq' : q.1 = .slice A ln c := eq
  have ho := hf.1 n q hq
  have hln : q.2.length = ln := by
    obtain ⟨A', c', hs⟩ := own_slice ho
    rw [eq'] at hs
    injection hs with _ hs _
    exact hs.symm
  obtain ⟨g, cap, hv, hF, hcell, hfr⟩ := hf.store hq (by omega : j < q.2.length) (mark n)
  rw [eq'] at hv
  injection hv with hA _ _
  have hg : okL LB g := ⟨(.slice A ln c, xs), List.mem_of_getElem? hp, by rw [hA]; rfl⟩
  have hlen : n < l.length := (List.getElem?_eq_some_iff.1 hq).1
  refine ⟨g, hA, ⟨?_, ?_, h.chg.set_ hg _, l.set n (q.1, q.2.set j (mark n)), ?_, ?_, hF, ?_, ?_⟩, hcell, hfr⟩
  · exact blk_far h.blk (p := ⟨g, j, none⟩) (fun e => hb (by have e' : b = g := e; rw [e']; exact hg)) _
  · exact own_setCell h.row (p := ⟨g, j, none⟩) (fun e => h0 g e.symm hg) _
  · rw [← e1]
    refine List.ext_getElem? fun r => ?_
    rw [List.getElem?_map, List.getElem?_map, List.getElem?_set]
    by_cases hr : n = r
    · subst hr; rw [if_pos rfl, if_pos hlen, hq]; rfl
    · rw [if_neg hr]
  · rw [← e2]
    refine List.ext_getElem? fun r => ?_
    rw [List.getElem?_map, List.getElem?_map, List.getElem?_set]
    by_cases hr : n = r
    · subst hr; rw [if_pos rfl, if_pos hlen, hq]; simp
    · rw [if_neg hr]
  · intro r p hp' hr
    rw [List.getElem?_set, if_neg (by omega)] at hp'
    exact hd r p hp' hr
  · intro p hp' t ht ht'
    rw [List.getElem?_set, if_pos rfl, if_pos hlen] at hp'
    injection hp' with hp'
    subst hp'
    simp only [List.length_set] at ht'
    simp only [List.getD_eq_getElem?_getD, List.getElem?_set]
    by_cases hjt : j = t
    · subst hjt; rw [if_pos rfl, if_pos (by omega)]; rfl
    · rw [if_neg hjt]
      have := hc q hq t (by omega) ht'
      rwa [List.getD_eq_getElem?_getD] at this
theorem St.next {w wr : World} {base b : Nat} {cs : Array Value} {v0 : Value} {LB : List (Value × List Int)} {n j : Nat} (h : St w wr base b cs v0 LB n j) {A : Option Addr} {ln c : Nat} {xs : List Int} (hp : LB[n]? = some (.slice A ln c, xs)) (hx : xs.length = ln) (hj : ln ≤ j) :
    St w wr base b cs v0 LB (n + 1) 0 := by
  obtain ⟨l, e1, e2, hf, hd, hc⟩ := h.fam
  refine ⟨h.blk, h.row, h.chg, l, e1, e2, hf, ?_, ?_⟩
  · intro r p hp' hr t ht
    by_cases hrn : r = n
    · subst hrn
      obtain ⟨q2, hq2, eq2⟩ := at_map e2 hp
      rw [hp'] at hq2
      injection hq2 with hq2
      subst hq2
      have : p.2.length = ln := by rw [eq2]; exact hx
      exact hc p hp' t (by omega) ht
    · exact hd r p hp' (by omega) t ht
  · intro p _ t ht
    omega
/-- What stands behind the first n rows when they have been grown: vg: the slice of what they grew to. -/
def m100 (r : Nat) : Int := (r : Int) + 1000
def m101 (r : Nat) : Int := (r : Int) + 1001
structure Gr (w wr : World) (base b : Nat) (cs : Array Value) (v0 : Value) (LB l : List (Value × List Int)) (n : Nat) (vg : Value) (gl : List (Value × List Int)) : Prop where
  blk : wr.heap[b]? = some (.cells cs 38 (0, 0))
  row : wr.ownsRow base 23 1 v0 LB.length (LB.map (·.1))
  chg : Chg (okL LB) w wr
  fst : l.map (·.1) = LB.map (·.1)
  fam : Fam wr base 3 .i64 l
  all : ∀ (r : Nat) (p : Value × List Int), l[r]? = some p → ∀ t, t < p.2.length → p.2.getD t 0 = mark r
  len : gl.length = n
  grow : wr.ownsRow base 23 1 vg gl.length (gl.map (·.1))
  gnew : ∀ k, vg.ownBlock = some k → w.heap.size ≤ k
  own : ∀ (r : Nat) (q p : Value × List Int), gl[r]? = some q → l[r]? = some p → wr.ownsRow base 3 1 q.1 q.2.length (nums .i64 q.2) ∧ q.2 = p.2 ++ [m100 r, m101 r] ∧ ∀ k, q.1.ownBlock = some k → p.1.ownBlock = some k ∨ w.heap.size ≤ k
theorem st_gr {w wr : World} {base b : Nat} {cs : Array Value} {v0 : Value} {LB : List (Value × List Int)} (h : St w wr base b cs v0 LB LB.length 0) : ∃ l, Gr w wr base b cs v0 LB l 0 (.slice none 0 0) [] := by
  obtain ⟨l, e1, e2, hf, hd, -⟩ := h.fam
  have hl : l.length = LB.length := by have := congrArg List.length e1; simpa using this
  refine ⟨l, h.blk, h.row, h.chg, e1, hf, fun r p hp => hd r p hp ?_, rfl, own_nil _ _ _ _, fun k hk => by simp [Value.ownBlock] at hk, fun r q p hq => by simp at hq⟩
  have := (List.getElem?_eq_some_iff.1 hp).1
  omega
/-- Two views of one block. -/
theorem view_of {w1 w2 : World} {base : Nat} {e : TypeId} {v v1 : Value} {n : Nat} {xs : List Value} {y : Value} (h : w1.ownsRow base e 1 v n xs) (h1 : w1.ownsRow base e 1 v1 (n + 1) (xs ++ [y])) (hb : v1.ownBlock = v.ownBlock) (h2 : w2.ownsRow base e 1 v1 (n + 1) (xs ++ [y])) : w2.ownsRow base e 1 v n xs := by
  rcases h.2 with ⟨rfl, hn⟩ | ⟨g, cap, cur, rfl, hbg, hg, hnc, hcm, hcs, htake⟩
  · exact ⟨h.1, .inl ⟨rfl, hn⟩⟩
  · rcases h1.2 with ⟨rfl, hn1⟩ | ⟨g1, cap1, cur1, rfl, _, hg1, _, _, hcs1, _⟩
    · omega
    · have e1 : g1 = g := by simpa [Value.ownBlock] using hb
      subst e1
      rw [hg] at hg1
      injection hg1 with hg1
      injection hg1 with hg1 _
      subst hg1
      have ec : cap1 = cap := by omega
      subst ec
      rcases h2.2 with ⟨h', _⟩ | ⟨g2, cap2, cur2, h', hb2, hh2, hc1, hc2, hc3, hc4⟩
      · cases h'
      · injection h' with q1 q2 q3
        injection q1 with q1
        injection q1 with q1
        subst q1
        subst q3
        refine ⟨h.1, .inr ⟨g1, cap1, cur2, rfl, hbg, hh2, hnc, hcm, hc3, ?_⟩⟩
        have hl := h.1
        rw [Nat.mul_one] at hc4 hl ⊢
        have : (cur2.toList.take (n + 1)).take n = cur2.toList.take n := by rw [List.take_take]; congr 1; omega
        rw [← this, hc4, List.take_left' hl]
theorem Gr.row_n {w wr : World} {base b : Nat} {cs : Array Value} {v0 : Value} {LB l : List (Value × List Int)} {n : Nat} {vg : Value} {gl : List (Value × List Int)} (h : Gr w wr base b cs v0 LB l n vg gl) {r : Nat} (hn : r < LB.length) :
    ∃ g0 c0 p, v0 = .slice (some ⟨g0, 0, none⟩) LB.length c0 ∧ wr.cell? ⟨g0, r, none⟩ = some p.1 ∧ l[r]? = some p ∧ LB[r]? = some (p.1, (LB[r]).2) ∧ wr.ownsRow base 3 1 p.1 (nums .i64 p.2).length (nums .i64 p.2) ∧ p.2.length = (nums .i64 p.2).length := by
  obtain ⟨g0, c0, hv, -, -⟩ := h.row.form (by omega)
  have hp : LB[r]? = some LB[r] := List.getElem?_eq_getElem hn
  obtain ⟨q, hq, eq⟩ := at_map h.fst hp
  have ho := h.fam.1 r q hq
  refine ⟨g0, c0, q, hv, ?_, hq, ?_, by rw [nums_length]; exact ho, by rw [nums_length]⟩
  · have hc := h.row.cells (g := g0) (by rw [hv]; rfl) r LB[r].1 (by rw [List.getElem?_map, hp]; rfl)
    rw [add_plain] at hc
    rw [hc, ← eq]
  · rw [hp, eq]
theorem Gr.lt {w wr : World} {base b : Nat} {cs : Array Value} {v0 : Value} {LB l : List (Value × List Int)} {n : Nat} {vg : Value} {gl : List (Value × List Int)} (h : Gr w wr base b cs v0 LB l n vg gl) (hw : ∀ k, okL LB k → k < w.heap.size) {r : Nat} {p : Value × List Int} (hp : l[r]? = some p) {k : Nat} (hk : p.1.ownBlock = some k) : okL LB k ∧ k < w.heap.size := by
  have : okL LB k := by
    obtain ⟨q, hq, eq⟩ := at_map h.fst.symm hp
    exact ⟨q, List.mem_of_getElem? hq, by rw [eq]; exact hk⟩
  exact ⟨this, hw k this⟩
theorem Gr.grow2 {w wr w1 w2 : World} {base b : Nat} {cs : Array Value} {v0 : Value} {LB l : List (Value × List Int)} {n : Nat} {vg v v1 : Value} {gl : List (Value × List Int)} {m m1 : Nat} {xs xs1 : List Value} (h : Gr w wr base b cs v0 LB l n vg gl)
    (o1 : w1.ownsRow base 3 1 v1 m1 xs1) (g1 : wr.grownBy w1 v.ownBlock) (g2 : w1.grownBy w2 v1.ownBlock) (o : wr.ownsRow base 3 1 v m xs) : w2.ownsRow base 23 1 vg (gl.map (·.1)).length (gl.map (·.1)) := by
  rw [List.length_map]
  have q := h.grow.kept g1 (own_type_ne h.grow o (by decide))
  exact q.kept g2 (own_type_ne q o1 (by decide))
theorem Gr.step {w wr w1 w2 w3 : World} {base b : Nat} {cs : Array Value} {v0 : Value} {LB l : List (Value × List Int)} {n : Nat} {vg vg' v1 v2 : Value} {gl : List (Value × List Int)} (h : Gr w wr base b cs v0 LB l n vg gl)
    (hw : ∀ k, okL LB k → k < w.heap.size) (hb : ¬ okL LB b) (hbw : b < w.heap.size) (h0 : ∀ k, v0.ownBlock = some k → ¬ okL LB k ∧ k < w.heap.size) {p : Value × List Int} (hp : l[n]? = some p)
    (o1 : w1.ownsRow base 3 1 v1 (nums .i64 p.2 ++ [Value.int .i64 (m100 n)]).length (nums .i64 p.2 ++ [Value.int .i64 (m100 n)])) (k1 : w1.ownsRow base 3 1 p.1 (nums .i64 p.2).length (nums .i64 p.2)) (g1 : wr.grownBy w1 p.1.ownBlock) (a1 : v1.ownBlock = p.1.ownBlock ∨ ∃ q, v1.ownBlock = some q ∧ wr.heap.size < q)
    (o2 : w2.ownsRow base 3 1 v2 ((nums .i64 p.2 ++ [Value.int .i64 (m100 n)]) ++ [Value.int .i64 (m101 n)]).length ((nums .i64 p.2 ++ [Value.int .i64 (m100 n)]) ++ [Value.int .i64 (m101 n)])) (k2 : w2.ownsRow base 3 1 v1 (nums .i64 p.2 ++ [Value.int .i64 (m100 n)]).length (nums .i64 p.2 ++ [Value.int .i64 (m100 n)])) (g2 : w1.grownBy w2 v1.ownBlock) (a2 : v2.ownBlock = v1.ownBlock ∨ ∃ q, v2.ownBlock = some q ∧ w1.heap.size < q)
    (o3 : w3.ownsRow base 23 1 vg' (gl.map (·.1) ++ [v2]).length (gl.map (·.1) ++ [v2])) (g3 : w2.grownBy w3 vg.ownBlock) (a3 : vg'.ownBlock = vg.ownBlock ∨ ∃ q, vg'.ownBlock = some q ∧ w2.heap.size < q) :
    Gr w w3 base b cs v0 LB l (n + 1) vg' (gl ++ [(v2, p.2 ++ [m100 n, m101 n])]) := by
  have sz := h.chg.size
  have s1 := g1.size
  have s2 := g2.size
  have s3 := g3.size
  -- what the three may have written
  have c1 : Chg (okL LB) wr w1 := Chg.of_grown g1 fun k hk => (h.lt hw hp hk).1
  have keep : ∀ {k : Nat}, k < wr.heap.size → p.1.ownBlock ≠ some k → vg.ownBlock ≠ some k → w3.heap[k]? = wr.heap[k]? := by
    intro k hk q1 q2
    have e1 := g1.block k hk fun e => q1 e.symm
    have e2 := g2.block k (by omega) fun e => by
      rcases a1 with a1 | ⟨q, a1, a1'⟩
      · exact q1 (a1 ▸ e.symm)
      · rw [a1] at e; injection e with e; omega
    have e3 := g3.block k (by omega) fun e => q2 e.symm
    exact e3.trans (e2.trans e1)
  have pn : ∀ k, p.1.ownBlock = some k → okL LB k ∧ k < w.heap.size := fun k hk => h.lt hw hp hk
  have chg : Chg (okL LB) w w3 := by
    refine ⟨g3.os.trans (g2.os.trans (g1.os.trans h.chg.os)), g3.tape.trans (g2.tape.trans (g1.tape.trans h.chg.tape)), g3.output.trans (g2.output.trans (g1.output.trans h.chg.output)), by omega, fun k hk ho => ?_⟩
    rw [keep (by omega) (fun e => ho (pn k e).1) (fun e => by have := h.gnew k e; omega)]
    exact h.chg.block k hk ho
  have old : w3.ownsRow base 3 1 p.1 (nums .i64 p.2).length (nums .i64 p.2) := by
    have k3 : w2.ownsRow base 3 1 p.1 (nums .i64 p.2).length (nums .i64 p.2) := by
      rcases a1 with a1 | ⟨q, a1, a1'⟩
      · have o1' := o1
        have k2' := k2
        rw [List.length_append, List.length_singleton] at o1' k2'
        exact view_of k1 o1' a1 k2'
      · refine k1.kept g2 ?_
        rcases hv : p.1.ownBlock with _ | k
        · exact .inl rfl
        · right; rw [a1]; intro e; injection e with e
          have := (pn k hv).2; omega
    refine k3.kept g3 ?_
    rcases hv : p.1.ownBlock with _ | k
    · exact .inl rfl
    · right; intro e
      have := h.gnew k e.symm
      have := (pn k hv).2; omega
  refine ⟨?_, ?_, chg, h.fst, ?_, h.all, by simp [h.len], by simpa using o3, ?_, ?_⟩
  · rw [keep (by omega) (fun e => hb (pn b e).1) (fun e => by have := h.gnew b e; omega)]; exact h.blk
  · refine own_move h.row fun k hk => keep (own_lt h.row k hk) (fun e => (h0 k hk).1 (pn k e).1) (fun e => by have := h.gnew k e; have := (h0 k hk).2; omega)
  · refine ⟨fun r q hq => ?_, h.fam.2⟩
    by_cases hr : r = n
    · subst hr
      rw [hp] at hq
      injection hq with hq
      subst hq
      have := old
      rwa [nums_length] at this
    · refine own_move (h.fam.1 r q hq) fun k hk => keep (own_lt (h.fam.1 r q hq) k hk) (fun e => h.fam.2 r n q p hr hq hp k hk e) (fun e => by have := h.gnew k e; have := (h.lt hw hq hk).2; omega)
  · intro k hk
    rcases a3 with a3 | ⟨q, a3, a3'⟩
    · exact h.gnew k (a3 ▸ hk)
    · rw [a3] at hk; injection hk with hk; omega
  · intro r q q' hq hq'
    rcases Nat.lt_or_ge r gl.length with hr | hr
    · rw [List.getElem?_append_left hr] at hq
      obtain ⟨k1', k2', k3'⟩ := h.own r q q' hq hq'
      refine ⟨own_move k1' fun k hk => keep (own_lt k1' k hk) (fun e => ?_) (fun e => ?_), k2', k3'⟩
      · rcases k3' k hk with z | z
        · exact h.fam.2 r n q' p (by have := h.len; omega) hq' hp k z e
        · have := (pn k e).2; omega
      · exact (ne_types k1' h.grow (by decide)) k hk e
    · rw [List.getElem?_append_right hr] at hq
      have hr0 : r = n := by
        rcases hz : r - gl.length with _ | m
        · have := h.len; omega
        · rw [hz] at hq; simp at hq
      subst hr0
      have hq2 : q = (v2, p.2 ++ [m100 r, m101 r]) := by
        rw [h.len, Nat.sub_self] at hq
        simpa using hq.symm
      subst hq2
      rw [hp] at hq'
      injection hq' with hq'
      subst hq'
      refine ⟨?_, rfl, ?_⟩
      · have e : (nums .i64 p.2 ++ [Value.int .i64 (m100 r)]) ++ [Value.int .i64 (m101 r)] = nums .i64 (p.2 ++ [m100 r, m101 r]) := by simp [nums]
        have o2' := o2
        rw [e, nums_length] at o2'
        refine o2'.kept g3 ?_
        rcases hv : v2.ownBlock with _ | k
        · exact .inl rfl
        · right; intro e
          have e1 := own_lt h.grow k e.symm
          have e2 := h.gnew k e.symm
          rcases a2 with a2 | ⟨z, a2, a2'⟩
          · rcases a1 with a1 | ⟨z, a1, a1'⟩
            · rw [hv, a1] at a2
              have := (pn k a2.symm).2; omega
            · rw [hv, a1] at a2; injection a2 with a2; omega
          · rw [hv] at a2; injection a2 with a2; omega
      · intro k hk
        rcases a2 with a2 | ⟨z, a2, a2'⟩
        · rw [a2] at hk
          rcases a1 with a1 | ⟨z, a1, a1'⟩
          · left; rw [← a1]; exact hk
          · right; rw [a1] at hk; injection hk with hk; omega
        · right; rw [a2] at hk; injection hk with hk; omega
theorem Gr.read {w wr : World} {base b : Nat} {cs : Array Value} {A0 AG : Option Addr} {c0 cg : Nat} {LB l gl : List (Value × List Int)} (h : Gr w wr base b cs (.slice A0 LB.length c0) LB l LB.length (.slice AG LB.length cg) gl)
    (hf : Fam w base 3 .i64 LB) (hs : ∀ p ∈ LB, p.2.length ≤ 10000000000000) {n : Nat} (hn : n < LB.length) :
    ∃ g0 g1 A ln c g2 c2, A0 = some ⟨g0, 0, none⟩ ∧ AG = some ⟨g1, 0, none⟩ ∧ wr.cell? ⟨g0, n, none⟩ = some (.slice A ln c) ∧ wr.cell? ⟨g1, n, none⟩ = some (.slice (some ⟨g2, 0, none⟩) (ln + 2) c2) ∧ ln ≤ 10000000000000 ∧
      (∀ t, t < ln → ∃ g3, A = some ⟨g3, 0, none⟩ ∧ wr.cell? ⟨g3, t, none⟩ = some (.int .i64 (n : Int))) ∧ (∀ t, t < ln → wr.cell? ⟨g2, t, none⟩ = some (.int .i64 (n : Int))) ∧
      wr.cell? ⟨g2, ln, none⟩ = some (.int .i64 ((n : Int) + 1000)) ∧ wr.cell? ⟨g2, ln + 1, none⟩ = some (.int .i64 ((n : Int) + 1001)) := by
  obtain ⟨g0, c0', ⟨pv, xs⟩, hv, hc1, hp, hpL, ho, hpl⟩ := h.row_n hn
  injection hv with hA0 _ hc0
  obtain ⟨g1, cg', hvg, -, -⟩ := h.grow.form (by rw [h.len]; omega)
  have hvg' := hvg
  injection hvg' with hA1 _ hcg
  obtain ⟨A, c, hsl⟩ := own_slice ho
  have hsl' : pv = .slice A xs.length c := by have q : pv = .slice A (nums .i64 xs).length c := hsl; rw [nums_length] at q; exact q
  have hgl : n < gl.length := by rw [h.len]; exact hn
  obtain ⟨q1, q2, q3⟩ := h.own n gl[n] (pv, xs) (List.getElem?_eq_getElem hgl) hp
  have hql : gl[n].2.length = xs.length + 2 := by rw [q2]; simp
  obtain ⟨g2, c2, hv2, -, -⟩ := q1.form (by omega)
  rw [hql] at hv2
  have hall := h.all n (pv, xs) hp
  have hxl : xs.length ≤ 10000000000000 := by
    obtain ⟨q, hq, eq⟩ := at_map h.fst.symm hp
    obtain ⟨A', c', hs2⟩ := own_slice (hf.1 n q hq)
    rw [eq] at hs2
    have hs3 : pv = .slice A' q.2.length c' := hs2
    rw [hsl'] at hs3
    injection hs3 with _ hs3 _
    rw [hs3]
    exact hs q (List.mem_of_getElem? hq)
  have cellg : ∀ t, t < xs.length + 2 → wr.cell? ⟨g2, t, none⟩ = some (.int .i64 (gl[n].2.getD t 0)) := by
    intro t ht
    have hc := q1.cells (g := g2) (by rw [hv2]; rfl) t (.int .i64 (gl[n].2.getD t 0)) (by simp [nums, List.getElem?_eq_getElem (show t < gl[n].2.length by omega), List.getD_eq_getElem?_getD])
    rwa [add_plain] at hc
  have get1 : ∀ t, t < xs.length → gl[n].2.getD t 0 = mark n := by
    intro t ht
    rw [q2, List.getD_eq_getElem?_getD, List.getElem?_append_left (by simpa using ht), ← List.getD_eq_getElem?_getD]
    exact hall t ht
  have get2 : gl[n].2.getD xs.length 0 = m100 n := by
    rw [q2, List.getD_eq_getElem?_getD, List.getElem?_append_right (by simp)]; simp
  have get3 : gl[n].2.getD (xs.length + 1) 0 = m101 n := by
    rw [q2, List.getD_eq_getElem?_getD, List.getElem?_append_right (by simp)]; simp
  refine ⟨g0, g1, A, xs.length, c, g2, c2, hA0, hA1, by rw [hc1]; exact congrArg some hsl', ?_, hxl, ?_, ?_, ?_, ?_⟩
  · have hc := h.grow.cells (g := g1) (by rw [hvg]; rfl) n gl[n].1 (by rw [List.getElem?_map, List.getElem?_eq_getElem hgl]; rfl)
    rw [add_plain] at hc
    rw [hc, hv2]
  · intro t ht
    have ho' : wr.ownsRow base 3 1 pv xs.length (nums .i64 xs) := by have := ho; rwa [nums_length] at this
    obtain ⟨g3, c3, hv3, -, -⟩ := ho'.form (by omega)
    rw [hsl'] at hv3
    injection hv3 with hA3 _ _
    refine ⟨g3, hA3, ?_⟩
    have hc := ho'.cells (g := g3) (by rw [hsl', hA3]; rfl) t (.int .i64 (xs.getD t 0)) (by simp [nums, List.getElem?_eq_getElem ht, List.getD_eq_getElem?_getD])
    rw [add_plain] at hc
    rw [hc, hall t ht]; rfl
  · intro t ht
    rw [cellg t (by omega), get1 t ht]; rfl
  · rw [cellg _ (by omega), get2]; rfl
  · rw [cellg _ (by omega), get3]; rfl
theorem len2 {w : World} {base : Nat} {e : TypeId} {v : Value} {xs : List Int} {a b : Value} (h : w.ownsRow base e 1 v ((nums .i64 xs ++ [a]) ++ [b]).length ((nums .i64 xs ++ [a]) ++ [b])) : w.ownsRow base e 1 v (xs.length + 2) ((nums .i64 xs ++ [a]) ++ [b]) := by
  have : ((nums .i64 xs ++ [a]) ++ [b]).length = xs.length + 2 := by simp [nums]
  rwa [this] at h
theorem p8 : 0 < 8 := by decide
theorem p24 : 0 < 24 := by decide
theorem info_i64 : (Try.prog.info? 3).map (fun i => (i.zero, i.size, i.bytes)) = some (some (.int .i64 0), 1, 8) := by kernel_rfl
theorem info_sl64 : (Try.prog.info? 23).map (fun i => (i.zero, i.size, i.bytes)) = some (some (.slice none 0 0), 1, 24) := by kernel_rfl
set_option maxHeartbeats 1000000 in
set_option maxRecDepth 100000 in
theorem closeInts_calls (w : World) (base b : Nat) (A0 : Option Addr) (c0 : Nat) (v1 v2 v3 v4 v5 : Value) (LB : List (Value × List Int))
    (hb : w.heap[b]? = some (.cells #[v1, v2, v3, v4, .slice A0 LB.length c0, v5] 38 (0, 0)))
    (hrow : w.ownsRow base 23 1 (.slice A0 LB.length c0) LB.length (LB.map (·.1))) (hfam : Fam w base 3 .i64 LB)
    (nb : ¬ okL LB b) (n0 : ∀ k, (Value.slice A0 LB.length c0).ownBlock = some k → ¬ okL LB k) (hbase : base ≤ w.heap.size) (hlen : LB.length ≤ 400) (hsz : ∀ p ∈ LB, p.2.length ≤ 10000000000000) (hw : ∀ k, okL LB k → k < w.heap.size) (hbw : b < w.heap.size) (h0w : ∀ k, (Value.slice A0 LB.length c0).ownBlock = some k → k < w.heap.size) :
    Calls Try.prog 32 #[.pointer (some ⟨b, 0, none⟩)] w fun e w' => e = .returned (.bool true) ∧ Chg (okL LB) w w' := by
  have start : Aside0 (St w w base b #[v1, v2, v3, v4, .slice A0 LB.length c0, v5] (.slice A0 LB.length c0) LB 0 0) := ⟨⟨hb, hrow, Chg.refl _ _, LB, rfl, rfl, hfam, fun r p _ hr => by omega, fun p _ t ht => by omega⟩⟩
  have NB := Aside0.mk nb
  have N0 := Aside0.mk n0
  have HF := Aside0.mk hfam
  have HSZ := Aside0.mk hsz
  have HW := Aside0.mk hw
  have H0W := Aside0.mk h0w
  clear hb hrow hfam nb n0 hsz hw h0w
  go_enter Try.func32, Try.ntmps32
  go_wp2_with fail
  go_loopw [3] (fun i wr => ∃ n : Nat, n ≤ LB.length ∧ i = .int .i64 (n : Int) ∧ Aside0 (St w wr base b #[v1, v2, v3, v4, .slice A0 LB.length c0, v5] (.slice A0 LB.length c0) LB n 0)) (fun i _ => LB.length - (intOf i).toNat)
  case atStart => exact ⟨0, Nat.zero_le _, rfl, start⟩
  case round =>
    obtain ⟨n, hn, rfl, HS⟩ := hrel
    have hcell0 : wr.cell? ⟨b, 4, none⟩ = some (.slice A0 LB.length c0) := (blk_cell HS.out.blk 4).trans rfl
    by_cases hlt : n < LB.length
    · obtain ⟨g0, c0', A, ln, c, xs, hv, hc1, hp, hx, hmax⟩ := HS.out.at_ hlt
      injection hv with hA0 _ hc0
      subst hA0
      subst hc0
      have HP := Aside0.mk hp
      have HX := Aside0.mk hx
      clear hp hx
      go_wp2_with fail
      obtain ⟨wo, rfl⟩ : ∃ wo : World, wo = wr := ⟨_, rfl⟩
      clear hcell0 hc1
      go_loopw [4] (fun j wi => ∃ m : Nat, m ≤ ln ∧ j = .int .i64 (m : Int) ∧ Aside0 (St w wi base b #[v1, v2, v3, v4, .slice (some ⟨g0, 0, none⟩) LB.length c0, v5] (.slice (some ⟨g0, 0, none⟩) LB.length c0) LB n m)) (fun j _ => ln - (intOf j).toNat)
      case atStart => exact ⟨0, Nat.zero_le _, rfl, HS⟩
      case round =>
        obtain ⟨m, hm, rfl, HT⟩ := hrel
        have hcell0 : wr.cell? ⟨b, 4, none⟩ = some (.slice (some ⟨g0, 0, none⟩) LB.length c0) := (blk_cell HT.out.blk 4).trans rfl
        obtain ⟨g0', c0', A', ln', c', xs', hv, hc1, hp, -, -⟩ := HT.out.at_ hlt
        injection hv with hA0 _ hc0
        injection hA0 with hA0
        injection hA0 with hA0
        subst hA0
        subst hc0
        rw [HP.out] at hp
        injection hp with hp
        injection hp with hp hxs
        injection hp with hA hln hc
        subst hA hln hc hxs
        by_cases hml : m < ln
        · obtain ⟨g, hA, hS', ⟨y, hy⟩, hfr⟩ := HT.out.store NB.out N0.out HP.out hml
          have HS' := Aside0.mk hS'
          clear hS'
          subst hA
          go_wp2_with fail
          go_roundw
          case rel => exact ⟨m + 1, by omega, by go_num, HS'⟩
          case measure => simp [intOf]; omega
        · have HN := Aside0.mk (HT.out.next HP.out HX.out (by omega))
          go_wp2_with fail
          go_roundw
          case rel => exact ⟨n + 1, by omega, by go_num, HN⟩
          case measure => simp [intOf]; omega
    · obtain rfl : n = LB.length := by omega
      obtain ⟨l, hG⟩ := st_gr HS.out
      have HG0 := Aside0.mk hG
      clear hG HS
      go_wp2_with fail
      obtain ⟨wo, rfl⟩ : ∃ wo : World, wo = wr := ⟨_, rfl⟩
      clear hcell0
      go_loopw [5, 6] (fun v i wi => ∃ (n : Nat) (gl : List (Value × List Int)) (vg : Value), n ≤ LB.length ∧ vg = v ∧ i = .int .i64 (n : Int) ∧ Aside0 (Gr w wi base b #[v1, v2, v3, v4, .slice A0 LB.length c0, v5] (.slice A0 LB.length c0) LB l n vg gl)) (fun _ i _ => LB.length - (intOf i).toNat)
      case atStart => exact ⟨0, [], _, Nat.zero_le _, rfl, rfl, HG0⟩
      case round =>
        obtain ⟨n, gl, vg, hn, rfl, rfl, HG⟩ := hrel
        have hcell0 : wr.cell? ⟨b, 4, none⟩ = some (.slice A0 LB.length c0) := (blk_cell HG.out.blk 4).trans rfl
        by_cases hlt : n < LB.length
        · obtain ⟨g0, c0', ⟨pv, xs⟩, hv, hc1, hp, hpL, ho, hpl⟩ := HG.out.row_n hlt
          injection hv with hA0 _ hc0
          subst hA0
          subst hc0
          obtain ⟨A, c, hs⟩ := own_slice ho
          have hs' : pv = .slice A xs.length c := by have hs2 : pv = .slice A (nums .i64 xs).length c := hs; rw [nums_length] at hs2; exact hs2
          subst hs'
          have HP := Aside0.mk hp
          have HO := Aside0.mk ho
          have HL := Aside0.mk hpL
          have hxl : xs.length ≤ 10000000000000 := by
            obtain ⟨q, hq, eq⟩ := at_map HG.out.fst.symm hp
            obtain ⟨A', c', hs2⟩ := own_slice (HF.out.1 n q hq)
            rw [eq] at hs2
            injection hs2 with _ hs2 _
            rw [hs2]
            exact HSZ.out q (List.mem_of_getElem? hq)
          have S0 := Aside0.mk (Nat.le_trans hbase HG.out.chg.size)
          have L1 : Aside0 (((nums .i64 xs).length + 1) * 8 ≤ 140737488355328) := ⟨by rw [nums_length]; omega⟩
          have L2 : Aside0 (((nums .i64 xs ++ [Value.int .i64 ((n : Int) + 1000)]).length + 1) * 8 ≤ 140737488355328) := ⟨by rw [List.length_append, nums_length]; simp; omega⟩
          have L3 : Aside0 (((gl.map (·.1)).length + 1) * 24 ≤ 140737488355328) := ⟨by have := HG.out.len; rw [List.length_map]; omega⟩
          have VG := Aside0.mk HG.out.grow
          clear hp ho hs hpL hpl hxl
          go_wp2_with (first
            | (at_builtin; refine keep_append (W := wr) base rfl _ _ 23 3 (.int .i64 0) 8 rfl Try.underlying23 info_i64 rfl (.slice A xs.length c) (nums .i64 xs) (.int .i64 ((n : Int) + 1000)) rfl rfl rfl HO.out S0.out p8 L1.out ?_; intro z1 w1 o1 k1 g1 a1; have O1 := Aside0.mk o1; have K1 := Aside0.mk k1; have G1 := Aside0.mk g1; have A1 := Aside0.mk a1; have S1 := Aside0.mk (Nat.le_trans S0.out g1.size); clear o1 k1 g1 a1)
            | (at_builtin; refine keep_append (W := w1) base rfl _ _ 23 3 (.int .i64 0) 8 rfl Try.underlying23 info_i64 rfl z1 (nums .i64 xs ++ [Value.int .i64 ((n : Int) + 1000)]) (.int .i64 ((n : Int) + 1001)) rfl rfl rfl O1.out S1.out p8 L2.out ?_; intro z2 w2 o2 k2 g2 a2; obtain ⟨A2z, c2z, hz⟩ := own_slice (len2 o2); subst hz; have O2 := Aside0.mk o2; have K2 := Aside0.mk k2; have G2 := Aside0.mk g2; have A2 := Aside0.mk a2; have S2 := Aside0.mk (Nat.le_trans S1.out g2.size); have VG2 := Aside0.mk (HG.out.grow2 O1.out G1.out g2 HO.out); clear o2 k2 g2 a2)
            | (at_builtin; refine keep_append (W := w2) base rfl _ _ 36 23 (.slice none 0 0) 24 rfl Try.underlying36 info_sl64 rfl vg (gl.map (·.1)) (.slice A2z (xs.length + 2) c2z) rfl rfl rfl VG2.out S2.out p24 L3.out ?_; intro z3 w3 o3 k3 g3 a3; have O3 := Aside0.mk o3; have G3 := Aside0.mk g3; have A3 := Aside0.mk a3; clear o3 k3 g3 a3))
          go_roundw
          case rel => exact ⟨n + 1, gl ++ [(.slice A2z (xs.length + 2) c2z, xs ++ [m100 n, m101 n])], z3, by omega, rfl, by go_num, ⟨HG.out.step HW.out NB.out hbw (fun k hk => ⟨N0.out k hk, H0W.out k hk⟩) HP.out O1.out K1.out G1.out A1.out O2.out K2.out G2.out A2.out O3.out G3.out A3.out⟩⟩
          case measure => simp [intOf]; omega
        · obtain rfl : n = LB.length := by omega
          obtain ⟨wq, rfl⟩ : ∃ wq : World, wq = wr := ⟨_, rfl⟩
          obtain ⟨AG, cg, hvg⟩ := own_slice HG.out.grow
          have hvg2 : vg = .slice AG LB.length cg := by rw [hvg, HG.out.len]
          subst hvg2
          clear hvg
          go_wp2_with fail
          go_loop [8] (fun i => ∃ n : Nat, n ≤ LB.length ∧ i = .int .i64 (n : Int)) (fun i => LB.length - (intOf i).toNat)
          case atStart => exact ⟨0, Nat.zero_le _, rfl⟩
          case round =>
            obtain ⟨n, hn, rfl⟩ := hrel
            by_cases hlt : n < LB.length
            · obtain ⟨g0, g1, A, ln, c, g2, c2, hA0, hA1, hc1, hc2, hmax, hr1, hr2, hr3, hr4⟩ := HG.out.read HF.out HSZ.out hlt
              subst hA0
              subst hA1
              have HR1 := Aside0.mk hr1
              have HR2 := Aside0.mk hr2
              clear hr1 hr2
              go_wp2_with fail
              go_loop [10] (fun j => ∃ m : Nat, m ≤ ln ∧ j = .int .i64 (m : Int)) (fun j => ln - (intOf j).toNat)
              case atStart => exact ⟨0, Nat.zero_le _, rfl⟩
              case round =>
                obtain ⟨m, hm, rfl⟩ := hrel
                by_cases hml : m < ln
                · obtain ⟨g3, hA, h3⟩ := HR1.out m hml
                  subst hA
                  have h4 := HR2.out m hml
                  go_wp2_with fail
                  go_round
                  case rel => exact ⟨m + 1, by omega, by go_num⟩
                  case measure => simp [intOf]; omega
                · obtain rfl : m = ln := by omega
                  go_wp2_with fail
                  go_round
                  case rel => exact ⟨n + 1, by omega, by go_num⟩
                  case measure => simp [intOf]; omega
            · obtain rfl : n = LB.length := by omega
              go_wp2_with fail
              go_ret
              exact ⟨rfl, HG.out.chg⟩
end Go.Proofs.Ytbjoinocajobhaa.Keepi
