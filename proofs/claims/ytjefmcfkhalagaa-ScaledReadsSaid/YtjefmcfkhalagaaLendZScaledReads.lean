/- Lend and Back: bytes that are lent with two marks behind them. -/
import Derived.Test.YtjefmcfkhalagaaWLast
import Derived.Test.YtjefmcfkhalagaaWMore
import Derived.OwnWalk
import Derived.Test.YtjefmcfkhalagaaKeep0ZScaledReads
import Derived.Outline
import Derived.WalkSpells
import Derived.KernelRfl
import Derived.Test.YtjefmcfkhalagaaQ1ZScaledReads
namespace Go.Proofs.Ytjefmcfkhalagaa.Keep
set_option linter.unusedVariables false
set_option linter.unusedSimpArgs false
open Go.RowKit Go.Proofs.Ytjefmcfkhalagaa.Q Go.Proofs.YtjefmcfkhalagaaW.PrintWords Go.Proofs.YtjefmcfkhalagaaW.PrintLast

section
variable {P : Program} {ops : Array Oper} {rest : List Oper} {o : Oper} {a : Act} {Q : Exit → Act → World → Prop}
/-- append(l, b...) where there is room: the slice stays where it is. -/
theorem append_read_fits {W : World} (base : Nat) (hgd : o.guard = none) (s x : Operand) (t e : TypeId) (k : IntKind)
    (ho : o.op = .call { callee := .builtin .append, args := #[s, x], argTypes := #[t, t] }) (ht : P.underlying t = some (.slice e)) (i : TypeInfo) (hi : P.info? e = some i) (hs1 : i.size = 1)
    (g n cap r : Nat) (xs : List Value) (ys : List Int) (A : Option Addr) (m c : Nat) (hs : a.eval s = .slice (some ⟨g, 0, none⟩) n cap) (hx : a.eval x = .slice A m c)
    (HO : W.ownsRow base e 1 (.slice (some ⟨g, 0, none⟩) n cap) n xs) (HR : ReadsInt W k A m ys) (hroom : n + m ≤ cap) (hr : n + m = r)
    (h : ∀ w1, w1.ownsRow base e 1 (.slice (some ⟨g, 0, none⟩) r cap) r (xs ++ nums k ys) → W.grownBy w1 (some g) → wpList P ops Q rest (a.put o.dst (.slice (some ⟨g, 0, none⟩) r cap)) w1) :
    wpList P ops Q (o :: rest) a W := by
  subst hr
  have hm : ys.length = m := HR.1
  have hrun : ∃ w1, (Builtin.append_ #[t, t] o.type #[.slice (some ⟨g, 0, none⟩) n cap, .slice A m c]).run P W = .ok (.slice (some ⟨g, 0, none⟩) (n + m) cap) w1 ∧ w1.ownsRow base e 1 (.slice (some ⟨g, 0, none⟩) (n + m) cap) (n + m) (xs ++ nums k ys) ∧ W.grownBy w1 (some g) := by
    rcases A with _ | ad
    · have h0 : m = 0 := by
        rcases Nat.eq_zero_or_pos m with h0 | h0
        · exact h0
        · obtain ⟨ad, h, _⟩ := HR.2.2 h0
          cases h
      subst h0
      obtain rfl : ys = [] := List.eq_nil_of_length_eq_zero hm
      refine ⟨W, ?_, by simpa [nums] using HO, World.grownBy.refl W _⟩
      simp [Builtin.append_, run_underlying ht, sizeOf, typeInfo, hi, Builtin.lenOf, Builtin.firstCells, show n ≤ cap by omega, storeCells]
    · have hcells : ∀ j u, (nums k ys)[j]? = some u → W.cell? (ad.add j) = some u := by
        intro j u hu
        have hj : j < ys.length := by
          rcases Nat.lt_or_ge j ys.length with h | h
          · exact h
          · simp [nums, List.getElem?_eq_none h] at hu
        obtain ⟨ad', h', hc⟩ := HR.2.2 (by omega)
        injection h' with h'
        subst h'
        have := hc j (by omega)
        simp [nums, List.getElem?_eq_getElem hj] at hu
        subst hu
        rw [this]
        simp [List.getD_eq_getElem?_getD, List.getElem?_eq_getElem hj]
      exact run_append_fits (P := P) W base t o.type e i 1 ht hi hs1 g n cap xs HO ad m c (nums k ys) (by simp [nums, hm]) hcells (by intro u hu; simp only [nums, List.mem_map] at hu; obtain ⟨q, _, rfl⟩ := hu; rfl) hroom
  obtain ⟨w1, hr, hown, hg⟩ := hrun
  refine wpList_plain hgd fun K hK => ?_
  unfold Oper.wp execOp
  simp only [ho, resolve, invoke, builtin, Sem.run_bind, Sem.run_pure, Result.andThen_ok, List.map_toArray, List.map_cons, List.map_nil, hs, hx, hr]
  exact hK _ _ (h w1 hown hg)
end
theorem info_u8l : (Try.prog.info? 5).map (fun i => (i.zero, i.size, i.bytes)) = some (some (.int .u8 0), 1, 1) := by kernel_rfl
/-- What is lent: the bytes, two marks behind them, in one block of the call's own. -/
def Lent (w : World) (base g : Nat) (xs : List Int) : Prop := w.ownsRow base 5 1 (.slice (some ⟨g, 0, none⟩) (xs.length + 2) (xs.length + 2)) (xs.length + 2) (nums .u8 (xs ++ [165, 90]))
theorem Lent.C {w : World} {base g : Nat} {xs : List Int} (h : Lent w base g xs) : Kd.C (Kd.int .u8) w (some ⟨g, 0, none⟩) xs.length xs := by
  obtain ⟨A', d', e', hr⟩ := own_reads h
  injection e' with e1 e2 e3
  subst e1
  have := hr.take_ xs.length (by omega)
  rw [List.take_left'] at this
  · exact Kd.C_of_reads (readsInt_of.1 this)
  · rfl
theorem two_cells : ∀ u ∈ [Value.int .u8 165, Value.int .u8 90], u.oneCell' = true := by
  intro u hu; simp at hu; rcases hu with rfl | rfl <;> rfl
set_option maxHeartbeats 1000000 in
set_option maxRecDepth 100000 in
theorem lend_calls (w : World) (A : Option Addr) (c : Nat) (xs : List Int) (hr : Kd.C (Kd.int .u8) w A xs.length xs) (hsz : xs.length ≤ 140737488351232) :
    Calls Try.prog 10 #[.slice A xs.length c] w fun e w' => e = .returned (.slice (some ⟨w.heap.size, 0, none⟩) xs.length (xs.length + 2)) ∧ Lent w' w.heap.size w.heap.size xs ∧ Below w.heap.size w w' := by
  obtain ⟨i0, hi, hzz⟩ := Option.map_eq_some_iff.1 info_u8l
  simp only [Prod.mk.injEq] at hzz
  obtain ⟨hz0, hz1, hz2⟩ := hzz
  have HR : Aside0 (ReadsInt w .u8 A xs.length xs) := ⟨readsInt_of.2 (Kd.reads_of_C hr)⟩
  have M1 : Aside0 (i0.bytes * (xs.length + 2) ≤ 281474976710656) := ⟨by rw [hz2]; omega⟩
  have M2 : Aside0 (xs.length + 2 ≤ maxLen) := ⟨by simp only [maxLen]; omega⟩
  have M3 : Aside0 ((xs.length : Int) + 2 = ((xs.length + 2 : Nat) : Int)) := ⟨by omega⟩
  have M4 : Aside0 (0 + xs.length = xs.length) := ⟨by omega⟩
  have M5 : Aside0 (0 + xs.length ≤ xs.length + 2) := ⟨by omega⟩
  clear hr hz2
  go_enter Try.func10, Try.ntmps10
  go_wp2_with (first
    | (at_make; refine wpList_make_own w rfl _ _ 22 rfl w.heap.size 5 i0 _ 1 Try.underlying22 hi hz0 hz1 .i64 .i64 _ (xs.length + 2) rfl rfl M3.out M1.out M2.out (Nat.le_refl _) ?_; intro w1 o1 g1; have O1 := Aside0.mk o1; have B1 := Aside0.mk ((Below.refl w.heap.size w).grown g1 (Nat.le_refl _) (fun k hk => by cases hk)); clear o1 g1)
    | (at_builtin; refine append_read_fits (W := w1) w.heap.size rfl _ _ 22 5 .u8 rfl Try.underlying22 i0 hi hz1 w.heap.size 0 (xs.length + 2) xs.length [] xs A xs.length c rfl rfl O1.out (HR.out.below B1.out) M5.out M4.out ?_; intro w2 o2 g2; have O2 := Aside0.mk o2; have B2 := Aside0.mk (B1.out.grown g2 B1.out.size (fun k hk => by injection hk with hk; omega)); clear o2 g2)
    | (at_builtin; refine wpList_append_fits (w2.alloc (.cells #[.int .u8 165, .int .u8 90] 5)) rfl _ _ 22 rfl w.heap.size 5 i0 1 Try.underlying22 hi hz1 w.heap.size xs.length (xs.length + 2) _ rfl (O2.out.alloc _) ⟨w2.heap.size, 0, none⟩ 2 2 [.int .u8 165, .int .u8 90] rfl rfl (World.news_of_block (cs := #[.int .u8 165, .int .u8 90]) (t := 5) (fr := (0, 0)) (heap_alloc_new w2 _)) two_cells (Nat.le_refl _) ?_; intro w3 o3 g3; have O3 := Aside0.mk o3; have B3 := Aside0.mk ((below_alloc B2.out (.cells #[.int .u8 165, .int .u8 90] 5)).grown g3 (below_alloc B2.out (.cells #[.int .u8 165, .int .u8 90] 5)).size (fun k hk => by injection hk with hk; omega)); clear o3 g3))
  go_ret
  refine ⟨rfl, ?_, B3.out⟩
  have := O3.out
  unfold Lent
  simpa [nums] using this
theorem same_refl' (l : List Int) : mintagekeep_Same.f l l = some true := by unfold mintagekeep_Same.f; simp
/-- While the lent bytes are written over. -/
structure Bw (w wr : World) (base g n : Nat) : Prop where
  own : ∃ ys : List Int, ys.length = n + 2 ∧ wr.ownsRow base 5 1 (.slice (some ⟨g, 0, none⟩) (n + 2) (n + 2)) (n + 2) (nums .u8 ys)
  chg : Chg (fun k => k = g) w wr
theorem Bw.cell {w wr : World} {base g n : Nat} (h : Bw w wr base g n) {i : Nat} (hi : i < n) : ∃ y, wr.cell? ⟨g, i, none⟩ = some (.int .u8 y) ∧ wr.frozen? ⟨g, i, none⟩ = false ∧ ∀ x, Bw w (wr.setCell ⟨g, i, none⟩ (.int .u8 x)) base g n := by
  obtain ⟨ys, hl, ho⟩ := h.own
  obtain ⟨hc, hf⟩ := own_at ho (i : Int) (by omega) (by omega)
  simp only [Int.toNat_natCast] at hc hf
  refine ⟨_, hc, hf, fun x => ⟨⟨ys.set i x, by simpa using hl, ?_⟩, h.chg.set_ rfl _⟩⟩
  have := (own_store ho (i : Int) x).1
  simpa using this
set_option maxHeartbeats 1000000 in
set_option maxRecDepth 100000 in
theorem back_calls (w : World) (base g : Nat) (A : Option Addr) (c : Nat) (xs : List Int) (hL : Lent w base g xs) (hr : Kd.C (Kd.int .u8) w A xs.length xs) (hc : xs.length ≤ c) (hsz : xs.length ≤ 140737488351232) :
    Calls Try.prog 15 #[.slice (some ⟨g, 0, none⟩) xs.length (xs.length + 2), .slice A xs.length c] w fun e w' => e = .returned (.bool true) ∧ Chg (fun k => k = g) w w' := by
  have HR := Aside0.mk hr
  have HL := Aside0.mk hL
  have k1 : w.cell? ⟨g, xs.length, none⟩ = some (.int .u8 165) := by
    have := World.ownsRow.cells hL (g := g) rfl xs.length (.int .u8 165) (by simp [nums])
    rwa [add_plain] at this
  have k2 : w.cell? ⟨g, xs.length + 1, none⟩ = some (.int .u8 90) := by
    have := World.ownsRow.cells hL (g := g) rfl (xs.length + 1) (.int .u8 90) (by simp [nums])
    rwa [add_plain] at this
  have S0 : Aside0 (Bw w w base g xs.length) := ⟨⟨xs ++ [165, 90], by simp, hL⟩, Chg.refl _ _⟩
  clear hr hL
  go_enter Try.func15, Try.ntmps15
  go_wp2_with (first | (go_at_call 26; refine (mintagekeep_Same.calls (some ⟨g, 0, none⟩) (xs.length + 2) xs A c xs true _ HL.out.C (by omega) HR.out hc (same_refl' xs)).mono ?_; rintro e w' ⟨rfl, ⟨nd, rfl⟩⟩))
  go_loopw [6] (fun i wr => ∃ m : Nat, m ≤ xs.length ∧ i = .int .i64 (m : Int) ∧ Aside0 (Bw w wr base g xs.length)) (fun i _ => xs.length - (intOf i).toNat)
  case atStart => exact ⟨0, Nat.zero_le _, rfl, ⟨S0.out.own, S0.out.chg.drewN_ _⟩⟩
  case round =>
    obtain ⟨m, hm, rfl, HB⟩ := hrel
    clear k1 k2
    by_cases hlt : m < xs.length
    · obtain ⟨y, hy, hf, hset⟩ := HB.out.cell hlt
      have HS := Aside0.mk hset
      clear hset
      go_wp2_with fail
      go_roundw
      case rel => exact ⟨m + 1, by omega, by go_num, ⟨HS.out _⟩⟩
      case measure => simp [intOf]; omega
    · obtain rfl : m = xs.length := by omega
      go_wp2_with fail
      go_ret
      exact ⟨rfl, HB.out.chg⟩
/-- What a law holds while its bytes are lent: the lent block (g), the argument as it came. -/
structure Lv (w W : World) (g : Nat) (A : Option Addr) (xs : List Int) : Prop where
  lent : Lent W w.heap.size g xs
  read : Kd.C (Kd.int .u8) W A xs.length xs
  bel : Below w.heap.size w W
  ge : w.heap.size ≤ g
theorem Lv.below {w W w1 : World} {g : Nat} {A : Option Addr} {xs : List Int} (h : Lv w W g A xs) (hb : Below W.heap.size W w1) : Lv w w1 g A xs :=
  ⟨own_move h.lent fun k hk => hb.block k (own_lt h.lent k hk), Kd.C_below h.read hb, h.bel.trans (hb.mono h.bel.size), h.ge⟩
theorem Lv.V {w W : World} {g : Nat} {A : Option Addr} {xs : List Int} (h : Lv w W g A xs) {c : Nat} (hc : xs.length ≤ c) : Kd.V (Kd.int .u8) 5 W W.heap.size (fun _ => True) (.slice A xs.length c) xs := Kd.V_mk hc (Kd.F_mono (Kd.C_F (Kd.heap_int .u8) h.read) (fun _ _ => trivial))
theorem Lv.LV {w W : World} {g : Nat} {A : Option Addr} {xs : List Int} (h : Lv w W g A xs) : Kd.V (Kd.int .u8) 5 W W.heap.size (fun _ => True) (.slice (some ⟨g, 0, none⟩) xs.length (xs.length + 2)) xs := Kd.V_mk (by omega) (Kd.F_mono (Kd.C_F (Kd.heap_int .u8) h.lent.C) (fun _ _ => trivial))
theorem lv_calls (w : World) (A : Option Addr) (c : Nat) (xs : List Int) (hr : Kd.C (Kd.int .u8) w A xs.length xs) (hsz : xs.length ≤ 140737488351232) :
    Calls Try.prog 10 #[.slice A xs.length c] w fun e w' => ∃ g, e = .returned (.slice (some ⟨g, 0, none⟩) xs.length (xs.length + 2)) ∧ Lv w w' g A xs :=
  (lend_calls w A c xs hr hsz).mono fun _ _ ⟨he, hl, hb⟩ => ⟨_, he, hl, Kd.C_below hr hb, hb, Nat.le_refl _⟩
theorem Lv.back_calls {w W : World} {g : Nat} {A : Option Addr} {c : Nat} {xs : List Int} (h : Lv w W g A xs) (hc : xs.length ≤ c) (hsz : xs.length ≤ 140737488351232) :
    Calls Try.prog 15 #[.slice (some ⟨g, 0, none⟩) xs.length (xs.length + 2), .slice A xs.length c] W fun e w' => e = .returned (.bool true) ∧ Below w.heap.size w w' :=
  (Keep.back_calls W w.heap.size g A c xs h.lent h.read hc hsz).mono fun _ _ ⟨he, hc'⟩ => ⟨he, h.bel.trans (hc'.below h.bel.size fun k hk => by have := h.ge; omega)⟩
set_option maxHeartbeats 1000000 in
set_option maxRecDepth 100000 in
theorem cut_calls (w : World) (A : Option Addr) (c n : Nat) (xs : List Int) (hr : Kd.C (Kd.int .u8) w A xs.length xs) (hc : xs.length ≤ c) (ys : List Int) (hy : ys = xs.take n) :
    Calls Try.prog 9 #[.slice A xs.length c, .int .i64 (n : Int)] w fun e w' => e = .returned (.slice A ys.length c) ∧ w = w' := by
  subst hy
  by_cases h : n < xs.length
  · have p0 := eq_true (show (0 : Int) ≤ (n : Int) by omega)
    have p1 := eq_true (show (n : Int) ≤ (c : Int) by omega)
    have e1 : (xs.take n).length = n := by rw [List.length_take]; omega
    rw [e1]
    obtain ⟨ad, rfl⟩ : ∃ ad, A = some ad := by
      obtain ⟨ad, e, _⟩ := hr.2.2 (by omega)
      exact ⟨ad, e⟩
    go_enter Try.func9, Try.ntmps9
    go_wp2_with fail
    go_ret
    exact ⟨rfl, rfl⟩
  · have e1 : xs.take n = xs := List.take_of_length_le (by omega)
    rw [e1]
    go_enter Try.func9, Try.ntmps9
    go_wp2_with fail
    go_ret
    exact ⟨rfl, rfl⟩
end Go.Proofs.Ytjefmcfkhalagaa.Keep
