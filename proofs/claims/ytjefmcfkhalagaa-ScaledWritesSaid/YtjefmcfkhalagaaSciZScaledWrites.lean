/- scaled.Parse. -/
import Derived.Test.YtjefmcfkhalagaaSchZScaledWrites
import Derived.Test.YtjefmcfkhalagaaQ0ZScaledWrites
namespace Go.Proofs.Ytjefmcfkhalagaa.Scr
set_option linter.unusedVariables false
set_option linter.unusedSimpArgs false
open Go.RowKit Go.Proofs.Ytjefmcfkhalagaa.Q Go.Proofs.YtjefmcfkhalagaaW.PrintWords Go.Proofs.YtjefmcfkhalagaaW.PrintLast Go.Proofs.Ytjefmcfkhalagaa.Keep Go.Proofs.Ytjefmcfkhalagaa.Dig
def parseF (K : Nat) (l : List Int) (sc : Int) : Option (Int × Int × Int) :=
  if ¬ (0 ≤ sc ∧ sc ≤ 18) then some (0, 0, 120)
  else if l.length > 1024 then some (0, 0, 80)
  else (readF K l sc.toNat).map fun o => match o with | .inl v => (v, 0, 0) | .inr (pl, er) => (0, pl, er)
/-- The three named results' cells. -/
structure Cells (w0 w : World) (B : Nat) : Prop where
  below : Below w0.heap.size w0 w
  base : B = w0.heap.size
  c0 : w.cell? ⟨B, 0, none⟩ = some (.int .u64 0)
  c1 : w.cell? ⟨B + 1, 0, none⟩ = some (.int .i64 0)
  c2 : w.cell? ⟨B + 2, 0, none⟩ = some (.int .i64 0)
  f0 : w.frozen? ⟨B, 0, none⟩ = false
  f1 : w.frozen? ⟨B + 1, 0, none⟩ = false
  f2 : w.frozen? ⟨B + 2, 0, none⟩ = false
theorem Cells.chg {w0 w w' : World} {B : Nat} (h : Cells w0 w B) (hc : Below w.heap.size w w') : Cells w0 w' B := by
  have l0 := cell_lt h.c0; have l1 := cell_lt h.c1; have l2 := cell_lt h.c2
  refine ⟨h.below.trans (hc.mono (by have := h.base; omega)), h.base, ?_, ?_, ?_, ?_, ?_, ?_⟩
  · rw [← h.c0]; simp only [World.cell?, hc.block B l0]
  · rw [← h.c1]; simp only [World.cell?, hc.block (B + 1) l1]
  · rw [← h.c2]; simp only [World.cell?, hc.block (B + 2) l2]
  · rw [← h.f0]; simp only [World.frozen?, hc.block B l0]
  · rw [← h.f1]; simp only [World.frozen?, hc.block (B + 1) l1]
  · rw [← h.f2]; simp only [World.frozen?, hc.block (B + 2) l2]
theorem Cells.caught {w0 w : World} {B : Nat} (h : Cells w0 w B) (o : Obj) (b p e : Int) :
    ∃ W, ((((w.alloc o).setCell ⟨B, 0, none⟩ (.int .u64 b)).setCell ⟨B + 1, 0, none⟩ (.int .i64 p)).setCell ⟨B + 2, 0, none⟩ (.int .i64 e)).drew = W ∧ Below w0.heap.size w0 W ∧
      W.cell? ⟨B, 0, none⟩ = some (.int .u64 b) ∧ W.cell? ⟨B + 1, 0, none⟩ = some (.int .i64 p) ∧ W.cell? ⟨B + 2, 0, none⟩ = some (.int .i64 e) := by
  have hA := h.chg ((Below.refl _ _).alloc (Nat.le_refl _) o)
  have a0 := hA.c0; have a1 := hA.c1; have a2 := hA.c2
  refine ⟨_, rfl, ?_, ?_, ?_, ?_⟩
  · have hb := h.base
    exact ((((hA.below.setCell (by simp; omega) _).setCell (by simp; omega) _).setCell (by simp; omega) _)).drew
  · simp [go_sem, a0, a1, a2]
  · simp [go_sem, a0, a1, a2]
  · simp [go_sem, a0, a1, a2]
theorem Cells.stored {w0 w : World} {B : Nat} (h : Cells w0 w B) (b : Int) :
    ∃ W, (((w.setCell ⟨B, 0, none⟩ (.int .u64 b)).setCell ⟨B + 1, 0, none⟩ (.int .i64 0)).setCell ⟨B + 1 + 1, 0, none⟩ (.int .i64 0)) = W ∧ Below w0.heap.size w0 W ∧
      W.cell? ⟨B, 0, none⟩ = some (.int .u64 b) ∧ W.cell? ⟨B + 1, 0, none⟩ = some (.int .i64 0) ∧ W.cell? ⟨B + 2, 0, none⟩ = some (.int .i64 0) := by
  have a0 := h.c0; have a1 := h.c1; have a2 := h.c2
  refine ⟨_, rfl, ?_, ?_, ?_, ?_⟩
  · have hb := h.base
    exact (((h.below.setCell (by simp; omega) _).setCell (by simp; omega) _).setCell (by simp; omega) _)
  · simp [go_sem, a0, a1, a2]
  · simp [go_sem, a0, a1, a2]
  · simp [go_sem, a0, a1, a2]
theorem leave_panic {w0 w : World} {B : Nat} (h : Cells w0 w B) (pl er : Int) (tmps : Array Value) (t4 : tmps[4]? = some (.pointer (some ⟨B, 0, none⟩))) (t5 : tmps[5]? = some (.pointer (some ⟨B + 1, 0, none⟩))) (t6 : tmps[6]? = some (.pointer (some ⟨B + 2, 0, none⟩))) :
    Leaves Try.prog Try.f12 tmps (fun e w' => e = .returned (.tuple #[.int .u64 0, .int .i64 pl, .int .i64 er]) ∧ Below w0.heap.size w0 w') [{ target := .fn (.func 28) #[.pointer (some ⟨B, 0, none⟩), .pointer (some ⟨B + 1, 0, none⟩), .pointer (some ⟨B + 2, 0, none⟩)], args := #[] }]
      (.panicking [{ v := .iface 64 (.agg #[.int .i64 pl, .int .i64 er]), recovered := false }]) w := by
  refine leaves_cons (f := 28) (args := #[.pointer (some ⟨B, 0, none⟩), .pointer (some ⟨B + 1, 0, none⟩), .pointer (some ⟨B + 2, 0, none⟩)]) (by simp) (by simp [go_sem]) ?_
  refine (catch_panicking B 0 0 0 _ _ _ h.c0 h.c1 h.c2 h.f0 h.f1 h.f2).mono ?_
  rintro e u' w'' ⟨rfl, rfl, o, rfl⟩
  obtain ⟨W2, hW2, hb2, k0, k1, k2⟩ := h.caught o 0 pl er
  rw [hW2]
  clear hW2
  refine ⟨.tuple #[.int .u64 0, .int .i64 pl, .int .i64 er], ?_, rfl, hb2⟩
  simp [results, Try.results12, go_sem, k0, k1, k2, t4, t5, t6]
theorem leave_idle {w0 w : World} {B : Nat} (hb : Below w0.heap.size w0 w) (v : Int) (c0 : w.cell? ⟨B, 0, none⟩ = some (.int .u64 v)) (c1 : w.cell? ⟨B + 1, 0, none⟩ = some (.int .i64 0)) (c2 : w.cell? ⟨B + 2, 0, none⟩ = some (.int .i64 0)) (tmps : Array Value) (t4 : tmps[4]? = some (.pointer (some ⟨B, 0, none⟩))) (t5 : tmps[5]? = some (.pointer (some ⟨B + 1, 0, none⟩))) (t6 : tmps[6]? = some (.pointer (some ⟨B + 2, 0, none⟩))) :
    Leaves Try.prog Try.f12 tmps (fun e w' => e = .returned (.tuple #[.int .u64 v, .int .i64 0, .int .i64 0]) ∧ Below w0.heap.size w0 w') [{ target := .fn (.func 28) #[.pointer (some ⟨B, 0, none⟩), .pointer (some ⟨B + 1, 0, none⟩), .pointer (some ⟨B + 2, 0, none⟩)], args := #[] }]
      .returning w := by
  refine leaves_cons (f := 28) (args := #[.pointer (some ⟨B, 0, none⟩), .pointer (some ⟨B + 1, 0, none⟩), .pointer (some ⟨B + 2, 0, none⟩)]) (by simp) (by simp [go_sem]) ?_
  refine (catch_idle B _).mono ?_
  rintro e u' w'' ⟨rfl, rfl, o, rfl⟩
  have l0 := cell_lt c0; have l1 := cell_lt c1; have l2 := cell_lt c2
  have k0 : (w.alloc o).cell? ⟨B, 0, none⟩ = some (.int .u64 v) := by rw [← c0]; simp only [World.cell?, (World.grownBy_alloc w o none).block B l0 (by simp)]
  have k1 : (w.alloc o).cell? ⟨B + 1, 0, none⟩ = some (.int .i64 0) := by rw [← c1]; simp only [World.cell?, (World.grownBy_alloc w o none).block _ l1 (by simp)]
  have k2 : (w.alloc o).cell? ⟨B + 2, 0, none⟩ = some (.int .i64 0) := by rw [← c2]; simp only [World.cell?, (World.grownBy_alloc w o none).block _ l2 (by simp)]
  have hb2 : Below w0.heap.size w0 (w.alloc o) := hb.alloc hb.size o
  generalize w.alloc o = W at *
  refine ⟨.tuple #[.int .u64 v, .int .i64 0, .int .i64 0], ?_, rfl, hb2⟩
  simp [results, Try.results12, go_sem, k0, k1, k2, t4, t5, t6]
theorem cells_read {w0 w1 w3 : World} {B : Nat} {o : Obj} (h : Cells w0 w1 B) (hd : Chg (fun k => k = w1.heap.size) (w1.alloc o) w3) : Cells w0 w3 B :=
  h.chg ⟨hd.os, hd.tape, hd.output, Nat.le_trans (by simp) hd.size, fun k hk => (hd.block k (by simp; omega) (by omega)).trans ((World.grownBy_alloc w1 o none).block k hk (by simp))⟩
theorem read_inl (w : World) (g : Nat) (A : Option Addr) (c : Nat) (l : List Int) (sc : Nat) (hg : Rd w g A c l 0) (ht : Txt w g A l) (hc : l.length ≤ c) (hl : l.length < 1000000) (hs : sc ≤ 18) (K : Nat) (v : Int) (hF : readF K l sc = some (.inl v)) :
    Calls Try.prog 30 #[.pointer (some ⟨g, 0, none⟩), .int .i64 (sc : Int)] w fun e w' => e = .returned (.int .u64 v) ∧ Chg (fun k => k = g) w w' := by
  refine (read_calls w g A c l sc hg ht hc hl hs K _ hF).mono ?_
  rintro e w' ⟨h1, h2⟩
  rcases h2 with ⟨v', h3, rfl⟩ | ⟨_, _, h3, _⟩
  · obtain rfl := Sum.inl.inj h3; exact ⟨rfl, h1⟩
  · cases h3
theorem read_inr (w : World) (g : Nat) (A : Option Addr) (c : Nat) (l : List Int) (sc : Nat) (hg : Rd w g A c l 0) (ht : Txt w g A l) (hc : l.length ≤ c) (hl : l.length < 1000000) (hs : sc ≤ 18) (K : Nat) (pl er : Int) (hF : readF K l sc = some (.inr (pl, er))) :
    Calls Try.prog 30 #[.pointer (some ⟨g, 0, none⟩), .int .i64 (sc : Int)] w fun e w' => e = .panicked [{ v := .iface 64 (.agg #[.int .i64 pl, .int .i64 er]), recovered := false }] ∧ Chg (fun k => k = g) w w' := by
  refine (read_calls w g A c l sc hg ht hc hl hs K _ hF).mono ?_
  rintro e w' ⟨h1, h2⟩
  rcases h2 with ⟨v', h3, rfl⟩ | ⟨pl', er', h3, rfl⟩
  · cases h3
  · obtain ⟨rfl, rfl⟩ := Prod.mk.inj (Sum.inr.inj h3); exact ⟨rfl, h1⟩
set_option maxHeartbeats 4000000 in
set_option maxRecDepth 100000 in
theorem Parse_calls (w : World) (A : Option Addr) (c : Nat) (l : List Int) (sc : Int) (hr : Kd.C (Kd.int .u8) w A l.length l) (hc : l.length ≤ c) (K : Nat) (b p er : Int) (hF : parseF K l sc = some (b, p, er)) :
    Calls Try.prog 12 #[.int .i64 sc, .slice A l.length c] w fun e w' => e = .returned (.tuple #[.int .u64 b, .int .i64 p, .int .i64 er]) ∧ Below w.heap.size w w' := by
  have CR := Aside0.mk hr
  clear hr
  have hmf : ∀ (fn : Fn) (first cap : Array Value) (w : World), (Instr.makeFunc fn first cap).run Try.prog w = .ok (.func fn first cap) w := fun _ _ _ _ => rfl
  go_enter_defers Try.func12, Try.ntmps12
  go_upto_region 1 with fail
  have CE : Cells w (((w.alloc (Obj.cells #[Value.int IntKind.u64 0] 26)).alloc (Obj.cells #[Value.int IntKind.i64 0] 3)).alloc (Obj.cells #[Value.int IntKind.i64 0] 27)) w.heap.size :=
    ⟨(((Below.refl _ _).alloc (Nat.le_refl _) _).alloc (by simp [go_sem]) _).alloc (by simp [go_sem]; omega) _, rfl, by simp [go_sem], by simp [go_sem], by simp [go_sem], by simp [go_sem], by simp [go_sem], by simp [go_sem]⟩
  generalize (((w.alloc (Obj.cells #[Value.int IntKind.u64 0] 26)).alloc (Obj.cells #[Value.int IntKind.i64 0] 3)).alloc (Obj.cells #[Value.int IntKind.i64 0] 27)) = W at *
  have CB := Aside0.mk CE.base
  have HE := Aside0.mk CE
  clear CE
  have HF := Aside0.mk hF
  generalize w.heap.size = B at *
  clear hF
  unfold parseF at HF
  by_cases hs : 0 ≤ sc ∧ sc ≤ 18
  · have hm : scaled_may.f sc = some true := by
      unfold scaled_may.f
      split <;> simp <;> omega
    obtain ⟨n, rfl⟩ : ∃ n : Nat, sc = n := ⟨sc.toNat, by omega⟩
    have hn : n ≤ 18 := by omega
    have hF := HF.out
    rw [if_neg (by simpa using hs)] at hF
    by_cases hl : l.length > 1024
    · rw [if_pos hl] at hF
      obtain ⟨rfl, rfl, rfl⟩ : 0 = b ∧ 0 = p ∧ 80 = er := by simpa using hF
      clear hF HF
      have hl' : (1024 : Int) < (l.length : Int) := by omega
      go_wp2_with (first | (go_at_call 29; refine (scaled_may.calls n true W hm).mono ?_; rintro e_ w1 ⟨rfl, hd_⟩; have HD := Aside0.mk hd_; clear hd_))
      have C1 := HE.out.chg HD.out.below
      exact leave_panic C1 0 80 _ rfl rfl rfl
    · rw [if_neg hl, Int.toNat_natCast] at hF
      have hl' : ¬ (1024 : Int) < (l.length : Int) := by omega
      obtain ⟨o, ho, hF⟩ := Option.map_eq_some_iff.1 hF
      go_upto_region 6 with (first | (go_at_call 29; refine (scaled_may.calls n true W hm).mono ?_; rintro e_ w1 ⟨rfl, hd_⟩; have HD := Aside0.mk hd_; clear hd_))
      have C1 := HE.out.chg HD.out.below
      have HC1 := Aside0.mk C1
      have RD : Aside0 (Rd (w1.alloc (.cells #[.slice A l.length c, .int .i64 0] 69)) w1.heap.size A c l 0) := ⟨(Go.MapKept.heap_alloc w1 _).1⟩
      have TX : Aside0 (Txt (w1.alloc (.cells #[.slice A l.length c, .int .i64 0] 69)) w1.heap.size A l) := ⟨fun W' hW => by
        refine Kd.Heap.C (Kd.heap_int .u8) (fun k hk => ?_) CR.out
        have hb := HC1.out.below
        have hk1 : k < w1.heap.size := Nat.lt_of_lt_of_le hk hb.size
        rw [hW k (by simp; omega) (by omega), (World.grownBy_alloc w1 _ none).block k hk1 (by simp), hb.block k hk]⟩
      rcases o with v | ⟨pl, er'⟩
      · obtain ⟨rfl, rfl, rfl⟩ : v = b ∧ 0 = p ∧ 0 = er := by simpa using hF
        clear hF HF C1
        go_wp2_with (first | (go_at_call 30; refine (read_inl _ _ A c l n RD.out TX.out hc (by omega) hn K v ho).mono ?_; rintro e_ w3 ⟨rfl, hd_⟩; have C3 := cells_read HC1.out hd_; have z0 := C3.c0; have z1 := C3.c1; have z2 := C3.c2; have y0 := C3.f0; have y1 := C3.f1; have y2 := C3.f2; have HC3 := Aside0.mk C3; clear C3 hd_))
        obtain ⟨W2, hW2, hb2, k0, k1, k2⟩ := HC3.out.stored v
        rw [hW2]
        clear hW2
        exact leave_idle hb2 v k0 k1 k2 _ rfl rfl rfl
      · obtain ⟨rfl, rfl, rfl⟩ : 0 = b ∧ pl = p ∧ er' = er := by simpa using hF
        clear hF HF C1
        go_wp2_with (first | (go_at_call 30; refine (read_inr _ _ A c l n RD.out TX.out hc (by omega) hn K pl er' ho).mono ?_; rintro e_ w3 ⟨rfl, hd_⟩; have HD3 := Aside0.mk hd_; clear hd_))
        have C3 : Cells w w3 B := cells_read HC1.out HD3.out
        exact leave_panic C3 pl er' _ rfl rfl rfl
  · have hF := HF.out
    rw [if_pos hs] at hF
    obtain ⟨rfl, rfl, rfl⟩ : 0 = b ∧ 0 = p ∧ 120 = er := by simpa using hF
    have hm : scaled_may.f sc = some false := by
      unfold scaled_may.f
      split <;> simp; omega
    clear hF HF
    go_wp2_with (first | (go_at_call 29; refine (scaled_may.calls sc false W hm).mono ?_; rintro e_ w1 ⟨rfl, hd_⟩; have HD := Aside0.mk hd_; clear hd_))
    have C1 := HE.out.chg HD.out.below
    exact leave_panic C1 0 120 _ rfl rfl rfl
end Go.Proofs.Ytjefmcfkhalagaa.Scr
