/- mintagekeep.Book as a whole: what a book is, Look, Close. -/
import Derived.Test.YtbjoinocajobhaaCloseiZAuditJudges
import Derived.Test.YtbjoinocajobhaaQ0ZAuditJudges
import Derived.Test.YtbjoinocajobhaaQ1ZAuditJudges
import Derived.Deep.QuietTactic
import Derived.BigQuiet
namespace Go.Proofs.Ytbjoinocajobhaa.Keep
set_option linter.unusedVariables false
set_option linter.unusedSimpArgs false
open Go.RowKit Go.Proofs.Ytbjoinocajobhaa.Q Go.Proofs.YtbjoinocajobhaaW.PrintWords Go.Proofs.YtbjoinocajobhaaW.PrintLast

/-- Answers of one kind, and twins of them: each in a row of its own. -/
structure Two (w : World) (base : Nat) (ok : Nat → Prop) (TS e : TypeId) (k : IntKind) (v0 v1 : Value) (L S : List (Value × List Int)) : Prop where
  r0 : w.ownsRow base TS 1 v0 L.length (L.map (·.1))
  r1 : w.ownsRow base TS 1 v1 S.length (S.map (·.1))
  same : S.map (·.2) = L.map (·.2)
  f0 : Fam w base e k L
  f1 : Fam w base e k S
  ne : NeRow v0 v1
  nls : ∀ p ∈ L, ∀ q ∈ S, NeRow p.1 q.1
  o0 : ∀ j, v0.ownBlock = some j → ok j
  o1 : ∀ j, v1.ownBlock = some j → ok j
  oL : ∀ p ∈ L, ∀ j, p.1.ownBlock = some j → ok j
  oS : ∀ p ∈ S, ∀ j, p.1.ownBlock = some j → ok j
  sz : ∀ p ∈ L, p.2.length ≤ 10000000000000
  len : L.length ≤ 400
theorem Two.none_ (w : World) (base : Nat) (ok : Nat → Prop) (TS e : TypeId) (k : IntKind) : Two w base ok TS e k (.slice none 0 0) (.slice none 0 0) [] [] :=
  ⟨own_nil _ _ _ _, own_nil _ _ _ _, rfl, Fam.nil _ _ _ _, Fam.nil _ _ _ _, ne_nil _, (fun p hp => by cases hp), (fun j hj => by simp [Value.ownBlock] at hj), (fun j hj => by simp [Value.ownBlock] at hj), (fun p hp => by cases hp), (fun p hp => by cases hp), (fun p hp => by cases hp), Nat.zero_le _⟩
theorem Two.move {w w' : World} {base : Nat} {ok ok' : Nat → Prop} {TS e : TypeId} {k : IntKind} {v0 v1 : Value} {L S : List (Value × List Int)} (h : Two w base ok TS e k v0 v1 L S) (hm : ∀ j, ok j → w'.heap[j]? = w.heap[j]?) (ho : ∀ j, ok j → ok' j) : Two w' base ok' TS e k v0 v1 L S :=
  ⟨own_move h.r0 fun j hj => hm j (h.o0 j hj), own_move h.r1 fun j hj => hm j (h.o1 j hj), h.same, h.f0.move fun p hp j hj => hm j (h.oL p hp j hj), h.f1.move fun p hp j hj => hm j (h.oS p hp j hj), h.ne, h.nls,
    fun j hj => ho j (h.o0 j hj), fun j hj => ho j (h.o1 j hj), fun p hp j hj => ho j (h.oL p hp j hj), fun p hp j hj => ho j (h.oS p hp j hj), h.sz, h.len⟩
/-- A book at block b; all that it holds lies in blocks that 'ok' names. -/
structure Bk (w : World) (base : Nat) (ok : Nat → Prop) (b : Nat) : Prop where
  ex : ∃ v0 v1 v4 v5 LB SB LI SI, w.heap[b]? = some (.cells #[v0, v1, .slice none 0 0, .slice none 0 0, v4, v5] 38 (0, 0)) ∧ Two w base ok 94 5 .u8 v0 v1 LB SB ∧ Two w base ok 23 3 .i64 v4 v5 LI SI
  okb : ok b
  rng : ∀ j, ok j → base ≤ j ∧ j < w.heap.size
theorem Bk.new (W : World) (base : Nat) (hb : base ≤ W.heap.size) : Bk (W.alloc (.cells #[.slice none 0 0, .slice none 0 0, .slice none 0 0, .slice none 0 0, .slice none 0 0, .slice none 0 0] 38)) base (fun j => j = W.heap.size) W.heap.size :=
  ⟨⟨_, _, _, _, [], [], [], [], heap_alloc_new W _, Two.none_ _ _ _ _ _ _, Two.none_ _ _ _ _ _ _⟩, rfl, fun j hj => by subst hj; simp; exact hb⟩
theorem Bk.move {w w' : World} {base : Nat} {ok ok' : Nat → Prop} {b : Nat} (h : Bk w base ok b) (hm : ∀ j, ok j → w'.heap[j]? = w.heap[j]?) (ho : ∀ j, ok j → ok' j) (hs : w.heap.size ≤ w'.heap.size) (hr : ∀ j, ok' j → base ≤ j ∧ j < w'.heap.size) : Bk w' base ok' b := by
  obtain ⟨v0, v1, v4, v5, LB, SB, LI, SI, hb, t1, t2⟩ := h.ex
  exact ⟨⟨v0, v1, v4, v5, LB, SB, LI, SI, (hm b h.okb).trans hb, t1.move hm ho, t2.move hm ho⟩, ho b h.okb, hr⟩
theorem Bk.below {w w' : World} {base : Nat} {ok : Nat → Prop} {b : Nat} (h : Bk w base ok b) (hb : Below w.heap.size w w') : Bk w' base ok b :=
  h.move (fun j hj => hb.block j (h.rng j hj).2) (fun _ q => q) hb.size fun j hj => ⟨(h.rng j hj).1, Nat.lt_of_lt_of_le (h.rng j hj).2 hb.size⟩
theorem Bk.drewN {w : World} {base : Nat} {ok : Nat → Prop} {b : Nat} (h : Bk w base ok b) (n : Nat) : Bk (w.drewN n) base ok b := h.below (pw_below_drewN (Below.refl _ _) n)
theorem Bk.chg {w w' : World} {base : Nat} {ok ok2 : Nat → Prop} {b : Nat} (h : Bk w base ok b) (hc : Chg ok2 w w') (hd : ∀ j, ok j → ¬ ok2 j) : Bk w' base ok b :=
  h.move (fun j hj => hc.block j (h.rng j hj).2 (hd j hj)) (fun _ q => q) hc.size fun j hj => ⟨(h.rng j hj).1, Nat.lt_of_lt_of_le (h.rng j hj).2 hc.size⟩

/-- What a row of rows is told of at number n. -/
theorem Two.at_ {w : World} {base : Nat} {ok : Nat → Prop} {TS e : TypeId} {k : IntKind} {v0 v1 : Value} {L S : List (Value × List Int)} (h : Two w base ok TS e k v0 v1 L S) {n : Nat} (hn : n < L.length) :
    ∃ g0 c0 g1 c1 A0 d0 A1 d1 xs, v0 = .slice (some ⟨g0, 0, none⟩) L.length c0 ∧ v1 = .slice (some ⟨g1, 0, none⟩) L.length c1 ∧ w.cell? ⟨g0, n, none⟩ = some (.slice A0 xs.length d0) ∧ w.cell? ⟨g1, n, none⟩ = some (.slice A1 xs.length d1) ∧
      xs.length ≤ d0 ∧ xs.length ≤ d1 ∧ ReadsInt w k A0 xs.length xs ∧ ReadsInt w k A1 xs.length xs ∧ xs.length ≤ 10000000000000 := by
  have hl : S.length = L.length := by have := congrArg List.length h.same; simpa using this
  obtain ⟨g0, c0, e0, -, -⟩ := h.r0.form (by omega)
  obtain ⟨g1, c1, e1, -, -⟩ := h.r1.form (by omega)
  have hp : L[n]? = some L[n] := List.getElem?_eq_getElem hn
  obtain ⟨q, hq, eq⟩ := at_map h.same hp
  have ho := h.f0.1 n _ hp
  have hq1 := h.f1.1 n q hq
  rw [eq] at hq1
  obtain ⟨A0, d0, s0, rd0⟩ := own_reads ho
  obtain ⟨A1, d1, s1, rd1⟩ := own_reads hq1
  refine ⟨g0, c0, g1, c1, A0, d0, A1, d1, L[n].2, e0, by rw [e1, hl], ?_, ?_, ?_, ?_, rd0, rd1, h.sz _ (List.getElem_mem hn)⟩
  · have hc := h.r0.cells (g := g0) (by rw [e0]; rfl) n L[n].1 (by rw [List.getElem?_map, hp]; rfl)
    rw [add_plain] at hc
    rw [hc, s0]
  · have hc := h.r1.cells (g := g1) (by rw [e1]; rfl) n q.1 (by rw [List.getElem?_map, hq]; rfl)
    rw [add_plain] at hc
    rw [hc, s1]
  · rw [s0] at ho; exact own_le ho
  · rw [s1] at hq1; exact own_le hq1
theorem same_refl (l : List Int) : mintagekeep_Same.f l l = some true := by unfold mintagekeep_Same.f; simp
theorem ints_loop (l : List Int) (hl : l.length < 9223372036854775807) : ∀ d i : Nat, i + d = l.length → ∃ k, mintagekeep_Ints.l0 k l l (i : Int) = some true := by
  intro d
  induction d with
  | zero => intro i h; exact ⟨1, by simp only [mintagekeep_Ints.l0]; rw [if_neg (by omega)]⟩
  | succ d ih =>
    intro i h
    obtain ⟨k, hk⟩ := ih (i + 1) (by omega)
    refine ⟨k + 1, ?_⟩
    simp only [mintagekeep_Ints.l0]
    rw [if_pos (by omega), if_pos (by omega), if_pos (by omega)]
    simp only [if_true]
    rw [show wrap64 ((i : Int) + 1) = ((i + 1 : Nat) : Int) from by unfold wrap64; omega]
    exact hk
theorem ints_refl (l : List Int) (hl : l.length < 9223372036854775807) : ∃ k, mintagekeep_Ints.f k l l = some true := by
  obtain ⟨k, h⟩ := ints_loop l hl l.length 0 (by omega)
  refine ⟨k, ?_⟩
  unfold mintagekeep_Ints.f
  rw [if_pos rfl]; exact h
theorem quiet_any {P : Program} {f : FuncId} {args : Array Value} {w : World} {m n : Nat} {v : Value} (h : ∀ q, Calls P f args (w.drewN q) fun e w' => e = .returned v ∧ Drawn0 (w.drewN q) w') : Calls P f args (w.drewN (m + n)) fun e w'' => e = .returned v ∧ ∃ k, w'' = w.drewN (m + k) :=
  (h (m + n)).mono fun _ _ ⟨he, k, hk⟩ => ⟨he, n + k, by rw [hk, World.drewN_drewN, Nat.add_assoc]⟩
theorem bool_ne {a b : Bool} (h : a = b) : (a != b) = false := by subst h; cases a <;> rfl
set_option maxHeartbeats 1000000 in
set_option maxRecDepth 100000 in
theorem look_calls (w : World) (base : Nat) (ok : Nat → Prop) (b : Nat) (h : Bk w base ok b) :
    Calls Try.prog 29 #[.pointer (some ⟨b, 0, none⟩)] w fun e w' => e = .returned (.bool true) ∧ Drawn0 w w' := by
  obtain ⟨v0, v1, v4, v5, LB, SB, LI, SI, hb, t1, t2⟩ := h.ex
  obtain ⟨A0, c0, e0⟩ := own_slice t1.r0
  obtain ⟨A1, c1, e1⟩ := own_slice t1.r1
  obtain ⟨A4, c4, e4⟩ := own_slice t2.r0
  obtain ⟨A5, c5, e5⟩ := own_slice t2.r1
  have l1 : SB.length = LB.length := by have := congrArg List.length t1.same; simpa using this
  have l2 : SI.length = LI.length := by have := congrArg List.length t2.same; simpa using this
  rw [l1] at e1
  rw [l2] at e5
  subst e0 e1 e4 e5
  have b1 := t1.len
  have b2 := t2.len
  have k0 : w.cell? ⟨b, 0, none⟩ = some (.slice A0 LB.length c0) := (blk_cell hb 0).trans rfl
  have k1 : w.cell? ⟨b, 1, none⟩ = some (.slice A1 LB.length c1) := (blk_cell hb 1).trans rfl
  have k2 : w.cell? ⟨b, 2, none⟩ = some (.slice none 0 0) := (blk_cell hb 2).trans rfl
  have k3 : w.cell? ⟨b, 3, none⟩ = some (.slice none 0 0) := (blk_cell hb 3).trans rfl
  have k4 : w.cell? ⟨b, 4, none⟩ = some (.slice A4 LI.length c4) := (blk_cell hb 4).trans rfl
  have k5 : w.cell? ⟨b, 5, none⟩ = some (.slice A5 LI.length c5) := (blk_cell hb 5).trans rfl
  have T1 := Aside0.mk t1
  have T2 := Aside0.mk t2
  clear t1 t2 hb h
  go_enter Try.func29, Try.ntmps29
  go_wp2_with fail
  go_loopw [3] (fun i wr => ∃ n : Nat, n ≤ LB.length ∧ i = .int .i64 (n : Int) ∧ Drawn0 w wr) (fun i _ => LB.length - (intOf i).toNat)
  case atStart => exact ⟨0, Nat.zero_le _, rfl, Drawn0.refl _⟩
  case round =>
    obtain ⟨n, hn, rfl, m, rfl⟩ := hrel
    by_cases hlt : n < LB.length
    · obtain ⟨g0, d0, g1, d1, A, e, B, f, xs, hv0, hv1, hc0, hc1, hd0, hd1, hr0, hr1, hsz⟩ := T1.out.at_ hlt
      injection hv0 with hA0 _ hq0
      injection hv1 with hA1 _ hq1
      subst hA0 hA1 hq0 hq1
      have R0 : Aside0 (Kd.C (Kd.int .u8) w A xs.length xs) := Aside0.mk (Kd.C_of_reads (readsInt_of.1 hr0))
      have R1 : Aside0 (Kd.C (Kd.int .u8) w B xs.length xs) := Aside0.mk (Kd.C_of_reads (readsInt_of.1 hr1))
      clear hr0 hr1
      have p0 := eq_true (show (0 : Int) ≤ (n : Int) by omega)
      have p1 := eq_true (show (n : Int) < (LB.length : Int) by omega)
      go_wp2_with fail
      have SC : Aside0 (∀ q : Nat, Calls Try.prog 38 #[.slice A xs.length e, .slice B xs.length f] (w.drewN q) fun e w' => e = .returned (.bool true) ∧ Drawn0 (w.drewN q) w') := ⟨fun q => mintagekeep_Same.calls _ _ xs _ _ xs true _ (Kd.C_drewN R0.out q) hd0 (Kd.C_drewN R1.out q) hd1 (same_refl xs)⟩
      go_quiet ((go_at_call 38; exact quiet_any SC.out))
      go_wp2_with fail
      go_roundw
      case rel => exact ⟨n + 1, by omega, by go_num, by repeat (first | exact Drawn0.refl _ | apply Drawn0.step)⟩
      case measure => simp [intOf]; omega
    · obtain rfl : n = LB.length := by omega
      go_wp2_with fail
      go_loopw [4] (fun i wr => i = .int .i64 0 ∧ Drawn0 w wr) (fun i _ => 1 - (intOf i).toNat)
      case atStart => exact ⟨rfl, by repeat (first | exact Drawn0.refl _ | apply Drawn0.step)⟩
      case round =>
        obtain ⟨rfl, m1, rfl⟩ := hrel
        go_wp2_with fail
        go_loopw [5] (fun i wr => ∃ n : Nat, n ≤ LI.length ∧ i = .int .i64 (n : Int) ∧ Drawn0 w wr) (fun i _ => LI.length - (intOf i).toNat)
        case atStart => exact ⟨0, Nat.zero_le _, rfl, by repeat (first | exact Drawn0.refl _ | apply Drawn0.step)⟩
        case round =>
          obtain ⟨n, hn, rfl, m2, rfl⟩ := hrel
          by_cases hlt : n < LI.length
          · obtain ⟨g0, d0, g1, d1, A, e, B, f, xs, hv0, hv1, hc0, hc1, hd0, hd1, hr0, hr1, hsz⟩ := T2.out.at_ hlt
            injection hv0 with hA0 _ hq0
            injection hv1 with hA1 _ hq1
            subst hA0 hA1 hq0 hq1
            have R0 : Aside0 (Kd.C (Kd.int .i64) w A xs.length xs) := Aside0.mk (Kd.C_of_reads (readsInt_of.1 hr0))
            have R1 : Aside0 (Kd.C (Kd.int .i64) w B xs.length xs) := Aside0.mk (Kd.C_of_reads (readsInt_of.1 hr1))
            clear hr0 hr1
            have p0 := eq_true (show (0 : Int) ≤ (n : Int) by omega)
            have p1 := eq_true (show (n : Int) < (LI.length : Int) by omega)
            go_wp2_with fail
            obtain ⟨kk, hk⟩ := ints_refl xs (by omega)
            have SC : Aside0 (∀ q : Nat, Calls Try.prog 13 #[.slice A xs.length e, .slice B xs.length f] (w.drewN q) fun e w' => e = .returned (.bool true) ∧ Drawn0 (w.drewN q) w') := ⟨fun q => mintagekeep_Ints.calls kk _ _ xs _ _ xs true _ (Kd.C_drewN R0.out q) hd0 (Kd.C_drewN R1.out q) hd1 hk⟩
            go_quiet ((go_at_call 13; exact quiet_any SC.out))
            go_wp2_with fail
            go_roundw
            case rel => exact ⟨n + 1, by omega, by go_num, by repeat (first | exact Drawn0.refl _ | apply Drawn0.step)⟩
            case measure => simp [intOf]; omega
          · obtain rfl : n = LI.length := by omega
            go_wp2_with fail
            go_ret
            exact ⟨rfl, by repeat (first | exact Drawn0.refl _ | apply Drawn0.step)⟩
set_option maxHeartbeats 1000000 in
set_option maxRecDepth 100000 in
theorem closeWords_calls (w : World) (b : Nat) (hb : w.cell? ⟨b, 2, none⟩ = some (.slice none 0 0)) :
    Calls Try.prog 31 #[.pointer (some ⟨b, 0, none⟩)] w fun e w' => e = .returned (.bool true) ∧ w' = w := by
  go_enter Try.func31, Try.ntmps31
  go_wp2_with fail
  go_loop [3] (fun i => i = .int .i64 0) (fun i => 1 - (intOf i).toNat)
  case atStart => rfl
  case round =>
    subst hrel
    go_wp2_with fail
    go_loop [5, 6] (fun g i => g = .slice none 0 0 ∧ i = .int .i64 0) (fun _ i => 1 - (intOf i).toNat)
    case atStart => exact ⟨rfl, rfl⟩
    case round =>
      obtain ⟨rfl, rfl⟩ := hrel
      go_wp2_with fail
      go_loop [8] (fun i => i = .int .i64 0) (fun i => 1 - (intOf i).toNat)
      case atStart => rfl
      case round =>
        subst hrel
        go_wp2_with fail
        go_ret
        exact ⟨rfl, rfl⟩
end Go.Proofs.Ytbjoinocajobhaa.Keep
