/- merge.Buffer, plainly: what is held, and what a Put tells. -/
import Derived.Test.YtmbljhkblmdkoaaWLast
import Derived.Test.YtmbljhkblmdkoaaWMore
import Derived.Maps.OwnSet
import Derived.Outline
namespace Go.Proofs.Ytmbljhkblmdkoaa.Mg
set_option linter.unusedVariables false
set_option linter.unusedSimpArgs false
open Go.RowKit Go.Maps Go.Proofs.YtmbljhkblmdkoaaW.PrintWords Go.Proofs.YtmbljhkblmdkoaaW.PrintLast Go.Proofs.YtmbljhkblmdkoaaW.PrintMore
variable {α : Type}
/-- What is held under which number. -/
abbrev Hd (α : Type) := Int → Option α
def upd (f : Hd α) (s : Int) (v : Option α)   : Hd α := fun x => if x = s then v else f x
theorem upd_same (f : Hd α) (s : Int) (v : Option α) : upd f s v s = v := if_pos rfl
theorem upd_other (f : Hd α) {s x : Int} (v : Option α) (h : x ≠ s) : upd f s v x = f x := if_neg h
/-- How many of the n numbers from a on are held. -/
def cnt (f : Hd α) (a : Int) : Nat → Nat
  | 0 => 0
  | n + 1 => cnt f a n + (if (f (a + n)).isSome then 1 else 0)
theorem cnt_le (f : Hd α) (a : Int) : ∀ n, cnt f a n ≤ n
  | 0 => Nat.le_refl _
  | n + 1 => by unfold cnt; have := cnt_le f a n; split <;> omega
theorem cnt_congr {f g : Hd α} {a : Int} : ∀ {n : Nat}, (∀ j : Nat, j < n → f (a + j) = g (a + j)) → cnt f a n = cnt g a n
  | 0, _ => rfl
  | n + 1, h => by unfold cnt; rw [cnt_congr (fun j hj => h j (by omega)), h n (by omega)]
theorem cnt_none {f : Hd α} {a : Int} : ∀ {n : Nat}, (∀ j : Nat, j < n → f (a + j) = none) → cnt f a n = 0
  | 0, _ => rfl
  | n + 1, h => by unfold cnt; rw [cnt_none (fun j hj => h j (by omega)), h n (by omega)]; rfl
theorem cnt_front (f : Hd α) (a : Int) : ∀ n : Nat, cnt f a (n + 1) = (if (f a).isSome then 1 else 0) + cnt f (a + 1) n
  | 0 => by simp [cnt]
  | n + 1 => by
    rw [cnt, cnt_front f a n, cnt, show a + ((n + 1 : Nat) : Int) = a + 1 + (n : Int) by omega, Nat.add_assoc]
theorem cnt_upd_none (f : Hd α) (a s : Int) (v : α) (hs : f s = none) : ∀ n : Nat, a ≤ s → s < a + n → cnt (upd f s (some v)) a n = cnt f a n + 1
  | 0, h1, h2 => by omega
  | n + 1, h1, h2 => by
    unfold cnt
    by_cases e : s = a + n
    · rw [cnt_congr (g := f) (fun j hj => upd_other _ _ (by omega)), ← e, upd_same, hs]; rfl
    · rw [cnt_upd_none f a s v hs n h1 (by omega), upd_other _ _ (by omega)]; omega
theorem cnt_upd_del (f : Hd α) (a s : Int) (v : α) (hs : f s = some v) : ∀ n : Nat, a ≤ s → s < a + n → cnt (upd f s none) a n + 1 = cnt f a n
  | 0, h1, h2 => by omega
  | n + 1, h1, h2 => by
    unfold cnt
    by_cases e : s = a + n
    · rw [cnt_congr (g := f) (fun j hj => upd_other _ _ (by omega)), ← e, upd_same, hs]; rfl
    · rw [← cnt_upd_del f a s v hs n h1 (by omega), upd_other _ _ (by omega)]; omega
/-- What is told from the number waited for on. -/
def drain : Nat → Hd α → Int → Hd α × Int × List α
  | 0, f, nx => (f, nx, [])
  | k + 1, f, nx => match f nx with
    | none => (f, nx, [])
    | some v => ((drain k (upd f nx none) (nx + 1)).1, (drain k (upd f nx none) (nx + 1)).2.1, v :: (drain k (upd f nx none) (nx + 1)).2.2)
theorem drain_none {k : Nat} {f : Hd α} {nx : Int} (h : f nx = none) : drain k f nx = (f, nx, []) := by
  cases k with
  | zero => rfl
  | succ k => unfold drain; rw [h]
theorem drain_some {k : Nat} {f : Hd α} {nx : Int} {v : α} (h : f nx = some v) : drain (k + 1) f nx = ((drain k (upd f nx none) (nx + 1)).1, (drain k (upd f nx none) (nx + 1)).2.1, v :: (drain k (upd f nx none) (nx + 1)).2.2) := by
  rw [drain, h]
/-- A map's datum reads as what is held: k numbers. -/
structure Hold (ev : α → DataW Unit) (z : DataW Unit) (D : DataW Unit) (f : Hd α) (k : Nat) : Prop where
  tidy : Tidy D
  has : ∀ s, has D (.int .i64 s) = (f s).isSome
  val : ∀ s v, f s = some v → D.atKey (.int .i64 s) z = ev v
  size : size D = k
theorem Hold.empty {ev : α → DataW Unit} {z : DataW Unit} : Hold ev z (.map []) (fun _ => none) 0 := ⟨tidy_empty, fun s => rfl, fun s v h => (by cases h), rfl⟩
theorem int_ne {s x : Int} (h : x ≠ s) : (Lit.int .i64 x) ≠ .int .i64 s := fun e => h (by injection e)
theorem Hold.put {ev : α → DataW Unit} {z : DataW Unit} {D : DataW Unit} {f : Hd α} {k : Nat} (h : Hold ev z D f k) {s : Int} (v : α) (hk : WideAt.IsKeyLit (.int .i64 s)) (hs : f s = none) : Hold ev z (D.put (.int .i64 s) (ev v)) (upd f s (some v)) (k + 1) := by
  refine ⟨h.tidy.put hk _, fun x => ?_, fun x w hx => ?_, ?_⟩
  · by_cases e : x = s
    · subst e; rw [upd_same, has_put_same h.tidy.isMap hk]; rfl
    · rw [upd_other _ _ e, has_put_other (int_ne e)]; exact h.has x
  · by_cases e : x = s
    · subst e; rw [upd_same] at hx; injection hx with hx; subst hx; exact atKey_put_same h.tidy.isMap hk _ _
    · rw [upd_other _ _ e] at hx; rw [atKey_put_other (int_ne e)]; exact h.val x w hx
  · rw [size_put h.tidy, h.has s, hs, h.size]; rfl
theorem Hold.del {ev : α → DataW Unit} {z : DataW Unit} {D : DataW Unit} {f : Hd α} {k : Nat} (h : Hold ev z D f k) {s : Int} {v : α} (hs : f s = some v) : ∃ k', k = k' + 1 ∧ Hold ev z (D.del (.int .i64 s)) (upd f s none) k' := by
  have e := size_del (k := .int .i64 s) h.tidy
  rw [h.has s, hs, h.size] at e
  refine ⟨_, e.symm, h.tidy.del _, fun x => ?_, fun x w hx => ?_, rfl⟩
  · by_cases e : x = s
    · subst e; rw [upd_same, has_del_same]; rfl
    · rw [upd_other _ _ e, has_del_other (int_ne e)]; exact h.has x
  · by_cases e : x = s
    · subst e; rw [upd_same] at hx; cases hx
    · rw [upd_other _ _ e] at hx; rw [atKey_del_other (int_ne e)]; exact h.val x w hx
/-- What a Put answers. -/
structure Pu (α : Type) where
  f : Hd α
  nx : Int
  k : Nat
  out : List α
  er : Int
def put (win nx : Int) (f : Hd α) (k : Nat) (s : Int) (v : α) : Pu α :=
  if s < nx ∨ (f s).isSome = true then ⟨f, nx, k, [], 271⟩
  else if s - nx ≥ win then ⟨f, nx, k, [], 272⟩
  else ⟨(drain (k + 1) (upd f s (some v)) nx).1, (drain (k + 1) (upd f s (some v)) nx).2.1, k + 1 - (drain (k + 1) (upd f s (some v)) nx).2.2.length, (drain (k + 1) (upd f s (some v)) nx).2.2, 0⟩
/-- What is held lies within the window. -/
structure In (P : Int → α → Prop) (win : Nat) (f : Hd α) (nx : Int) (k : Nat) : Prop where
  rng : ∀ s v, f s = some v → nx ≤ s ∧ s < nx + win ∧ P s v
  num : cnt f nx win = k
structure Dr (P : Int → α → Prop) (win : Nat) (f : Hd α) (nx : Int) (k : Nat) (r : Hd α × Int × List α) : Prop where
  nx' : r.2.1 = nx + r.2.2.length
  len : r.2.2.length ≤ k
  rest : In P win r.1 r.2.1 (k - r.2.2.length)
  gone : r.1 r.2.1 = none
  told : ∀ j : Nat, ∀ v, r.2.2[j]? = some v → P (nx + j) v
  at_ : ∀ s, r.1 s = if s < r.2.1 then none else f s
  was : ∀ s, nx ≤ s → s < r.2.1 → f s ≠ none
theorem drain_spec {P : Int → α → Prop} {win : Nat} (hw : 0 < win) : ∀ (k : Nat) (f : Hd α) (nx : Int), In P win f nx k → Dr P win f nx k (drain k f nx) := by
  intro k
  induction k with
  | zero =>
    intro f nx h
    obtain ⟨m, rfl⟩ : ∃ m, win = m + 1 := ⟨win - 1, by omega⟩
    have h0 : f nx = none := by
      have := h.num
      rw [cnt_front] at this
      cases e : f nx with
      | none => rfl
      | some v => rw [e] at this; simp at this
    refine ⟨by simp [drain], by simp [drain], by simpa [drain] using h, h0, fun j v hj => by simp [drain] at hj, fun s => ?_, fun s h1 h2 => by simp [drain] at h2; omega⟩
    show f s = if s < nx then none else f s
    split
    · cases e : f s with
      | none => rfl
      | some v => have := (h.rng s v e).1; omega
    · rfl
  | succ k ih =>
    intro f nx h
    cases e : f nx with
    | none =>
      rw [drain_none e]
      refine ⟨by simp, by simp, by simpa using h, e, fun j v hj => by simp at hj, fun s => ?_, fun s h1 h2 => by simp at h2; omega⟩
      show f s = if s < nx then none else f s
      split
      · cases e : f s with
        | none => rfl
        | some v => have := (h.rng s v e).1; omega
      · rfl
    | some v =>
      rw [drain_some e]
      have hv := h.rng nx v e
      have hI : In P win (upd f nx none) (nx + 1) k := by
        refine ⟨fun s w hs => ?_, ?_⟩
        · by_cases q : s = nx
          · subst q; rw [upd_same] at hs; cases hs
          · rw [upd_other _ _ q] at hs
            have := h.rng s w hs
            exact ⟨by omega, by omega, this.2.2⟩
        · have h1 := cnt_upd_del f nx nx v e win (Int.le_refl _) (by omega)
          have h2 := h.num
          have h3 := cnt_front (upd f nx none) nx win
          rw [upd_same] at h3
          have h4 : upd f nx none (nx + win) = none := by
            rw [upd_other _ _ (by omega)]
            cases q : f (nx + win) with
            | none => rfl
            | some w => have := h.rng _ w q; omega
          rw [cnt, h4] at h3
          simp at h3
          omega
      obtain ⟨r, hr⟩ : ∃ r, r = drain k (upd f nx none) (nx + 1) := ⟨_, rfl⟩
      have D := ih _ _ hI
      rw [← hr] at D ⊢
      refine ⟨?_, ?_, ?_, D.gone, ?_, ?_, ?_⟩
      · have := D.nx'; simp only [List.length_cons]; omega
      · have := D.len; simp only [List.length_cons]; omega
      · have := D.rest; simp only [List.length_cons, Nat.add_sub_add_right]; exact this
      · intro j w hj
        cases j with
        | zero => simp at hj; subst hj; simpa using hv.2.2
        | succ j => have := D.told j w (by simpa using hj); rw [show nx + ((j + 1 : Nat) : Int) = nx + 1 + j by omega]; exact this
      · intro s
        have := D.at_ s
        have h1 := D.nx'
        dsimp only
        rw [this]
        split
        · rfl
        · rw [upd_other _ _ (by omega)]
      · intro s h1 h2
        by_cases q : s = nx
        · subst q; rw [e]; simp
        · have := D.was s (by omega) h2
          rwa [upd_other _ _ q] at this
/-- What a Put may do to numbers within a window. -/
theorem put_ok {P : Int → α → Prop} {win : Nat} (hw : 0 < win) {f : Hd α} {nx : Int} {k : Nat} (h : In P win f nx k) {s : Int} {v : α} (h1 : nx ≤ s) (h2 : s < nx + win) (h3 : f s = none) (hp : P s v) :
    put win nx f k s v = ⟨(drain (k + 1) (upd f s (some v)) nx).1, (drain (k + 1) (upd f s (some v)) nx).2.1, k + 1 - (drain (k + 1) (upd f s (some v)) nx).2.2.length, (drain (k + 1) (upd f s (some v)) nx).2.2, 0⟩ ∧
      Dr P win (upd f s (some v)) nx (k + 1) (drain (k + 1) (upd f s (some v)) nx) := by
  refine ⟨?_, drain_spec hw _ _ _ ⟨fun x w hx => ?_, ?_⟩⟩
  · unfold put
    rw [if_neg (by rw [h3]; simp; omega), if_neg (by omega)]
  · by_cases q : x = s
    · subst q; rw [upd_same] at hx; injection hx with hx; subst hx; exact ⟨h1, h2, hp⟩
    · rw [upd_other _ _ q] at hx; exact h.rng x w hx
  · rw [cnt_upd_none f nx s v h3 win h1 h2, h.num]
theorem In.lt {P : Int → α → Prop} {win : Nat} {f : Hd α} {nx : Int} {k : Nat} (h : In P win f nx k) (hw : 0 < win) (h0 : f nx = none) : k < win := by
  obtain ⟨m, rfl⟩ : ∃ m, win = m + 1 := ⟨win - 1, by omega⟩
  have := h.num
  rw [cnt_front, h0] at this
  have := cnt_le f (nx + 1) m
  simp at *
  omega
end Go.Proofs.Ytmbljhkblmdkoaa.Mg
