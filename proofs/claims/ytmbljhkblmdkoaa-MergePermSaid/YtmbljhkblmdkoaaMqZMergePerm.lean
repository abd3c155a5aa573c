/- MergePerm, plainly: a shuffle within the window. -/
import Derived.Test.YtmbljhkblmdkoaaMoZMergePerm
namespace Go.Proofs.Ytmbljhkblmdkoaa.Mg
set_option linter.unusedVariables false
open Go.RowKit Go.Proofs.Ytmbljhkblmdkoaa.Q Go.Proofs.YtmbljhkblmdkoaaW.PrintWords Go.Proofs.YtmbljhkblmdkoaaW.PrintLast Go.Proofs.Ytmbljhkblmdkoaa.Keep
/-- A shuffle of 0 .. n-1 that leaves each number in its stretch of W. -/
structure Sh (W n : Nat) (o : List Int) : Prop where
  len : o.length = n
  blk : ∀ i, i < n → ∃ v : Nat, o.getD i 0 = (v : Int) ∧ v < n ∧ v / W = i / W
  onto : ∀ v : Nat, v < n → ∃ i, i < n ∧ o.getD i 0 = (v : Int)
  inj : ∀ i j, i < n → j < n → o.getD i 0 = o.getD j 0 → i = j
def iota (n : Nat) : List Int := (List.range n).map (fun (i : Nat) => (i : Int))
theorem iota_len (n : Nat) : (iota n).length = n := by simp [iota]
theorem iota_succ (n : Nat) : iota (n + 1) = iota n ++ [(n : Int)] := by simp [iota, List.range_succ]
theorem iota_get {n i : Nat} (h : i < n) : (iota n).getD i 0 = (i : Int) := by
  unfold iota
  rw [List.getD_eq_getElem?_getD, List.getElem?_map, List.getElem?_range h]; rfl
theorem Sh.iota (W n : Nat) : Sh W n (Mg.iota n) :=
  ⟨iota_len n, fun i h => ⟨i, iota_get h, h, rfl⟩, fun v h => ⟨v, h, iota_get h⟩, fun i j hi hj e => by rw [iota_get hi, iota_get hj] at e; exact_mod_cast e⟩
def sw (x y i : Nat) : Nat := if i = y then x else if i = x then y else i
theorem sw_sw (x y i : Nat) : sw x y (sw x y i) = i := by
  unfold sw
  by_cases h1 : i = y
  · subst h1
    rw [if_pos rfl]
    by_cases h2 : x = i
    · rw [if_pos h2]; exact h2
    · rw [if_neg h2, if_pos rfl]
  · rw [if_neg h1]
    by_cases h2 : i = x
    · rw [if_pos h2, if_pos rfl]; exact h2.symm
    · rw [if_neg h2, if_neg h1, if_neg h2]
theorem sw_lt {x y i n : Nat} (hx : x < n) (hy : y < n) (hi : i < n) : sw x y i < n := by unfold sw; split <;> (try split) <;> omega
theorem swap_get {o : List Int} {x y : Nat} (hx : x < o.length) (hy : y < o.length) (i : Nat) : ((o.set x (o.getD y 0)).set y (o.getD x 0)).getD i 0 = o.getD (sw x y i) 0 := by
  unfold sw
  by_cases h1 : i = y
  · subst h1
    rw [if_pos rfl, List.getD_eq_getElem?_getD, List.getElem?_set_self (by rw [List.length_set]; exact hy)]; rfl
  · rw [if_neg h1, List.getD_eq_getElem?_getD, List.getElem?_set_ne (fun e => h1 e.symm)]
    by_cases h2 : i = x
    · subst h2
      rw [if_pos rfl, List.getElem?_set_self hx]; rfl
    · rw [if_neg h2, List.getElem?_set_ne (fun e => h2 e.symm), ← List.getD_eq_getElem?_getD]
theorem Sh.swap {W n : Nat} {o : List Int} (h : Sh W n o) {x y : Nat} (hx : x < n) (hy : y < n) (hb : x / W = y / W) : Sh W n ((o.set x (o.getD y 0)).set y (o.getD x 0)) := by
  have hl := h.len
  have G := fun i => swap_get (o := o) (x := x) (y := y) (by omega) (by omega) i
  refine ⟨by rw [List.length_set, List.length_set]; exact hl, fun i hi => ?_, fun v hv => ?_, fun i j hi hj e => ?_⟩
  · rw [G]
    obtain ⟨v, e, h1, h2⟩ := h.blk _ (sw_lt hx hy hi)
    refine ⟨v, e, h1, h2.trans ?_⟩
    unfold sw
    by_cases q : i = y
    · rw [if_pos q, q]; exact hb
    · rw [if_neg q]
      by_cases q2 : i = x
      · rw [if_pos q2, q2]; exact hb.symm
      · rw [if_neg q2]
  · obtain ⟨i, hi, e⟩ := h.onto v hv
    exact ⟨sw x y i, sw_lt hx hy hi, by rw [G, sw_sw]; exact e⟩
  · rw [G, G] at e
    have := h.inj _ _ (sw_lt hx hy hi) (sw_lt hx hy hj) e
    have := congrArg (sw x y) this
    rwa [sw_sw, sw_sw] at this
def Pid (s v : Int) : Prop := v = s
/-- After i numbers. -/
structure Pm (W n : Nat) (o : List Int) (i : Nat) (nx : Int) (f : Hd Int) (k : Nat) : Prop where
  inn : In Pid W f nx k
  gone : f nx = none
  held : ∀ s v, f s = some v → ∃ j, j < i ∧ o.getD j 0 = s
  all : ∀ j, j < i → o.getD j 0 < nx ∨ f (o.getD j 0) ≠ none
  told : ∀ s : Int, 0 ≤ s → s < nx → ∃ j, j < i ∧ o.getD j 0 = s
  pos : 0 ≤ nx
theorem Pm.start (W n : Nat) (o : List Int) : Pm W n o 0 0 (fun _ => none) 0 :=
  ⟨⟨fun s v h => (by cases h), cnt_none (fun _ _ => rfl)⟩, rfl, fun s v h => (by cases h), fun j hj => (by omega), fun s h1 h2 => (by omega), Int.le_refl _⟩
theorem Pm.step {W n : Nat} {o : List Int} {i : Nat} {nx : Int} {f : Hd Int} {k : Nat} (hw : 0 < W) (h : Pm W n o i nx f k) (hs : Sh W n o) (hi : i < n) :
    (put W nx f k (o.getD i 0) (o.getD i 0)).er = 0 ∧ (put W nx f k (o.getD i 0) (o.getD i 0)).nx = nx + (put W nx f k (o.getD i 0) (o.getD i 0)).out.length ∧
    (∀ j : Nat, ∀ v, (put W nx f k (o.getD i 0) (o.getD i 0)).out[j]? = some v → v = nx + j) ∧ (put W nx f k (o.getD i 0) (o.getD i 0)).k + (put W nx f k (o.getD i 0) (o.getD i 0)).out.length = k + 1 ∧
    Pm W n o (i + 1) (put W nx f k (o.getD i 0) (o.getD i 0)).nx (put W nx f k (o.getD i 0) (o.getD i 0)).f (put W nx f k (o.getD i 0) (o.getD i 0)).k := by
  obtain ⟨v, hv, hvn, hvb⟩ := hs.blk i hi
  have h1 : nx ≤ o.getD i 0 := by
    rcases Int.lt_or_le (o.getD i 0) nx with q | q
    · obtain ⟨j, hj, e⟩ := h.told _ (by omega) q
      have := hs.inj j i (by omega) hi e
      omega
    · exact q
  have h2 : f (o.getD i 0) = none := by
    cases e : f (o.getD i 0) with
    | none => rfl
    | some u =>
      obtain ⟨j, hj, e2⟩ := h.held _ u e
      have := hs.inj j i (by omega) hi e2
      omega
  have h3 : ((i / W * W : Nat) : Int) ≤ nx := by
    rcases Int.lt_or_le nx ((i / W * W : Nat) : Int) with q | q
    · exfalso
      obtain ⟨u, hu⟩ : ∃ u : Nat, nx = (u : Int) := ⟨nx.toNat, by have := h.pos; omega⟩
      have hle := Nat.div_mul_le_self i W
      obtain ⟨j, hj, e⟩ := hs.onto u (by omega)
      obtain ⟨v2, e2, -, hb2⟩ := hs.blk j hj
      rw [e] at e2
      have e3 : v2 = u := by exact_mod_cast e2.symm
      subst e3
      have hlt : v2 / W < i / W := (Nat.div_lt_iff_lt_mul hw).2 (by omega)
      have hji : j < i := by
        rcases Nat.lt_or_ge j i with q2 | q2
        · exact q2
        · have := Nat.div_le_div_right (c := W) q2; omega
      rcases h.all j hji with q3 | q3
      · omega
      · rw [e, ← hu] at q3; exact q3 h.gone
    · exact q
  have h4 : o.getD i 0 < nx + W := by
    have : v < (i / W + 1) * W := by rw [← hvb]; have := Nat.lt_div_mul_add hw (a := v); rw [Nat.add_mul]; omega
    rw [Nat.add_mul] at this
    omega
  obtain ⟨e, D⟩ := put_ok hw h.inn (s := o.getD i 0) (v := o.getD i 0) h1 h4 h2 rfl
  rw [e]
  refine ⟨rfl, D.nx', D.told, by have := D.len; dsimp only; omega, ⟨D.rest, D.gone, fun s u hsu => ?_, fun j hj => ?_, fun s hs0 hs1 => ?_, by have := D.nx'; have := h.pos; dsimp only; omega⟩⟩
  · dsimp only at hsu
    have := D.at_ s
    rw [this] at hsu
    split at hsu
    · cases hsu
    · by_cases q : s = o.getD i 0
      · exact ⟨i, by omega, q.symm⟩
      · rw [upd_other _ _ q] at hsu
        obtain ⟨j, hj, e2⟩ := h.held s u hsu
        exact ⟨j, by omega, e2⟩
  · dsimp only
    have := D.at_ (o.getD j 0)
    rw [this]
    rcases Int.lt_or_le (o.getD j 0) (drain (k + 1) (upd f (o.getD i 0) (some (o.getD i 0))) nx).2.1 with q | q
    · exact .inl q
    · right
      rw [if_neg (by omega)]
      by_cases q2 : o.getD j 0 = o.getD i 0
      · rw [q2, upd_same]; simp
      · rw [upd_other _ _ q2]
        have hji : j < i := by
          rcases Nat.lt_or_ge j i with q3 | q3
          · exact q3
          · exact absurd (by rw [show j = i by omega]) q2
        have hnx := D.nx'
        rcases h.all j hji with q3 | q3
        · omega
        · exact q3
  · dsimp only at hs1
    rcases Int.lt_or_le s nx with q | q
    · obtain ⟨j, hj, e2⟩ := h.told s hs0 q
      exact ⟨j, by omega, e2⟩
    · have := D.was s q hs1
      by_cases q2 : s = o.getD i 0
      · exact ⟨i, by omega, q2.symm⟩
      · rw [upd_other _ _ q2] at this
        cases e3 : f s with
        | none => exact absurd e3 this
        | some u =>
          obtain ⟨j, hj, e2⟩ := h.held s u e3
          exact ⟨j, by omega, e2⟩
theorem Pm.end {W n : Nat} {o : List Int} {nx : Int} {f : Hd Int} {k : Nat} (h : Pm W n o n nx f k) (hs : Sh W n o) : nx = n ∧ k = 0 := by
  have h1 : nx = n := by
    rcases Int.lt_trichotomy nx n with q | q | q
    · obtain ⟨u, hu⟩ : ∃ u : Nat, nx = (u : Int) := ⟨nx.toNat, by have := h.pos; omega⟩
      obtain ⟨j, hj, e⟩ := hs.onto u (by omega)
      rcases h.all j hj with q3 | q3
      · omega
      · rw [e, ← hu] at q3; exact absurd h.gone q3
    · exact q
    · obtain ⟨j, hj, e⟩ := h.told n (by omega) q
      obtain ⟨v, e2, hv, -⟩ := hs.blk j hj
      omega
  refine ⟨h1, ?_⟩
  have := h.inn.num
  rw [cnt_none (fun j _ => ?_)] at this
  · exact this.symm
  · cases e : f (nx + j) with
    | none => rfl
    | some u =>
      obtain ⟨j2, hj2, e2⟩ := h.held _ u e
      obtain ⟨v, e3, hv, -⟩ := hs.blk j2 hj2
      omega
end Go.Proofs.Ytmbljhkblmdkoaa.Mg
