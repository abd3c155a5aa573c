/- MergePlays, plainly: rows of what came, beside the Buffer. -/
import Derived.Test.YtmbljhkblmdkoaaMoZMergePlays
import Derived.Test.YtmbljhkblmdkoaaQ0ZMergePlays
namespace Go.Proofs.Ytmbljhkblmdkoaa.Mg
set_option linter.unusedVariables false
open Go.RowKit Go.Proofs.Ytmbljhkblmdkoaa.Q Go.Proofs.YtmbljhkblmdkoaaW.PrintWords Go.Proofs.YtmbljhkblmdkoaaW.PrintLast Go.Proofs.YtmbljhkblmdkoaaW.PrintMore Go.Proofs.Ytmbljhkblmdkoaa.Keep
/-- Rows of numbers and of what came under them. -/
structure Rp (f : Hd Int) (k : Nat) (seq val : List Int) : Prop where
  len : seq.length = k
  same : val.length = k
  one : seq.Nodup
  get : ∀ i, i < k → f (seq.getD i 0) = some (val.getD i 0)
  all : ∀ s, f s ≠ none → s ∈ seq
theorem Rp.start : Rp (fun _ => none) 0 [] [] := ⟨rfl, rfl, List.nodup_nil, fun i hi => by omega, fun s h => absurd rfl h⟩
theorem Rp.mem {f : Hd Int} {k : Nat} {seq val : List Int} (h : Rp f k seq val) (s : Int) : (f s).isSome = true ↔ s ∈ seq := by
  constructor
  · intro q
    refine h.all s (fun e => ?_)
    rw [e] at q; cases q
  · intro q
    obtain ⟨i, hi, e⟩ := List.getElem_of_mem q
    have := h.get i (by rw [← h.len]; exact hi)
    rw [List.getD_eq_getElem?_getD, List.getElem?_eq_getElem hi, Option.getD_some, e] at this
    rw [this]; rfl
theorem Rp.more {f : Hd Int} {k : Nat} {seq val : List Int} (h : Rp f k seq val) {s : Int} (v : Int) (hs : f s = none) : Rp (upd f s (some v)) (k + 1) (seq ++ [s]) (val ++ [v]) := by
  have hn : s ∉ seq := fun q => by have := (h.mem s).2 q; rw [hs] at this; cases this
  refine ⟨by rw [List.length_append, h.len]; rfl, by rw [List.length_append, h.same]; rfl, ?_, fun i hi => ?_, fun x hx => ?_⟩
  · rw [List.nodup_append]
    refine ⟨h.one, by simp, fun a ha b hb => ?_⟩
    rw [List.mem_singleton] at hb
    rintro rfl
    exact hn (hb ▸ ha)
  · rw [List.getD_eq_getElem?_getD, List.getD_eq_getElem?_getD]
    by_cases q : i = k
    · subst q
      rw [List.getElem?_append_right (by rw [h.len]; exact Nat.le_refl _), List.getElem?_append_right (by rw [h.same]; exact Nat.le_refl _), h.len, h.same]
      simp [upd_same]
    · rw [List.getElem?_append_left (by rw [h.len]; omega), List.getElem?_append_left (by rw [h.same]; omega), ← List.getD_eq_getElem?_getD, ← List.getD_eq_getElem?_getD]
      rw [upd_other _ _ (fun e => hn ?_)]
      · exact h.get i (by omega)
      · have hil : i < seq.length := by rw [h.len]; omega
        rw [List.getD_eq_getElem?_getD, List.getElem?_eq_getElem hil, Option.getD_some] at e
        rw [← e]; exact List.getElem_mem hil
  · rw [List.mem_append, List.mem_singleton]
    by_cases q : x = s
    · exact .inr q
    · rw [upd_other _ _ q] at hx; exact .inl (h.all x hx)
theorem getD_erase (l : List Int) (j i : Nat) : (l.eraseIdx j).getD i 0 = if i < j then l.getD i 0 else l.getD (i + 1) 0 := by
  rw [List.getD_eq_getElem?_getD, List.getElem?_eraseIdx]
  split
  · rw [← List.getD_eq_getElem?_getD]
  · rw [← List.getD_eq_getElem?_getD]
theorem Rp.less {f : Hd Int} {k : Nat} {seq val : List Int} (h : Rp f (k + 1) seq val) {j : Nat} (hj : j < k + 1) : Rp (upd f (seq.getD j 0) none) k (seq.eraseIdx j) (val.eraseIdx j) := by
  have hl := h.len
  have hv := h.same
  have inj : ∀ a b, a < k + 1 → b < k + 1 → seq.getD a 0 = seq.getD b 0 → a = b := fun a b ha hb e => by
    rw [List.getD_eq_getElem?_getD, List.getD_eq_getElem?_getD, List.getElem?_eq_getElem (by omega), List.getElem?_eq_getElem (by omega)] at e
    have e : seq[a] = seq[b] := e
    have P := List.pairwise_iff_getElem.1 h.one
    rcases Nat.lt_trichotomy a b with q | q | q
    · exact absurd e (P a b (by omega) (by omega) q)
    · exact q
    · exact absurd e.symm (P b a (by omega) (by omega) q)
  refine ⟨by rw [List.length_eraseIdx, if_pos (by omega)]; omega, by rw [List.length_eraseIdx, if_pos (by omega)]; omega, h.one.eraseIdx j, fun i hi => ?_, fun x hx => ?_⟩
  · rw [getD_erase, getD_erase]
    split
    · rename_i q
      rw [upd_other _ _ (fun e => by have := inj i j (by omega) hj e; omega)]
      exact h.get i (by omega)
    · rename_i q
      rw [upd_other _ _ (fun e => by have := inj (i + 1) j (by omega) hj e; omega)]
      exact h.get (i + 1) (by omega)
  · have hne : x ≠ seq.getD j 0 := fun e => by rw [e, upd_same] at hx; exact hx rfl
    rw [upd_other _ _ hne] at hx
    obtain ⟨i, hi, e⟩ := List.getElem_of_mem (h.all x hx)
    have hij : i ≠ j := fun q => hne (by rw [← e, ← q, List.getD_eq_getElem?_getD, List.getElem?_eq_getElem hi]; rfl)
    rw [List.mem_eraseIdx_iff_getElem]
    exact ⟨i, hi, hij, e⟩
/-- Where a number stands; -1: nowhere. -/
def atI (l : List Int) (n : Int) : Int := if n ∈ l then (l.idxOf n : Int) else -1
theorem atI_first {l : List Int} {n : Int} {i : Nat} (hi : i < l.length) (h : ∀ j, j < i → l.getD j 0 ≠ n) (e : l.getD i 0 = n) : atI l n = i := by
  rw [List.getD_eq_getElem?_getD, List.getElem?_eq_getElem hi, Option.getD_some] at e
  have hm : n ∈ l := e ▸ List.getElem_mem hi
  unfold atI
  rw [if_pos hm]
  have h1 := List.idxOf_lt_length_of_mem hm
  have h2 : l[l.idxOf n] = n := List.getElem_idxOf h1
  rcases Nat.lt_trichotomy (l.idxOf n) i with q | q | q
  · have := h _ q
    rw [List.getD_eq_getElem?_getD, List.getElem?_eq_getElem h1, Option.getD_some] at this
    exact absurd h2 this
  · rw [q]
  · exact absurd e (by have := List.not_of_lt_findIdx (p := fun x => x == n) (xs := l) (i := i) q; simpa using this)
theorem atI_none {l : List Int} {n : Int} (h : ∀ j, j < l.length → l.getD j 0 ≠ n) : atI l n = -1 := by
  unfold atI
  rw [if_neg]
  intro hm
  obtain ⟨j, hj, e⟩ := List.getElem_of_mem hm
  refine h j hj ?_
  rw [List.getD_eq_getElem?_getD, List.getElem?_eq_getElem hj]; exact e
theorem atI_cases (l : List Int) (n : Int) : (atI l n = -1 ∧ n ∉ l) ∨ ∃ i : Nat, atI l n = i ∧ i < l.length ∧ l.getD i 0 = n := by
  unfold atI
  by_cases hm : n ∈ l
  · rw [if_pos hm]
    have h1 := List.idxOf_lt_length_of_mem hm
    exact .inr ⟨_, rfl, h1, by rw [List.getD_eq_getElem?_getD, List.getElem?_eq_getElem h1]; exact List.getElem_idxOf h1⟩
  · rw [if_neg hm]; exact .inl ⟨rfl, hm⟩
end Go.Proofs.Ytmbljhkblmdkoaa.Mg
