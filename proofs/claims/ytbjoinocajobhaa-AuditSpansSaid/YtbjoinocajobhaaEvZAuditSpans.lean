/- AuditSpans, plainly: both ways to reckon the spans of a history. -/
import Derived.Test.YtbjoinocajobhaaJucZAuditSpans
namespace Go.Proofs.Ytbjoinocajobhaa.Evs
set_option linter.unusedVariables false
set_option linter.unusedSimpArgs false
open Go.RowKit Go.Proofs.Ytbjoinocajobhaa.Q Go.Proofs.YtbjoinocajobhaaW.PrintWords Go.Proofs.YtbjoinocajobhaaW.PrintLast Go.Proofs.Ytbjoinocajobhaa.Ju
structure E6 where
  f0 : Int
  f1 : Int
  f2 : Int
  f3 : Bool
  f4 : Int
  f5 : Int
instance : Inhabited E6 := ⟨⟨0, 0, 0, false, 0, 0⟩⟩
def ev (l : List E6) (i : Nat) : E6 := l.getD i default
abbrev Go_ := Int → Option (E6 × Nat)
def upd (g : Go_) (c : Int) (v : Option (E6 × Nat)) : Go_ := fun x => if x = c then v else g x
def badA (was : Option (E6 × Nat)) (e : E6) : Bool := !kindB e.f2 || (was.isSome != e.f3) || (match was with | some p => (p.1.f1 != e.f1) || (p.1.f2 != e.f2) | none => false)
def endS (x : S32) (i : Nat) (e : E6) : S32 := ⟨x.f0, x.f1, (i : Int), e.f4, e.f5⟩
/-- One event, as the code takes it. -/
def stA (se : Int) (i : Nat) (e : E6) (s : Go_ × List S32) : Option (Go_ × List S32) :=
  if badA (s.1 e.f0) e = true then none
  else if e.f3 = false then some (upd s.1 e.f0 (some (e, s.2.length)), if e.f1 = se then s.2 ++ [⟨e.f2, (i : Int), -1, 0, 0⟩] else s.2)
  else some (upd s.1 e.f0 none, if e.f1 = se then (match s.1 e.f0 with | some p => s.2.set p.2 (endS (sp s.2 p.2) i e) | none => s.2) else s.2)
def runA (se : Int) (l : List E6) : Nat → Nat → Go_ × List S32 → Option (Go_ × List S32)
  | 0, i, s => some s
  | d + 1, i, s => (stA se i (ev l i) s).bind fun s' => runA se l d (i + 1) s'
/-- The document: calls that have begun, with their ends. -/
def lastO (l : List E6) (P : List (Nat × Int)) (c : Int) : Nat → Int
  | 0 => -1
  | k + 1 => if (ev l (P.getD k (0, 0)).1).f0 = c ∧ (P.getD k (0, 0)).2 < 0 then (k : Int) else lastO l P c k
def stB (l : List E6) (i : Nat) (P : List (Nat × Int)) : Option (List (Nat × Int)) :=
  if kindB (ev l i).f2 = false then none
  else if (ev l i).f3 = false then (if lastO l P (ev l i).f0 P.length ≥ 0 then none else some (P ++ [(i, -1)]))
  else if lastO l P (ev l i).f0 P.length < 0 ∨ (ev l (P.getD (lastO l P (ev l i).f0 P.length).toNat (0, 0)).1).f1 ≠ (ev l i).f1 ∨ (ev l (P.getD (lastO l P (ev l i).f0 P.length).toNat (0, 0)).1).f2 ≠ (ev l i).f2 then none
  else some (P.set (lastO l P (ev l i).f0 P.length).toNat ((P.getD (lastO l P (ev l i).f0 P.length).toNat (0, 0)).1, (i : Int)))
def runB (l : List E6) : Nat → Nat → List (Nat × Int) → Option (List (Nat × Int))
  | 0, i, P => some P
  | d + 1, i, P => (stB l i P).bind fun P' => runB l d (i + 1) P'
def spanO (l : List E6) (p : Nat × Int) : S32 := ⟨(ev l p.1).f2, (p.1 : Int), p.2, if 0 ≤ p.2 then (ev l p.2.toNat).f4 else 0, if 0 ≤ p.2 then (ev l p.2.toNat).f5 else 0⟩
def outF (l : List E6) (se : Int) (P : List (Nat × Int)) : List S32 := P.filterMap fun p => if (ev l p.1).f1 = se then some (spanO l p) else none
theorem outF_app (l : List E6) (se : Int) (P R : List (Nat × Int)) : outF l se (P ++ R) = outF l se P ++ outF l se R := List.filterMap_append
/-- What both hold. -/
structure Rel (l : List E6) (se : Int) (i : Nat) (g : Go_) (out : List S32) (P : List (Nat × Int)) : Prop where
  rng : ∀ p ∈ P, p.1 < i ∧ (p.2 = -1 ∨ (0 ≤ p.2 ∧ p.2 < (i : Int)))
  out : out = outF l se P
  go : ∀ c, (g c = none ∧ ∀ (k : Nat) (p : Nat × Int), P[k]? = some p → p.2 < 0 → (ev l p.1).f0 ≠ c) ∨ (∃ (k : Nat) (p : Nat × Int), P[k]? = some p ∧ p.2 < 0 ∧ (ev l p.1).f0 = c ∧ g c = some (ev l p.1, (outF l se (P.take k)).length) ∧ ∀ (k' : Nat) (p' : Nat × Int), P[k']? = some p' → p'.2 < 0 → (ev l p'.1).f0 = c → k' = k)
theorem Rel.start (l : List E6) (se : Int) : Rel l se 0 (fun _ => none) [] [] := ⟨fun p h => (by cases h), rfl, fun c => .inl ⟨rfl, fun k p h => by simp at h⟩⟩
theorem lastO_none {l : List E6} {P : List (Nat × Int)} {c : Int} : ∀ n, n ≤ P.length → (∀ (k : Nat) (p : Nat × Int), P[k]? = some p → p.2 < 0 → (ev l p.1).f0 ≠ c) → lastO l P c n = -1
  | 0, _, _ => rfl
  | n + 1, hn, h => by
    have hp : P[n]? = some (P.getD n (0, 0)) := by rw [List.getD_eq_getElem?_getD, List.getElem?_eq_getElem (show n < P.length by omega)]; rfl
    unfold lastO
    rw [if_neg (fun q => h n _ hp q.2 q.1), lastO_none n (by omega) h]
theorem lastO_some {l : List E6} {P : List (Nat × Int)} {c : Int} {k : Nat} {p : Nat × Int} (hk : P[k]? = some p) (h1 : p.2 < 0) (h2 : (ev l p.1).f0 = c) (hu : ∀ (k' : Nat) (p' : Nat × Int), P[k']? = some p' → p'.2 < 0 → (ev l p'.1).f0 = c → k' = k) : ∀ n, n ≤ P.length → k < n → lastO l P c n = (k : Int)
  | 0, _, h => by omega
  | n + 1, hn, h => by
    have hp : P[n]? = some (P.getD n (0, 0)) := by rw [List.getD_eq_getElem?_getD, List.getElem?_eq_getElem (show n < P.length by omega)]; rfl
    unfold lastO
    by_cases e : n = k
    · subst e
      rw [hk] at hp
      injection hp with hp
      rw [← hp, if_pos ⟨h2, h1⟩]
    · rw [if_neg (fun q => e (hu n _ hp q.2 q.1)), lastO_some hk h1 h2 hu n (by omega) (by omega)]
theorem set_mid {α : Type} : ∀ (A : List α) (x y : α) (B : List α), (A ++ x :: B).set A.length y = A ++ y :: B
  | [], x, y, B => rfl
  | a :: A, x, y, B => by simp [set_mid A x y B]
theorem getD_mid {α : Type} (A : List α) (x d : α) (B : List α) : (A ++ x :: B).getD A.length d = x := by simp [List.getD_eq_getElem?_getD]
theorem split_k {α : Type} {P : List α} {k : Nat} {p : α} (h : P[k]? = some p) : P = P.take k ++ p :: P.drop (k + 1) ∧ (P.take k).length = k := by
  obtain ⟨hk, e⟩ := List.getElem?_eq_some_iff.1 h
  refine ⟨?_, by rw [List.length_take]; omega⟩
  rw [← e, ← List.drop_eq_getElem_cons hk, List.take_append_drop]
/-- One event: both go on alike. -/
theorem step_rel {l : List E6} {se : Int} {i : Nat} {g : Go_} {out : List S32} {P : List (Nat × Int)} (h : Rel l se i g out P) : (stA se i (ev l i) (g, out) = none ∧ stB l i P = none) ∨ (∃ g' out' P', stA se i (ev l i) (g, out) = some (g', out') ∧ stB l i P = some P' ∧ Rel l se (i + 1) g' out' P') := by
  obtain ⟨hr, ho, hg⟩ := h
  generalize hev : ev l i = e
  have hrng : ∀ p ∈ P, p.1 < i + 1 ∧ (p.2 = -1 ∨ (0 ≤ p.2 ∧ p.2 < ((i + 1 : Nat) : Int))) := fun p hp => by
    have := hr p hp
    omega
  unfold stA stB
  rw [hev]
  dsimp only
  cases hK : kindB e.f2
  case false => left; rw [if_pos (by unfold badA; rw [hK]; rfl), if_pos rfl]; exact ⟨rfl, rfl⟩
  case true =>
    rw [if_neg (show ¬ true = false by decide)]
    rcases hg e.f0 with ⟨g0, hno⟩ | ⟨k, p, hk, hp0, hpc, hgk, hu⟩
    · have hl := lastO_none (l := l) (P := P) (c := e.f0) P.length (Nat.le_refl _) hno
      rw [hl]
      cases hB : e.f3
      case true =>
        left
        rw [if_pos (show badA (g e.f0) e = true by unfold badA; rw [g0, hK, hB]; rfl), if_neg (show ¬ true = false by decide), if_pos (.inl (show (-1 : Int) < 0 by decide))]
        exact ⟨rfl, rfl⟩
      case false =>
        right
        rw [if_neg (show ¬ badA (g e.f0) e = true by unfold badA; rw [g0, hK, hB]; simp), if_pos rfl, if_pos rfl, if_neg (show ¬ ((-1 : Int) ≥ 0) by decide)]
        refine ⟨_, _, _, rfl, rfl, ?_, ?_, fun c => ?_⟩
        · intro p hp
          rcases List.mem_append.1 hp with hp | hp
          · exact hrng p hp
          · have := List.mem_singleton.1 hp; subst this; exact ⟨by omega, .inl rfl⟩
        · rw [outF_app]
          rw [ho]
          unfold outF
          rw [List.filterMap_cons, List.filterMap_nil]
          dsimp only
          rw [hev]
          by_cases hs : e.f1 = se
          · rw [if_pos hs, if_pos hs]
            unfold spanO
            rw [hev]; rfl
          · rw [if_neg hs, if_neg hs, List.append_nil]
        · unfold upd
          by_cases hc : c = e.f0
          · right
            refine ⟨P.length, (i, -1), by simp, (show (-1 : Int) < 0 by decide), by rw [hev, hc], ?_, ?_⟩
            · rw [if_pos hc, hev, List.take_left' rfl, ho]
            · intro k' p' h1 h2 h3
              by_cases hk' : k' < P.length
              · rw [List.getElem?_append_left hk'] at h1
                exact absurd (h3.trans hc) (hno k' p' h1 h2)
              · have := (List.getElem?_eq_some_iff.1 h1).1
                simp at this; omega
          · rw [if_neg hc]
            rcases hg c with ⟨gc, hnc⟩ | ⟨k, p, hk, hp0, hpc, hgk, hu⟩
            · left
              refine ⟨gc, fun k p h1 h2 => ?_⟩
              by_cases hk' : k < P.length
              · rw [List.getElem?_append_left hk'] at h1; exact hnc k p h1 h2
              · rw [List.getElem?_append_right (by omega)] at h1
                have hk0 : k - P.length = 0 := by
                  rcases Nat.eq_zero_or_pos (k - P.length) with q | q
                  · exact q
                  · rw [List.getElem?_eq_none (by simp; omega)] at h1; cases h1
                rw [hk0] at h1; injection h1 with h1; subst h1
                dsimp only; rw [hev]; exact fun q => hc q.symm
            · right
              have hkl := (List.getElem?_eq_some_iff.1 hk).1
              refine ⟨k, p, by rw [List.getElem?_append_left hkl]; exact hk, hp0, hpc, ?_, fun k' p' h1 h2 h3 => ?_⟩
              · rw [hgk, List.take_append_of_le_length (by omega)]
              · by_cases hk' : k' < P.length
                · rw [List.getElem?_append_left hk'] at h1; exact hu k' p' h1 h2 h3
                · rw [List.getElem?_append_right (by omega)] at h1
                  have hk0 : k' - P.length = 0 := by
                    rcases Nat.eq_zero_or_pos (k' - P.length) with q | q
                    · exact q
                    · rw [List.getElem?_eq_none (by simp; omega)] at h1; cases h1
                  rw [hk0] at h1; injection h1 with h1; subst h1
                  dsimp only at h3; rw [hev] at h3; exact absurd h3.symm hc
    · have hkl := (List.getElem?_eq_some_iff.1 hk).1
      have hl := lastO_some (l := l) (P := P) (c := e.f0) hk hp0 hpc hu P.length (Nat.le_refl _) hkl
      have hgd : P.getD k (0, 0) = p := by rw [List.getD_eq_getElem?_getD, hk]; rfl
      rw [hl, Int.toNat_natCast, hgd]
      have hps : p.2 = -1 := by
        have := (hr p (List.mem_of_getElem? hk)).2
        omega
      cases hB : e.f3
      case false =>
        left
        rw [if_pos (show badA (g e.f0) e = true by unfold badA; rw [hgk, hK, hB]; rfl), if_pos rfl, if_pos (show ((k : Nat) : Int) ≥ 0 by omega)]
        exact ⟨rfl, rfl⟩
      case true =>
        rw [if_neg (show ¬ true = false by decide), if_neg (show ¬ true = false by decide)]
        by_cases hs1 : (ev l p.1).f1 = e.f1
        · by_cases hs2 : (ev l p.1).f2 = e.f2
          · right
            rw [if_neg (show ¬ badA (g e.f0) e = true by unfold badA; rw [hgk, hK, hB]; simp [hs1, hs2]), if_neg (show ¬ (((k : Nat) : Int) < 0 ∨ (ev l p.1).f1 ≠ e.f1 ∨ (ev l p.1).f2 ≠ e.f2) by rintro (q | q | q); omega; exact q hs1; exact q hs2)]
            obtain ⟨hsp, htl⟩ := split_k hk
            have hset : P.set k (p.1, (i : Int)) = P.take k ++ (p.1, (i : Int)) :: P.drop (k + 1) := by
              have := set_mid (P.take k) p (p.1, (i : Int)) (P.drop (k + 1))
              rw [← hsp, htl] at this
              exact this
            refine ⟨_, _, _, rfl, rfl, ?_, ?_, fun c => ?_⟩
            · intro x hx
              rcases List.mem_or_eq_of_mem_set hx with q | q
              · exact hrng x q
              · subst q
                exact ⟨(hrng p (List.mem_of_getElem? hk)).1, .inr ⟨by show (0 : Int) ≤ i; omega, by show (i : Int) < _; omega⟩⟩
            · rw [hgk, hset, outF_app]
              dsimp only
              have e1 : outF l se P = outF l se (P.take k) ++ outF l se (p :: P.drop (k + 1)) := by rw [← outF_app, ← hsp]
              have c1 : ∀ x : Nat × Int, outF l se (x :: P.drop (k + 1)) = if (ev l x.1).f1 = se then spanO l x :: outF l se (P.drop (k + 1)) else outF l se (P.drop (k + 1)) := fun x => by
                unfold outF
                rw [List.filterMap_cons]
                by_cases q : (ev l x.1).f1 = se
                · rw [if_pos q, if_pos q]
                · rw [if_neg q, if_neg q]
              rw [ho, e1, c1, c1]
              dsimp only
              by_cases hs : e.f1 = se
              · rw [if_pos hs, if_pos (hs1.trans hs)]
                rw [set_mid]
                have hsx : sp (outF l se (P.take k) ++ spanO l p :: outF l se (P.drop (k + 1))) (outF l se (P.take k)).length = spanO l p := by
                  unfold sp rd_T32
                  rw [Int.toNat_natCast]; exact getD_mid _ _ _ _
                rw [hsx]
                have : endS (spanO l p) i e = spanO l (p.1, (i : Int)) := by
                  unfold endS spanO
                  dsimp only
                  rw [if_pos (by omega), if_pos (by omega), Int.toNat_natCast, hev]
                rw [this, if_pos (hs1.trans hs)]
              · rw [if_neg hs, if_neg (fun q => hs (hs1.symm.trans q)), if_neg (fun q => hs (hs1.symm.trans q))]
            · unfold upd
              have hgk' : ∀ j, (P.set k (p.1, (i : Int)))[j]? = if j = k then some (p.1, (i : Int)) else P[j]? := fun j => by
                rw [List.getElem?_set]
                by_cases q : k = j
                · subst q; rw [if_pos rfl, if_pos rfl, if_pos hkl]
                · rw [if_neg q, if_neg (fun w => q w.symm)]
              by_cases hc : c = e.f0
              · left
                refine ⟨if_pos hc, fun j x h1 h2 h3 => ?_⟩
                rw [hgk'] at h1
                by_cases q : j = k
                · rw [if_pos q] at h1; injection h1 with h1; subst h1
                  dsimp only at h2; omega
                · rw [if_neg q] at h1
                  exact q (hu j x h1 h2 (h3.trans hc))
              · rw [if_neg hc]
                rcases hg c with ⟨gc, hnc⟩ | ⟨k2, p2, hk2, hp02, hpc2, hgk2, hu2⟩
                · left
                  refine ⟨gc, fun j x h1 h2 => ?_⟩
                  rw [hgk'] at h1
                  by_cases q : j = k
                  · rw [if_pos q] at h1; injection h1 with h1; subst h1
                    dsimp only at h2; omega
                  · rw [if_neg q] at h1; exact hnc j x h1 h2
                · right
                  have hne : k2 ≠ k := fun q => by
                    subst q
                    rw [hk] at hk2; injection hk2 with hk2; subst hk2
                    exact hc (hpc2.symm.trans hpc)
                  refine ⟨k2, p2, by rw [hgk', if_neg hne]; exact hk2, hp02, hpc2, ?_, fun j x h1 h2 h3 => ?_⟩
                  · rw [hgk2]
                    congr 2
                    have hlen : ∀ Q R : List (Nat × Int), Q.map (·.1) = R.map (·.1) → (outF l se Q).length = (outF l se R).length := by
                      intro Q
                      induction Q with
                      | nil => intro R hR; cases R with
                        | nil => rfl
                        | cons y R => simp at hR
                      | cons y Q ih =>
                        intro R hR
                        cases R with
                        | nil => simp at hR
                        | cons z R =>
                          simp only [List.map_cons, List.cons.injEq] at hR
                          have := ih R hR.2
                          unfold outF at this ⊢
                          rw [List.filterMap_cons, List.filterMap_cons, hR.1]
                          by_cases q : (ev l z.1).f1 = se
                          · rw [if_pos q, if_pos q]; simp [this]
                          · rw [if_neg q, if_neg q]; exact this
                    refine hlen _ _ ?_
                    rw [List.map_take, List.map_take, List.map_set]
                    congr 1
                    refine (List.ext_getElem? fun j => ?_)
                    rw [List.getElem?_set]
                    by_cases q : k = j
                    · subst q
                      rw [if_pos rfl, List.length_map, if_pos hkl, List.getElem?_map, hk]; rfl
                    · rw [if_neg q]
                  · rw [hgk'] at h1
                    by_cases q : j = k
                    · rw [if_pos q] at h1; injection h1 with h1; subst h1
                      dsimp only at h2; omega
                    · rw [if_neg q] at h1
                      exact hu2 j x h1 h2 h3
          · left
            rw [if_pos (by unfold badA; rw [hgk, hK, hB]; simp [hs2]), if_pos (.inr (.inr hs2))]
            exact ⟨rfl, rfl⟩
        · left
          rw [if_pos (by unfold badA; rw [hgk, hK, hB]; simp [hs1]), if_pos (.inr (.inl hs1))]
          exact ⟨rfl, rfl⟩
end Go.Proofs.Ytbjoinocajobhaa.Evs
