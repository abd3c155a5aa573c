/- The document's Judge: plain facts of its key. -/
import Derived.Test.YtbjoinocajobhaaJucZAuditJudges
namespace Go.Proofs.Ytbjoinocajobhaa.Ju
set_option linter.unusedVariables false
set_option linter.unusedSimpArgs false
open Go.RowKit Go.Proofs.Ytbjoinocajobhaa.Q Go.Proofs.YtbjoinocajobhaaW.PrintWords Go.Proofs.YtbjoinocajobhaaW.PrintLast Go.Proofs.Ytbjoinocajobhaa.Keep Go.Maps
def any_ (l : List S32) (m : Nat) (kd : Int) : Bool := (List.range l.length).any fun k => m.testBit k && decide ((sp l k).f0 = kd)
theorem any_set {l : List S32} {m j : Nat} (hj : j < l.length) (kd : Int) : any_ l (m ||| 2 ^ j) kd = (any_ l m kd || decide ((sp l j).f0 = kd)) := by
  unfold any_
  rw [Bool.eq_iff_iff]
  simp only [List.any_eq_true, List.mem_range, Bool.and_eq_true, Bool.or_eq_true, testBit_set, decide_eq_true_eq]
  constructor
  · rintro ⟨k, hk, h1 | h1, h2⟩
    · exact .inl ⟨k, hk, h1, h2⟩
    · subst h1; exact .inr h2
  · rintro (⟨k, hk, h1, h2⟩ | h)
    · exact ⟨k, hk, .inl h1, h2⟩
    · exact ⟨j, hj, .inr rfl, h⟩
theorem any_none (l : List S32) (kd : Int) : any_ l 0 kd = false := by
  unfold any_
  rw [List.any_eq_false]
  intro x _; simp
/-- The queue that stands behind a set of calls. -/
structure RQ (l : List S32) (m : Nat) (q : Qs) : Prop where
  cl : q.cl = any_ l m 4
  ca : q.ca = any_ l m 3
  o0 : 0 ≤ q.o
  oi : q.o ≤ q.i
  i1 : q.i + free m l.length ≤ l.length
theorem RQ.start (l : List S32) : RQ l 0 q0 := ⟨by rw [any_none]; rfl, by rw [any_none]; rfl, Int.le_refl _, Int.le_refl _, by have := free_le 0 l.length; show (0 : Int) + _ ≤ _; omega⟩
theorem RQ.wq {l : List S32} {m : Nat} {q : Qs} (h : RQ l m q) (hl : l.length ≤ 14) : Wq q := by
  have h1 := h.o0; have h2 := h.oi; have h3 := h.i1
  have key : ∀ x : Int, 0 ≤ x → x ≤ 14 → (Lit.int .i64 x).wf = true := fun x a b => by
    have : wrap64 x = x := by unfold wrap64; omega
    rw [← this]; exact wrap64_wf x
  exact ⟨key _ (by omega) (by omega), key _ (by omega) (by omega)⟩
theorem RQ.call {l : List S32} {m j : Nat} {q q' : Qs} {code num : Int} {okk : Bool} (h : RQ l m q) (hl : l.length ≤ 14) (hj : j < l.length) (hb : m.testBit j = false) (hk : 1 ≤ (sp l j).f0 ∧ (sp l j).f0 ≤ 4) (hc : callQ q (sp l j).f0 = (code, num, q', okk)) (ho : okk = true) : RQ l (m ||| 2 ^ j) q' := by
  obtain ⟨c1, c2, c3, c4, c5⟩ := h
  have hf := free_set hb hj
  have w1 : wrap64 (q.i + 1) = q.i + 1 := by unfold wrap64; omega
  have w2 : wrap64 (q.o + 1) = q.o + 1 := by unfold wrap64; omega
  have a4 := any_set (l := l) (m := m) hj 4
  have a3 := any_set (l := l) (m := m) hj 3
  unfold callQ at hc
  rw [w1, w2] at hc
  by_cases e1 : (sp l j).f0 = 1
  · rw [e1] at a4 a3 hc
    rw [decide_eq_false (by decide), Bool.or_false] at a4 a3
    rw [if_pos rfl] at hc
    have same : ∀ {a b d}, ((a, b, q, d) : Int × Int × Qs × Bool) = (code, num, q', okk) → RQ l (m ||| 2 ^ j) q' := fun he => by
      simp only [Prod.mk.injEq] at he
      rw [← he.2.2.1]
      exact ⟨by rw [c1, a4], by rw [c2, a3], c3, c4, by omega⟩
    split at hc
    · exact same hc
    · split at hc
      · exact same hc
      · split at hc
        · exact same hc
        · simp only [Prod.mk.injEq] at hc
          rw [← hc.2.2.1]
          exact ⟨by rw [a4]; exact c1, by rw [a3]; exact c2, c3, by show q.o ≤ q.i + 1; omega, by show q.i + 1 + _ ≤ _; omega⟩
  · rw [if_neg e1] at hc
    by_cases e2 : (sp l j).f0 = 2
    · rw [e2] at a4 a3 hc
      rw [decide_eq_false (by decide), Bool.or_false] at a4 a3
      rw [if_pos rfl] at hc
      have same : ∀ {a b d}, ((a, b, q, d) : Int × Int × Qs × Bool) = (code, num, q', okk) → RQ l (m ||| 2 ^ j) q' := fun he => by
        simp only [Prod.mk.injEq] at he
        rw [← he.2.2.1]
        exact ⟨by rw [c1, a4], by rw [c2, a3], c3, c4, by omega⟩
      split at hc
      · exact same hc
      · split at hc
        · rename_i hgt
          simp only [Prod.mk.injEq] at hc
          rw [← hc.2.2.1]
          exact ⟨by rw [a4]; exact c1, by rw [a3]; exact c2, by show 0 ≤ q.o + 1; omega, by show q.o + 1 ≤ q.i; omega, by show q.i + _ ≤ _; omega⟩
        · exact same hc
    · rw [if_neg e2] at hc
      by_cases e3 : (sp l j).f0 = 3
      · rw [e3] at a4 a3 hc
        rw [decide_eq_false (by decide), Bool.or_false] at a4
        rw [decide_eq_true rfl, Bool.or_true] at a3
        rw [if_pos rfl] at hc
        simp only [Prod.mk.injEq] at hc
        rw [← hc.2.2.1]
        exact ⟨by rw [a4]; exact c1, by rw [a3], c3, c4, by show q.i + _ ≤ _; omega⟩
      · have e4 : (sp l j).f0 = 4 := by omega
        rw [e4] at a4 a3 hc
        rw [decide_eq_false (by decide), Bool.or_false] at a3
        rw [decide_eq_true rfl, Bool.or_true] at a4
        rw [if_neg (by decide), if_pos rfl] at hc
        simp only [Prod.mk.injEq] at hc
        rw [← hc.2.2.1]
        exact ⟨by rw [a4], by rw [a3]; exact c2, c3, c4, by show q.i + _ ≤ _; omega⟩
/-- The key. -/
def keyN (l : List S32) (m : Nat) (q : Qs) : Nat := (m * (l.length + 1) + q.i.toNat) * (l.length + 1) + q.o.toNat
theorem keyN_inj {l : List S32} {m m' : Nat} {q q' : Qs} (h : RQ l m q) (h' : RQ l m' q') (e : keyN l m q = keyN l m' q') : m = m' ∧ q = q' := by
  have b1 : q.i.toNat < l.length + 1 := by have := h.i1; omega
  have b2 : q.o.toNat < l.length + 1 := by have := h.i1; have := h.oi; omega
  have b3 : q'.i.toNat < l.length + 1 := by have := h'.i1; omega
  have b4 : q'.o.toNat < l.length + 1 := by have := h'.i1; have := h'.oi; omega
  have d1 : ∀ a b c d n : Nat, b < n → d < n → a * n + b = c * n + d → a = c ∧ b = d := fun a b c d n hb hd he => by
    have x1 : (a * n + b) / n = (c * n + d) / n := by rw [he]
    have x2 : (a * n + b) % n = (c * n + d) % n := by rw [he]
    rw [Nat.mul_comm a, Nat.mul_comm c, Nat.mul_add_div (by omega), Nat.mul_add_div (by omega), Nat.div_eq_of_lt hb, Nat.div_eq_of_lt hd] at x1
    rw [Nat.mul_comm a, Nat.mul_comm c, Nat.mul_add_mod, Nat.mul_add_mod, Nat.mod_eq_of_lt hb, Nat.mod_eq_of_lt hd] at x2
    exact ⟨by omega, x2⟩
  unfold keyN at e
  obtain ⟨e1, e2⟩ := d1 _ _ _ _ _ b2 b4 e
  obtain ⟨e3, e4⟩ := d1 _ _ _ _ _ b1 b3 e1
  subst e3
  refine ⟨rfl, ?_⟩
  have c1 := h.cl; have c2 := h.ca; have c3 := h'.cl; have c4 := h'.ca
  have := h.o0; have := h.oi; have := h'.o0; have := h'.oi
  cases q; cases q'
  simp only [Qs.mk.injEq] at *
  exact ⟨by omega, by omega, c1.trans c3.symm, c2.trans c4.symm⟩
theorem keyN_lt {l : List S32} {m : Nat} {q : Qs} (h : RQ l m q) (hm : m < 2 ^ l.length) : keyN l m q < ((l.length + 1) * 2 ^ l.length) * (l.length + 1) := by
  have b1 : q.i.toNat < l.length + 1 := by have := h.i1; omega
  have b2 : q.o.toNat < l.length + 1 := by have := h.i1; have := h.oi; omega
  have d1 : ∀ a b c n : Nat, b < n → a < c → a * n + b < c * n := fun a b c n hb ha => by
    have : (a + 1) * n ≤ c * n := Nat.mul_le_mul_right _ ha
    rw [Nat.succ_mul] at this; omega
  unfold keyN
  refine d1 _ _ _ _ b2 ?_
  rw [Nat.mul_comm (l.length + 1)]
  exact d1 _ _ _ _ b1 hm
theorem size_le {n : Nat} (h : n ≤ 14) : ((n + 1) * 2 ^ n) * (n + 1) ≤ 3686400 := by
  have h1 : 2 ^ n ≤ 2 ^ 14 := Nat.pow_le_pow_right (by decide) h
  have h2 : (n + 1) * 2 ^ n ≤ 15 * 2 ^ 14 := Nat.mul_le_mul (by omega) h1
  have h3 := Nat.mul_le_mul h2 (show n + 1 ≤ 15 by omega)
  exact h3
end Go.Proofs.Ytbjoinocajobhaa.Ju
