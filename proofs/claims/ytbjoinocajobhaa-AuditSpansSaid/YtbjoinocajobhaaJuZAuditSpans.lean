/- audit.Judge: the plain search. -/
import Derived.Test.YtbjoinocajobhaaQ0ZAuditSpans
namespace Go.Proofs.Ytbjoinocajobhaa.Ju
set_option linter.unusedVariables false
set_option linter.unusedSimpArgs false
open Go.RowKit Go.Proofs.Ytbjoinocajobhaa.Q Go.Proofs.YtbjoinocajobhaaW.PrintWords Go.Proofs.YtbjoinocajobhaaW.PrintLast
/-- The plain queue. -/
structure Qs where
  i : Int
  o : Int
  cl : Bool
  ca : Bool
def callQ (q : Qs) (kind : Int) : Int × Int × Qs × Bool :=
  if kind = 1 then (if q.cl = true then (301, 0, q, true) else if q.ca = true then (301, 0, q, true) else if wrap64 (q.i - q.o) = 4 then (300, 0, q, true) else (0, q.i, { q with i := wrap64 (q.i + 1) }, true))
  else if kind = 2 then (if q.ca = true then (303, 0, q, true) else if q.i > q.o then (0, q.o, { q with o := wrap64 (q.o + 1) }, true) else (302, 0, q, q.cl))
  else if kind = 3 then (0, 0, { q with ca := true }, true)
  else if kind = 4 then (0, 0, { q with cl := true }, true)
  else (0, 0, q, false)
def Wq (q : Qs) : Prop := (Lit.int .i64 q.i).wf = true ∧ (Lit.int .i64 q.o).wf = true
def ended (x : S32) : Bool := x.f2 != (-1)
def ahead (a b : S32) : Bool := ended a && decide (a.f2 < b.f1)
def sp (l : List S32) (i : Nat) : S32 := rd_T32 l (i : Int)
def over (l : List S32) (m : Nat) : Bool := (List.range l.length).all fun i => !(ended (sp l i) && !m.testBit i)
def may (l : List S32) (m i : Nat) : Bool := (List.range l.length).all (fun k => !(!m.testBit k && ahead (sp l k) (sp l i))) && !m.testBit i
/-- A call takes effect as the next one: the queue behind it. -/
def step (l : List S32) (m : Nat) (q : Qs) (i : Nat) : Option Qs :=
  if may l m i = true then
    (if (callQ q (sp l i).f0).2.2.2 = true ∧ ¬ (ended (sp l i) = true ∧ ((callQ q (sp l i).f0).1 ≠ (sp l i).f3 ∨ (callQ q (sp l i).f0).2.1 ≠ (sp l i).f4)) then some (callQ q (sp l i).f0).2.2.1 else none)
  else none
def comp : Nat → List S32 → Nat → Qs → Option (List Int)
  | 0, l, m, _ => if over l m = true then some [] else none
  | n + 1, l, m, q => if over l m = true then some [] else (List.range l.length).findSome? fun i => (step l m q i).bind fun q' => (comp n l (m ||| 2 ^ i) q').map fun r => (i : Int) :: r
def free (m : Nat) : Nat → Nat
  | 0 => 0
  | n + 1 => free m n + (if m.testBit n = true then 0 else 1)
theorem testBit_set (m i j : Nat) : (m ||| 2 ^ i).testBit j = (m.testBit j || decide (i = j)) := by
  rw [Nat.testBit_or, Nat.testBit_two_pow]
theorem free_set_out {m i : Nat} : ∀ {n : Nat}, n ≤ i → free (m ||| 2 ^ i) n = free m n
  | 0, _ => rfl
  | n + 1, h => by
    unfold free
    rw [free_set_out (by omega), testBit_set, decide_eq_false (by omega), Bool.or_false]
theorem free_set {m i : Nat} (hb : m.testBit i = false) : ∀ {n : Nat}, i < n → free (m ||| 2 ^ i) n + 1 = free m n
  | 0, h => by omega
  | n + 1, h => by
    unfold free
    by_cases hi : i = n
    · subst hi
      rw [free_set_out (Nat.le_refl _), testBit_set, hb]; simp
    · have := free_set hb (n := n) (by omega)
      rw [testBit_set, decide_eq_false hi, Bool.or_false]; omega
theorem free_le (m : Nat) : ∀ n, free m n ≤ n
  | 0 => Nat.le_refl _
  | n + 1 => by
    have := free_le m n
    unfold free; split <;> omega
/-- What is searched from a set of calls and a queue. -/
def C (l : List S32) (m : Nat) (q : Qs) : Option (List Int) := comp (free m l.length) l m q
def branch (l : List S32) (m : Nat) (q : Qs) (i : Nat) : Option (List Int) := (step l m q i).bind fun q' => (C l (m ||| 2 ^ i) q').map fun r => (i : Int) :: r
theorem may_bit {l : List S32} {m i : Nat} (h : may l m i = true) : m.testBit i = false := by
  unfold may at h
  simp only [Bool.and_eq_true, Bool.not_eq_true'] at h
  exact h.2
theorem step_may {l : List S32} {m i : Nat} {q q' : Qs} (h : step l m q i = some q') : may l m i = true := by
  unfold step at h
  by_cases hm : may l m i = true
  · exact hm
  · rw [if_neg hm] at h; cases h
theorem findSome_range {α : Type} (f : Nat → Option α) : ∀ (n j : Nat), j < n → (∀ i, i < j → f i = none) → ∀ r, f j = some r → (List.range n).findSome? f = some r
  | n, j, hj, hn, r, hr => by
    rw [List.findSome?_eq_some_iff]
    refine ⟨List.range j, j, (List.range' (j + 1) (n - j - 1)), ?_, hr, fun x hx => hn x (List.mem_range.1 hx)⟩
    rw [List.range_eq_range', List.range_eq_range']
    have e : n = j + (1 + (n - j - 1)) := by omega
    conv => lhs; rw [e, ← List.range'_append_1, ← List.range'_append_1]
    simp
theorem C_over {l : List S32} {m : Nat} (q : Qs) (h : over l m = true) : C l m q = some [] := by
  unfold C; cases free m l.length <;> (unfold comp; rw [if_pos h])
theorem over_of_free {l : List S32} {m : Nat} (h : free m l.length = 0) : over l m = true := by
  have key : ∀ n, free m n = 0 → ∀ i, i < n → m.testBit i = true := by
    intro n
    induction n with
    | zero => intro _ i hi; omega
    | succ n ih =>
      intro hf i hi
      unfold free at hf
      by_cases hb : m.testBit n = true
      · by_cases hin : i = n
        · rw [hin]; exact hb
        · exact ih (by omega) i (by omega)
      · rw [if_neg hb] at hf; omega
  unfold over
  rw [List.all_eq_true]
  intro i hi
  rw [key _ h i (List.mem_range.1 hi)]; simp
theorem comp_branch {l : List S32} {m n : Nat} {q : Qs} (hn : free m l.length = n + 1) {i : Nat} (hi : i < l.length) : ((step l m q i).bind fun q' => (comp n l (m ||| 2 ^ i) q').map fun r => (i : Int) :: r) = branch l m q i := by
  unfold branch
  cases hs : step l m q i with
  | none => rfl
  | some q' =>
    have := free_set (may_bit (step_may hs)) (n := l.length) hi
    simp only [Option.bind_some]
    unfold C
    rw [show free (m ||| 2 ^ i) l.length = n by omega]
theorem C_some {l : List S32} {m : Nat} {q : Qs} (h : ¬ over l m = true) {j : Nat} (hj : j < l.length) (hn : ∀ i, i < j → branch l m q i = none) {r : List Int} (hr : branch l m q j = some r) : C l m q = some r := by
  cases hf : free m l.length with
  | zero => exact absurd (over_of_free hf) h
  | succ n =>
    show comp (free m l.length) l m q = _
    rw [hf]; unfold comp; rw [if_neg h]
    refine findSome_range _ _ j hj (fun i hi => ?_) r ?_
    · rw [comp_branch hf (by omega)]; exact hn i hi
    · rw [comp_branch hf hj]; exact hr
theorem C_none {l : List S32} {m : Nat} {q : Qs} (h : ¬ over l m = true) (hn : ∀ i, i < l.length → branch l m q i = none) : C l m q = none := by
  cases hf : free m l.length with
  | zero => exact absurd (over_of_free hf) h
  | succ n =>
    show comp (free m l.length) l m q = _
    rw [hf]; unfold comp; rw [if_neg h]
    rw [List.findSome?_eq_none_iff]
    intro i hi
    rw [comp_branch hf (List.mem_range.1 hi)]; exact hn i (List.mem_range.1 hi)
theorem call_ev (q : Qs) (kind : Int) : Ev (fun k => audit_state_call.f k q.i q.o q.cl q.ca kind) ((callQ q kind).1, (callQ q kind).2.1, (callQ q kind).2.2.1.i, (callQ q kind).2.2.1.o, (callQ q kind).2.2.1.cl, (callQ q kind).2.2.1.ca, (callQ q kind).2.2.2) := by
  unfold audit_state_call.f callQ
  by_cases h1 : kind = 1
  · simp only [if_pos h1]
    by_cases hc : q.cl = true
    · simp only [if_pos hc]
      refine Ev.step (fun k => by simp only [audit_state_call.j0]; rfl) ?_
      simp only [if_true]; exact Ev.now _
    · simp only [if_neg hc]
      refine Ev.step (fun k => by simp only [audit_state_call.j0]; rfl) ?_
      by_cases ha : q.ca = true
      · simp only [if_pos ha]; exact Ev.now _
      · simp only [if_neg ha]
        by_cases h4 : wrap64 (q.i - q.o) = 4
        · simp only [if_pos h4]; exact Ev.now _
        · simp only [if_neg h4]; exact Ev.now _
  · simp only [if_neg h1]
    by_cases h2 : kind = 2
    · simp only [if_pos h2]
      by_cases ha : q.ca = true
      · simp only [if_pos ha]; exact Ev.now _
      · simp only [if_neg ha]
        by_cases h4 : q.i > q.o
        · simp only [if_pos h4]; exact Ev.now _
        · simp only [if_neg h4]; exact Ev.now _
    · simp only [if_neg h2]
      by_cases h3 : kind = 3
      · simp only [if_pos h3]; exact Ev.now _
      · simp only [if_neg h3]
        by_cases h4 : kind = 4
        · simp only [if_pos h4]; exact Ev.now _
        · simp only [if_neg h4]; exact Ev.now _
theorem bitz {m i : Nat} (hm : m < 4294967296) : (Go.bits .and .u32 ((m : Int) / 2 ^ i) 1 == 0) = !m.testBit i := by
  have e : (m : Int) / 2 ^ i = ((m / 2 ^ i : Nat) : Int) := by rw [Int.natCast_ediv]; norm_cast
  have hlt : m / 2 ^ i < 4294967296 := Nat.lt_of_le_of_lt (Nat.div_le_self _ _) hm
  rw [e, show (1 : Int) = ((1 : Nat) : Int) from rfl, u32_and_nat _ _ hlt (by omega), Nat.and_one_is_mod, Nat.testBit_eq_decide_div_mod_eq]
  rcases Nat.mod_two_eq_zero_or_one (m / 2 ^ i) with h | h <;> rw [h] <;> rfl
theorem setz {m i : Nat} (hm : m < 4294967296) (hi : i < 32) : Go.bits .or .u32 (m : Int) ((2 ^ i : Nat) : Int) = ((m ||| 2 ^ i : Nat) : Int) :=
  u32_or_nat _ _ hm (by have := Nat.pow_lt_pow_right (a := 2) (by omega) hi; omega)
end Go.Proofs.Ytbjoinocajobhaa.Ju
