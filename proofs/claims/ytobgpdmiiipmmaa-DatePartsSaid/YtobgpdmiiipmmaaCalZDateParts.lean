/- The calendar: plain facts on the functions of package date. -/
import Derived.Test.YtobgpdmiiipmmaaDigZDateParts
import Derived.Test.YtobgpdmiiipmmaaQ0ZDateParts
namespace Go.Proofs.Ytobgpdmiiipmmaa.Cal
set_option linter.unusedVariables false
open Go.RowKit Go.Proofs.Ytobgpdmiiipmmaa.Q Go.Proofs.Ytobgpdmiiipmmaa.Dig Go.Proofs.YtobgpdmiiipmmaaW.PrintWords Go.Proofs.YtobgpdmiiipmmaaW.PrintLast

abbrev A := date_date.A
abbrev leap := date_date.leap
abbrev ms := date_date.ms
abbrev sum := date_date.sum
/-- Days of a year ahead of a month (m from 0). -/
def cum (b : Bool) (m : Nat) : Int := sum ((ms b).take m)
def len (b : Bool) (m : Nat) : Int := (ms b).getD m 0
theorem cum_succ (b : Bool) (m : Nat) (h : m < 12) : cum b (m + 1) = cum b m + len b m := by
  have : ∀ b : Bool, ∀ m, m < 12 → cum b (m + 1) = cum b m + len b m := by decide
  exact this b m h
theorem len_lo (b : Bool) (m : Nat) (h : m < 12) : 28 ≤ len b m ∧ len b m ≤ 31 := by
  have : ∀ b : Bool, ∀ m, m < 12 → 28 ≤ len b m ∧ len b m ≤ 31 := by decide
  exact this b m h
theorem cum_all (b : Bool) : cum b 12 = if b = true then 366 else 365 := by
  have : ∀ b : Bool, cum b 12 = if b = true then 366 else 365 := by decide
  exact this b
theorem cum_bd (b : Bool) (m : Nat) (h : m ≤ 12) : 0 ≤ cum b m ∧ cum b m ≤ 366 := by
  have : ∀ b : Bool, ∀ m, m ≤ 12 → 0 ≤ cum b m ∧ cum b m ≤ 366 := by decide
  exact this b m h
theorem cum_mono (b : Bool) {m k : Nat} (h : m < k) (hk : k ≤ 12) : cum b m + len b m ≤ cum b k := by
  have : ∀ b : Bool, ∀ k, k ≤ 12 → ∀ m, m < k → cum b m + len b m ≤ cum b k := by decide
  exact this b k hk m h
theorem sum_ms (b : Bool) : sum (ms b) = cum b 12 := rfl
theorem A_step {y : Int} (h : 0 ≤ y) : A (y + 1) = A y + cum (leap y) 12 := date_date.A_step h
theorem A_le {y : Int} (h : 0 ≤ y) : 365 * y ≤ A y ∧ A y ≤ 366 * y := date_date.A_le h
theorem A_mono {y : Int} (h : 0 ≤ y) : ∀ j : Nat, A y ≤ A (y + j)
  | 0 => by simp
  | j + 1 => by
    have h1 := A_mono h j
    have h2 := A_step (y := y + j) (by omega)
    have h3 := (cum_bd (leap (y + j)) 12 (by decide)).1
    rw [show y + ((j + 1 : Nat) : Int) = y + j + 1 from by omega, h2]
    omega
theorem A_mono' {y z : Int} (h : 0 ≤ y) (h' : y ≤ z) : A y ≤ A z := by
  have := A_mono h (z - y).toNat
  rwa [show y + (((z - y).toNat : Nat) : Int) = z from by omega] at this
/-- A day: year from 0, month from 0, day from 1. -/
structure Ok (y : Int) (m : Nat) (d : Int) : Prop where
  y0 : 0 ≤ y
  y1 : y ≤ 9999
  m1 : m < 12
  d0 : 1 ≤ d
  d1 : d ≤ len (leap y) m
def num (y : Int) (m : Nat) (d : Int) : Int := A y + cum (leap y) m + d - 1
theorem num_bd {y : Int} {m : Nat} {d : Int} (h : Ok y m d) : A y ≤ num y m d ∧ num y m d < A (y + 1) := by
  have h1 := A_step h.y0
  have h2 := cum_mono (leap y) h.m1 (Nat.le_refl 12)
  have h3 := cum_bd (leap y) m (Nat.le_of_lt h.m1)
  have h4 := h.d0
  have h5 := h.d1
  unfold num; omega
theorem num_pos {y : Int} {m : Nat} {d : Int} (h : Ok y m d) : 0 ≤ num y m d := by
  have := num_bd h
  have := A_le h.y0
  have := h.y0
  omega
theorem A_top : A 10000 = 3652425 := by decide
theorem num_top {y : Int} {m : Nat} {d : Int} (h : Ok y m d) : num y m d ≤ 3652424 := by
  have h1 := num_bd h
  have h2 := A_mono' (y := y + 1) (z := 10000) (by have := h.y0; omega) (by have := h.y1; omega)
  rw [A_top] at h2
  omega
/-- The order of days is that of their numbers. -/
theorem num_lt {y z : Int} {m k : Nat} {d e : Int} (h : Ok y m d) (g : Ok z k e) : num y m d < num z k e ↔ y < z ∨ y = z ∧ (m < k ∨ m = k ∧ d < e) := by
  have h1 := num_bd h
  have g1 := num_bd g
  have hy := h.y0
  have gy := g.y0
  constructor
  · intro hl
    rcases Int.lt_trichotomy y z with q | q | q
    · exact .inl q
    · subst q
      right
      refine ⟨rfl, ?_⟩
      rcases Nat.lt_trichotomy m k with q | q | q
      · exact .inl q
      · subst q; right; refine ⟨rfl, ?_⟩; unfold num at hl; omega
      · have := cum_mono (leap y) q (Nat.le_of_lt h.m1)
        have := h.d0
        have := g.d1
        unfold num at hl; omega
    · have := A_mono' (y := z + 1) (z := y) (by omega) (by omega)
      omega
  · rintro (q | ⟨rfl, q | ⟨rfl, q⟩⟩)
    · have := A_mono' (y := y + 1) (z := z) (by omega) (by omega)
      omega
    · have := cum_mono (leap y) q (Nat.le_of_lt g.m1)
      have := g.d0
      have := h.d1
      unfold num; omega
    · unfold num; omega
theorem num_inj {y z : Int} {m k : Nat} {d e : Int} (h : Ok y m d) (g : Ok z k e) (hn : num y m d = num z k e) : y = z ∧ m = k ∧ d = e := by
  have h1 := num_lt h g
  have g1 := num_lt g h
  rw [hn] at h1
  rw [← hn] at g1
  have a1 : ¬ (y < z ∨ y = z ∧ (m < k ∨ m = k ∧ d < e)) := fun q => by have := h1.2 q; omega
  have a2 : ¬ (z < y ∨ z = y ∧ (k < m ∨ k = m ∧ e < d)) := fun q => by have := g1.2 q; omega
  have e1 : y = z := by omega
  subst e1
  have e2 : m = k := by omega
  subst e2
  exact ⟨rfl, rfl, by omega⟩

/-! ### date -/
theorem yr_ev (n : Int) (hn : n ≤ 3652424) : ∀ (k : Nat) (y : Int), 0 ≤ y → y ≤ 9999 → A y ≤ n → n - 365 * y < 365 * k → ∃ y', date_date.yr k n y = y' ∧ 0 ≤ y' ∧ y' ≤ 9999 ∧ A y' ≤ n ∧ n < A (y' + 1)
  | 0, y, h0, h1, h2, h3 => by
    have := A_le h0
    omega
  | k + 1, y, h0, h1, h2, h3 => by
    simp only [date_date.yr]
    by_cases c : y < 9999 ∧ date_date.A (y + 1) ≤ n
    · rw [if_pos c]
      exact yr_ev n hn k (y + 1) (by omega) (by omega) c.2 (by omega)
    · rw [if_neg c]
      refine ⟨y, rfl, h0, h1, h2, ?_⟩
      by_cases hy : y < 9999
      · have : ¬ A (y + 1) ≤ n := fun q => c ⟨hy, q⟩
        omega
      · have : y = 9999 := by omega
        subst this
        have := A_top
        show n < A 10000
        omega
theorem mo_ev : ∀ (ls : List Int) (m r : Int), 0 ≤ r → r < sum ls → ∃ i, i < ls.length ∧ date_date.mo ls m r = (m + i, r - sum (ls.take i)) ∧ 0 ≤ r - sum (ls.take i) ∧ r - sum (ls.take i) < ls.getD i 0
  | [], m, r, h0, h1 => by simp only [sum, date_date.sum] at h1; omega
  | l :: ls, m, r, h0, h1 => by
    simp only [date_date.mo]
    by_cases c : r ≥ l
    · rw [if_pos c]
      obtain ⟨i, hi, e, b0, b1⟩ := mo_ev ls (m + 1) (r - l) (by omega) (by simp only [sum, date_date.sum] at h1 ⊢; omega)
      refine ⟨i + 1, by simp; omega, ?_, ?_, ?_⟩
      · rw [e]; simp only [List.take_succ_cons, sum, date_date.sum]
        refine Prod.ext ?_ ?_
        · simp only; omega
        · simp only; omega
      · simp only [List.take_succ_cons, sum, date_date.sum] at b0 ⊢; omega
      · simp only [List.take_succ_cons, sum, date_date.sum, List.getD_cons_succ] at b1 ⊢; omega
    · rw [if_neg c]
      refine ⟨0, by simp, ?_, ?_, ?_⟩
      · simp [sum, date_date.sum]
      · simp [sum, date_date.sum]; omega
      · simp [sum, date_date.sum]; omega
theorem date_ev {n : Int} (h0 : -719528 ≤ n) (h1 : n ≤ 2932896) : ∃ (y : Int) (m : Nat) (d : Int), date_date.f n = some (y, (m : Int) + 1, d) ∧ Ok y m d ∧ num y m d = n + 719528 := by
  unfold date_date.f
  rw [if_pos ⟨by omega, by omega⟩]
  simp only
  generalize hN : n + 719528 = N
  have g := A_le (y := N / 366) (by omega)
  obtain ⟨y, ey, y0, y1, a0, a1⟩ := yr_ev N (by omega) 100 (N / 366) (by omega) (by omega) (by omega) (by omega)
  rw [ey]
  have hs := A_step y0
  obtain ⟨i, hi, e, b0, b1⟩ := mo_ev (ms (leap y)) 1 (N - A y) (by omega) (by rw [sum_ms]; omega)
  have hi' : i < 12 := hi
  refine ⟨y, i, N - A y - cum (leap y) i + 1, ?_, ⟨y0, y1, hi', ?_, ?_⟩, ?_⟩
  · have e' : date_date.mo (date_date.ms (date_date.leap y)) 1 (N - date_date.A y) = (1 + (i : Int), N - A y - sum ((ms (leap y)).take i)) := e
    rw [e']
    have e1 : (1 : Int) + (i : Int) = (i : Int) + 1 := by omega
    rw [e1]
    rfl
  · show 1 ≤ N - A y - cum (leap y) i + 1
    unfold cum; omega
  · show N - A y - cum (leap y) i + 1 ≤ len (leap y) i
    unfold cum len; omega
  · unfold num; omega

/-! ### Length, Leap -/
theorem leap_eq {y : Int} (h : 0 ≤ y) (h' : y ≤ 9999) : date_Leap.f y = some (leap y) := date_date.leap_ev h h'
theorem length_ok {y : Int} {m : Nat} (h : 0 ≤ y) (h' : y ≤ 9999) (hm : m < 12) : date_Length.f y ((m : Int) + 1) = some (len (leap y) m) := by
  unfold date_Length.f
  rw [if_neg (by omega), leap_eq h h']
  simp only [Option.bind_some]
  have e : date_Length.ms (leap y) = ms (leap y) := rfl
  rw [e, show ((m : Int) + 1 - 1).toNat = m from by omega]
  rfl
theorem length_no {y m : Int} (h : y < 0 ∨ y > 9999 ∨ m < 1 ∨ m > 12) : date_Length.f y m = some 0 := by
  unfold date_Length.f; rw [if_pos h]

/-! ### pad -/
theorem count_small {x : Int} (h : 0 ≤ x) {w : Nat} (hw : 1 ≤ w) (hx : x < 10 ^ w) (hw' : w ≤ 18) : ∃ c : Nat, Ev (fun k => digit_Count.f k x) ((c : Int) + 1) ∧ c + 1 ≤ w := by
  have hp : (10 : Int) ^ w ≤ 10 ^ 18 := by
    obtain ⟨j, hj⟩ : ∃ j, 18 = w + j := ⟨18 - w, by omega⟩
    rw [hj, Int.pow_add]
    have q : (1 : Int) ≤ 10 ^ j := Int.pow_pos (by decide)
    have p : (0 : Int) < 10 ^ w := Int.pow_pos (by decide)
    have := Int.mul_le_mul_of_nonneg_left q (Int.le_of_lt p)
    omega
  have e18 : (10 : Int) ^ 18 = 1000000000000000000 := by decide
  obtain ⟨c, hc, -, h1, h2⟩ := count_ev h (by omega)
  refine ⟨c, hc, ?_⟩
  rcases h2 with h2 | h2
  · omega
  · have := pow10_lt h2 hx; omega
theorem padd {x : Int} (h : 0 ≤ x) {w : Nat} (hw : 1 ≤ w) (hx : x < 10 ^ w) (hw' : w ≤ 18) : Ev (fun k => digit_Pad.f k x (w : Int)) (digit_Pad.D w x, 0) := by
  obtain ⟨c, hc, h1⟩ := count_small h hw hx hw'
  exact pad_ev hc hw (by omega) h1
end Go.Proofs.Ytobgpdmiiipmmaa.Cal
