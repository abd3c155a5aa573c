/- DateNext: plain. -/
import Derived.Test.YtobgpdmiiipmmaaBackZDateNext
import Derived.Test.YtobgpdmiiipmmaaQ0ZDateNext
import Derived.Test.YtobgpdmiiipmmaaQ2ZDateNext
namespace Go.Proofs.Ytobgpdmiiipmmaa.Cal
set_option linter.unusedVariables false
set_option linter.unusedSimpArgs false
open Go.RowKit Go.Proofs.Ytobgpdmiiipmmaa.Q Go.Proofs.Ytobgpdmiiipmmaa.Dig Go.Proofs.YtobgpdmiiipmmaaW.PrintWords Go.Proofs.YtobgpdmiiipmmaaW.PrintLast

theorem two_ev {l : List Int} (hd : AllD l) (hl : l.length = 2) : mintagelaw13_two.f l = some (dval l) := by
  match l, hl with
  | [a, b], _ =>
    have ha := hd a (by simp)
    have hb := hd b (by simp)
    unfold IsD at ha hb
    unfold mintagelaw13_two.f
    rw [if_pos (by simp), if_pos (by simp)]
    simp [rd, dval, dv]
    omega
theorem day_all {y d : Int} {m : Nat} (hk : Ok y m d) : AllD (pc (day y ((m : Int) + 1) d) 0 2) ∧ AllD (pc (day y ((m : Int) + 1) d) 2 4) ∧ AllD (pc (day y ((m : Int) + 1) d) 5 7) ∧ AllD (pc (day y ((m : Int) + 1) d) 8 10) := by
  have hf := fit_day hk
  have hl := day_len y ((m : Int) + 1) d
  refine ⟨pc_all (by omega) ?_, pc_all (by omega) ?_, pc_all (by omega) ?_, pc_all (by omega) ?_⟩
  all_goals
    intro i h1 h2
    refine fit_isd (P := PD) (by omega) ?_
  · have : i = 0 ∨ i = 1 := by omega
    rcases this with rfl | rfl <;> rfl
  · have : i = 2 ∨ i = 3 := by omega
    rcases this with rfl | rfl <;> rfl
  · have : i = 5 ∨ i = 6 := by omega
    rcases this with rfl | rfl <;> rfl
  · have : i = 8 ∨ i = 9 := by omega
    rcases this with rfl | rfl <;> rfl
theorem pc_split (l : List Int) {a b c : Nat} (h1 : a ≤ b) (h2 : b ≤ c) (h3 : c ≤ l.length) : pc l a c = pc l a b ++ pc l b c := by
  unfold pc
  obtain ⟨p, q, r, s, rfl, rfl, rfl, rfl⟩ : ∃ p q r s, l = p ++ (q ++ (r ++ s)) ∧ a = p.length ∧ b = p.length + q.length ∧ c = p.length + q.length + r.length := by
    refine ⟨l.take a, (l.take b).drop a, (l.take c).drop b, l.drop c, ?_, ?_, ?_, ?_⟩
    · rw [List.drop_take, List.drop_take]
      conv => lhs; rw [← List.take_append_drop a l]
      congr 1
      conv => lhs; rw [← List.take_append_drop (b - a) (l.drop a)]
      congr 1
      rw [List.drop_drop, show a + (b - a) = b by omega]
      conv => lhs; rw [← List.take_append_drop (c - b) (l.drop b)]
      congr 1
      rw [List.drop_drop, show b + (c - b) = c by omega]
    all_goals simp; omega
  have e1 : (p ++ (q ++ (r ++ s))).take (p.length + q.length + r.length) = p ++ (q ++ r) := by
    rw [← List.append_assoc q, ← List.append_assoc p]; exact List.take_left' (by simp; omega)
  have e2 : (p ++ (q ++ (r ++ s))).take (p.length + q.length) = p ++ q := by
    rw [← List.append_assoc p]; exact List.take_left' (by simp)
  rw [e1, e2, List.drop_left, List.drop_left, ← List.append_assoc p, ← List.length_append, List.drop_left]
/-- A day's text, read by two digits at a time. -/
theorem twos {y d : Int} {m : Nat} (hk : Ok y m d) : ∃ y1 y2, mintagelaw13_two.f (pc (day y ((m : Int) + 1) d) 0 2) = some y1 ∧ mintagelaw13_two.f (pc (day y ((m : Int) + 1) d) 2 4) = some y2 ∧ mintagelaw13_two.f (pc (day y ((m : Int) + 1) d) 5 7) = some ((m : Int) + 1) ∧ mintagelaw13_two.f (pc (day y ((m : Int) + 1) d) 8 10) = some d ∧
    0 ≤ y1 ∧ y1 < 100 ∧ 0 ≤ y2 ∧ y2 < 100 ∧ y1 * 100 + y2 = y := by
  obtain ⟨a1, a2, a3, a4⟩ := day_all hk
  have hl := day_len y ((m : Int) + 1) d
  have hp := pcs_day hk []
  rw [List.append_nil] at hp
  have b1 := small_bd a1 (n := 2) (by rw [pc_len (by omega)]; omega) (by omega)
  have b2 := small_bd a2 (n := 2) (by rw [pc_len (by omega)]; omega) (by omega)
  refine ⟨_, _, two_ev a1 (by rw [pc_len (by omega)]), two_ev a2 (by rw [pc_len (by omega)]), by rw [two_ev a3 (by rw [pc_len (by omega)]), hp.2.1], by rw [two_ev a4 (by rw [pc_len (by omega)]), hp.2.2], b1.1, by omega, b2.1, by omega, ?_⟩
  have hs := pc_split (day y ((m : Int) + 1) d) (a := 0) (b := 2) (c := 4) (by omega) (by omega) (by omega)
  have h4 := hp.1
  rw [hs, dval_append, pc_len (by omega)] at h4
  exact h4
theorem next {n : Int} (n0 : 0 ≤ n) : ∃ k td tu y1 y2 M d z1 z2 K b Ln Y Z, date_PrintDay.f k (IntKind.u64.wrap (-719528 + n % 3652424)) = some (td, 0) ∧ date_PrintDay.f k (IntKind.u64.wrap (-719528 + n % 3652424 + 1)) = some (tu, 0) ∧ td.length = 10 ∧ tu.length = 10 ∧
    mintagelaw13_two.f (pc td 0 2) = some y1 ∧ mintagelaw13_two.f (pc td 2 4) = some y2 ∧ mintagelaw13_two.f (pc td 5 7) = some M ∧ mintagelaw13_two.f (pc td 8 10) = some d ∧
    mintagelaw13_two.f (pc tu 0 2) = some z1 ∧ mintagelaw13_two.f (pc tu 2 4) = some z2 ∧ mintagelaw13_two.f (pc tu 5 7) = some K ∧ mintagelaw13_two.f (pc tu 8 10) = some b ∧
    (0 ≤ y1 ∧ y1 < 100 ∧ 0 ≤ y2 ∧ y2 < 100) ∧ (0 ≤ z1 ∧ z1 < 100 ∧ 0 ≤ z2 ∧ z2 < 100) ∧ (1 ≤ M ∧ M ≤ 12) ∧ (1 ≤ d ∧ d ≤ 31) ∧ (0 ≤ Y ∧ Y ≤ 9999) ∧ y1 * 100 + y2 = Y ∧ z1 * 100 + z2 = Z ∧ date_Length.f Y M = some Ln ∧
    ((d < Ln ∧ Z = Y ∧ K = M ∧ b = d + 1) ∨ (d = Ln ∧ M < 12 ∧ Z = Y ∧ K = M + 1 ∧ b = 1) ∨ (d = Ln ∧ d = 31 ∧ M = 12 ∧ Z = Y + 1 ∧ K = 1 ∧ b = 1)) := by
  obtain ⟨D, hD⟩ : ∃ D, -719528 + n % 3652424 = D := ⟨_, rfl⟩
  rw [hD]
  obtain ⟨y, m, d, hd, hk, hn⟩ := date_ev (n := D) (by omega) (by omega)
  obtain ⟨z, k, b, hd2, hk2, hn2⟩ := date_ev (n := D + 1) (by omega) (by omega)
  obtain ⟨K1, h1⟩ := printday_ev (by omega) (by omega) hd hk
  obtain ⟨K2, h2⟩ := printday_ev (by omega) (by omega) hd2 hk2
  obtain ⟨y1, y2, t1, t2, t3, t4, q1, q2, q3, q4, hy⟩ := twos hk
  obtain ⟨z1, z2, s1, s2, s3, s4, p1, p2, p3, p4, hz⟩ := twos hk2
  have hs := hk.small
  have g0 := hk.y0
  have g1 := hk.y1
  have gm := hk.m1
  have gd0 := hk.d0
  have gd1 := hk.d1
  have hl := len_lo (leap y) m gm
  refine ⟨K1 + K2, _, _, y1, y2, (m : Int) + 1, d, z1, z2, (k : Int) + 1, b, len (leap y) m, y, z, h1 _ (by omega), h2 _ (by omega), day_len _ _ _, day_len _ _ _, t1, t2, t3, t4, s1, s2, s3, s4, ⟨q1, q2, q3, q4⟩, ⟨p1, p2, p3, p4⟩, ⟨by omega, by omega⟩, ⟨by omega, by omega⟩, ⟨g0, g1⟩, hy, hz, length_ok g0 g1 gm, ?_⟩
  by_cases c1 : d < len (leap y) m
  · left
    have ok : Ok y m (d + 1) := ⟨g0, g1, gm, by omega, by omega⟩
    have := num_inj hk2 ok (by rw [hn2]; have : num y m (d + 1) = num y m d + 1 := by unfold num; omega
                               omega)
    obtain ⟨e1, e2, e3⟩ := this
    exact ⟨c1, e1, by rw [e2], e3⟩
  have ed : d = len (leap y) m := by omega
  by_cases c2 : m < 11
  · right; left
    have ok : Ok y (m + 1) 1 := ⟨g0, g1, by omega, by omega, by have := len_lo (leap y) (m + 1) (by omega); omega⟩
    have hc := cum_succ (leap y) m gm
    have := num_inj hk2 ok (by rw [hn2]; have : num y (m + 1) 1 = num y m d + 1 := by unfold num; omega
                               omega)
    obtain ⟨e1, e2, e3⟩ := this
    exact ⟨ed, by omega, e1, by rw [e2]; omega, e3⟩
  · right; right
    obtain rfl : m = 11 := by omega
    have e31 : len (leap y) 11 = 31 := by cases leap y <;> rfl
    have hA := A_step g0
    have hc : cum (leap y) 12 = cum (leap y) 11 + len (leap y) 11 := cum_succ (leap y) 11 (by omega)
    have h9 : y < 9999 := by
      by_cases h : y = 9999
      · have : num y 11 d = 3652424 := by
          unfold num
          have : A (y + 1) = 3652425 := by rw [h]; decide
          omega
        omega
      · omega
    have ok : Ok (y + 1) 0 1 := ⟨by omega, by omega, by omega, by omega, by have := len_lo (leap (y + 1)) 0 (by omega); omega⟩
    have := num_inj hk2 ok (by rw [hn2]; have : num (y + 1) 0 1 = num y 11 d + 1 := by
                                           unfold num
                                           have : cum (leap (y + 1)) 0 = 0 := rfl
                                           omega
                               omega)
    obtain ⟨e1, e2, e3⟩ := this
    exact ⟨ed, by omega, by omega, e1, by rw [e2]; omega, e3⟩
end Go.Proofs.Ytobgpdmiiipmmaa.Cal
