/- What is written is read as what it was (plain). -/
import Derived.Test.YtobgpdmiiipmmaaWrZDateParts
namespace Go.Proofs.Ytobgpdmiiipmmaa.Cal
set_option linter.unusedVariables false
set_option linter.unusedSimpArgs false
open Go.RowKit Go.Proofs.Ytobgpdmiiipmmaa.Q Go.Proofs.Ytobgpdmiiipmmaa.Dig Go.Proofs.YtobgpdmiiipmmaaW.PrintWords Go.Proofs.YtobgpdmiiipmmaaW.PrintLast

theorem fit_app {P1 P2 : List (Option Int)} {l1 l2 : List Int} (hl : l1.length = P1.length) (hf : fit P1 l1 = P1.length) : fit (P1 ++ P2) (l1 ++ l2) = P1.length + fit P2 l2 := by
  have h := fit_append P1 P2 (l1 ++ l2)
  have e : fit P1 (l1 ++ l2) = P1.length := by
    have key : ∀ (P : List (Option Int)) (a b : List Int), a.length = P.length → fit P a = P.length → fit P (a ++ b) = P.length := by
      intro P
      induction P with
      | nil => intro a b _ _; rfl
      | cons q qs ih =>
        intro a b ha hf
        cases a with
        | nil => simp at ha
        | cons c cs =>
          by_cases hc : q1 q c = true
          · have e1 : fit (q :: qs) (c :: cs) = fit qs cs + 1 := by simp only [fit]; rw [if_pos hc]
            have e2 : fit (q :: qs) (c :: cs ++ b) = fit qs (cs ++ b) + 1 := by simp only [List.cons_append, fit]; rw [if_pos hc]
            rw [e1] at hf
            rw [e2, ih cs b (by simpa using ha) (by simpa using hf)]; rfl
          · have e1 : fit (q :: qs) (c :: cs) = 0 := by simp only [fit]; rw [if_neg hc]
            rw [e1] at hf; simp at hf
    exact key P1 l1 l2 hl hf
  rw [h, if_pos e, ← hl, List.drop_left]
theorem fit_all {n : Nat} {l : List Int} (h : AllD l) (hl : l.length = n) : fit (List.replicate n none) l = n := by rw [fit_digits, lead_all h]; omega
theorem fit_D {n : Nat} {x : Int} (h : 0 ≤ x) (h' : x < 1000000) : fit (List.replicate n none) (digit_Pad.D n x) = n := fit_all (D_all n h (by omega)) (D_len n x)
theorem fit_byte1 (b : Int) : fit [some b] [b] = 1 := by simp [fit, q1]
theorem fit_app' {P1 P2 : List (Option Int)} {l1 l2 : List Int} {n m : Nat} (hl : l1.length = n) (hP : P1.length = n) (hf : fit P1 l1 = n) (h2 : fit P2 l2 = m) : fit (P1 ++ P2) (l1 ++ l2) = n + m := by
  rw [fit_app (by omega) (by omega), hP, h2]
theorem fit_day {y d : Int} {m : Nat} (hk : Ok y m d) : fit PD (day y ((m : Int) + 1) d) = 10 := by
  have hs := hk.small
  have hy := hk.y1
  have e : PD = List.replicate 4 none ++ [some 45] ++ List.replicate 2 none ++ [some 45] ++ List.replicate 2 none := rfl
  rw [e]
  unfold day
  exact fit_app' (n := 8) (m := 2) (by simp [D_len]) rfl (fit_app' (n := 7) (m := 1) (by simp [D_len]) rfl (fit_app' (n := 5) (m := 2) (by simp [D_len]) rfl (fit_app' (n := 4) (m := 1) (by simp [D_len]) rfl (fit_D hk.y0 (by omega)) (fit_byte1 45)) (fit_D hs.1 (by omega))) (fit_byte1 45)) (fit_D hs.2.2.1 (by omega))
theorem fit_tim {y d : Int} {m : Nat} (hk : Ok y m d) {h i s : Int} (h0 : 0 ≤ h) (h1 : h < 100) (i0 : 0 ≤ i) (i1 : i < 100) (s0 : 0 ≤ s) (s1 : s < 100) : fit PM (tim y ((m : Int) + 1) d h i s) = 19 := by
  have e : PM = PD ++ [some 84] ++ List.replicate 2 none ++ [some 58] ++ List.replicate 2 none ++ [some 58] ++ List.replicate 2 none := rfl
  have dl : (day y ((m : Int) + 1) d).length = 10 := day_len _ _ _
  rw [e]
  unfold tim
  exact fit_app' (n := 17) (m := 2) (by simp [D_len, dl]) rfl (fit_app' (n := 16) (m := 1) (by simp [D_len, dl]) rfl (fit_app' (n := 14) (m := 2) (by simp [D_len, dl]) rfl (fit_app' (n := 13) (m := 1) (by simp [D_len, dl]) rfl (fit_app' (n := 11) (m := 2) (by simp [D_len, dl]) rfl (fit_app' (n := 10) (m := 1) dl rfl (fit_day hk) (fit_byte1 84)) (fit_D h0 (by omega))) (fit_byte1 58)) (fit_D i0 (by omega))) (fit_byte1 58)) (fit_D s0 (by omega))
theorem pc_at {p q r l : List Int} {a b : Nat} (hl : l = p ++ (q ++ r)) (ha : p.length = a) (hb : a + q.length = b) : pc l a b = q := by
  subst hl
  unfold pc
  rw [← hb, ← ha, ← List.append_assoc, List.take_left' (by simp), List.drop_left]
theorem D_val' {n : Nat} {x : Int} (h : 0 ≤ x) (hx : x < 10 ^ n) (h' : x < 1000000) : dval (digit_Pad.D n x) = x := by
  rw [D_val n h (by omega), Int.emod_eq_of_lt h hx]
theorem pcs_day {y d : Int} {m : Nat} (hk : Ok y m d) (t : List Int) : dval (pc (day y ((m : Int) + 1) d ++ t) 0 4) = y ∧ dval (pc (day y ((m : Int) + 1) d ++ t) 5 7) = (m : Int) + 1 ∧ dval (pc (day y ((m : Int) + 1) d ++ t) 8 10) = d := by
  have hs := hk.small
  have hy := hk.y1
  refine ⟨?_, ?_, ?_⟩
  · rw [pc_at (a := 0) (b := 4) (p := []) (q := digit_Pad.D 4 y) (r := [45] ++ digit_Pad.D 2 ((m : Int) + 1) ++ [45] ++ digit_Pad.D 2 d ++ t) (l := day y ((m : Int) + 1) d ++ t) (by simp [day]) rfl (by simp [D_len])]
    exact D_val' hk.y0 (by omega) (by omega)
  · rw [pc_at (a := 5) (b := 7) (p := digit_Pad.D 4 y ++ [45]) (q := digit_Pad.D 2 ((m : Int) + 1)) (r := [45] ++ digit_Pad.D 2 d ++ t) (by simp [day]) (by simp [D_len]) (by simp [D_len])]
    exact D_val' hs.1 (by omega) (by omega)
  · rw [pc_at (a := 8) (b := 10) (p := digit_Pad.D 4 y ++ [45] ++ digit_Pad.D 2 ((m : Int) + 1) ++ [45]) (q := digit_Pad.D 2 d) (r := t) (by simp [day]) (by simp [D_len]) (by simp [D_len])]
    exact D_val' hs.2.2.1 (by omega) (by omega)
theorem dayV_ok {y d : Int} {m : Nat} (hk : Ok y m d) : dayV y ((m : Int) + 1) d = (num y m d - 719528, 0, 0) := by
  have h1 := hk.m1
  have h2 := hk.d0
  have h3 := hk.d1
  unfold dayV
  have e : ((m : Int) + 1 - 1).toNat = m := by omega
  rw [e, if_neg (by omega), if_neg (by omega)]
theorem day_back {y d : Int} {m : Nat} (hk : Ok y m d) : dayF (day y ((m : Int) + 1) d) = (IntKind.u64.wrap (num y m d - 719528), 0, 0) := by
  have h := pcs_day hk []
  rw [List.append_nil] at h
  unfold dayF
  rw [fit_day hk, day_len, if_neg (by omega), h.1, h.2.1, h.2.2, dayV_ok hk]
theorem moment_back {y d : Int} {m : Nat} (hk : Ok y m d) {h i s f : Int} (h0 : 0 ≤ h) (h1 : h < 24) (i0 : 0 ≤ i) (i1 : i < 60) (s0 : 0 ≤ s) (s1 : s < 60) {t : List Int} (ht : Frac f t) :
    momentF (tim y ((m : Int) + 1) d h i s ++ t) = (IntKind.u64.wrap ((num y m d - 719528) * 86400000000 + ((h * 60 + i) * 60 + s) * 1000000 + f), 0, 0) := by
  have hl := tim_len y ((m : Int) + 1) d h i s
  have hfit : fit PF (tim y ((m : Int) + 1) d h i s ++ t) = 19 + t.length ∧ t.length ≠ 1 ∧ dval (pc (tim y ((m : Int) + 1) d h i s ++ t) 20 (19 + t.length)) * 10 ^ (26 - (19 + t.length)) = f := by
    have e : PF = PM ++ PQ := rfl
    have h19 := fit_tim hk h0 (by omega) i0 (by omega) s0 (by omega)
    rcases ht with ⟨rfl, rfl⟩ | ⟨p, j, hf, rfl, hp, hpj, hd, hv, -, -⟩
    · refine ⟨?_, by simp, ?_⟩
      · rw [e, fit_app (by rw [hl]; rfl) (by rw [h19]; rfl), fit_nil]; rfl
      · rw [pc_none _ _ _ (by simp)]; simp [dval, dv]
    · have hp1 := List.length_pos_iff.2 hp
      refine ⟨?_, by simp; omega, ?_⟩
      · have e2 : fit PQ (46 :: p) = 1 + p.length := by
          have : fit PQ (46 :: p) = fit (List.replicate 6 none) p + 1 := by simp only [PQ, fit]; rw [if_pos (by simp [q1])]
          rw [this, fit_digits, lead_all hd]; omega
        rw [e, fit_app (by rw [hl]; rfl) (by rw [h19]; rfl), e2]
        simp [PM, PD]; omega
      · rw [pc_at (a := 20) (b := (19 + (46 :: p).length)) (p := tim y ((m : Int) + 1) d h i s ++ [46]) (q := p) (r := []) (by simp) (by simp [hl]) (by simp; omega)]
        have e3 : 26 - (19 + (46 :: p).length) = j := by simp; omega
        have e4 : dval (List.replicate j 48) = 0 := dval_zeros j
        rw [e3, ← hv, dval_append, e4, List.length_replicate]; omega
  obtain ⟨hf1, hf2, hf3⟩ := hfit
  have hp := pcs_day hk ([84] ++ digit_Pad.D 2 h ++ [58] ++ digit_Pad.D 2 i ++ [58] ++ digit_Pad.D 2 s ++ t)
  have eL : day y ((m : Int) + 1) d ++ ([84] ++ digit_Pad.D 2 h ++ [58] ++ digit_Pad.D 2 i ++ [58] ++ digit_Pad.D 2 s ++ t) = tim y ((m : Int) + 1) d h i s ++ t := by simp [tim]
  rw [eL] at hp
  have dl : (day y ((m : Int) + 1) d).length = 10 := day_len _ _ _
  have pH : dval (pc (tim y ((m : Int) + 1) d h i s ++ t) 11 13) = h := by
    rw [pc_at (a := 11) (b := 13) (p := day y ((m : Int) + 1) d ++ [84]) (q := digit_Pad.D 2 h) (r := [58] ++ digit_Pad.D 2 i ++ [58] ++ digit_Pad.D 2 s ++ t) (by simp [tim]) (by simp [dl]) (by simp [D_len])]
    exact D_val' h0 (by omega) (by omega)
  have pI : dval (pc (tim y ((m : Int) + 1) d h i s ++ t) 14 16) = i := by
    rw [pc_at (a := 14) (b := 16) (p := day y ((m : Int) + 1) d ++ [84] ++ digit_Pad.D 2 h ++ [58]) (q := digit_Pad.D 2 i) (r := [58] ++ digit_Pad.D 2 s ++ t) (by simp [tim]) (by simp [dl, D_len]) (by simp [D_len])]
    exact D_val' i0 (by omega) (by omega)
  have pS : dval (pc (tim y ((m : Int) + 1) d h i s ++ t) 17 19) = s := by
    rw [pc_at (a := 17) (b := 19) (p := day y ((m : Int) + 1) d ++ [84] ++ digit_Pad.D 2 h ++ [58] ++ digit_Pad.D 2 i ++ [58]) (q := digit_Pad.D 2 s) (r := t) (by simp [tim]) (by simp [dl, D_len]) (by simp [D_len])]
    exact D_val' s0 (by omega) (by omega)
  unfold momentF clockV fracV
  rw [hf1, if_neg (by rw [List.length_append, hl]; omega), hp.1, hp.2.1, hp.2.2, dayV_ok hk, pH, pI, pS, hf3]
  simp only [ne_eq, not_true_eq_false, if_false]
  rw [if_neg (by omega), if_neg (by omega), if_neg (by omega)]
end Go.Proofs.Ytobgpdmiiipmmaa.Cal
