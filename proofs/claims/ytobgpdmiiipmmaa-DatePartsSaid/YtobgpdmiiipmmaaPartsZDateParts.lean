/- DateParts: plain. -/
import Derived.Test.YtobgpdmiiipmmaaBackZDateParts
import Derived.Test.YtobgpdmiiipmmaaQ0ZDateParts
import Derived.Test.YtobgpdmiiipmmaaQ1ZDateParts
import Derived.Test.YtobgpdmiiipmmaaQ2ZDateParts
namespace Go.Proofs.Ytobgpdmiiipmmaa.Cal
set_option linter.unusedVariables false
set_option linter.unusedSimpArgs false
open Go.RowKit Go.Proofs.Ytobgpdmiiipmmaa.Q Go.Proofs.Ytobgpdmiiipmmaa.Dig Go.Proofs.YtobgpdmiiipmmaaW.PrintWords Go.Proofs.YtobgpdmiiipmmaaW.PrintLast
open Go.Proofs.Ytobgpdmiiipmmaa.Keep (str_append Bts lit1s)

theorem D_front : ∀ (i : Nat) (x : Int), 0 ≤ x → x < 18446744073709551616 → digit_Pad.D (i + 1) x = (48 + x / 10 ^ i % 10) :: digit_Pad.D i x
  | 0, x, h, h' => by
    show digit_Pad.D 0 _ ++ [digit_Pad.dg x] = _
    rw [dg_of h]; simp [digit_Pad.D]
  | i + 1, x, h, h' => by
    show digit_Pad.D (i + 1) (digit_Pad.nx x) ++ [digit_Pad.dg x] = _ :: (digit_Pad.D i (digit_Pad.nx x) ++ [digit_Pad.dg x])
    rw [nx_of h h', D_front i (x / 10) (by omega) (by omega)]
    simp only [List.cons_append]
    congr 2
    rw [Int.pow_succ, Int.mul_comm, ← Int.ediv_ediv_of_nonneg (by decide)]
theorem text_loop13 {x : Int} (h : 0 ≤ x) (h' : x < 18446744073709551616) (w : Nat) (hw : w ≤ 18) : ∀ (d i : Nat), i + d = w → Ev (fun k => mintagelaw13_text.l0 k (x / 10 ^ i) (w : Int) (strOfNums (digit_Pad.D i x)) (i : Int)) (strOfNums (digit_Pad.D w x)) := by
  intro d
  induction d with
  | zero =>
    intro i hi
    obtain rfl : i = w := by omega
    refine Ev.step (fun k => by simp only [mintagelaw13_text.l0]; rw [if_neg (by omega)]) ?_
    exact Ev.now _
  | succ d ih =>
    intro i hi
    have q2 : (i : Int) < (w : Int) := by omega
    have q3 : i + 1 + d = w := by omega
    have q4 : 0 + 1 + i ≤ 9223372036854775807 := by omega
    have e3 : wrap64 ((i : Int) + 1) = ((i + 1 : Nat) : Int) := by rw [wrap64_id (by omega) (by omega)]; omega
    have hp : (0 : Int) < 10 ^ i := by exact_mod_cast Nat.pow_pos (by decide)
    have q0 : 0 ≤ x / 10 ^ i := Int.ediv_nonneg h (by omega)
    have q1 : x / 10 ^ i < 18446744073709551616 := Int.lt_of_le_of_lt (Int.ediv_le_self _ h) h'
    have e1 : (IntKind.u64.wrap (48 + Int.tmod (x / 10 ^ i) 10)) % 256 = 48 + x / 10 ^ i % 10 := by
      rw [Int.tmod_eq_emod_of_nonneg q0, w64]; omega
    have e2 : IntKind.u64.wrap (Int.tdiv (x / 10 ^ i) 10) = x / 10 ^ (i + 1) := by
      rw [Int.tdiv_eq_ediv_of_nonneg q0, w64, Int.pow_succ, ← Int.ediv_ediv_of_nonneg (by omega)]; omega
    refine Ev.step (fun k => by simp only [mintagelaw13_text.l0]; rw [if_pos q2, e1, e2, e3]) ?_
    simp only [Option.bind_some, str_append, strOfNums_size, D_len, List.length_cons, List.length_nil, if_pos q4]
    rw [show [48 + x / 10 ^ i % 10] ++ digit_Pad.D i x = digit_Pad.D (i + 1) x from (D_front i x h h').symm]
    exact ih (i + 1) q3
theorem text13 {x : Int} (h : 0 ≤ x) (h' : x < 18446744073709551616) (w : Nat) (hw : w ≤ 18) : Ev (fun k => mintagelaw13_text.f k x (w : Int)) (strOfNums (digit_Pad.D w x)) := by
  have hl := text_loop13 h h' w hw w 0 (by omega)
  simp only [Int.pow_zero, Int.ediv_one] at hl
  exact Ev.congr (fun k => by unfold mintagelaw13_text.f; rfl) hl
/-- The form of any numbers. -/
theorem fit_dayA {y m d : Int} (y0 : 0 ≤ y) (y1 : y < 10000) (m0 : 0 ≤ m) (m1 : m < 100) (d0 : 0 ≤ d) (d1 : d < 100) : fit PD (day y m d) = 10 := by
  have e : PD = List.replicate 4 none ++ [some 45] ++ List.replicate 2 none ++ [some 45] ++ List.replicate 2 none := rfl
  rw [e]
  unfold day
  exact fit_app' (n := 8) (m := 2) (by simp [D_len]) rfl (fit_app' (n := 7) (m := 1) (by simp [D_len]) rfl (fit_app' (n := 5) (m := 2) (by simp [D_len]) rfl (fit_app' (n := 4) (m := 1) (by simp [D_len]) rfl (fit_D y0 (by omega)) (fit_byte1 45)) (fit_D m0 (by omega))) (fit_byte1 45)) (fit_D d0 (by omega))
theorem fit_timA {y m d : Int} (y0 : 0 ≤ y) (y1 : y < 10000) (m0 : 0 ≤ m) (m1 : m < 100) (d0 : 0 ≤ d) (d1 : d < 100) {h i s : Int} (h0 : 0 ≤ h) (h1 : h < 100) (i0 : 0 ≤ i) (i1 : i < 100) (s0 : 0 ≤ s) (s1 : s < 100) : fit PM (tim y m d h i s) = 19 := by
  have e : PM = PD ++ [some 84] ++ List.replicate 2 none ++ [some 58] ++ List.replicate 2 none ++ [some 58] ++ List.replicate 2 none := rfl
  have dl : (day y m d).length = 10 := day_len _ _ _
  rw [e]
  unfold tim
  exact fit_app' (n := 17) (m := 2) (by simp [D_len, dl]) rfl (fit_app' (n := 16) (m := 1) (by simp [D_len, dl]) rfl (fit_app' (n := 14) (m := 2) (by simp [D_len, dl]) rfl (fit_app' (n := 13) (m := 1) (by simp [D_len, dl]) rfl (fit_app' (n := 11) (m := 2) (by simp [D_len, dl]) rfl (fit_app' (n := 10) (m := 1) dl rfl (fit_dayA y0 y1 m0 m1 d0 d1) (fit_byte1 84)) (fit_D h0 (by omega))) (fit_byte1 58)) (fit_D i0 (by omega))) (fit_byte1 58)) (fit_D s0 (by omega))
theorem pcs_dayA {y m d : Int} (y0 : 0 ≤ y) (y1 : y < 10000) (m0 : 0 ≤ m) (m1 : m < 100) (d0 : 0 ≤ d) (d1 : d < 100) (t : List Int) : dval (pc (day y m d ++ t) 0 4) = y ∧ dval (pc (day y m d ++ t) 5 7) = m ∧ dval (pc (day y m d ++ t) 8 10) = d := by
  refine ⟨?_, ?_, ?_⟩
  · rw [pc_at (a := 0) (b := 4) (p := []) (q := digit_Pad.D 4 y) (r := [45] ++ digit_Pad.D 2 m ++ [45] ++ digit_Pad.D 2 d ++ t) (l := day y m d ++ t) (by simp [day]) rfl (by simp [D_len])]
    exact D_val' y0 (by omega) (by omega)
  · rw [pc_at (a := 5) (b := 7) (p := digit_Pad.D 4 y ++ [45]) (q := digit_Pad.D 2 m) (r := [45] ++ digit_Pad.D 2 d ++ t) (by simp [day]) (by simp [D_len]) (by simp [D_len])]
    exact D_val' m0 (by omega) (by omega)
  · rw [pc_at (a := 8) (b := 10) (p := digit_Pad.D 4 y ++ [45] ++ digit_Pad.D 2 m ++ [45]) (q := digit_Pad.D 2 d) (r := t) (by simp [day]) (by simp [D_len]) (by simp [D_len])]
    exact D_val' d0 (by omega) (by omega)
/-- The numbers of a text that is written out of any numbers. -/
structure Nums (y m d h i s : Int) : Prop where
  y0 : 0 ≤ y
  y1 : y < 10000
  m0 : 0 ≤ m
  m1 : m < 20
  d0 : 0 ≤ d
  d1 : d < 40
  h0 : 0 ≤ h
  h1 : h < 30
  i0 : 0 ≤ i
  i1 : i < 70
  s0 : 0 ≤ s
  s1 : s < 70
theorem dayF_of {y m d h i s : Int} (N : Nums y m d h i s) : dayF (day y m d) = (IntKind.u64.wrap (dayV y m d).1, (dayV y m d).2.1, (dayV y m d).2.2) := by
  obtain ⟨y0, y1, m0, m1, d0, d1, h0, h1, i0, i1, s0, s1⟩ := N
  have hp := pcs_dayA y0 y1 m0 (show m < 100 by omega) d0 (show d < 100 by omega) []
  rw [List.append_nil] at hp
  unfold dayF
  rw [fit_dayA y0 y1 m0 (by omega) d0 (by omega), day_len, if_neg (by omega), hp.1, hp.2.1, hp.2.2]
/-- What Moment answers of such a text with more behind it. -/
def momV (y m d h i s fv : Int) : Int × Int × Int :=
  if (dayV y m d).2.2 ≠ 0 then (0, (dayV y m d).2.1, (dayV y m d).2.2) else if h > 23 then (0, 11, 131) else if i > 59 then (0, 14, 131) else if s > 59 then (0, 17, 131) else
    (IntKind.u64.wrap ((dayV y m d).1 * 86400000000 + ((h * 60 + i) * 60 + s) * 1000000 + fv), 0, 0)
theorem momentF_of {y m d h i s : Int} (N : Nums y m d h i s) {t : List Int} {fv : Int} (hf : fit PF (tim y m d h i s ++ t) = 19 + t.length) (h1t : t.length ≠ 1) (hv : fracV (tim y m d h i s ++ t) (19 + t.length) = fv) : momentF (tim y m d h i s ++ t) = momV y m d h i s fv := by
  obtain ⟨y0, y1, m0, m1, d0, d1, h0, h1, i0, i1, s0, s1⟩ := N
  have hl := tim_len y m d h i s
  have hp := pcs_dayA y0 y1 m0 (show m < 100 by omega) d0 (show d < 100 by omega) ([84] ++ digit_Pad.D 2 h ++ [58] ++ digit_Pad.D 2 i ++ [58] ++ digit_Pad.D 2 s ++ t)
  have eL : day y m d ++ ([84] ++ digit_Pad.D 2 h ++ [58] ++ digit_Pad.D 2 i ++ [58] ++ digit_Pad.D 2 s ++ t) = tim y m d h i s ++ t := by simp [tim]
  rw [eL] at hp
  have dl : (day y m d).length = 10 := day_len _ _ _
  have pH : dval (pc (tim y m d h i s ++ t) 11 13) = h := by
    rw [pc_at (a := 11) (b := 13) (p := day y m d ++ [84]) (q := digit_Pad.D 2 h) (r := [58] ++ digit_Pad.D 2 i ++ [58] ++ digit_Pad.D 2 s ++ t) (by simp [tim]) (by simp [dl]) (by simp [D_len])]
    exact D_val' h0 (by omega) (by omega)
  have pI : dval (pc (tim y m d h i s ++ t) 14 16) = i := by
    rw [pc_at (a := 14) (b := 16) (p := day y m d ++ [84] ++ digit_Pad.D 2 h ++ [58]) (q := digit_Pad.D 2 i) (r := [58] ++ digit_Pad.D 2 s ++ t) (by simp [tim]) (by simp [dl, D_len]) (by simp [D_len])]
    exact D_val' i0 (by omega) (by omega)
  have pS : dval (pc (tim y m d h i s ++ t) 17 19) = s := by
    rw [pc_at (a := 17) (b := 19) (p := day y m d ++ [84] ++ digit_Pad.D 2 h ++ [58] ++ digit_Pad.D 2 i ++ [58]) (q := digit_Pad.D 2 s) (r := t) (by simp [tim]) (by simp [dl, D_len]) (by simp [D_len])]
    exact D_val' s0 (by omega) (by omega)
  unfold momentF clockV momV
  rw [hf, if_neg (by rw [List.length_append, hl]; omega), hp.1, hp.2.1, hp.2.2, pH, pI, pS, hv]
theorem fit_PFt {y m d h i s : Int} (N : Nums y m d h i s) {t : List Int} {n : Nat} (hq : fit PQ t = n) : fit PF (tim y m d h i s ++ t) = 19 + n := by
  obtain ⟨y0, y1, m0, m1, d0, d1, h0, h1, i0, i1, s0, s1⟩ := N
  have e : PF = PM ++ PQ := rfl
  have h19 := fit_timA y0 y1 m0 (show m < 100 by omega) d0 (show d < 100 by omega) h0 (show _ < 100 by omega) i0 (show _ < 100 by omega) s0 (show _ < 100 by omega)
  rw [e, fit_app (by rw [tim_len]; rfl) (by rw [h19]; rfl), hq]; rfl
theorem mom0 {y m d h i s : Int} (N : Nums y m d h i s) : momentF (tim y m d h i s) = momV y m d h i s 0 := by
  have := momentF_of (t := []) N (by rw [fit_PFt N (fit_nil _)]; rfl) (by simp) rfl
  rw [List.append_nil] at this
  rw [this]
  unfold fracV
  rw [pc_none _ _ _ (by simp)]
  simp [dval, dv]
theorem mom1 {y m d h i s : Int} (N : Nums y m d h i s) : momentF (tim y m d h i s ++ [46]) = (0, 20, 130) := by
  have h1 := fit_PFt N (t := [46]) (n := 1) rfl
  unfold momentF
  rw [h1, if_pos (.inr (.inr rfl))]; rfl
theorem mom2 {y m d h i s : Int} (N : Nums y m d h i s) {p : List Int} (hp : p ≠ []) (hd : AllD p) (hl : p.length ≤ 6) : momentF (tim y m d h i s ++ 46 :: p) = momV y m d h i s (dval p * 10 ^ (6 - p.length)) := by
  have hp1 := List.length_pos_iff.2 hp
  have e2 : fit PQ (46 :: p) = (46 :: p).length := by
    have : fit PQ (46 :: p) = fit (List.replicate 6 none) p + 1 := by simp only [PQ, fit]; rw [if_pos (by simp [q1])]
    rw [this, fit_digits, lead_all hd]; simp; omega
  refine momentF_of N (fit_PFt N e2) (by simp; omega) ?_
  unfold fracV
  rw [pc_at (a := 20) (b := 19 + (46 :: p).length) (p := tim y m d h i s ++ [46]) (q := p) (r := []) (by simp) (by simp [tim_len]) (by simp; omega)]
  congr 2
  simp; omega
end Go.Proofs.Ytobgpdmiiipmmaa.Cal
