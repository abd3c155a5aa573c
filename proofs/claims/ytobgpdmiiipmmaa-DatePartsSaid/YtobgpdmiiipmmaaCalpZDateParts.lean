/- Days and moments as texts: what PrintDay and PrintMoment come to. -/
import Derived.Test.YtobgpdmiiipmmaaCalZDateParts
import Derived.Test.YtobgpdmiiipmmaaQ1ZDateParts
import Derived.Test.YtobgpdmiiipmmaaQ0ZDateParts
namespace Go.Proofs.Ytobgpdmiiipmmaa.Cal
set_option linter.unusedVariables false
open Go.RowKit Go.Proofs.Ytobgpdmiiipmmaa.Q Go.Proofs.Ytobgpdmiiipmmaa.Dig Go.Proofs.YtobgpdmiiipmmaaW.PrintWords Go.Proofs.YtobgpdmiiipmmaaW.PrintLast

theorem D_len (n : Nat) (x : Int) : (digit_Pad.D n x).length = n := digit_Pad.D_length n x
theorem u64_pos {x : Int} (h : 0 ≤ x) (h' : x < 18446744073709551616) : IntKind.u64.wrap x = x := by rw [w64]; omega
theorem pad_sp {s : ByteArray} {ns out r : List Int} {i : Nat} {n : Int} (hi : i < ns.length) (hs : i < s.size) (hb : bt s (i : Int) = 32) (hn : rd ns (i : Int) = n) (h0 : 0 ≤ n) (h1 : n < 10000) (ho : out.length ≤ 1000000) (hl : ns.length ≤ 1000000)
    (h : Ev (fun k => date_pad.l0 k s (out ++ digit_Pad.D 4 n) ns (ns.length : Int) ((i + 1 : Nat) : Int)) r) : Ev (fun k => date_pad.l0 k s out ns (ns.length : Int) (i : Int)) r := by
  refine Ev.step (fun k => by simp only [date_pad.l0]; rw [if_pos (by omega), if_pos (by omega), if_pos (by omega), if_pos (by omega), if_pos hb, hn, u64_pos h0 (by omega)]) ?_
  refine Ev.bind (padd h0 (w := 4) (by decide) (by rw [show (10 : Int) ^ 4 = 10000 from by decide]; omega) (by decide)) ?_
  have e : out.length + (digit_Pad.D 4 n).length < 140737488355328 := by rw [D_len]; omega
  simp only [if_pos e]
  have w : wrap64 ((i : Int) + 1) = ((i + 1 : Nat) : Int) := by rw [wrap64_id (by omega) (by omega)]; omega
  rw [w]
  exact h
theorem pad_nx {s : ByteArray} {ns out r : List Int} {i : Nat} {n c : Int} (hi : i < ns.length) (hs : i < s.size) (hb : bt s (i : Int) = c) (hc : c ≠ 32) (hn : rd ns (i : Int) = n) (h0 : 0 ≤ n) (h1 : n < 100) (ho : out.length ≤ 1000000) (hl : ns.length ≤ 1000000)
    (h : Ev (fun k => date_pad.l0 k s ((out ++ [c]) ++ digit_Pad.D 2 n) ns (ns.length : Int) ((i + 1 : Nat) : Int)) r) : Ev (fun k => date_pad.l0 k s out ns (ns.length : Int) (i : Int)) r := by
  have e0 : out.length < 140737488355328 := by omega
  refine Ev.step (fun k => by simp only [date_pad.l0]; rw [if_pos (by omega), if_pos (by omega), if_pos (by omega), if_pos (by omega), hb, if_neg hc, if_pos e0, hn, u64_pos h0 (by omega)]) ?_
  simp only [Option.bind_some]
  refine Ev.bind (padd h0 (w := 2) (by decide) (by rw [show (10 : Int) ^ 2 = 100 from by decide]; omega) (by decide)) ?_
  have e : (out ++ [c]).length + (digit_Pad.D 2 n).length < 140737488355328 := by rw [D_len]; simp; omega
  simp only [if_pos e]
  have w : wrap64 ((i : Int) + 1) = ((i + 1 : Nat) : Int) := by rw [wrap64_id (by omega) (by omega)]; omega
  rw [w]
  exact h
theorem pad_end {s : ByteArray} {ns out : List Int} : Ev (fun k => date_pad.l0 k s out ns (ns.length : Int) (ns.length : Int)) out := by
  refine Ev.step (fun k => by simp only [date_pad.l0]; rw [if_neg (by omega)]) (Ev.now _)
/-- A day's text: m from 1. -/
def day (y m d : Int) : List Int := digit_Pad.D 4 y ++ [45] ++ digit_Pad.D 2 m ++ [45] ++ digit_Pad.D 2 d
theorem day_len (y m d : Int) : (day y m d).length = 10 := by simp [day, D_len]
theorem pad3 {y m d : Int} (y0 : 0 ≤ y) (y1 : y < 10000) (m0 : 0 ≤ m) (m1 : m < 100) (d0 : 0 ≤ d) (d1 : d < 100) :
    Ev (fun k => date_pad.f k (⟨#[32, 45, 45]⟩ : ByteArray) [y, m, d]) (day y m d) := by
  unfold date_pad.f
  refine pad_sp (i := 0) (n := y) (by simp) (by decide) (by decide) rfl y0 y1 (by decide) (by simp) ?_
  refine pad_nx (i := 1) (n := m) (c := 45) (by simp) (by decide) (by decide) (by decide) rfl m0 m1 (by simp [D_len]) (by simp) ?_
  refine pad_nx (i := 2) (n := d) (c := 45) (by simp) (by decide) (by decide) (by decide) rfl d0 d1 (by simp [D_len]) (by simp) ?_
  exact pad_end (ns := [y, m, d])
/-- A moment's text, without its fraction. -/
def tim (y m d h i s : Int) : List Int := day y m d ++ [84] ++ digit_Pad.D 2 h ++ [58] ++ digit_Pad.D 2 i ++ [58] ++ digit_Pad.D 2 s
theorem tim_len (y m d h i s : Int) : (tim y m d h i s).length = 19 := by simp [tim, day, D_len]
theorem pad6 {y m d h i s : Int} (y0 : 0 ≤ y) (y1 : y < 10000) (m0 : 0 ≤ m) (m1 : m < 100) (d0 : 0 ≤ d) (d1 : d < 100) (h0 : 0 ≤ h) (h1 : h < 100) (i0 : 0 ≤ i) (i1 : i < 100) (s0 : 0 ≤ s) (s1 : s < 100) :
    Ev (fun k => date_pad.f k (⟨#[32, 45, 45, 84, 58, 58]⟩ : ByteArray) [y, m, d, h, i, s]) (tim y m d h i s) := by
  unfold date_pad.f
  refine pad_sp (i := 0) (n := y) (by simp) (by decide) (by decide) rfl y0 y1 (by decide) (by simp) ?_
  refine pad_nx (i := 1) (n := m) (c := 45) (by simp) (by decide) (by decide) (by decide) rfl m0 m1 (by simp [D_len]) (by simp) ?_
  refine pad_nx (i := 2) (n := d) (c := 45) (by simp) (by decide) (by decide) (by decide) rfl d0 d1 (by simp [D_len]) (by simp) ?_
  refine pad_nx (i := 3) (n := h) (c := 84) (by simp) (by decide) (by decide) (by decide) rfl h0 h1 (by simp [D_len]) (by simp) ?_
  refine pad_nx (i := 4) (n := i) (c := 58) (by simp) (by decide) (by decide) (by decide) rfl i0 i1 (by simp [D_len]) (by simp) ?_
  refine pad_nx (i := 5) (n := s) (c := 58) (by simp) (by decide) (by decide) (by decide) rfl s0 s1 (by simp [D_len]) (by simp) ?_
  exact pad_end (ns := [y, m, d, h, i, s])
theorem back64 (n : Int) (h : -9223372036854775808 ≤ n) (h' : n < 9223372036854775808) : wrap64 (IntKind.u64.wrap n) = n := by
  rw [w64]; unfold wrap64; omega
theorem Ok.small {y : Int} {m : Nat} {d : Int} (h : Ok y m d) : 0 ≤ (m : Int) + 1 ∧ (m : Int) + 1 < 100 ∧ 0 ≤ d ∧ d < 100 := by
  have := h.m1
  have := h.d0
  have := h.d1
  have := len_lo (leap y) m h.m1
  omega
theorem printday_ev {n y d : Int} {m : Nat} (h0 : -719528 ≤ n) (h1 : n ≤ 2932896) (hd : date_date.f n = some (y, (m : Int) + 1, d)) (hk : Ok y m d) :
    Ev (fun k => date_PrintDay.f k (IntKind.u64.wrap n)) (day y ((m : Int) + 1) d, 0) := by
  unfold date_PrintDay.f
  rw [back64 n (by omega) (by omega)]
  simp only [if_neg (show ¬ n < -719528 by omega), decide_eq_false (show ¬ n > 2932896 by omega)]
  refine Ev.step (fun k => by simp only [date_PrintDay.j0, hd, Option.bind_some]; rw [if_neg (by decide)]) ?_
  have hs := hk.small
  have hy := hk.y1
  refine Ev.bind (pad3 hk.y0 (by omega) hs.1 hs.2.1 hs.2.2.1 hs.2.2.2) ?_
  exact Ev.now _

/-! ### moments -/
/-- The digits of a fraction, without the noughts at its end. -/
theorem strip_ev {out p : List Int} (hp : p ≠ []) (hl : rd p ((p.length - 1 : Nat) : Int) ≠ 48) (hb : p.length ≤ 1000) (ho : out.length ≤ 1000) : ∀ j : Nat, j ≤ 1000 → Ev (fun k => date_PrintMoment.l0 k out (p ++ List.replicate j 48)) (out ++ [46] ++ p, 0)
  | 0, _ => by
    have hpos := List.length_pos_iff.2 hp
    have w : wrap64 ((p.length : Int) - 1) = ((p.length - 1 : Nat) : Int) := by rw [wrap64_id (by omega) (by omega)]; omega
    simp only [List.replicate_zero, List.append_nil]
    have e0 : out.length < 140737488355328 := by omega
    refine Ev.step (fun k => by simp only [date_PrintMoment.l0]; rw [w, if_pos (by omega), if_pos (by omega), if_neg hl, if_pos e0]) ?_
    have e : (out ++ [46]).length + p.length < 140737488355328 := by simp; omega
    simp only [Option.bind_some, if_pos e]
    exact Ev.now _
  | j + 1, hj => by
    have hlen : (p ++ List.replicate (j + 1) (48 : Int)).length = p.length + (j + 1) := by simp
    have w : wrap64 (((p ++ List.replicate (j + 1) (48 : Int)).length : Int) - 1) = ((p.length + j : Nat) : Int) := by rw [hlen, wrap64_id (by omega) (by omega)]; omega
    have hr : rd (p ++ List.replicate (j + 1) (48 : Int)) ((p.length + j : Nat) : Int) = 48 := by
      unfold rd
      rw [Int.toNat_natCast, List.getD_eq_getElem?_getD, List.getElem?_append_right (by omega)]
      simp
    have ht : (p ++ List.replicate (j + 1) (48 : Int)).take (p.length + j) = p ++ List.replicate j 48 := by
      rw [List.take_append, List.take_of_length_le (by omega)]
      congr 1
      rw [show p.length + j - p.length = j from by omega, List.take_replicate]
      congr 1; omega
    refine Ev.step (fun k => by simp only [date_PrintMoment.l0]; rw [w, hlen, if_pos (by omega), if_pos (by omega), hr, if_pos rfl, if_pos (by omega), Int.toNat_natCast, ht]) ?_
    exact strip_ev hp hl hb ho j (by omega)
theorem split_zeros : ∀ l : List Int, (∃ c ∈ l, c ≠ 48) → ∃ p j, l = p ++ List.replicate j 48 ∧ p ≠ [] ∧ rd p ((p.length - 1 : Nat) : Int) ≠ 48
  | [], h => by obtain ⟨c, h, _⟩ := h; cases h
  | c :: l, h => by
    by_cases hl : ∃ c ∈ l, c ≠ 48
    · obtain ⟨p, j, e, hp, hr⟩ := split_zeros l hl
      refine ⟨c :: p, j, by rw [e]; rfl, by simp, ?_⟩
      have hpos := List.length_pos_iff.2 hp
      have : rd (c :: p) (((c :: p).length - 1 : Nat) : Int) = rd p ((p.length - 1 : Nat) : Int) := by
        unfold rd
        simp only [Int.toNat_natCast, List.length_cons]
        rw [show p.length + 1 - 1 = (p.length - 1) + 1 from by omega, List.getD_cons_succ]
      rw [this]; exact hr
    · have hall : l = List.replicate l.length 48 := by
        refine List.eq_replicate_of_mem fun x hx => ?_
        exact Classical.not_not.1 fun hc => hl ⟨x, hx, hc⟩
      obtain ⟨x, hx, hc⟩ := h
      rcases List.mem_cons.1 hx with rfl | hx
      · exact ⟨[x], l.length, by rw [← hall]; rfl, by simp, hc⟩
      · exact absurd ⟨x, hx, hc⟩ hl
theorem dval_zeros : ∀ n : Nat, dval (List.replicate n 48) = 0
  | 0 => rfl
  | n + 1 => by rw [List.replicate_succ, dval_cons, dval_zeros n]; omega
theorem some_digit {l : List Int} (h : 0 < dval l) : ∃ c ∈ l, c ≠ 48 := by
  refine Classical.byContradiction fun hn => ?_
  have : l = List.replicate l.length 48 := by
    refine List.eq_replicate_of_mem fun x hx => ?_
    exact Classical.not_not.1 fun hc => hn ⟨x, hx, hc⟩
  rw [this, dval_zeros] at h
  omega
/-- The fraction's text: nothing, or a point and digits. -/
def Frac (f : Int) (t : List Int) : Prop := (f = 0 ∧ t = []) ∨ ∃ p j, 0 < f ∧ t = 46 :: p ∧ p ≠ [] ∧ p.length + j = 6 ∧ AllD p ∧ dval (p ++ List.replicate j 48) = f ∧ digit_Pad.D 6 f = p ++ List.replicate j 48 ∧ rd p ((p.length - 1 : Nat) : Int) ≠ 48
theorem printmoment_ev {x n y d : Int} {m : Nat} (hx0 : -62167219200000000 ≤ x) (hx1 : x < 253402300800000000) (hn : n = x / 86400000000) (hd : date_date.f n = some (y, (m : Int) + 1, d)) (hk : Ok y m d) :
    ∃ t, Frac (x % 86400000000 % 1000000) t ∧ Ev (fun k => date_PrintMoment.f k (IntKind.u64.wrap x)) (tim y ((m : Int) + 1) d (x % 86400000000 / 1000000 / 3600) (x % 86400000000 / 1000000 / 60 % 60) (x % 86400000000 / 1000000 % 60) ++ t, 0) := by
  have hs := hk.small
  have hy := hk.y1
  have q0 : 0 ≤ x % 86400000000 ∧ x % 86400000000 < 86400000000 := by omega
  -- what is behind the day and the rest
  have run : ∃ t, Frac (x % 86400000000 % 1000000) t ∧ Ev (fun k => date_PrintMoment.j1 k n (x % 86400000000)) (tim y ((m : Int) + 1) d (x % 86400000000 / 1000000 / 3600) (x % 86400000000 / 1000000 / 60 % 60) (x % 86400000000 / 1000000 % 60) ++ t, 0) := by
    generalize x % 86400000000 = q at *
    have t1 : Int.tdiv q 1000000 = q / 1000000 := Int.tdiv_eq_ediv_of_nonneg q0.1
    have w1 := wrap64_id (x := q / 1000000) (by omega) (by omega)
    have t2 : Int.tdiv (q / 1000000) 3600 = q / 1000000 / 3600 := Int.tdiv_eq_ediv_of_nonneg (by omega)
    have w2 := wrap64_id (x := q / 1000000 / 3600) (by omega) (by omega)
    have t3 : Int.tdiv (q / 1000000) 60 = q / 1000000 / 60 := Int.tdiv_eq_ediv_of_nonneg (by omega)
    have w3 := wrap64_id (x := q / 1000000 / 60) (by omega) (by omega)
    have t4 : Int.tmod (q / 1000000 / 60) 60 = q / 1000000 / 60 % 60 := Int.tmod_eq_emod_of_nonneg (by omega)
    have t5 : Int.tmod (q / 1000000) 60 = q / 1000000 % 60 := Int.tmod_eq_emod_of_nonneg (by omega)
    have t6 : Int.tmod q 1000000 = q % 1000000 := Int.tmod_eq_emod_of_nonneg q0.1
    have hpad := pad6 (h := q / 1000000 / 3600) (i := q / 1000000 / 60 % 60) (s := q / 1000000 % 60) hk.y0 (show y < 10000 by omega) hs.1 hs.2.1 hs.2.2.1 hs.2.2.2 (by omega) (by omega) (by omega) (by omega) (by omega) (by omega)
    by_cases hf : q % 1000000 > 0
    · have hD := D_val 6 (x := q % 1000000) (by omega) (by omega)
      have e6 : (10 : Int) ^ 6 = 1000000 := by decide
      rw [e6] at hD
      have hD' : dval (digit_Pad.D 6 (q % 1000000)) = q % 1000000 := by omega
      have hA := D_all 6 (x := q % 1000000) (by omega) (by omega)
      have hL := D_len 6 (q % 1000000)
      obtain ⟨p, j, e, hp, hr⟩ := split_zeros _ (some_digit (by omega : 0 < dval (digit_Pad.D 6 (q % 1000000))))
      rw [e] at hD' hA hL
      have hpj : p.length + j = 6 := by simpa using hL
      refine ⟨46 :: p, .inr ⟨p, j, hf, rfl, hp, hpj, fun c hc => hA c (List.mem_append_left _ hc), hD', e, hr⟩, ?_⟩
      refine Ev.step (fun k => by simp only [date_PrintMoment.j1, hd, Option.bind_some, t1, w1, t2, w2, t3, w3, t4, t5, t6]; rfl) ?_
      refine Ev.bind hpad ?_
      simp only [if_pos hf]
      rw [u64_pos (by omega) (by omega)]
      refine Ev.bind (padd (by omega) (w := 6) (by decide) (by rw [e6]; omega) (by decide)) ?_
      rw [e]
      have := strip_ev (out := tim y ((m : Int) + 1) d (q / 1000000 / 3600) (q / 1000000 / 60 % 60) (q / 1000000 % 60)) hp hr (by omega) (by rw [tim_len]; decide) j (by omega)
      rw [List.append_assoc] at this
      exact this
    · refine ⟨[], .inl ⟨by omega, rfl⟩, ?_⟩
      refine Ev.step (fun k => by simp only [date_PrintMoment.j1, hd, Option.bind_some, t1, w1, t2, w2, t3, w3, t4, t5, t6]; rfl) ?_
      refine Ev.bind hpad ?_
      simp only [if_neg hf]
      rw [List.append_nil]
      exact Ev.now _
  obtain ⟨t, ht, hev⟩ := run
  refine ⟨t, ht, ?_⟩
  unfold date_PrintMoment.f
  rw [back64 x (by omega) (by omega)]
  simp only [if_neg (show ¬ x < -62167219200000000 by omega), decide_eq_false (show ¬ x ≥ 253402300800000000 by omega)]
  by_cases hneg : Int.tmod x 86400000000 < 0
  · have hx : x < 0 := by
      refine Classical.byContradiction fun hc => ?_
      rw [Int.tmod_eq_emod_of_nonneg (by omega)] at hneg; omega
    have e1 : Int.tmod x 86400000000 = -((-x) % 86400000000) := by
      rw [show x = -(-x) from by omega, Int.neg_tmod, Int.tmod_eq_emod_of_nonneg (by omega), Int.neg_neg]
    have e2 : Int.tdiv x 86400000000 = -((-x) / 86400000000) := by
      rw [show x = -(-x) from by omega, Int.neg_tdiv, Int.tdiv_eq_ediv_of_nonneg (by omega), Int.neg_neg]
    refine Ev.step (fun k => by simp only [date_PrintMoment.j0]; rw [if_neg (by decide), if_pos hneg]) ?_
    rw [e1, e2, wrap64_id (x := -((-x) / 86400000000)) (by omega) (by omega), wrap64_id (x := -((-x) / 86400000000) - 1) (by omega) (by omega), wrap64_id (x := -((-x) % 86400000000) + 86400000000) (by omega) (by omega)]
    rw [e1] at hneg
    rw [show -((-x) / 86400000000) - 1 = n from by omega, show -((-x) % 86400000000) + 86400000000 = x % 86400000000 from by omega]
    exact hev
  · have hpos : Int.tmod x 86400000000 = x % 86400000000 ∧ Int.tdiv x 86400000000 = x / 86400000000 := by
      by_cases hx : 0 ≤ x
      · exact ⟨Int.tmod_eq_emod_of_nonneg hx, Int.tdiv_eq_ediv_of_nonneg hx⟩
      · have e1 : Int.tmod x 86400000000 = -((-x) % 86400000000) := by
          rw [show x = -(-x) from by omega, Int.neg_tmod, Int.tmod_eq_emod_of_nonneg (by omega), Int.neg_neg]
        have e2 : Int.tdiv x 86400000000 = -((-x) / 86400000000) := by
          rw [show x = -(-x) from by omega, Int.neg_tdiv, Int.tdiv_eq_ediv_of_nonneg (by omega), Int.neg_neg]
        rw [e1] at hneg
        rw [e1, e2]
        constructor <;> omega
    refine Ev.step (fun k => by simp only [date_PrintMoment.j0]; rw [if_neg (by decide), if_neg hneg]) ?_
    rw [hpos.1, hpos.2, wrap64_id (x := x / 86400000000) (by omega) (by omega), ← hn]
    exact hev
end Go.Proofs.Ytobgpdmiiipmmaa.Cal
