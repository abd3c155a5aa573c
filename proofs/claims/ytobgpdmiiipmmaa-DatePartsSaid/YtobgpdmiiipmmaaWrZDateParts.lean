/- What PrintDay and PrintMoment tell; the document's functions tell the same. -/
import Derived.Test.YtobgpdmiiipmmaaRtZDateParts
import Derived.Test.YtobgpdmiiipmmaaRpZDateParts
import Derived.Test.YtobgpdmiiipmmaaQ1ZDateParts
import Derived.Test.YtobgpdmiiipmmaaQ0ZDateParts
namespace Go.Proofs.Ytobgpdmiiipmmaa.Cal
set_option linter.unusedVariables false
set_option linter.unusedSimpArgs false
open Go.RowKit Go.Proofs.Ytobgpdmiiipmmaa.Q Go.Proofs.Ytobgpdmiiipmmaa.Dig Go.Proofs.YtobgpdmiiipmmaaW.PrintWords Go.Proofs.YtobgpdmiiipmmaaW.PrintLast
open Go.Proofs.Ytobgpdmiiipmmaa.Keep (str_append Bts ToldR rpd_no rpd_yes rpm_no rpm_yes0 rpm_yes1 Parts lit1s)

theorem u64_back {x : Int} (h0 : 0 ≤ x) (h1 : x < 18446744073709551616) : IntKind.u64.wrap (wrap64 x) = x := by rw [w64]; unfold wrap64; omega
theorem wrap64_rng (x : Int) : -9223372036854775808 ≤ wrap64 x ∧ wrap64 x < 9223372036854775808 := by unfold wrap64; omega
theorem day_says (x : Int) (h0 : 0 ≤ x) (h1 : x < 18446744073709551616) : ∃ l er, Ev (fun k => date_PrintDay.f k x) (l, er) ∧ l.length ≤ 1000 ∧ ∀ w, Calls Try.prog 11 #[.int .u64 x] w (ToldR w l er) := by
  have hr := wrap64_rng x
  have hb := u64_back h0 h1
  have hI : mintageref13_IsDay.f x = if wrap64 x ≥ -719528 then some (wrap64 x, decide (wrap64 x ≤ 2932896)) else some (wrap64 x, false) := rfl
  have hP : ∀ k, date_PrintDay.f k x = if wrap64 x < -719528 then date_PrintDay.j0 k (wrap64 x) true else date_PrintDay.j0 k (wrap64 x) (decide (wrap64 x > 2932896)) := fun k => rfl
  generalize wrap64 x = n at *
  by_cases c1 : n < -719528
  · refine ⟨[], 131, Ev.congr (fun k => by rw [hP, if_pos c1]) ?_, by simp, fun w => rpd_no x n w (by rw [hI, if_neg (by omega)])⟩
    exact Ev.step (fun k => by simp only [date_PrintDay.j0]; rw [if_pos trivial]) (Ev.now _)
  rw [if_pos (by omega)] at hI
  by_cases c2 : n > 2932896
  · refine ⟨[], 131, Ev.congr (fun k => by rw [hP, if_neg c1, decide_eq_true c2]) ?_, by simp, fun w => rpd_no x n w (by rw [hI, decide_eq_false (by omega)])⟩
    exact Ev.step (fun k => by simp only [date_PrintDay.j0]; rw [if_pos trivial]) (Ev.now _)
  obtain ⟨y, m, d, hd, hk, hn⟩ := date_ev (n := n) (by omega) (by omega)
  have e1 := printday_ev (by omega) (by omega) hd hk
  rw [hb] at e1
  obtain ⟨k, hk2⟩ := (rtext_ev hk hn).rounds
  exact ⟨_, 0, e1, by rw [day_len]; omega, fun w => rpd_yes k x n _ (day_bts hk) (by rw [day_len]; omega) w (by rw [hI, decide_eq_true (by omega)]) hk2⟩
theorem dig_bts {n : Nat} {x : Int} (h0 : 0 ≤ x) (h1 : x < 1000000) : Bts (digit_Pad.D n x) := D_bts h0 (by omega)
theorem tim_bts {y d : Int} {m : Nat} (hk : Ok y m d) {h i s : Int} (h0 : 0 ≤ h) (h1 : h < 100) (i0 : 0 ≤ i) (i1 : i < 100) (s0 : 0 ≤ s) (s1 : s < 100) : Bts (tim y ((m : Int) + 1) d h i s) := by
  have c84 : Bts [84] := fun c hc => by simp at hc; omega
  have c58 : Bts [58] := fun c hc => by simp at hc; omega
  exact ((((((day_bts hk).append c84).append (dig_bts h0 (by omega))).append c58).append (dig_bts i0 (by omega))).append c58).append (dig_bts s0 (by omega))
theorem moment_says (x : Int) (h0 : 0 ≤ x) (h1 : x < 18446744073709551616) : ∃ l er, Ev (fun k => date_PrintMoment.f k x) (l, er) ∧ l.length ≤ 1000 ∧ ∀ w, Calls Try.prog 14 #[.int .u64 x] w (ToldR w l er) := by
  have hr := wrap64_rng x
  have hb := u64_back h0 h1
  have hI : mintageref13_IsMoment.f x = if wrap64 x ≥ -62167219200000000 then some (wrap64 x, decide (wrap64 x < 253402300800000000)) else some (wrap64 x, false) := rfl
  have hP : ∀ k, date_PrintMoment.f k x = if wrap64 x < -62167219200000000 then date_PrintMoment.j0 k (wrap64 x) true else date_PrintMoment.j0 k (wrap64 x) (decide (wrap64 x ≥ 253402300800000000)) := fun k => rfl
  generalize wrap64 x = n at *
  by_cases c1 : n < -62167219200000000
  · refine ⟨[], 131, Ev.congr (fun k => by rw [hP, if_pos c1]) ?_, by simp, fun w => rpm_no x n w (by rw [hI, if_neg (by omega)])⟩
    exact Ev.step (fun k => by simp only [date_PrintMoment.j0]; rw [if_pos trivial]) (Ev.now _)
  rw [if_pos (by omega)] at hI
  by_cases c2 : n ≥ 253402300800000000
  · refine ⟨[], 131, Ev.congr (fun k => by rw [hP, if_neg c1, decide_eq_true c2]) ?_, by simp, fun w => rpm_no x n w (by rw [hI, decide_eq_false (by omega)])⟩
    exact Ev.step (fun k => by simp only [date_PrintMoment.j0]; rw [if_pos trivial]) (Ev.now _)
  rw [decide_eq_true (show n < 253402300800000000 by omega)] at hI
  obtain ⟨y, m, d, hd, hk, hn⟩ := date_ev (n := n / 86400000000) (by omega) (by omega)
  obtain ⟨t, ht, e1⟩ := printmoment_ev (x := n) (by omega) (by omega) rfl hd hk
  rw [hb] at e1
  obtain ⟨q, hq⟩ : ∃ q, n - -62167219200000000 = q := ⟨_, rfl⟩
  have q1 : q / 86400000000 + -719528 = n / 86400000000 := by omega
  have q2 : q % 86400000000 = n % 86400000000 := by omega
  have q3 : q % 1000000 = n % 86400000000 % 1000000 := by omega
  have b0 : 0 ≤ n % 86400000000 := by omega
  have b1 : n % 86400000000 < 86400000000 := by omega
  have hT := rtext_ev hk hn
  have hH := digits_ev (x := n % 86400000000 / 1000000 / 3600) (w := 2) (by omega) (by omega) (by omega) (by omega)
  have hM := digits_ev (x := n % 86400000000 / 1000000 / 60 % 60) (w := 2) (by omega) (by omega) (by omega) (by omega)
  have hS := digits_ev (x := n % 86400000000 / 1000000 % 60) (w := 2) (by omega) (by omega) (by omega) (by omega)
  have hF := digits_ev (x := n % 86400000000 % 1000000) (w := 6) (by omega) (by omega) (by omega) (by omega)
  have hbt := tim_bts hk (h := n % 86400000000 / 1000000 / 3600) (i := n % 86400000000 / 1000000 / 60 % 60) (s := n % 86400000000 / 1000000 % 60) (by omega) (by omega) (by omega) (by omega) (by omega) (by omega)
  obtain ⟨K1, hT⟩ := hT
  obtain ⟨K2, hH⟩ := hH
  obtain ⟨K3, hM⟩ := hM
  obtain ⟨K4, hS⟩ := hS
  obtain ⟨K5, hF⟩ := hF
  have hp : Parts (K1 + K2 + K3 + K4 + K5) q (strOfNums (day y ((m : Int) + 1) d)) (strOfNums (digit_Pad.D 2 (n % 86400000000 / 1000000 / 3600))) (strOfNums (digit_Pad.D 2 (n % 86400000000 / 1000000 / 60 % 60))) (strOfNums (digit_Pad.D 2 (n % 86400000000 / 1000000 % 60))) :=
    ⟨by rw [q1]; exact hT _ (by omega), by rw [q2]; exact hH _ (by omega), by rw [q2]; exact hM _ (by omega), by rw [q2]; exact hS _ (by omega)⟩
  have hL : strOfNums (day y ((m : Int) + 1) d) ++ (⟨#[84]⟩ : ByteArray) ++ strOfNums (digit_Pad.D 2 (n % 86400000000 / 1000000 / 3600)) ++ (⟨#[58]⟩ : ByteArray) ++ strOfNums (digit_Pad.D 2 (n % 86400000000 / 1000000 / 60 % 60)) ++ (⟨#[58]⟩ : ByteArray) ++ strOfNums (digit_Pad.D 2 (n % 86400000000 / 1000000 % 60)) = strOfNums (tim y ((m : Int) + 1) d (n % 86400000000 / 1000000 / 3600) (n % 86400000000 / 1000000 / 60 % 60) (n % 86400000000 / 1000000 % 60)) := by
    simp only [lit1s, str_append]; rfl
  have z10 : (strOfNums (day y ((m : Int) + 1) d)).size = 10 := by rw [strOfNums_size, day_len]
  have z2 : ∀ v, (strOfNums (digit_Pad.D 2 v)).size = 2 := fun v => by rw [strOfNums_size, D_len]
  rcases ht with ⟨hf, rfl⟩ | ⟨p, j, hf, rfl, hpn, hpj, hpd, hdv, he, hlast⟩
  · refine ⟨_, 0, e1, by simp [tim_len], fun w => ?_⟩
    rw [List.append_nil]
    exact rpm_yes0 _ x n q w _ _ _ _ _ hq (by omega) (by omega) hI hp z10 (z2 _) (z2 _) (z2 _) (by omega) hL hbt (by rw [tim_len]; omega)
  · refine ⟨_, 0, e1, by simp [tim_len]; omega, fun w => ?_⟩
    refine rpm_yes1 _ x n q w _ _ _ _ (strOfNums (digit_Pad.D 6 (n % 86400000000 % 1000000))) _ p _ rfl j hq (by omega) (by omega) hI hp z10 (z2 _) (z2 _) (z2 _) (by omega) (by rw [q3]; exact hF _ (by omega)) (by rw [strOfNums_size, D_len]) (by rw [he]) (rd p ((p.length - 1 : Nat) : Int)) ?_ hlast hL hbt (fun c hc => by have := hpd c hc; unfold IsD at this; omega) (by rw [tim_len]; omega) (by omega) (by omega)
    have hl := List.length_pos_iff.2 hpn
    rw [List.getLast?_eq_getElem?, List.getElem?_eq_getElem (by omega)]
    unfold rd
    rw [Int.toNat_natCast, List.getD_eq_getElem?_getD, List.getElem?_eq_getElem (by omega)]; rfl
end Go.Proofs.Ytobgpdmiiipmmaa.Cal
