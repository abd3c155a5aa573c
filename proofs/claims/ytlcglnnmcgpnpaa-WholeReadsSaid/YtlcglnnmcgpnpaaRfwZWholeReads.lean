/- What WholeWrites asks: whole's Print, Fits, Cmp and the document's are the same. -/
import Derived.Test.YtlcglnnmcgpnpaaCmpwZWholeReads
import Derived.Test.YtlcglnnmcgpnpaaTxtZWholeReads
import Derived.Test.YtlcglnnmcgpnpaaQ0ZWholeReads
namespace Go.Proofs.Ytlcglnnmcgpnpaa.Whw
set_option linter.unusedVariables false
set_option linter.unusedSimpArgs false
open Go.RowKit Go.Proofs.Ytlcglnnmcgpnpaa.Q Go.Proofs.YtlcglnnmcgpnpaaW.PrintWords Go.Proofs.YtlcglnnmcgpnpaaW.PrintLast Go.Proofs.YtlcglnnmcgpnpaaW.PrintMore Go.Proofs.Ytlcglnnmcgpnpaa.Dig

theorem rwidth (k : Int) : ∃ w : Nat, Ev (fun n => mintageref05_Width.f n k) (w : Int) ∧ ((1 ≤ k ∧ k ≤ 8 ∧ Wd w ∧ whole_width.f k = some ((w : Int), decide (k ≤ 4), true)) ∨ (¬ (1 ≤ k ∧ k ≤ 8) ∧ w = 0 ∧ whole_width.f k = some (0, false, false))) := by
  by_cases h : 1 ≤ k ∧ k ≤ 8
  · have hk : k = 1 ∨ k = 2 ∨ k = 3 ∨ k = 4 ∨ k = 5 ∨ k = 6 ∨ k = 7 ∨ k = 8 := by omega
    unfold Wd
    rcases hk with rfl | rfl | rfl | rfl | rfl | rfl | rfl | rfl
    · exact ⟨8, ⟨3, fun n hn => by obtain ⟨m, rfl⟩ : ∃ m, n = m + 3 := ⟨n - 3, by omega⟩; rfl⟩, .inl ⟨by decide, by decide, by decide, rfl⟩⟩
    · exact ⟨16, ⟨3, fun n hn => by obtain ⟨m, rfl⟩ : ∃ m, n = m + 3 := ⟨n - 3, by omega⟩; rfl⟩, .inl ⟨by decide, by decide, by decide, rfl⟩⟩
    · exact ⟨32, ⟨3, fun n hn => by obtain ⟨m, rfl⟩ : ∃ m, n = m + 3 := ⟨n - 3, by omega⟩; rfl⟩, .inl ⟨by decide, by decide, by decide, rfl⟩⟩
    · exact ⟨64, ⟨3, fun n hn => by obtain ⟨m, rfl⟩ : ∃ m, n = m + 3 := ⟨n - 3, by omega⟩; rfl⟩, .inl ⟨by decide, by decide, by decide, rfl⟩⟩
    · exact ⟨8, ⟨3, fun n hn => by obtain ⟨m, rfl⟩ : ∃ m, n = m + 3 := ⟨n - 3, by omega⟩; rfl⟩, .inl ⟨by decide, by decide, by decide, rfl⟩⟩
    · exact ⟨16, ⟨3, fun n hn => by obtain ⟨m, rfl⟩ : ∃ m, n = m + 3 := ⟨n - 3, by omega⟩; rfl⟩, .inl ⟨by decide, by decide, by decide, rfl⟩⟩
    · exact ⟨32, ⟨3, fun n hn => by obtain ⟨m, rfl⟩ : ∃ m, n = m + 3 := ⟨n - 3, by omega⟩; rfl⟩, .inl ⟨by decide, by decide, by decide, rfl⟩⟩
    · exact ⟨64, ⟨3, fun n hn => by obtain ⟨m, rfl⟩ : ∃ m, n = m + 3 := ⟨n - 3, by omega⟩; rfl⟩, .inl ⟨by decide, by decide, by decide, rfl⟩⟩
  · refine ⟨0, ?_, .inr ⟨h, rfl, ?_⟩⟩
    · have b1 : (k == 1) = false := beq_eq_false_iff_ne.mpr (by omega)
      have b2 : (k == 2) = false := beq_eq_false_iff_ne.mpr (by omega)
      have b3 : (k == 3) = false := beq_eq_false_iff_ne.mpr (by omega)
      have b5 : (k == 5) = false := beq_eq_false_iff_ne.mpr (by omega)
      have b6 : (k == 6) = false := beq_eq_false_iff_ne.mpr (by omega)
      have b7 : (k == 7) = false := beq_eq_false_iff_ne.mpr (by omega)
      unfold mintageref05_Width.f
      simp only [if_neg (show ¬ k = 1 by omega), b5]
      refine Ev.step (fun n => by simp only [mintageref05_Width.j0]; rfl) ?_
      simp only [Bool.false_eq_true, if_false, if_neg (show ¬ k = 2 by omega), b6]
      refine Ev.step (fun n => by simp only [mintageref05_Width.j1]; rfl) ?_
      simp only [Bool.false_eq_true, if_false, if_neg (show ¬ k = 3 by omega), b7]
      refine Ev.step (fun n => by simp only [mintageref05_Width.j2]; rfl) ?_
      simp only [Bool.false_eq_true, if_false, if_neg (show ¬ k = 4 by omega), if_neg (show ¬ k = 8 by omega)]
      exact Ev.now _
    · unfold whole_width.f
      rw [if_neg (by omega), if_neg (by omega), if_neg (by omega), if_neg (by omega), if_neg (by omega), if_neg (by omega), if_neg (by omega), if_neg (by omega)]
theorem p2 {w : Nat} (hw : Wd w) : (0 : Int) < 2 ^ w ∧ (2 : Int) ^ w ≤ 18446744073709551616 := by
  unfold Wd at hw
  rcases hw with rfl | rfl | rfl | rfl <;> decide +kernel
theorem rcut {k : Int} {w : Nat} (h : Ev (fun n => mintageref05_Width.f n k) (w : Int)) (hw : Wd w) {x : Int} (h0 : 0 ≤ x) (h1 : x < 18446744073709551616) : Ev (fun n => mintageref05_cut.f n k x) (x % 2 ^ w) := by
  unfold mintageref05_cut.f
  refine Ev.bind h ?_
  unfold Wd at hw
  by_cases h64 : w = 64
  · subst h64
    simp only [if_pos (show ((64 : Nat) : Int) = 64 from rfl)]
    rw [show (2 : Int) ^ 64 = 18446744073709551616 from rfl, Int.emod_eq_of_lt h0 h1]
    exact Ev.now _
  · simp only [if_neg (show ¬ (w : Int) = 64 by omega)]
    refine Ev.bind h ?_
    have e : shl .u64 1 (IntKind.u64.wrap ((w : Int))) = 2 ^ w := by
      rcases hw with rfl | rfl | rfl | rfl
      · decide +kernel
      · decide +kernel
      · decide +kernel
      · exact absurd rfl h64
    have p := (p2 (w := w) (by unfold Wd; exact hw)).1
    rw [e]
    simp only [if_pos (u64_nonneg _), if_neg (show ¬ (2 : Int) ^ w = 0 by omega), Int.tmod_eq_emod_of_nonneg h0]
    exact Ev.now _
theorem rfits {k : Int} {w : Nat} (h : Ev (fun n => mintageref05_Width.f n k) (w : Int)) (hw : Wd w) {x : Int} (h0 : 0 ≤ x) (h1 : x < 18446744073709551616) : Ev (fun n => mintageref05_Fits.f n k x) (decide (x ≤ 2 ^ w - 1)) := by
  unfold mintageref05_Fits.f
  refine Ev.bind h ?_
  simp only [if_pos (show (w : Int) > 0 by unfold Wd at hw; omega)]
  refine Ev.bind (rcut h hw h0 h1) ?_
  have p := (p2 hw).1
  have e : (x % 2 ^ w == x) = decide (x ≤ 2 ^ w - 1) := by
    by_cases q : x ≤ 2 ^ w - 1
    · rw [decide_eq_true q, Int.emod_eq_of_lt h0 (by omega)]; simp
    · rw [decide_eq_false q]
      refine beq_eq_false_iff_ne.mpr fun e => q ?_
      have := Int.emod_lt_of_pos x p
      omega
  rw [e]
  exact Ev.now _
theorem rbelow {k : Int} {w : Nat} (hk : 1 ≤ k ∧ k ≤ 8) (h : Ev (fun n => mintageref05_Width.f n k) (w : Int)) (hw : Wd w) {x : Int} (h0 : 0 ≤ x) (h' : x ≤ 2 ^ w - 1) : Ev (fun n => mintageref05_Below.f n k x) ((sz w (decide (k ≤ 4)) x).2, (sz w (decide (k ≤ 4)) x).1) := by
  have hp := p2 hw
  unfold mintageref05_Below.f
  refine Ev.bind h ?_
  unfold mintageref05_signed.f
  simp only [Option.bind_some]
  by_cases h4 : k ≤ 4
  · simp only [decide_eq_true h4, if_true, if_pos (u64_nonneg _)]
    have e : shl .u64 1 (IntKind.u64.wrap (wrap64 ((w : Int) - 1))) = 2 ^ (w - 1) := by
      unfold Wd at hw
      rcases hw with rfl | rfl | rfl | rfl <;> decide +kernel
    rw [e]
    unfold sz
    by_cases hx : x < 2 ^ (w - 1)
    · simp only [if_pos hx, if_neg (show ¬ (True ∧ (2 : Int) ^ (w - 1) ≤ x) by omega), true_and, if_neg (show ¬ (2 : Int) ^ (w - 1) ≤ x by omega)]
      exact Ev.now _
    · have p1 : (1 : Int) ≤ 2 ^ (w - 1) := Int.pow_pos (by decide)
      simp only [if_neg hx, true_and, if_pos (show (2 : Int) ^ (w - 1) ≤ x by omega)]
      have c := rcut (x := IntKind.u64.wrap (-x)) h hw (u64_nonneg _) (by rw [w64]; omega)
      have e2 : IntKind.u64.wrap (-x) % 2 ^ w = 2 ^ w - x := by
        rw [w64]
        unfold Wd at hw
        rcases hw with rfl | rfl | rfl | rfl <;> simp only [show (2 : Int) ^ 8 = 256 from rfl, show (2 : Int) ^ 16 = 65536 from rfl, show (2 : Int) ^ 32 = 4294967296 from rfl, show (2 : Int) ^ 64 = 18446744073709551616 from rfl] at h' ⊢ <;> omega
      rw [e2] at c
      refine Ev.bind c ?_
      exact Ev.now _
  · simp only [decide_eq_false h4, Bool.false_eq_true, if_false]
    unfold sz
    simp only [Bool.false_eq_true, false_and, if_false]
    exact Ev.now _
theorem print_both (k : Int) {x : Int} (h0 : 0 ≤ x) (h1 : x < 18446744073709551616) : ∃ (t : List Int) (e : Int), Ev (fun n => whole_Print.f n k x) (t, e) ∧ Ev (fun n => mintageref05_Print.f n k x) (t, e) ∧ t.length ≤ 30 := by
  obtain ⟨w, hwd, ⟨k1, k8, hw, hk⟩ | ⟨hn, hw, hk⟩⟩ := rwidth k
  · by_cases hx : x ≤ 2 ^ w - 1
    · obtain ⟨c, hc, c3, c4, hp⟩ := print_ev hk hw h0 hx
      obtain ⟨b1, b2, b3, b4⟩ := sz_bounds hw (decide (k ≤ 4)) h0 hx
      have L := lim_bounds hw (decide (k ≤ 4)) (sz w (decide (k ≤ 4)) x).2
      have ht := ref_text b1 (by omega) c3 c4 hc
      refine ⟨_, 0, hp, ?_, ?_⟩
      · unfold mintageref05_Print.f
        refine Ev.bind hwd ?_
        simp only [if_neg (show ¬ (w : Int) = 0 by unfold Wd at hw; omega)]
        refine Ev.bind (rfits hwd hw h0 h1) ?_
        simp only [decide_eq_true hx, if_true]
        refine Ev.bind (rbelow ⟨k1, k8⟩ hwd hw h0 hx) ?_
        by_cases hs : (sz w (decide (k ≤ 4)) x).2 = true
        · simp only [hs, if_true, Option.bind_some]
          refine Ev.bind ht ?_
          simp only [D_lenw, List.length_cons, List.length_nil, if_pos (show 0 + 1 + (c + 1) < 140737488355328 by omega)]
          exact Ev.now _
        · simp only [hs, if_false, Bool.false_eq_true, List.nil_append]
          refine Ev.bind ht ?_
          exact Ev.now _
      · rw [List.length_append, D_lenw]
        split <;> simp <;> omega
    · refine ⟨[], 53, print_not hk hw hx, ?_, by simp⟩
      unfold mintageref05_Print.f
      refine Ev.bind hwd ?_
      simp only [if_neg (show ¬ (w : Int) = 0 by unfold Wd at hw; omega)]
      refine Ev.bind (rfits hwd hw h0 h1) ?_
      simp only [decide_eq_false hx, Bool.false_eq_true, if_false]
      exact Ev.now _
  · subst hw
    refine ⟨[], 50, ?_, ?_, by simp⟩
    · unfold whole_Print.f
      simp only [hk, Option.bind_some, Bool.false_eq_true, if_false]
      exact Ev.now _
    · unfold mintageref05_Print.f
      refine Ev.bind hwd ?_
      simp only [if_pos (show ((0 : Nat) : Int) = 0 from rfl)]
      exact Ev.now _
theorem fits_both (k : Int) {x : Int} (h0 : 0 ≤ x) (h1 : x < 18446744073709551616) : ∃ o, whole_Fits.f k x = some o ∧ Ev (fun n => mintageref05_Fits.f n k x) o := by
  obtain ⟨w, hwd, ⟨k1, k8, hw, hk⟩ | ⟨hn, hw, hk⟩⟩ := rwidth k
  · exact ⟨_, fits_ev hk hw x, rfits hwd hw h0 h1⟩
  · subst hw
    refine ⟨false, ?_, ?_⟩
    · unfold whole_Fits.f
      simp only [hk, Option.bind_some, Bool.false_eq_true, if_false]
    · unfold mintageref05_Fits.f
      refine Ev.bind hwd ?_
      simp only [if_neg (show ¬ ((0 : Nat) : Int) > 0 by decide)]
      exact Ev.now _
theorem rcmp {k : Int} {w : Nat} (hk : 1 ≤ k ∧ k ≤ 8) (h : Ev (fun n => mintageref05_Width.f n k) (w : Int)) (hw : Wd w) {x y : Int} (hx : 0 ≤ x) (hx' : x ≤ 2 ^ w - 1) (hy : 0 ≤ y) (hy' : y ≤ 2 ^ w - 1) :
    Ev (fun n => mintageref05_Cmp.f n k x y) (cmp3 (sval w (decide (k ≤ 4)) x) (sval w (decide (k ≤ 4)) y), 0) := by
  have hp := p2 hw
  have j1 : ∀ a b : Int, Ev (fun n => mintageref05_Cmp.j1 n a b) (cmp3 a b, 0) := by
    intro a b
    refine Ev.step (fun n => by simp only [mintageref05_Cmp.j1]; rfl) ?_
    unfold cmp3
    by_cases h1 : a < b
    · simp only [if_pos h1]; exact Ev.now _
    · by_cases h2 : a > b
      · simp only [if_neg h1, if_pos h2]; exact Ev.now _
      · simp only [if_neg h1, if_neg h2]; exact Ev.now _
  unfold mintageref05_Cmp.f
  refine Ev.bind h ?_
  simp only [if_neg (show ¬ (w : Int) = 0 by unfold Wd at hw; omega)]
  refine Ev.bind (rfits h hw hx (by omega)) ?_
  simp only [decide_eq_true hx', if_true]
  refine Ev.bind (rfits h hw hy (by omega)) ?_
  simp only [decide_eq_true hy', Bool.not_true]
  refine Ev.step (fun n => by simp only [mintageref05_Cmp.j0]; rfl) ?_
  simp only [Bool.false_eq_true, if_false]
  refine Ev.bind (rbelow hk h hw hx hx') ?_
  refine Ev.bind (rbelow hk h hw hy hy') ?_
  unfold sval
  have bx := (sz_bounds hw (decide (k ≤ 4)) hx hx').1
  have by_ := (sz_bounds hw (decide (k ≤ 4)) hy hy').1
  have px : (sz w (decide (k ≤ 4)) x).2 = true → 0 < (sz w (decide (k ≤ 4)) x).1 := by
    intro q; unfold sz at q ⊢
    split at q
    · rename_i hc; rw [if_pos hc]; simp; omega
    · cases q
  have py : (sz w (decide (k ≤ 4)) y).2 = true → 0 < (sz w (decide (k ≤ 4)) y).1 := by
    intro q; unfold sz at q ⊢
    split at q
    · rename_i hc; rw [if_pos hc]; simp; omega
    · cases q
  generalize (sz w (decide (k ≤ 4)) x) = a at *
  generalize (sz w (decide (k ≤ 4)) y) = b at *
  obtain ⟨a1, a2⟩ := a
  obtain ⟨b1, b2⟩ := b
  simp only at bx by_ px py ⊢
  cases a2 <;> cases b2
  · simp only [bne_self_eq_false, Bool.false_eq_true, if_false]
    exact j1 _ _
  · have := py rfl
    simp only [show (false != true) = true from rfl, if_true, Bool.false_eq_true, if_false]
    rw [show cmp3 a1 (-b1) = 1 from by unfold cmp3; rw [if_neg (by omega), if_pos (by omega)]]
    exact Ev.now _
  · have := px rfl
    simp only [show (true != false) = true from rfl, if_true, Bool.false_eq_true, if_false]
    rw [show cmp3 (-a1) b1 = -1 from by unfold cmp3; rw [if_pos (by omega)]]
    exact Ev.now _
  · simp only [bne_self_eq_false, Bool.false_eq_true, if_false, if_true]
    rw [show cmp3 (-a1) (-b1) = cmp3 b1 a1 from by
      unfold cmp3
      by_cases h1 : b1 < a1
      · rw [if_pos (by omega), if_pos h1]
      · by_cases h2 : b1 > a1
        · rw [if_neg (by omega), if_pos (by omega), if_neg h1, if_pos h2]
        · rw [if_neg (by omega), if_neg (by omega), if_neg h1, if_neg h2]]
    exact j1 _ _
theorem cmp_both (k : Int) {x y : Int} (hx : 0 ≤ x) (hx1 : x < 18446744073709551616) (hy : 0 ≤ y) (hy1 : y < 18446744073709551616) : ∃ c e : Int, Ev (fun n => whole_Cmp.f n k x y) (c, e) ∧ Ev (fun n => mintageref05_Cmp.f n k x y) (c, e) := by
  obtain ⟨w, hwd, ⟨k1, k8, hw, hk⟩ | ⟨hn, hw, hk⟩⟩ := rwidth k
  · by_cases qx : x ≤ 2 ^ w - 1
    · by_cases qy : y ≤ 2 ^ w - 1
      · exact ⟨_, _, cmp_ev hk hw hx qx hy qy, rcmp ⟨k1, k8⟩ hwd hw hx qx hy qy⟩
      · refine ⟨_, _, cmp_not hk hw (.inr qy), ?_⟩
        unfold mintageref05_Cmp.f
        refine Ev.bind hwd ?_
        simp only [if_neg (show ¬ (w : Int) = 0 by unfold Wd at hw; omega)]
        refine Ev.bind (rfits hwd hw hx hx1) ?_
        simp only [decide_eq_true qx, if_true]
        refine Ev.bind (rfits hwd hw hy hy1) ?_
        simp only [decide_eq_false qy, Bool.not_false]
        refine Ev.step (fun n => by simp only [mintageref05_Cmp.j0]; rfl) ?_
        simp only [if_true]; exact Ev.now _
    · refine ⟨_, _, cmp_not hk hw (.inl qx), ?_⟩
      unfold mintageref05_Cmp.f
      refine Ev.bind hwd ?_
      simp only [if_neg (show ¬ (w : Int) = 0 by unfold Wd at hw; omega)]
      refine Ev.bind (rfits hwd hw hx hx1) ?_
      simp only [decide_eq_false qx, Bool.false_eq_true, if_false]
      refine Ev.step (fun n => by simp only [mintageref05_Cmp.j0]; rfl) ?_
      simp only [if_true]; exact Ev.now _
  · subst hw
    refine ⟨0, 50, ?_, ?_⟩
    · unfold whole_Cmp.f
      simp only [hk, Option.bind_some, Bool.false_eq_true, if_false]
      exact Ev.now _
    · unfold mintageref05_Cmp.f
      refine Ev.bind hwd ?_
      simp only [if_pos (show ((0 : Nat) : Int) = 0 from rfl)]
      exact Ev.now _
/-- All that one round of WholeWrites needs. -/
theorem writes (k : Int) {x y : Int} (hx : 0 ≤ x) (hx1 : x < 18446744073709551616) (hy : 0 ≤ y) (hy1 : y < 18446744073709551616) :
    ∃ (n : Nat) (t : List Int) (e c g : Int) (o : Bool), whole_Print.f n k x = some (t, e) ∧ mintageref05_Print.f n k x = some (t, e) ∧ whole_Cmp.f n k x y = some (c, g) ∧ mintageref05_Cmp.f n k x y = some (c, g) ∧ whole_Fits.f k x = some o ∧ mintageref05_Fits.f n k x = some o ∧ t.length ≤ 30 := by
  obtain ⟨t, e, ⟨K1, h1⟩, ⟨K2, h2⟩, ht⟩ := print_both k hx hx1
  obtain ⟨c, g, ⟨K3, h3⟩, K4, h4⟩ := cmp_both k hx hx1 hy hy1
  obtain ⟨o, h5, K6, h6⟩ := fits_both k hx hx1
  exact ⟨K1 + K2 + K3 + K4 + K6, t, e, c, g, o, h1 _ (by omega), h2 _ (by omega), h3 _ (by omega), h4 _ (by omega), h5, h6 _ (by omega), ht⟩
end Go.Proofs.Ytlcglnnmcgpnpaa.Whw
