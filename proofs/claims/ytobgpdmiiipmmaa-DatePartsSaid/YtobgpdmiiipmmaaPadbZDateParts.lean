/- The document's Pad: as package digit's. -/
import Derived.Test.YtobgpdmiiipmmaaDigZDateParts
import Derived.Test.YtobgpdmiiipmmaaTxtZDateParts
import Derived.Test.YtobgpdmiiipmmaaQ1ZDateParts
import Derived.Test.YtobgpdmiiipmmaaQ0ZDateParts
namespace Go.Proofs.Ytobgpdmiiipmmaa.Dig
set_option linter.unusedVariables false
set_option linter.unusedSimpArgs false
open Go.RowKit Go.Proofs.Ytobgpdmiiipmmaa.Q Go.Proofs.YtobgpdmiiipmmaaW.PrintWords Go.Proofs.YtobgpdmiiipmmaaW.PrintLast
theorem D_zero : ∀ n, digit_Pad.D n 0 = List.replicate n 48
  | 0 => rfl
  | n + 1 => by
    rw [List.replicate_succ']
    simp only [digit_Pad.D]
    rw [show digit_Pad.nx 0 = 0 from by rw [nx_of (by omega) (by omega)]; rfl, D_zero n, show digit_Pad.dg 0 = 48 from by rw [dg_of (by omega)]; rfl]
theorem D_more : ∀ (c m : Nat) (x : Int), 0 ≤ x → x < 18446744073709551616 → x < 10 ^ c → digit_Pad.D (m + c) x = List.replicate m 48 ++ digit_Pad.D c x := by
  intro c
  induction c with
  | zero =>
    intro m x h0 h1 h2
    have : x = 0 := by have : x < 1 := by simpa using h2
                       omega
    subst this
    simp [D_zero, digit_Pad.D]
  | succ c ih =>
    intro m x h0 h1 h2
    rw [Int.pow_succ] at h2
    have hn := nx_of h0 h1
    have := ih m (digit_Pad.nx x) (by rw [hn]; omega) (by rw [hn]; omega) (by rw [hn]; omega)
    show digit_Pad.D (m + c) (digit_Pad.nx x) ++ [digit_Pad.dg x] = List.replicate m 48 ++ (digit_Pad.D c (digit_Pad.nx x) ++ [digit_Pad.dg x])
    rw [this, List.append_assoc]
theorem refpad_loop (w : Nat) (hw : w ≤ 1000) : ∀ (d : Nat) (l : List Int), l.length + d = w → Ev (fun k => mintageref04_Pad.l0 k (w : Int) l) (List.replicate d 48 ++ l, 0) := by
  intro d
  induction d with
  | zero =>
    intro l hl
    refine Ev.step (fun k => by simp only [mintageref04_Pad.l0]; rw [if_neg (by omega)]) ?_
    exact Ev.now _
  | succ d ih =>
    intro l hl
    refine Ev.step (fun k => by simp only [mintageref04_Pad.l0, Option.bind_some]; rw [if_pos (by omega), if_pos (by simp; omega)]) ?_
    have := ih ([48] ++ l) (by simp; omega)
    rw [show List.replicate d (48 : Int) ++ ([48] ++ l) = List.replicate (d + 1) 48 ++ l from by rw [List.replicate_succ']; simp] at this
    exact this
theorem pad_both {x : Int} (h0 : 0 ≤ x) (h1 : x < 18446744073709551616) (w : Int) : ∃ p e, Ev (fun k => digit_Pad.f k x w) (p, e) ∧ Ev (fun k => mintageref04_Pad.f k x w) (p, e) ∧ p.length ≤ 20 := by
  by_cases hw1 : w < 1
  · refine ⟨[], 42, ?_, ?_, by simp⟩
    · unfold digit_Pad.f; simp only [if_pos hw1]; exact Ev.now _
    · unfold mintageref04_Pad.f; simp only [if_pos hw1]
      refine Ev.step (fun k => by simp only [mintageref04_Pad.j0]; rfl) ?_
      simp only [if_true]; exact Ev.now _
  by_cases hw2 : w > 20
  · refine ⟨[], 42, ?_, ?_, by simp⟩
    · unfold digit_Pad.f; simp only [if_neg hw1, if_pos hw2]; exact Ev.now _
    · unfold mintageref04_Pad.f; simp only [if_neg hw1, decide_eq_true hw2]
      refine Ev.step (fun k => by simp only [mintageref04_Pad.j0]; rfl) ?_
      simp only [if_true]; exact Ev.now _
  obtain ⟨m, rfl⟩ : ∃ m : Nat, w = (m : Int) := ⟨w.toNat, by omega⟩
  obtain ⟨c, ec, hc, c3, c4⟩ := count_ev h0 h1
  have et := ref_text h0 h1 c3 c4 hc
  by_cases hm : m < c + 1
  · refine ⟨[], 40, ?_, ?_, by simp⟩
    · unfold digit_Pad.f; simp only [if_neg hw1, if_neg hw2]
      refine Ev.bind ec ?_
      simp only [if_pos (show (c : Int) + 1 > (m : Int) by omega)]; exact Ev.now _
    · unfold mintageref04_Pad.f; simp only [if_neg hw1, decide_eq_false hw2]
      refine Ev.step (fun k => by simp only [mintageref04_Pad.j0]; rfl) ?_
      simp only [Bool.false_eq_true, if_false]
      refine Ev.bind et ?_
      simp only [D_lenw, if_pos (show ((c + 1 : Nat) : Int) > (m : Int) by omega)]; exact Ev.now _
  · refine ⟨digit_Pad.D m x, 0, pad_ev ec (by omega) (by omega) (by omega), ?_, by rw [D_lenw]; omega⟩
    unfold mintageref04_Pad.f; simp only [if_neg hw1, decide_eq_false hw2]
    refine Ev.step (fun k => by simp only [mintageref04_Pad.j0]; rfl) ?_
    simp only [Bool.false_eq_true, if_false]
    refine Ev.bind et ?_
    simp only [D_lenw, if_neg (show ¬ ((c + 1 : Nat) : Int) > (m : Int) by omega)]
    have := refpad_loop m (by omega) (m - (c + 1)) (digit_Pad.D (c + 1) x) (by rw [D_lenw]; omega)
    rw [← D_more (c + 1) (m - (c + 1)) x h0 h1 c3, Nat.sub_add_cancel (by omega)] at this
    exact this
theorem Ev.same {α : Type} {g : Nat → Option α} {a b : α} (h : Ev g a) (h' : Ev g b) : a = b := by
  obtain ⟨K, hk⟩ := h
  obtain ⟨K', hk'⟩ := h'
  exact Option.some.inj ((hk (K + K') (by omega)).symm.trans (hk' (K + K') (by omega)))
end Go.Proofs.Ytobgpdmiiipmmaa.Dig
