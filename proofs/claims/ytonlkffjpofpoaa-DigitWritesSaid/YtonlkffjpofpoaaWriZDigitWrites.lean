/- What DigitWrites asks: digit's Text, Pad, Ten, Count and the document's are the same. -/
import Derived.Test.YtonlkffjpofpoaaQ0ZDigitWrites
import Derived.Test.YtonlkffjpofpoaaDigZDigitWrites
import Derived.Test.YtonlkffjpofpoaaTenZDigitWrites
namespace Go.Proofs.Ytonlkffjpofpoaa.Dig
open Go.RowKit Go.Proofs.Ytonlkffjpofpoaa.Q Go.Proofs.YtonlkffjpofpoaaW.PrintWords Go.Proofs.YtonlkffjpofpoaaW.PrintLast

theorem D_lenw : ∀ (n : Nat) (x : Int), (digit_Pad.D n x).length = n
  | 0, _ => rfl
  | n + 1, x => by simp [digit_Pad.D, D_lenw n]
theorem wf_u64w {a : Int} (h : (Lit.int .u64 a).wf = true) : 0 ≤ a ∧ a < 18446744073709551616 := by
  have h1 : (decide (IntKind.u64.min ≤ a) && decide (a ≤ IntKind.u64.max)) = true := h
  have e1 : IntKind.u64.min = 0 := by rfl
  have e2 : IntKind.u64.max = 18446744073709551615 := by rfl
  rw [e1, e2] at h1
  simp at h1
  omega
theorem text_step (k : Nat) (x : Int) (acc : List Int) (h : acc.length < 1000) :
    mintageref04_Text.l0 (k + 1) x acc = if digit_Pad.nx x = 0 then some (digit_Pad.dg x :: acc) else mintageref04_Text.l0 k (digit_Pad.nx x) (digit_Pad.dg x :: acc) := by
  simp only [mintageref04_Text.l0, Option.bind_some]
  rw [if_pos (by simp; omega)]
  rfl
theorem text_loop : ∀ (c : Nat) (x : Int) (acc : List Int), 0 ≤ x → x < 18446744073709551616 → x < 10 ^ (c + 1) → (c = 0 ∨ 10 ^ c ≤ x) → acc.length + c < 1000 →
    Ev (fun k => mintageref04_Text.l0 k x acc) (digit_Pad.D (c + 1) x ++ acc) := by
  intro c
  induction c with
  | zero =>
    intro x acc h0 h1 h2 _ hl
    refine Ev.step (fun k => text_step k x acc (by omega)) ?_
    have : digit_Pad.nx x = 0 := by rw [nx_of h0 h1]; have : x < 10 := by simpa using h2
                                    omega
    simp only [if_pos this]
    exact Ev.now _
  | succ c ih =>
    intro x acc h0 h1 h2 h3 hl
    have h3 : (10 : Int) ^ (c + 1) ≤ x := h3.resolve_left (by omega)
    have hp : (1 : Int) ≤ 10 ^ c := Int.pow_pos (by decide)
    have e1 : (10 : Int) ^ (c + 1) = 10 ^ c * 10 := Int.pow_succ ..
    have e2 : (10 : Int) ^ (c + 1 + 1) = 10 ^ c * 10 * 10 := by rw [Int.pow_succ, e1]
    rw [e1] at h3
    rw [e2] at h2
    refine Ev.step (fun k => text_step k x acc (by omega)) ?_
    have hn := nx_of h0 h1
    have hx : digit_Pad.nx x ≠ 0 := by rw [hn]; omega
    simp only [if_neg hx]
    have := ih (digit_Pad.nx x) (digit_Pad.dg x :: acc) (by rw [hn]; omega) (by rw [hn]; omega) (by rw [hn, e1]; omega) (by right; rw [hn]; omega) (by simp; omega)
    rw [show digit_Pad.D (c + 1 + 1) x ++ acc = digit_Pad.D (c + 1) (digit_Pad.nx x) ++ digit_Pad.dg x :: acc from by simp [digit_Pad.D]]
    exact this
theorem ref_text {x : Int} {c : Nat} (h0 : 0 ≤ x) (h1 : x < 18446744073709551616) (h2 : x < 10 ^ (c + 1)) (h3 : c = 0 ∨ 10 ^ c ≤ x) (hc : c ≤ 19) : Ev (fun k => mintageref04_Text.f k x) (digit_Pad.D (c + 1) x) := by
  have := text_loop c x [] h0 h1 h2 h3 (by simp; omega)
  rw [List.append_nil] at this
  exact this
/-- Noughts ahead of a number's digits. -/
theorem D_zero : ∀ n, digit_Pad.D n 0 = List.replicate n 48
  | 0 => rfl
  | n + 1 => by
    rw [List.replicate_succ']
    simp only [digit_Pad.D]
    rw [show digit_Pad.nx 0 = 0 from by rw [nx_of (by omega) (by omega)]; rfl, D_zero n, show digit_Pad.dg 0 = 48 from by rw [dg_of (by omega)]; rfl]
theorem D_more : ∀ (c m : Nat) (x : Int), 0 ≤ x → x < 18446744073709551616 → x < 10 ^ c → digit_Pad.D (m + c) x = List.replicate m 48 ++ digit_Pad.D c x := by
  intro c
  induction c with
  | zero =>
    intro m x h0 h1 h2
    have : x = 0 := by have : x < 1 := by simpa using h2
                       omega
    subst this
    simp [D_zero, digit_Pad.D]
  | succ c ih =>
    intro m x h0 h1 h2
    rw [Int.pow_succ] at h2
    have hn := nx_of h0 h1
    have := ih m (digit_Pad.nx x) (by rw [hn]; omega) (by rw [hn]; omega) (by rw [hn]; omega)
    show digit_Pad.D (m + c) (digit_Pad.nx x) ++ [digit_Pad.dg x] = List.replicate m 48 ++ (digit_Pad.D c (digit_Pad.nx x) ++ [digit_Pad.dg x])
    rw [this, List.append_assoc]
theorem refpad_loop (w : Nat) (hw : w ≤ 1000) : ∀ (d : Nat) (l : List Int), l.length + d = w → Ev (fun k => mintageref04_Pad.l0 k (w : Int) l) (List.replicate d 48 ++ l, 0) := by
  intro d
  induction d with
  | zero =>
    intro l hl
    refine Ev.step (fun k => by simp only [mintageref04_Pad.l0]; rw [if_neg (by omega)]) ?_
    exact Ev.now _
  | succ d ih =>
    intro l hl
    refine Ev.step (fun k => by simp only [mintageref04_Pad.l0, Option.bind_some]; rw [if_pos (by omega), if_pos (by simp; omega)]) ?_
    have := ih ([48] ++ l) (by simp; omega)
    rw [show List.replicate d (48 : Int) ++ ([48] ++ l) = List.replicate (d + 1) 48 ++ l from by rw [List.replicate_succ']; simp] at this
    exact this
theorem pad_both {x : Int} (h0 : 0 ≤ x) (h1 : x < 18446744073709551616) (w : Int) : ∃ p e, Ev (fun k => digit_Pad.f k x w) (p, e) ∧ Ev (fun k => mintageref04_Pad.f k x w) (p, e) ∧ p.length ≤ 20 := by
  by_cases hw1 : w < 1
  · refine ⟨[], 42, ?_, ?_, by simp⟩
    · unfold digit_Pad.f; simp only [if_pos hw1]; exact Ev.now _
    · unfold mintageref04_Pad.f; simp only [if_pos hw1]
      refine Ev.step (fun k => by simp only [mintageref04_Pad.j0]; rfl) ?_
      simp only [if_true]; exact Ev.now _
  by_cases hw2 : w > 20
  · refine ⟨[], 42, ?_, ?_, by simp⟩
    · unfold digit_Pad.f; simp only [if_neg hw1, if_pos hw2]; exact Ev.now _
    · unfold mintageref04_Pad.f; simp only [if_neg hw1, decide_eq_true hw2]
      refine Ev.step (fun k => by simp only [mintageref04_Pad.j0]; rfl) ?_
      simp only [if_true]; exact Ev.now _
  obtain ⟨m, rfl⟩ : ∃ m : Nat, w = (m : Int) := ⟨w.toNat, by omega⟩
  obtain ⟨c, ec, hc, c3, c4⟩ := count_ev h0 h1
  have et := ref_text h0 h1 c3 c4 hc
  by_cases hm : m < c + 1
  · refine ⟨[], 40, ?_, ?_, by simp⟩
    · unfold digit_Pad.f; simp only [if_neg hw1, if_neg hw2]
      refine Ev.bind ec ?_
      simp only [if_pos (show (c : Int) + 1 > (m : Int) by omega)]; exact Ev.now _
    · unfold mintageref04_Pad.f; simp only [if_neg hw1, decide_eq_false hw2]
      refine Ev.step (fun k => by simp only [mintageref04_Pad.j0]; rfl) ?_
      simp only [Bool.false_eq_true, if_false]
      refine Ev.bind et ?_
      simp only [D_lenw, if_pos (show ((c + 1 : Nat) : Int) > (m : Int) by omega)]; exact Ev.now _
  · refine ⟨digit_Pad.D m x, 0, pad_ev ec (by omega) (by omega) (by omega), ?_, by rw [D_lenw]; omega⟩
    unfold mintageref04_Pad.f; simp only [if_neg hw1, decide_eq_false hw2]
    refine Ev.step (fun k => by simp only [mintageref04_Pad.j0]; rfl) ?_
    simp only [Bool.false_eq_true, if_false]
    refine Ev.bind et ?_
    simp only [D_lenw, if_neg (show ¬ ((c + 1 : Nat) : Int) > (m : Int) by omega)]
    have := refpad_loop m (by omega) (m - (c + 1)) (digit_Pad.D (c + 1) x) (by rw [D_lenw]; omega)
    rw [← D_more (c + 1) (m - (c + 1)) x h0 h1 c3, Nat.sub_add_cancel (by omega)] at this
    exact this
theorem refTen_loop (m : Nat) (hm : m ≤ 19) : ∀ (d i : Nat), i + d = m → Ev (fun k => mintageref04_Ten.l0 k m (10 ^ i) i) (10 ^ m, 0) := by
  intro d
  induction d with
  | zero =>
    intro i hi
    refine Ev.step (fun k => by simp only [mintageref04_Ten.l0]; rfl) ?_
    simp only [if_neg (show ¬ (i : Int) < m by omega)]
    have : i = m := by omega
    rw [this]; exact Ev.now _
  | succ d ih =>
    intro i hi
    refine Ev.step (fun k => by simp only [mintageref04_Ten.l0]; rfl) ?_
    simp only [if_pos (show (i : Int) < m by omega)]
    have b := ten_le (i := i + 1) (by omega)
    rw [wrap64_id (by omega) (by omega), w64, Int.emod_eq_of_lt (by rw [Int.mul_comm, ← Int.pow_succ]; omega) (by rw [Int.mul_comm, ← Int.pow_succ]; omega), Int.mul_comm, ← Int.pow_succ]
    exact_mod_cast ih (i + 1) (by omega)
theorem ten_both (n : Int) : ∃ v g, Ev (fun k => digit_Ten.f k n) (v, g) ∧ Ev (fun k => mintageref04_Ten.f k n) (v, g) := by
  by_cases h1 : n < 0
  · refine ⟨0, 42, ?_, ?_⟩
    · unfold digit_Ten.f; simp only [if_pos h1]
      refine Ev.step (fun k => by simp only [digit_Ten.j0]; rfl) ?_
      simp only [if_true]; exact Ev.now _
    · unfold mintageref04_Ten.f; simp only [if_pos h1]
      refine Ev.step (fun k => by simp only [mintageref04_Ten.j0]; rfl) ?_
      simp only [if_true]; exact Ev.now _
  by_cases h2 : n > 19
  · refine ⟨0, 42, ?_, ?_⟩
    · unfold digit_Ten.f; simp only [if_neg h1, decide_eq_true h2]
      refine Ev.step (fun k => by simp only [digit_Ten.j0]; rfl) ?_
      simp only [if_true]; exact Ev.now _
    · unfold mintageref04_Ten.f; simp only [if_neg h1, decide_eq_true h2]
      refine Ev.step (fun k => by simp only [mintageref04_Ten.j0]; rfl) ?_
      simp only [if_true]; exact Ev.now _
  obtain ⟨m, rfl⟩ : ∃ m : Nat, n = (m : Int) := ⟨n.toNat, by omega⟩
  refine ⟨10 ^ m, 0, ten_ev (by omega), ?_⟩
  unfold mintageref04_Ten.f
  simp only [if_neg h1, decide_eq_false h2]
  refine Ev.step (fun k => by simp only [mintageref04_Ten.j0]; rfl) ?_
  simp only [Bool.false_eq_true, if_false]
  exact refTen_loop m (by omega) m 0 (by omega)
/-- All that DigitWrites needs, at one number of rounds. -/
theorem writes {x : Int} (hx : (Lit.int .u64 x).wf = true) (w n : Int) :
    ∃ (k : Nat) (t p : List Int) (e v g c : Int), digit_Text.f k x = some t ∧ mintageref04_Text.f k x = some t ∧ digit_Pad.f k x w = some (p, e) ∧ mintageref04_Pad.f k x w = some (p, e) ∧
      digit_Ten.f k n = some (v, g) ∧ mintageref04_Ten.f k n = some (v, g) ∧ digit_Count.f k x = some c ∧ mintageref04_Count.f k x = some c ∧ t.length ≤ 20 ∧ p.length ≤ 20 := by
  have bx := wf_u64w hx
  obtain ⟨c, ec, hc, c3, c4⟩ := count_ev bx.1 bx.2
  obtain ⟨p, e, p1, p2, p3⟩ := pad_both bx.1 bx.2 w
  obtain ⟨v, g, t1, t2⟩ := ten_both n
  have et := ref_text bx.1 bx.2 c3 c4 hc
  have er : Ev (fun k => mintageref04_Count.f k x) ((c : Int) + 1) := by
    unfold mintageref04_Count.f
    refine Ev.bind et ?_
    rw [D_lenw]; exact Ev.now _
  obtain ⟨K1, h1⟩ := text_ev ec hc
  obtain ⟨K2, h2⟩ := et
  obtain ⟨K3, h3⟩ := p1
  obtain ⟨K4, h4⟩ := p2
  obtain ⟨K5, h5⟩ := t1
  obtain ⟨K6, h6⟩ := t2
  obtain ⟨K7, h7⟩ := ec
  obtain ⟨K8, h8⟩ := er
  exact ⟨K1 + K2 + K3 + K4 + K5 + K6 + K7 + K8, _, _, _, _, _, _, h1 _ (by omega), h2 _ (by omega), h3 _ (by omega), h4 _ (by omega), h5 _ (by omega), h6 _ (by omega), h7 _ (by omega), h8 _ (by omega), by rw [D_lenw]; omega, p3⟩
end Go.Proofs.Ytonlkffjpofpoaa.Dig
