/- The document's text of a number is digit's. -/
import Derived.Test.YtobgpdmiiipmmaaQ1ZDateParts
import Derived.Test.YtobgpdmiiipmmaaDigZDateParts
namespace Go.Proofs.Ytobgpdmiiipmmaa.Dig
open Go.RowKit Go.Proofs.Ytobgpdmiiipmmaa.Q Go.Proofs.YtobgpdmiiipmmaaW.PrintWords Go.Proofs.YtobgpdmiiipmmaaW.PrintLast

theorem D_lenw : ∀ (n : Nat) (x : Int), (digit_Pad.D n x).length = n
  | 0, _ => rfl
  | n + 1, x => by simp [digit_Pad.D, D_lenw n]
theorem wf_u64w {a : Int} (h : (Lit.int .u64 a).wf = true) : 0 ≤ a ∧ a < 18446744073709551616 := by
  have h1 : (decide (IntKind.u64.min ≤ a) && decide (a ≤ IntKind.u64.max)) = true := h
  have e1 : IntKind.u64.min = 0 := by rfl
  have e2 : IntKind.u64.max = 18446744073709551615 := by rfl
  rw [e1, e2] at h1
  simp at h1
  omega
theorem text_step (k : Nat) (x : Int) (acc : List Int) (h : acc.length < 1000) :
    mintageref04_Text.l0 (k + 1) x acc = if digit_Pad.nx x = 0 then some (digit_Pad.dg x :: acc) else mintageref04_Text.l0 k (digit_Pad.nx x) (digit_Pad.dg x :: acc) := by
  simp only [mintageref04_Text.l0, Option.bind_some]
  rw [if_pos (by simp; omega)]
  rfl
theorem text_loop : ∀ (c : Nat) (x : Int) (acc : List Int), 0 ≤ x → x < 18446744073709551616 → x < 10 ^ (c + 1) → (c = 0 ∨ 10 ^ c ≤ x) → acc.length + c < 1000 →
    Ev (fun k => mintageref04_Text.l0 k x acc) (digit_Pad.D (c + 1) x ++ acc) := by
  intro c
  induction c with
  | zero =>
    intro x acc h0 h1 h2 _ hl
    refine Ev.step (fun k => text_step k x acc (by omega)) ?_
    have : digit_Pad.nx x = 0 := by rw [nx_of h0 h1]; have : x < 10 := by simpa using h2
                                    omega
    simp only [if_pos this]
    exact Ev.now _
  | succ c ih =>
    intro x acc h0 h1 h2 h3 hl
    have h3 : (10 : Int) ^ (c + 1) ≤ x := h3.resolve_left (by omega)
    have hp : (1 : Int) ≤ 10 ^ c := Int.pow_pos (by decide)
    have e1 : (10 : Int) ^ (c + 1) = 10 ^ c * 10 := Int.pow_succ ..
    have e2 : (10 : Int) ^ (c + 1 + 1) = 10 ^ c * 10 * 10 := by rw [Int.pow_succ, e1]
    rw [e1] at h3
    rw [e2] at h2
    refine Ev.step (fun k => text_step k x acc (by omega)) ?_
    have hn := nx_of h0 h1
    have hx : digit_Pad.nx x ≠ 0 := by rw [hn]; omega
    simp only [if_neg hx]
    have := ih (digit_Pad.nx x) (digit_Pad.dg x :: acc) (by rw [hn]; omega) (by rw [hn]; omega) (by rw [hn, e1]; omega) (by right; rw [hn]; omega) (by simp; omega)
    rw [show digit_Pad.D (c + 1 + 1) x ++ acc = digit_Pad.D (c + 1) (digit_Pad.nx x) ++ digit_Pad.dg x :: acc from by simp [digit_Pad.D]]
    exact this
theorem ref_text {x : Int} {c : Nat} (h0 : 0 ≤ x) (h1 : x < 18446744073709551616) (h2 : x < 10 ^ (c + 1)) (h3 : c = 0 ∨ 10 ^ c ≤ x) (hc : c ≤ 19) : Ev (fun k => mintageref04_Text.f k x) (digit_Pad.D (c + 1) x) := by
  have := text_loop c x [] h0 h1 h2 h3 (by simp; omega)
  rw [List.append_nil] at this
  exact this
end Go.Proofs.Ytobgpdmiiipmmaa.Dig
