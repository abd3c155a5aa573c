/- DigitBack: the printed law function answers true. -/
import Derived.Test.YtonlkffjpofpoaaQx26
import Derived.Test.YtonlkffjpofpoaaQx5
import Derived.Test.YtonlkffjpofpoaaQx9
import Derived.Test.YtonlkffjpofpoaaDigb
namespace Go.Proofs.Ytonlkffjpofpoaa.Dig
open Go.RowKit Go.Proofs.Ytonlkffjpofpoaa.Q Go.Proofs.YtonlkffjpofpoaaW.PrintWords Go.Proofs.YtonlkffjpofpoaaW.PrintLast

theorem D_len : ∀ (n : Nat) (x : Int), (digit_Pad.D n x).length = n
  | 0, _ => rfl
  | n + 1, x => by simp [digit_Pad.D, D_len n]
theorem allD_append {l m : List Int} (h : AllD l) (h' : AllD m) : AllD (l ++ m) := by
  intro c hc
  rcases List.mem_append.1 hc with hc | hc
  · exact h c hc
  · exact h' c hc
theorem noughts_all (n : Nat) : AllD (List.replicate n 48) := by
  intro c hc
  rw [List.eq_of_mem_replicate hc]; unfold IsD; omega
theorem noughts_val (n : Nat) (l : List Int) : dval (List.replicate n 48 ++ l) = dval l := by
  induction n with
  | zero => rfl
  | succ n ih =>
    rw [List.replicate_succ, List.cons_append, dval_cons, ih]; omega
theorem first_not {x : Int} {c : Nat} (h : 0 ≤ x) (h' : x < 18446744073709551616) (h4 : c = 0 ∨ 10 ^ c ≤ x) (h3 : x < 10 ^ (c + 1)) :
    rd (digit_Pad.D (c + 1) x) 0 = 48 → x = 0 ∧ c = 0 := by
  intro hr
  have hl := D_len (c + 1) x
  have hv := D_val (c + 1) h h'
  have ha := D_all (c + 1) h h'
  rw [Int.emod_eq_of_lt h h3] at hv
  match hm : digit_Pad.D (c + 1) x, hl with
  | d :: m, hl =>
    rw [hm] at hr hv ha
    have hd : d = 48 := hr
    subst hd
    rw [dval_cons] at hv
    have b := dval_bounds (l := m) (fun z hz => ha z (List.mem_cons_of_mem _ hz))
    have hmc : m.length = c := by simpa using hl
    rw [hmc] at b
    rcases h4 with rfl | h4
    · simp at b; exact ⟨by omega, rfl⟩
    · omega

theorem wf_u64 {a : Int} (h : (Lit.int .u64 a).wf = true) : 0 ≤ a ∧ a < 18446744073709551616 := by
  have h1 : (decide (IntKind.u64.min ≤ a) && decide (a ≤ IntKind.u64.max)) = true := h
  have e1 : IntKind.u64.min = 0 := by rfl
  have e2 : IntKind.u64.max = 18446744073709551615 := by rfl
  rw [e1, e2] at h1
  simp at h1
  omega
theorem wf_i64 {a : Int} (h : (Lit.int .i64 a).wf = true) : -9223372036854775808 ≤ a ∧ a < 9223372036854775808 := by
  have h1 : (decide (IntKind.i64.min ≤ a) && decide (a ≤ IntKind.i64.max)) = true := h
  have e1 : IntKind.i64.min = -9223372036854775808 := by rfl
  have e2 : IntKind.i64.max = 9223372036854775807 := by rfl
  rw [e1, e2] at h1
  simp at h1
  omega

theorem wakes_ev : Ev (fun _ => mintagelaw04_wakes.f) true := Ev.now _
theorem num_ev (e : Int) : mintagelaw04_num.f e = some e := rfl

theorem back_tail {x : Int} {c : Nat} (bx : 0 ≤ x ∧ x < 18446744073709551616) (hc : c ≤ 19) (c3 : x < 10 ^ (c + 1)) (c4 : c = 0 ∨ 10 ^ c ≤ x) (i : Nat) (hi : i ≤ 500) :
    Ev (fun k => if (List.replicate i (48 : Int)).length + (digit_Pad.D (c + 1) x).length < 140737488355328 then ((digit_Value.f k (List.replicate i 48 ++ digit_Pad.D (c + 1) x)).bind fun bt347 => ((mintagelaw04_num.f bt347.2).bind fun t349 => (if t349 = 0 then (if bt347.1 = x then (if 0 < ((digit_Pad.D (c + 1) x).length : Int) then (if (rd (digit_Pad.D (c + 1) x) 0) = 48 then (if x = 0 then (if ((digit_Pad.D (c + 1) x).length : Int) = 1 then ((mintagelaw04_wakes.f).bind fun t351 => (some t351)) else (some false)) else (some false)) else ((mintagelaw04_wakes.f).bind fun t352 => (some t352))) else (none)) else (some false)) else (some false)))) else (none)) true := by
  have hv := D_val (c + 1) bx.1 bx.2
  rw [Int.emod_eq_of_lt bx.1 c3] at hv
  have ha := D_all (c + 1) bx.1 bx.2
  have hl := D_len (c + 1) x
  simp only [List.length_replicate, hl, if_pos (show i + (c + 1) < 140737488355328 by omega)]
  have v := val_ev (l := List.replicate i 48 ++ digit_Pad.D (c + 1) x) (allD_append (noughts_all i) ha) (by intro h; have := congrArg List.length h; simp [hl] at this) (by simp [hl]; omega) (by rw [noughts_val, hv]; omega)
  rw [noughts_val, hv] at v
  refine Ev.bind v ?_
  simp only [num_ev, Option.bind_some, if_true, if_pos (show (0 : Int) < ((c + 1 : Nat) : Int) by omega)]
  by_cases hr : rd (digit_Pad.D (c + 1) x) 0 = 48
  · obtain ⟨h1, h2⟩ := first_not bx.1 bx.2 c4 c3 hr
    rw [h2] at hr ⊢
    simp only [Nat.zero_add] at hr
    simp only [Nat.zero_add, if_pos hr, if_pos h1, Int.natCast_one, if_true]
    exact Ev.bind wakes_ev (Ev.now _)
  · simp only [if_neg hr]
    exact Ev.bind wakes_ev (Ev.now _)
theorem back_loop {x n : Int} {c : Nat} (bx : 0 ≤ x ∧ x < 18446744073709551616) (hc : c ≤ 19) (c3 : x < 10 ^ (c + 1)) (c4 : c = 0 ∨ 10 ^ c ≤ x) :
    ∀ (d i : Nat), i + d = 500 → Ev (fun k => mintagelaw04_DigitBack.l0 k x n (digit_Pad.D (c + 1) x) (List.replicate i 48) i) true := by
  intro d
  induction d with
  | zero =>
    intro i hi
    refine Ev.step (fun k => by simp only [mintagelaw04_DigitBack.l0]; rfl) ?_
    by_cases hn : (i : Int) < n
    · simp only [if_pos hn, if_neg (show ¬ (i : Int) < 500 by omega)]
      exact back_tail bx hc c3 c4 i (by omega)
    · simp only [if_neg hn]
      exact back_tail bx hc c3 c4 i (by omega)
  | succ d ih =>
    intro i hi
    refine Ev.step (fun k => by simp only [mintagelaw04_DigitBack.l0]; rfl) ?_
    by_cases hn : (i : Int) < n
    · simp only [if_pos hn, if_pos (show (i : Int) < 500 by omega), List.length_replicate, if_pos (show i < 140737488355328 by omega)]
      rw [wrap64_id (by omega) (by omega), ← List.replicate_succ']
      exact_mod_cast ih (i + 1) (by omega)
    · simp only [if_neg hn]
      exact back_tail bx hc c3 c4 i (by omega)

theorem PureDigitBack : mintagelaw04_DigitBack.Pure := by
  intro x n hx hn
  have bx := wf_u64 hx
  obtain ⟨c, ec, hc, c3, c4⟩ := count_ev bx.1 bx.2
  have hv := D_val (c + 1) bx.1 bx.2
  rw [Int.emod_eq_of_lt bx.1 c3] at hv
  have hv20 := D_val 20 bx.1 bx.2
  rw [Int.emod_eq_of_lt bx.1 (by have : (10 : Int) ^ 20 = 100000000000000000000 := by rfl
                                 omega)] at hv20
  refine Ev.rounds ?_
  unfold mintagelaw04_DigitBack.f
  refine Ev.bind (text_ev ec hc) ?_
  have v1 := val_ev (l := digit_Pad.D (c + 1) x) (D_all _ bx.1 bx.2) (by intro h; have := congrArg List.length h; simp [D_len] at this) (by rw [D_len]; omega) (by rw [hv]; omega)
  rw [hv] at v1
  refine Ev.bind v1 ?_
  refine Ev.bind (pad_ev ec (wd := 20) (by omega) (by omega) (by omega)) ?_
  simp only [Option.bind_some, List.length_nil, D_len, List.nil_append, if_pos (show 0 + 20 < 140737488355328 by omega)]
  have v2 := val_ev (l := digit_Pad.D 20 x) (D_all _ bx.1 bx.2) (by intro h; have := congrArg List.length h; simp [D_len] at this) (by rw [D_len]; omega) (by rw [hv20]; omega)
  rw [hv20] at v2
  refine Ev.bind v2 ?_
  simp only [num_ev, Option.bind_some, if_true]
  refine Ev.bind ec ?_
  simp only [Int.natCast_add, Int.natCast_one, if_true, show (((20 : Nat) : Int) != 20) = false from rfl]
  refine Ev.step (fun k => by simp only [mintagelaw04_DigitBack.j0]; rfl) ?_
  simp only [Bool.false_eq_true, if_false]
  exact back_loop bx hc c3 c4 500 0 rfl
end Go.Proofs.Ytonlkffjpofpoaa.Dig
namespace Go.Proofs.Ytonlkffjpofpoaa.Pure
theorem DigitBack : Q.mintagelaw04_DigitBack.Pure := Dig.PureDigitBack
end Go.Proofs.Ytonlkffjpofpoaa.Pure
