/- WholeBack: the printed law function answers true. -/
import Derived.Test.YtlcglnnmcgpnpaaWhob
import Derived.Test.YtlcglnnmcgpnpaaQx17
import Derived.Test.YtlcglnnmcgpnpaaQx19
import Derived.Test.YtlcglnnmcgpnpaaQx24
namespace Go.Proofs.Ytlcglnnmcgpnpaa.Dig
open Go.RowKit Go.Proofs.Ytlcglnnmcgpnpaa.Q Go.Proofs.YtlcglnnmcgpnpaaW.PrintWords Go.Proofs.YtlcglnnmcgpnpaaW.PrintLast Go.Proofs.YtlcglnnmcgpnpaaW.PrintMore
theorem wf_u64b {a : Int} (h : (Lit.int .u64 a).wf = true) : 0 ≤ a ∧ a < 18446744073709551616 := by
  have h1 : (decide (IntKind.u64.min ≤ a) && decide (a ≤ IntKind.u64.max)) = true := h
  have e1 : IntKind.u64.min = 0 := by rfl
  have e2 : IntKind.u64.max = 18446744073709551615 := by rfl
  rw [e1, e2] at h1
  simp at h1
  omega
theorem D_lenb : ∀ (n : Nat) (x : Int), (digit_Pad.D n x).length = n
  | 0, _ => rfl
  | n + 1, x => by simp [digit_Pad.D, D_lenb n]
theorem numb (e : Int) : mintagelaw05_num.f e = some e := rfl
theorem wakes_evb : Ev (fun _ => mintagelaw05_wakes.f) true := Ev.now _
theorem allD_appendb {l m : List Int} (h : AllD l) (h' : AllD m) : AllD (l ++ m) := by
  intro c hc
  rcases List.mem_append.1 hc with hc | hc
  · exact h c hc
  · exact h' c hc
theorem noughts_allb (n : Nat) : AllD (List.replicate n 48) := by
  intro c hc
  rw [List.eq_of_mem_replicate hc]; unfold IsD; omega
theorem noughts_valb (n : Nat) (l : List Int) : dval (List.replicate n 48 ++ l) = dval l := by
  induction n with
  | zero => rfl
  | succ n ih =>
    rw [List.replicate_succ, List.cons_append, dval_cons, ih]; omega
theorem back_tail {k : Int} {w : Nat} {s : Bool} (hk : whole_width.f k = some ((w : Int), s, true)) (hw : Wd w) {x : Int} (h : 0 ≤ x) (h' : x ≤ 2 ^ w - 1) {p ds : List Int} (hp : Pre s (sz w s x).2 p) (ha : AllD ds) (h0 : ds ≠ []) (hl : ds.length ≤ 20) (hv : dval ds = (sz w s x).1) (i : Nat) (hi : i ≤ 300) :
    Ev (fun n => if (p ++ List.replicate i 48).length + ds.length < 140737488355328 then ((whole_Parse.f n k ((p ++ List.replicate i 48) ++ ds)).bind fun bt383 => ((mintagelaw05_num.f bt383.2.2).bind fun t386 => (if t386 = 0 then (if bt383.1 = x then ((mintagelaw05_wakes.f).bind fun t387 => (some t387)) else (some false)) else (some false)))) else (none)) true := by
  have := pre_len hp
  simp only [List.length_append, List.length_replicate, if_pos (show p.length + i + ds.length < 140737488355328 by omega)]
  rw [List.append_assoc]
  refine Ev.bind (parse_back hk hw h h' hp (allD_appendb (noughts_allb i) ha) (by simp [h0]) (by simp; omega) (by rw [noughts_valb]; exact hv)) ?_
  simp only [numb, Option.bind_some, if_true]
  exact Ev.bind wakes_evb (Ev.now _)
theorem back_loop {k : Int} {w : Nat} {s : Bool} (hk : whole_width.f k = some ((w : Int), s, true)) (hw : Wd w) {x : Int} (h : 0 ≤ x) (h' : x ≤ 2 ^ w - 1) {p ds : List Int} (hp : Pre s (sz w s x).2 p) (ha : AllD ds) (h0 : ds ≠ []) (hl : ds.length ≤ 20) (hv : dval ds = (sz w s x).1) (m : Int) :
    ∀ (d i : Nat), i + d = 300 → Ev (fun n => mintagelaw05_WholeBack.l0 n x m k ds (p ++ List.replicate i 48) i) true := by
  intro d
  have hpl := pre_len hp
  induction d with
  | zero =>
    intro i hi
    refine Ev.step (fun k => by simp only [mintagelaw05_WholeBack.l0]; rfl) ?_
    by_cases hn : (i : Int) < m
    · simp only [if_pos hn, if_neg (show ¬ (i : Int) < 300 by omega)]
      exact back_tail hk hw h h' hp ha h0 hl hv i (by omega)
    · simp only [if_neg hn]
      exact back_tail hk hw h h' hp ha h0 hl hv i (by omega)
  | succ d ih =>
    intro i hi
    refine Ev.step (fun k => by simp only [mintagelaw05_WholeBack.l0]; rfl) ?_
    by_cases hn : (i : Int) < m
    · simp only [if_pos hn, if_pos (show (i : Int) < 300 by omega), if_pos (show (p ++ List.replicate i (48 : Int)).length < 140737488355328 by rw [List.length_append, List.length_replicate]; omega)]
      rw [wrap64_id (by omega) (by omega), List.append_assoc, ← List.replicate_succ']
      exact_mod_cast ih (i + 1) (by omega)
    · simp only [if_neg hn]
      exact back_tail hk hw h h' hp ha h0 hl hv i (by omega)
theorem PureWholeBack : mintagelaw05_WholeBack.Pure := by
  intro n a m hn ha hm
  have ba := wf_u64b ha
  obtain ⟨k, ek, k1, k8⟩ := kind_ev n
  obtain ⟨w, s, hk, hw, _⟩ := width_ev ⟨k1, k8⟩
  refine Ev.rounds ?_
  unfold mintagelaw05_WholeBack.f
  simp only [ek, if_pos (u64_nonneg _)]
  have bx := shr_bounds ba (IntKind.u64.wrap (Go.bits .and .i64 (n / 8) 63))
  revert bx
  generalize shr .u64 a (IntKind.u64.wrap (Go.bits .and .i64 (n / 8) 63)) = x
  intro bx
  by_cases hf : x ≤ 2 ^ w - 1
  · obtain ⟨c, hc, c3, c4, pe⟩ := print_ev hk hw bx.1 hf
    obtain ⟨b1, b2, b3, b4⟩ := sz_bounds hw s bx.1 hf
    have L := lim_bounds hw s (sz w s x).2
    have hv := D_val (c + 1) (x := (sz w s x).1) b1 (by omega)
    rw [Int.emod_eq_of_lt b1 c3] at hv
    have hd := D_all (c + 1) (x := (sz w s x).1) b1 (by omega)
    have hl := D_lenb (c + 1) (sz w s x).1
    revert pe hv hd hl
    generalize digit_Pad.D (c + 1) (sz w s x).1 = ds
    intro pe hv hd hl
    have h0 : ds ≠ [] := by intro q; rw [q] at hl; simp at hl
    have hpre : Pre s (sz w s x).2 (if (sz w s x).2 = true then [45] else []) := by
      by_cases hs : (sz w s x).2 = true
      · rw [if_pos hs]; exact .inr (.inr ⟨rfl, hs, b4 hs⟩)
      · rw [if_neg hs]; exact .inl ⟨rfl, by simpa using hs⟩
    refine Ev.bind pe ?_
    simp only [fits_ev hk hw, Option.bind_some, decide_eq_true hf, if_true]
    refine Ev.bind (parse_back hk hw bx.1 hf hpre hd h0 (by omega) hv) ?_
    simp only [numb, Option.bind_some, if_true]
    refine Ev.step (fun k => by simp only [mintagelaw05_WholeBack.j0]; rfl) ?_
    have hlen : ((if (sz w s x).2 = true then [(45 : Int)] else []) ++ ds).length = (if (sz w s x).2 = true then 1 else 0) + (c + 1) := by
      rw [List.length_append, hl]; split <;> simp
    have e0 : ((((if (sz w s x).2 = true then [(45 : Int)] else []) ++ ds).length : Int) == 0) = false := by
      rw [hlen, beq_eq_false_iff_ne]; omega
    have e1 : (0 : Int) < (((if (sz w s x).2 = true then [(45 : Int)] else []) ++ ds).length : Int) := by rw [hlen]; omega
    simp only [e0, Bool.false_eq_true, if_false, if_pos e1]
    by_cases hs : (sz w s x).2 = true
    · simp only [if_pos hs] at e1 ⊢
      simp only [List.cons_append, List.nil_append, show rd (45 :: ds) 0 = 45 from rfl, if_true, List.length_nil, if_pos (show 0 < 140737488355328 by omega), List.length_cons, if_pos (show (1 : Int) ≤ ((ds.length + 1 : Nat) : Int) by omega)]
      refine Ev.step (fun k => by simp only [mintagelaw05_WholeBack.j1]; rfl) ?_
      have := back_loop hk hw bx.1 hf (p := [45]) (.inr (.inr ⟨rfl, hs, b4 hs⟩)) hd h0 (by omega) hv m 300 0 rfl
      simpa using this
    · have hs' : (sz w s x).2 = false := by simpa using hs
      have hr : ¬ rd ds 0 = 45 := by
        match ds, hd, h0 with
        | c :: t, hd, _ =>
          have := hd c List.mem_cons_self
          unfold IsD at this
          show ¬ c = 45
          omega
      simp only [if_neg hs, List.nil_append, if_neg hr]
      by_cases h1 : Go.bits .and .i64 m 1 = 1
      · simp only [if_pos h1, List.length_nil, if_pos (show 0 < 140737488355328 by omega)]
        refine Ev.step (fun k => by simp only [mintagelaw05_WholeBack.j1]; rfl) ?_
        have := back_loop hk hw bx.1 hf (p := [43]) (.inr (.inl ⟨rfl, hs'⟩)) hd h0 (by omega) hv m 300 0 rfl
        simpa using this
      · simp only [if_neg h1]
        refine Ev.step (fun k => by simp only [mintagelaw05_WholeBack.j1]; rfl) ?_
        have := back_loop hk hw bx.1 hf (p := []) (.inl ⟨rfl, hs'⟩) hd h0 (by omega) hv m 300 0 rfl
        simpa using this
  · refine Ev.bind (print_not hk hw hf) ?_
    simp only [fits_ev hk hw, Option.bind_some, decide_eq_false hf, Bool.false_eq_true, if_false, numb, if_true, List.length_nil, Int.natCast_zero]
    exact Ev.bind wakes_evb (Ev.now _)
end Go.Proofs.Ytlcglnnmcgpnpaa.Dig
namespace Go.Proofs.Ytlcglnnmcgpnpaa.Pure
theorem WholeBack : Q.mintagelaw05_WholeBack.Pure := Dig.PureWholeBack
end Go.Proofs.Ytlcglnnmcgpnpaa.Pure
