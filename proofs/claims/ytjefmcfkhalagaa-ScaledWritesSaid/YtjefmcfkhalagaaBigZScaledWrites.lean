/- The printed functions of mintageref01 on canonical digits: what they come to. -/
import Derived.Test.YtjefmcfkhalagaaBig0ZScaledWrites
import Derived.Test.YtjefmcfkhalagaaQ0ZScaledWrites
import Derived.Test.YtjefmcfkhalagaaQ1ZScaledWrites
namespace Go.Proofs.Ytjefmcfkhalagaa.Big
set_option linter.unusedVariables false
open Go.RowKit Go.Proofs.Ytjefmcfkhalagaa.Q Go.Proofs.YtjefmcfkhalagaaW.PrintWords Go.Proofs.YtjefmcfkhalagaaW.PrintLast

theorem wid {x : Int} (h : -9223372036854775808 ≤ x) (h' : x < 9223372036854775808) : wrap64 x = x := by unfold wrap64; omega
theorem tm {x y : Int} (h : 0 ≤ x) : Int.tmod x y = x % y := Int.tmod_eq_emod_of_nonneg h
theorem td {x y : Int} (h : 0 ≤ x) : Int.tdiv x y = x / y := Int.tdiv_eq_ediv_of_nonneg h
/-- Small enough. -/
abbrev Sm (l : List Int) : Prop := l.length ≤ 10000000

theorem Nz_snoc : ∀ (l : List Int) {x : Int}, x ≠ 0 → Nz (l ++ [x])
  | [], x, h => ⟨trivial, fun _ => h⟩
  | d :: l, x, h => ⟨Nz_snoc l h, fun he => by simp at he⟩
theorem take_at {l : List Int} {i : Nat} (h : i < l.length) : l.take (i + 1) = l.take i ++ [rd l (i : Int)] := by
  rw [List.take_succ_eq_append_getElem h]; congr 2
  simp [rd, h]
theorem trim_loop {l : List Int} (hd : Dg l) (hs : Sm l) : ∀ n : Nat, n ≤ l.length → Ev (fun k => mintageref01_Trim.l0 k l (n : Int)) (dig (val (l.take n)).toNat)
  | 0, h => by
    refine Ev.step (fun k => by simp only [mintageref01_Trim.l0]; rw [if_neg (by omega), if_pos (by omega), if_pos (by omega)]) ?_
    simp only [List.take_zero, val]
    rw [show (0 : Int).toNat = 0 from rfl, dig_zero]
    exact Ev.now _
  | n + 1, h => by
    have e : wrap64 (((n + 1 : Nat) : Int) - 1) = (n : Int) := by rw [wid (by omega) (by omega)]; omega
    by_cases hz : rd l (n : Int) = 0
    · refine Ev.step (fun k => by simp only [mintageref01_Trim.l0]; rw [e, if_pos (by omega), if_pos (by omega), if_pos (by omega), if_pos hz]) ?_
      have := trim_loop hd hs n (by omega)
      rw [take_at (by omega), hz, val_append]
      simpa [val] using this
    · refine Ev.step (fun k => by simp only [mintageref01_Trim.l0]; rw [e, if_pos (by omega), if_pos (by omega), if_pos (by omega), if_neg hz, if_pos (by omega), if_pos (by omega)]) ?_
      rw [Int.toNat_natCast]
      have h1 : l.take (n + 1) = dig (val (l.take (n + 1))).toNat := by
        have hg := hd.take (n + 1)
        refine dig_val hg ?_ _ ?_
        · rw [take_at (by omega)]; exact Nz_snoc _ hz
        · have := val_nonneg hg; omega
      rw [← h1]
      exact Ev.now _
theorem trim_ev {l : List Int} (hd : Dg l) (hs : Sm l) : Ev (fun k => mintageref01_Trim.f k l) (dig (val l).toNat) := by
  have := trim_loop hd hs l.length (Nat.le_refl _)
  rw [List.take_length] at this
  exact this

/-! ### Num -/
def valW : List Int → Int
  | [] => 0
  | w :: l => w + 18446744073709551616 * valW l
def Uw (l : List Int) : Prop := ∀ w ∈ l, 0 ≤ w ∧ w < 18446744073709551616
def numC : List Int → List Int
  | [] => []
  | w :: l => w % 65536 :: w / 65536 % 65536 :: w / 65536 / 65536 % 65536 :: w / 65536 / 65536 / 65536 % 65536 :: numC l
theorem numC_all : ∀ {l : List Int}, Uw l → Dg (numC l) ∧ val (numC l) = valW l ∧ (numC l).length = 4 * l.length
  | [], _ => ⟨Dg.nil, rfl, rfl⟩
  | w :: l, h => by
    have h0 := h w (List.mem_cons_self ..)
    obtain ⟨i1, i2, i3⟩ := numC_all (l := l) (fun x hx => h x (List.mem_cons_of_mem _ hx))
    unfold numC
    refine ⟨Dg.cons (by omega) (by omega) (Dg.cons (by omega) (by omega) (Dg.cons (by omega) (by omega) (Dg.cons (by omega) (by omega) i1))), ?_, by simp [i3]; omega⟩
    simp only [val, valW]; rw [i2]; omega
theorem uw {x : Int} (h : 0 ≤ x) (h' : x < 18446744073709551616) : IntKind.u64.wrap x = x := by rw [IntKind.wrap_u64]; omega
theorem num_loop {ws : List Int} (hw : Uw ws) (hs : ws.length ≤ 1000000) : ∀ (d i : Nat) (out : List Int), i + d = ws.length → out.length = 4 * i → Dg out → Ev (fun k => mintageref01_Num.l0 k ws out (i : Int)) (dig (val (out ++ numC (ws.drop i))).toNat)
  | 0, i, out, hi, ho, hd => by
    refine Ev.step (fun k => by simp only [mintageref01_Num.l0]; rw [if_neg (by omega)]) ?_
    rw [List.drop_eq_nil_of_le (by omega)]
    simp only [numC, List.append_nil]
    exact Ev.bind (trim_ev hd (by omega)) (Ev.now _)
  | d + 1, i, out, hi, ho, hd => by
    have h0 : 0 ≤ rd ws (i : Int) ∧ rd ws (i : Int) < 18446744073709551616 := by
      have hi' : i < ws.length := by omega
      have : rd ws (i : Int) ∈ ws := by
        have e : rd ws (i : Int) = ws[i] := by simp [rd, hi']
        rw [e]; exact List.getElem_mem _
      exact hw _ this
    rw [drop_at (by omega)]
    generalize hx : rd ws (i : Int) = x at *
    refine Ev.step (fun k => by simp only [mintageref01_Num.l0]; rw [if_pos (by omega), if_pos (by omega), hx]) ?_
    have e0 : wrap64 (0 + 1) = 1 := by rw [wid (by decide) (by decide)]; rfl
    have e1 : wrap64 (1 + 1) = 2 := by rw [wid (by decide) (by decide)]; rfl
    have e2 : wrap64 (2 + 1) = 3 := by rw [wid (by decide) (by decide)]; rfl
    have e3 : wrap64 (3 + 1) = 4 := by rw [wid (by decide) (by decide)]; rfl
    refine Ev.step (fun k => by simp only [mintageref01_Num.l1]; rw [if_pos (by omega), if_pos (by omega), e0, td h0.1, tm h0.1, wid (by omega) (by omega), uw (by omega) (by omega)]) ?_
    refine Ev.step (fun k => by simp only [mintageref01_Num.l1]; rw [if_pos (by omega), if_pos (by simp; omega), e1, td (by omega), tm (by omega), wid (by omega) (by omega), uw (by omega) (by omega)]) ?_
    refine Ev.step (fun k => by simp only [mintageref01_Num.l1]; rw [if_pos (by omega), if_pos (by simp; omega), e2, td (by omega), tm (by omega), wid (by omega) (by omega), uw (by omega) (by omega)]) ?_
    refine Ev.step (fun k => by simp only [mintageref01_Num.l1]; rw [if_pos (by omega), if_pos (by simp; omega), e3, td (by omega), tm (by omega), wid (by omega) (by omega), uw (by omega) (by omega)]) ?_
    refine Ev.step (fun k => by simp only [mintageref01_Num.l1]; rw [if_neg (by omega), wid (by omega) (by omega), show ((i : Int) + 1) = ((i + 1 : Nat) : Int) from by omega]) ?_
    have := num_loop hw hs d (i + 1) (((out ++ [x % 65536]) ++ [x / 65536 % 65536]) ++ [x / 65536 / 65536 % 65536] ++ [x / 65536 / 65536 / 65536 % 65536]) (by omega) (by simp; omega)
      (by
        have one : ∀ y : Int, Dg [y % 65536] := fun y => Dg.cons (by omega) (by omega) Dg.nil
        exact (((hd.app (one _)).app (one _)).app (one _)).app (one _))
    simpa [numC, List.append_assoc] using this
theorem num_ev {ws : List Int} (hw : Uw ws) (hs : ws.length ≤ 1000000) : Ev (fun k => mintageref01_Num.f k ws) (dig (valW ws).toNat) := by
  have := num_loop hw hs ws.length 0 [] (by omega) rfl Dg.nil
  simp only [List.drop_zero, List.nil_append] at this
  rw [(numC_all hw).2.1] at this
  exact this
theorem num1_ev {w : Int} (h : 0 ≤ w) (h' : w < 18446744073709551616) : Ev (fun k => mintageref01_Num.f k [w]) (dig w.toNat) := by
  have := num_ev (ws := [w]) (fun x hx => by simp at hx; subst hx; exact ⟨h, h'⟩) (by simp)
  simpa [valW] using this

/-! ### Sum -/
theorem tz : wrap64 (Int.tdiv 1 65536) = 0 := by rw [td (by decide), wid (by decide) (by decide)]; rfl
theorem sum_loop {a b : List Int} (ha : Dg a) (hb : Dg b) (sa : Sm a) (sb : Sm b) : ∀ (d i : Nat) (out : List Int) (c : Int), max a.length b.length ≤ i + d → i ≤ max a.length b.length + 1 → (i = max a.length b.length + 1 → c = 0) → out.length = i → 0 ≤ c → c ≤ 1 →
    Ev (fun k => mintageref01_Sum.l0 k a b out c (i : Int)) (out ++ sumC (a.drop i) (b.drop i) c) := by
  intro d
  induction d with
  | zero =>
    intro i out c hd hi hc0 ho h0 h1
    have da : a.drop i = [] := List.drop_eq_nil_of_le (by omega)
    have db : b.drop i = [] := List.drop_eq_nil_of_le (by omega)
    rw [da, db]
    refine Ev.step (fun k => by simp only [mintageref01_Sum.l0]; rw [if_neg (by omega), if_neg (by omega)]) ?_
    by_cases hc : c = 0
    · subst hc
      refine Ev.step (fun k => by simp only [mintageref01_Sum.j1]; rw [if_neg (by decide)]) ?_
      simp only [sumC, if_true, List.append_nil]; exact Ev.now _
    · have c1 : c = 1 := by omega
      subst c1
      refine Ev.step (fun k => by simp only [mintageref01_Sum.j1]; rw [if_pos (by decide), if_neg (by omega), if_neg (by omega), if_pos (by omega)]) ?_
      refine Ev.step (fun k => by
        simp only [mintageref01_Sum.l0]
        rw [wid (by omega) (by omega), if_neg (by omega), if_neg (by omega)]) ?_
      refine Ev.step (fun k => by simp only [mintageref01_Sum.j1]; rw [tz, if_neg (by decide)]) ?_
      simp only [sumC]
      rw [if_neg (by decide)]
      exact Ev.now _
  | succ d ih =>
    intro i out c hd hi hc0 ho h0 h1
    have cast : ((i : Int) + 1) = ((i + 1 : Nat) : Int) := by omega
    by_cases h : max a.length b.length ≤ i
    · have da : a.drop i = [] := List.drop_eq_nil_of_le (by omega)
      have db : b.drop i = [] := List.drop_eq_nil_of_le (by omega)
      rw [da, db]
      refine Ev.step (fun k => by simp only [mintageref01_Sum.l0]; rw [if_neg (by omega), if_neg (by omega)]) ?_
      by_cases hc : c = 0
      · subst hc
        refine Ev.step (fun k => by simp only [mintageref01_Sum.j1]; rw [if_neg (by decide)]) ?_
        simp only [sumC, if_true, List.append_nil]; exact Ev.now _
      · have c1 : c = 1 := by omega
        subst c1
        refine Ev.step (fun k => by simp only [mintageref01_Sum.j1]; rw [if_pos (by decide), if_neg (by omega), if_neg (by omega), if_pos (by omega)]) ?_
        refine Ev.step (fun k => by
          simp only [mintageref01_Sum.l0]
          rw [wid (by omega) (by omega), if_neg (by omega), if_neg (by omega)]) ?_
        refine Ev.step (fun k => by simp only [mintageref01_Sum.j1]; rw [tz, if_neg (by decide)]) ?_
        simp only [sumC]
        rw [if_neg (by decide)]
        exact Ev.now _
    · have hlt : i < max a.length b.length := by omega
      by_cases hia : i < a.length
      · have xa := ha.rd (i : Int)
        by_cases hib : i < b.length
        · have xb := hb.rd (i : Int)
          rw [drop_at hia, drop_at hib]
          refine Ev.step (fun k => by simp only [mintageref01_Sum.l0]; rw [if_pos (by omega)]) ?_
          refine Ev.step (fun k => by
            simp only [mintageref01_Sum.j1]
            rw [if_pos trivial, if_pos (by omega), if_pos (by omega), if_pos (by omega), if_pos (by omega), wid (x := c + rd a (i : Int)) (by omega) (by omega), wid (x := c + rd a (i : Int) + rd b (i : Int)) (by omega) (by omega),
              tm (by omega), td (by omega), wid (x := (c + rd a (i : Int) + rd b (i : Int)) / 65536) (by omega) (by omega), wid (x := (i : Int) + 1) (by omega) (by omega), cast]) ?_
          have := ih (i + 1) (out ++ [(c + rd a (i : Int) + rd b (i : Int)) % 65536]) ((c + rd a (i : Int) + rd b (i : Int)) / 65536) (by omega) (by omega) (by omega) (by simp [ho]) (by omega) (by omega)
          rw [sumC, show rd a (i : Int) + rd b (i : Int) + c = c + rd a (i : Int) + rd b (i : Int) from by omega]
          simpa [List.append_assoc] using this
        · have db : b.drop i = [] := List.drop_eq_nil_of_le (by omega)
          have db' : b.drop (i + 1) = [] := List.drop_eq_nil_of_le (by omega)
          rw [drop_at hia, db]
          refine Ev.step (fun k => by simp only [mintageref01_Sum.l0]; rw [if_pos (by omega)]) ?_
          refine Ev.step (fun k => by
            simp only [mintageref01_Sum.j1]
            rw [if_pos trivial, if_pos (by omega), if_pos (by omega), if_neg (by omega), if_pos (by omega), wid (x := c + rd a (i : Int)) (by omega) (by omega),
              tm (by omega), td (by omega), wid (x := (c + rd a (i : Int)) / 65536) (by omega) (by omega), wid (x := (i : Int) + 1) (by omega) (by omega), cast]) ?_
          have := ih (i + 1) (out ++ [(c + rd a (i : Int)) % 65536]) ((c + rd a (i : Int)) / 65536) (by omega) (by omega) (by omega) (by simp [ho]) (by omega) (by omega)
          rw [db'] at this
          rw [sumC, show rd a (i : Int) + c = c + rd a (i : Int) from by omega]
          simpa [List.append_assoc] using this
      · have hib : i < b.length := by omega
        have xb := hb.rd (i : Int)
        have da : a.drop i = [] := List.drop_eq_nil_of_le (by omega)
        have da' : a.drop (i + 1) = [] := List.drop_eq_nil_of_le (by omega)
        rw [drop_at hib, da]
        refine Ev.step (fun k => by simp only [mintageref01_Sum.l0]; rw [if_neg (by omega), if_pos (by omega)]) ?_
        refine Ev.step (fun k => by
          simp only [mintageref01_Sum.j1]
          rw [if_pos trivial, if_neg (by omega), if_pos (by omega), if_pos (by omega), if_pos (by omega), wid (x := c + rd b (i : Int)) (by omega) (by omega),
            tm (by omega), td (by omega), wid (x := (c + rd b (i : Int)) / 65536) (by omega) (by omega), wid (x := (i : Int) + 1) (by omega) (by omega), cast]) ?_
        have := ih (i + 1) (out ++ [(c + rd b (i : Int)) % 65536]) ((c + rd b (i : Int)) / 65536) (by omega) (by omega) (by omega) (by simp [ho]) (by omega) (by omega)
        rw [da'] at this
        rw [sumC, show rd b (i : Int) + c = c + rd b (i : Int) from by omega]
        simpa [List.append_assoc] using this
theorem sum_ev {a b : Nat} (sa : Sm (dig a)) (sb : Sm (dig b)) : Ev (fun k => mintageref01_Sum.f k (dig a) (dig b)) (dig (a + b)) := by
  have := sum_loop (dig_dg a) (dig_dg b) sa sb (max (dig a).length (dig b).length) 0 [] 0 (by omega) (by omega) (by omega) rfl (by decide) (by decide)
  simp only [List.drop_zero, List.nil_append] at this
  rw [sumC_dig] at this
  exact this

/-! ### Less -/
theorem less_loop {a b : List Int} (ha : Dg a) (hb : Dg b) (sa : Sm a) (sb : Sm b) : ∀ (d i : Nat) (out : List Int) (c : Int), i + d = a.length → out.length = i → Dg out → 0 ≤ c → c ≤ 1 →
    Ev (fun k => mintageref01_Less.l0 k a b out c (i : Int)) (dig (val (out ++ lessC (a.drop i) (b.drop i) c)).toNat) := by
  intro d
  induction d with
  | zero =>
    intro i out c hd ho hg h0 h1
    have da : a.drop i = [] := List.drop_eq_nil_of_le (by omega)
    rw [da]
    refine Ev.step (fun k => by simp only [mintageref01_Less.l0]; rw [if_neg (by omega)]) ?_
    simp only [lessC, List.append_nil]
    exact Ev.bind (trim_ev hg (by omega)) (Ev.now _)
  | succ d ih =>
    intro i out c hd ho hg h0 h1
    have cast : ((i : Int) + 1) = ((i + 1 : Nat) : Int) := by omega
    have hia : i < a.length := by omega
    have xa := ha.rd (i : Int)
    have one : ∀ y : Int, 0 ≤ y → y < 65536 → Dg [y] := fun y h h' => Dg.cons h h' Dg.nil
    by_cases hib : i < b.length
    · have xb := hb.rd (i : Int)
      rw [drop_at hia, drop_at hib]
      have w1 := wid (x := rd a (i : Int) - c) (by omega) (by omega)
      have w2 := wid (x := rd a (i : Int) - c - rd b (i : Int)) (by omega) (by omega)
      by_cases h : rd a (i : Int) - c - rd b (i : Int) < 0
      · refine Ev.step (fun k => by
          simp only [mintageref01_Less.l0]
          rw [w1, w2, if_pos (by omega), if_pos (by omega), if_pos (by omega), if_pos h, if_pos (by omega), wid (x := rd a (i : Int) - c - rd b (i : Int) + 65536) (by omega) (by omega), wid (x := (i : Int) + 1) (by omega) (by omega), cast]) ?_
        have := ih (i + 1) (out ++ [rd a (i : Int) - c - rd b (i : Int) + 65536]) 1 (by omega) (by simp [ho]) (hg.app (one _ (by omega) (by omega))) (by decide) (by decide)
        rw [lessC, if_pos h]
        simpa [List.append_assoc] using this
      · refine Ev.step (fun k => by
          simp only [mintageref01_Less.l0]
          rw [w1, w2, if_pos (by omega), if_pos (by omega), if_pos (by omega), if_neg h, if_pos (by omega), wid (x := (i : Int) + 1) (by omega) (by omega), cast]) ?_
        have := ih (i + 1) (out ++ [rd a (i : Int) - c - rd b (i : Int)]) 0 (by omega) (by simp [ho]) (hg.app (one _ (by omega) (by omega))) (by decide) (by decide)
        rw [lessC, if_neg h]
        simpa [List.append_assoc] using this
    · have db : b.drop i = [] := List.drop_eq_nil_of_le (by omega)
      have db' : b.drop (i + 1) = [] := List.drop_eq_nil_of_le (by omega)
      rw [drop_at hia, db]
      have w1 := wid (x := rd a (i : Int) - c) (by omega) (by omega)
      by_cases h : rd a (i : Int) - c < 0
      · refine Ev.step (fun k => by
          simp only [mintageref01_Less.l0]
          rw [w1, if_pos (by omega), if_pos (by omega), if_neg (by omega), if_pos h, if_pos (by omega), wid (x := rd a (i : Int) - c + 65536) (by omega) (by omega), wid (x := (i : Int) + 1) (by omega) (by omega), cast]) ?_
        have := ih (i + 1) (out ++ [rd a (i : Int) - c + 65536]) 1 (by omega) (by simp [ho]) (hg.app (one _ (by omega) (by omega))) (by decide) (by decide)
        rw [db'] at this
        rw [lessC, if_pos h]
        simpa [List.append_assoc] using this
      · refine Ev.step (fun k => by
          simp only [mintageref01_Less.l0]
          rw [w1, if_pos (by omega), if_pos (by omega), if_neg (by omega), if_neg h, if_pos (by omega), wid (x := (i : Int) + 1) (by omega) (by omega), cast]) ?_
        have := ih (i + 1) (out ++ [rd a (i : Int) - c]) 0 (by omega) (by simp [ho]) (hg.app (one _ (by omega) (by omega))) (by decide) (by decide)
        rw [db'] at this
        rw [lessC, if_neg h]
        simpa [List.append_assoc] using this
theorem less_ev {a b : Nat} (sa : Sm (dig a)) (sb : Sm (dig b)) (h : b ≤ a) : Ev (fun k => mintageref01_Less.f k (dig a) (dig b)) (dig (a - b)) := by
  have := less_loop (dig_dg a) (dig_dg b) sa sb (dig a).length 0 [] 0 (by omega) rfl Dg.nil (by decide) (by decide)
  simp only [List.drop_zero, List.nil_append] at this
  obtain ⟨-, -, h3⟩ := lessC_all (dig a) (dig b) 0 (dig_dg a) (dig_dg b) (by decide) (by decide)
  rw [val_dig, val_dig] at h3
  rw [h3 (by omega)] at this
  rw [show a - b = ((a : Int) - (b : Int) - 0).toNat from by omega]
  exact this

/-! ### Cmp -/
theorem val_lt_len : ∀ {a b : List Int}, Dg a → Dg b → Nz b → a.length < b.length → val a < val b
  | [], b, _, hb, nb, hl => by
    have := val_pos hb nb (by intro h; subst h; simp at hl)
    simp only [val]; omega
  | x :: a, [], _, _, _, hl => by simp at hl
  | x :: a, y :: b, ha, hb, nb, hl => by
    have := val_lt_len ha.tail hb.tail nb.1 (by simpa using hl)
    have := ha.head
    have := hb.head
    simp only [val]; omega
theorem val_top : ∀ {p q s : List Int} {x y : Int}, p.length = q.length → Dg p → Dg q → x < y → val (p ++ x :: s) < val (q ++ y :: s)
  | [], [], s, x, y, _, _, _, h => by simp only [List.nil_append, val]; omega
  | [], _ :: _, _, _, _, h, _, _, _ => by simp at h
  | _ :: _, [], _, _, _, h, _, _, _ => by simp at h
  | c :: p, d :: q, s, x, y, hl, hp, hq, h => by
    have := val_top (s := s) (x := x) (y := y) (by simpa using hl) hp.tail hq.tail h
    have := hp.head
    have := hq.head
    simp only [List.cons_append, val]; omega
theorem split_at {l : List Int} {i : Nat} (h : i < l.length) : l = l.take i ++ rd l (i : Int) :: l.drop (i + 1) := by
  rw [← drop_at h, List.take_append_drop]
theorem cmp_loop {a b : List Int} (ha : Dg a) (hb : Dg b) (hl : a.length = b.length) (sa : Sm a) : ∀ n : Nat, n ≤ a.length → a.drop n = b.drop n →
    Ev (fun k => mintageref01_Cmp.l0 k a b ((n : Int) - 1)) (if val a < val b then -1 else if val a > val b then 1 else 0)
  | 0, _, he => by
    refine Ev.step (fun k => by simp only [mintageref01_Cmp.l0]; rw [if_neg (by omega)]) ?_
    simp only [List.drop_zero] at he
    subst he
    rw [if_neg (by omega), if_neg (by omega)]
    exact Ev.now _
  | n + 1, h, he => by
    have e : (((n + 1 : Nat) : Int) - 1) = (n : Int) := by omega
    rw [e]
    have sa' := split_at (l := a) (i := n) (by omega)
    have sb' := split_at (l := b) (i := n) (by omega)
    rw [he] at sa'
    have hlen : (a.take n).length = (b.take n).length := by simp [hl]
    by_cases h1 : rd a (n : Int) < rd b (n : Int)
    · have hv : val a < val b := by
        have := val_top (s := b.drop (n + 1)) hlen (ha.take n) (hb.take n) h1
        rwa [← sa', ← sb'] at this
      refine Ev.step (fun k => by simp only [mintageref01_Cmp.l0]; rw [if_pos (by omega), if_pos (by omega), if_pos (by omega), if_pos (by omega), if_pos h1]) ?_
      rw [if_pos hv]; exact Ev.now _
    · by_cases h2 : rd a (n : Int) > rd b (n : Int)
      · have hv : val b < val a := by
          have := val_top (s := b.drop (n + 1)) hlen.symm (hb.take n) (ha.take n) h2
          rwa [← sa', ← sb'] at this
        refine Ev.step (fun k => by simp only [mintageref01_Cmp.l0]; rw [if_pos (by omega), if_pos (by omega), if_pos (by omega), if_pos (by omega), if_neg h1, if_pos h2]) ?_
        rw [if_neg (by omega), if_pos hv]; exact Ev.now _
      · refine Ev.step (fun k => by simp only [mintageref01_Cmp.l0]; rw [if_pos (by omega), if_pos (by omega), if_pos (by omega), if_pos (by omega), if_neg h1, if_neg h2, wid (by omega) (by omega)]) ?_
        refine cmp_loop ha hb hl sa n (by omega) ?_
        rw [drop_at (l := a) (i := n) (by omega), drop_at (l := b) (i := n) (by omega), he]
        congr 1; omega
theorem cmp_ev {a b : Nat} (sa : Sm (dig a)) (_sb : Sm (dig b)) : Ev (fun k => mintageref01_Cmp.f k (dig a) (dig b)) (if a < b then -1 else if a > b then 1 else 0) := by
  by_cases hl : (dig a).length = (dig b).length
  · have h := cmp_loop (dig_dg a) (dig_dg b) hl sa (dig a).length (Nat.le_refl _) (by rw [List.drop_length]; rw [hl, List.drop_length])
    rw [val_dig, val_dig] at h
    refine Ev.congr (fun k => by unfold mintageref01_Cmp.f; rw [if_pos (by omega), wid (by omega) (by omega)]) ?_
    simpa using h
  · by_cases h2 : (dig a).length < (dig b).length
    · have := val_lt_len (dig_dg a) (dig_dg b) (dig_nz b) h2
      rw [val_dig, val_dig] at this
      refine Ev.congr (fun k => by unfold mintageref01_Cmp.f; rw [if_neg (by omega), if_pos (by omega)]) ?_
      rw [if_pos (by omega)]; exact Ev.now _
    · have := val_lt_len (dig_dg b) (dig_dg a) (dig_nz a) (by omega)
      rw [val_dig, val_dig] at this
      refine Ev.congr (fun k => by unfold mintageref01_Cmp.f; rw [if_neg (by omega), if_neg (by omega)]) ?_
      rw [if_neg (by omega), if_pos (by omega)]; exact Ev.now _

end Go.Proofs.Ytjefmcfkhalagaa.Big
