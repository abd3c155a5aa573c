/- The printed functions of mintageref01 on canonical digits: products, words, bits, shifts. -/
import Derived.Test.YtjefmcfkhalagaaBigZScaledWrites
import Derived.Test.YtjefmcfkhalagaaQ0ZScaledWrites
import Derived.Test.YtjefmcfkhalagaaQ1ZScaledWrites
namespace Go.Proofs.Ytjefmcfkhalagaa.Big
set_option linter.unusedVariables false
open Go.RowKit Go.Proofs.Ytjefmcfkhalagaa.Q Go.Proofs.YtjefmcfkhalagaaW.PrintWords Go.Proofs.YtjefmcfkhalagaaW.PrintLast

/-! ### Prod -/
theorem mulAdd_nil (x : Int) (b : List Int) (c : Int) : mulAdd x b [] c = [] := by unfold mulAdd; rfl
theorem set_at (pre o : List Int) (z y : Int) (i k : Nat) (h : pre.length = i + k) : (pre ++ z :: o).set (i + k) y = (pre ++ [y]) ++ o := by
  rw [← h, show pre.length = pre.length + 0 from rfl, set_app_right]; simp
theorem rd_at (pre o : List Int) (z : Int) (i k : Nat) (h : pre.length = i + k) : rd (pre ++ z :: o) (((i + k : Nat)) : Int) = z := by
  rw [← h, show pre.length = pre.length + 0 from rfl, rd_app_right]; rfl
theorem prod_step {a b : List Int} (ha : Dg a) (hb : Dg b) (sa : Sm a) (sb : Sm b) {i k : Nat} (hi : i < a.length) (hkb : k < b.length) {pre o : List Int} {z c : Int} (hz : 0 ≤ z ∧ z < 65536) (h0 : 0 ≤ c) (h1 : c < 65536)
    (hp : pre.length = i + k) (hn : (pre ++ z :: o).length ≤ 20000000) {r : List Int}
    (h : Ev (fun n => mintageref01_Prod.l1 n a b ((pre ++ [(c + z + rd a (i : Int) * rd b (k : Int)) % 65536]) ++ o) (i : Int) ((c + z + rd a (i : Int) * rd b (k : Int)) / 65536) ((k + 1 : Nat) : Int)) r) :
    Ev (fun n => mintageref01_Prod.l1 n a b (pre ++ z :: o) (i : Int) c (k : Int)) r := by
  have hlen : (pre ++ z :: o).length = i + k + 1 + o.length := by simp [hp]; omega
  have ew : wrap64 ((i : Int) + (k : Int)) = ((i + k : Nat) : Int) := by rw [wid (by omega) (by omega)]; omega
  have c1 : (0 : Int) ≤ ((i + k : Nat) : Int) := by omega
  have c2 : ((i + k : Nat) : Int) < ((pre ++ z :: o).length : Int) := by omega
  have c3 : (k : Int) < (b.length : Int) := by omega
  have c4 : (0 : Int) ≤ (i : Int) := by omega
  have c5 : (i : Int) < (a.length : Int) := by omega
  have c6 : (0 : Int) ≤ (k : Int) := by omega
  have w5 : wrap64 ((k : Int) + 1) = ((k + 1 : Nat) : Int) := by rw [wid (by omega) (by omega)]; omega
  have hx := ha.rd (i : Int)
  have hy := hb.rd (k : Int)
  have p0 : 0 ≤ rd a (i : Int) * rd b (k : Int) := Int.mul_nonneg hx.1 hy.1
  have p1 : rd a (i : Int) * rd b (k : Int) ≤ 65535 * 65535 := Int.mul_le_mul (by omega) (by omega) hy.1 (by omega)
  have b0 : 0 ≤ c + z ∧ c + z < 200000 := by omega
  have b1 : 0 ≤ c + z + rd a (i : Int) * rd b (k : Int) ∧ c + z + rd a (i : Int) * rd b (k : Int) < 9000000000 := by omega
  have b2 : 0 ≤ (c + z + rd a (i : Int) * rd b (k : Int)) / 65536 ∧ (c + z + rd a (i : Int) * rd b (k : Int)) / 65536 < 9000000000 := by omega
  have w1 := wid (x := c + z) (Int.le_trans (by decide) b0.1) (Int.lt_trans b0.2 (by decide))
  have w2 := wid (x := rd a (i : Int) * rd b (k : Int)) (Int.le_trans (by decide) p0) (Int.lt_of_le_of_lt p1 (by decide))
  have w3 := wid (x := c + z + rd a (i : Int) * rd b (k : Int)) (Int.le_trans (by decide) b1.1) (Int.lt_trans b1.2 (by decide))
  have w4 := wid (x := (c + z + rd a (i : Int) * rd b (k : Int)) / 65536) (Int.le_trans (by decide) b2.1) (Int.lt_trans b2.2 (by decide))
  have t1 := tm (x := c + z + rd a (i : Int) * rd b (k : Int)) (y := 65536) b1.1
  have t2 := td (x := c + z + rd a (i : Int) * rd b (k : Int)) (y := 65536) b1.1
  refine Ev.step (fun n => by simp only [mintageref01_Prod.l1]; rw [if_pos c3]) ?_
  refine Ev.step (fun n => by
    simp only [mintageref01_Prod.j2]
    rw [if_pos trivial, ew, if_pos c1, if_pos c2, if_pos c3, if_pos c4, if_pos c5, if_pos c6, rd_at pre o z i k hp, w1, w2, w3, t1, t2, w4, w5, Int.toNat_natCast, set_at pre o z _ i k hp]) h
theorem prod_carry {a b : List Int} (sa : Sm a) (sb : Sm b) {i k : Nat} (hi : i < a.length) (hkb : b.length ≤ k) {pre o : List Int} {z c : Int} (hz : 0 ≤ z ∧ z < 65536) (h0 : c > 0) (h1 : c < 65536)
    (hp : pre.length = i + k) (hn : (pre ++ z :: o).length ≤ 20000000) {r : List Int}
    (h : Ev (fun n => mintageref01_Prod.l1 n a b ((pre ++ [(c + z) % 65536]) ++ o) (i : Int) ((c + z) / 65536) ((k + 1 : Nat) : Int)) r) :
    Ev (fun n => mintageref01_Prod.l1 n a b (pre ++ z :: o) (i : Int) c (k : Int)) r := by
  have hlen : (pre ++ z :: o).length = i + k + 1 + o.length := by simp [hp]; omega
  have ew : wrap64 ((i : Int) + (k : Int)) = ((i + k : Nat) : Int) := by rw [wid (by omega) (by omega)]; omega
  have c1 : (0 : Int) ≤ ((i + k : Nat) : Int) := by omega
  have c2 : ((i + k : Nat) : Int) < ((pre ++ z :: o).length : Int) := by omega
  have c3 : ¬ (k : Int) < (b.length : Int) := by omega
  have w5 : wrap64 ((k : Int) + 1) = ((k + 1 : Nat) : Int) := by rw [wid (by omega) (by omega)]; omega
  have b1 : 0 ≤ c + z ∧ c + z < 9000000000 := by omega
  have b2 : 0 ≤ (c + z) / 65536 ∧ (c + z) / 65536 < 9000000000 := by omega
  have w3 := wid (x := c + z) (Int.le_trans (by decide) b1.1) (Int.lt_trans b1.2 (by decide))
  have w4 := wid (x := (c + z) / 65536) (Int.le_trans (by decide) b2.1) (Int.lt_trans b2.2 (by decide))
  have t1 := tm (x := c + z) (y := 65536) b1.1
  have t2 := td (x := c + z) (y := 65536) b1.1
  have dc : decide (c > 0) = true := decide_eq_true h0
  refine Ev.step (fun n => by simp only [mintageref01_Prod.l1]; rw [if_neg c3, dc]) ?_
  refine Ev.step (fun n => by
    simp only [mintageref01_Prod.j2]
    rw [if_pos trivial, ew, if_pos c1, if_pos c2, if_neg c3, rd_at pre o z i k hp, w3, t1, t2, w4, w5, Int.toNat_natCast, set_at pre o z _ i k hp]) h
theorem prod_inner {a b : List Int} (ha : Dg a) (hb : Dg b) (sa : Sm a) (sb : Sm b) {i : Nat} (hi : i < a.length) {r : List Int}
    : ∀ (o : List Int) (k : Nat) (pre : List Int) (c : Int), pre.length = i + k → Dg o → 0 ≤ c → c < 65536 → (b.drop k).length ≤ o.length → (pre ++ o).length ≤ 20000000 → val o + rd a (i : Int) * val (b.drop k) + c < 65536 ^ o.length →
    (Ev (fun n => mintageref01_Prod.l0 n a b (pre ++ mulAdd (rd a (i : Int)) (b.drop k) o c) ((i + 1 : Nat) : Int)) r) →
    Ev (fun n => mintageref01_Prod.l1 n a b (pre ++ o) (i : Int) c (k : Int)) r := by
  have hx := ha.rd (i : Int)
  have hs := hi
  intro o
  induction o with
  | nil =>
    intro k pre c hp ho h0 h1 hl hn hv hk
    have db : b.drop k = [] := List.eq_nil_of_length_eq_zero (by simpa using hl)
    have hkb : b.length ≤ k := by simpa using db
    rw [db] at hv
    simp only [val, List.length_nil, Int.pow_zero] at hv
    have c0 : c = 0 := by omega
    subst c0
    rw [mulAdd_nil] at hk
    refine Ev.step (fun n => by simp only [mintageref01_Prod.l1]; rw [if_neg (by omega)]) ?_
    refine Ev.step (fun n => by simp only [mintageref01_Prod.j2]; rw [if_neg (by decide), wid (by omega) (by omega), show ((i : Int) + 1) = ((i + 1 : Nat) : Int) from by omega]) ?_
    exact hk
  | cons z o ih =>
    intro k pre c hp ho h0 h1 hl hn hv hk
    have hz := ho.head
    have hlen : (pre ++ z :: o).length = i + k + 1 + o.length := by simp [hp]; omega
    by_cases hkb : k < b.length
    · have hy := hb.rd (k : Int)
      have p0 : 0 ≤ rd a (i : Int) * rd b (k : Int) := Int.mul_nonneg hx.1 hy.1
      have p1 : rd a (i : Int) * rd b (k : Int) ≤ 65535 * 65535 := Int.mul_le_mul (by omega) (by omega) hy.1 (by omega)
      rw [drop_at hkb] at hk hv hl
      rw [mulAdd] at hk
      simp only [val, List.length_cons, Int.pow_succ] at hv
      have e : rd a (i : Int) * (rd b (k : Int) + 65536 * val (b.drop (k + 1))) = rd a (i : Int) * rd b (k : Int) + 65536 * (rd a (i : Int) * val (b.drop (k + 1))) := by grind
      rw [e] at hv
      refine prod_step ha hb sa sb hs hkb hz h0 h1 hp hn ?_
      simp only [List.length_cons] at hl
      refine ih (k + 1) (pre ++ [(c + z + rd a (i : Int) * rd b (k : Int)) % 65536]) ((c + z + rd a (i : Int) * rd b (k : Int)) / 65536) (by simp [hp]; omega) ho.tail (by omega) (by omega) (by omega) (by simp at hn ⊢; omega) (by omega) ?_
      simpa [List.append_assoc] using hk
    · have db : b.drop k = [] := List.drop_eq_nil_of_le (by omega)
      have db' : b.drop (k + 1) = [] := List.drop_eq_nil_of_le (by omega)
      rw [db] at hk hv
      rw [mulAdd] at hk
      by_cases hc : c > 0
      · rw [if_pos hc] at hk
        simp only [val, List.length_cons, Int.pow_succ] at hv
        refine prod_carry sa sb hs (by omega) hz hc h1 hp hn ?_
        refine ih (k + 1) (pre ++ [(c + z) % 65536]) ((c + z) / 65536) (by simp [hp]; omega) ho.tail (by omega) (by omega) (by rw [db']; simp) (by simp at hn ⊢; omega) (by rw [db']; simp only [val]; omega) ?_
        rw [db']
        simpa [List.append_assoc] using hk
      · rw [if_neg hc] at hk
        refine Ev.step (fun n => by simp only [mintageref01_Prod.l1]; rw [if_neg (by omega)]) ?_
        refine Ev.step (fun n => by simp only [mintageref01_Prod.j2]; rw [if_neg (by simpa using hc), wid (by omega) (by omega), show ((i : Int) + 1) = ((i + 1 : Nat) : Int) from by omega]) ?_
        exact hk
theorem prod_loop {a b : List Int} (ha : Dg a) (hb : Dg b) (sa : Sm a) (sb : Sm b) : ∀ (d i : Nat) (pre o : List Int), i + d = a.length → pre.length = i → Dg pre → Dg o → d + b.length ≤ o.length → (pre ++ o).length ≤ 10000000 →
    val o + val (a.drop i) * val b < 65536 ^ o.length →
    Ev (fun n => mintageref01_Prod.l0 n a b (pre ++ o) (i : Int)) (dig (val (pre ++ prodC b (a.drop i) o)).toNat) := by
  intro d
  induction d with
  | zero =>
    intro i pre o hi hp hg ho hl hn hv
    have da : a.drop i = [] := List.drop_eq_nil_of_le (by omega)
    rw [da]
    refine Ev.step (fun n => by simp only [mintageref01_Prod.l0]; rw [if_neg (by omega)]) ?_
    simp only [prodC]
    exact Ev.bind (trim_ev (hg.app ho) hn) (Ev.now _)
  | succ d ih =>
    intro i pre o hi hp hg ho hl hn hv
    have hia : i < a.length := by omega
    have hx := ha.rd (i : Int)
    rw [drop_at hia] at hv ⊢
    have hbn := val_nonneg hb
    have han := val_nonneg (ha.drop (i + 1))
    simp only [val] at hv
    have e : (rd a (i : Int) + 65536 * val (a.drop (i + 1))) * val b = rd a (i : Int) * val b + 65536 * (val (a.drop (i + 1)) * val b) := by grind
    rw [e] at hv
    have hpn : 0 ≤ val (a.drop (i + 1)) * val b := Int.mul_nonneg han hbn
    have hv1 : val o + rd a (i : Int) * val b + 0 < 65536 ^ o.length := by omega
    obtain ⟨m1, m2, m3⟩ := mulAdd_all (rd a (i : Int)) hx b o 0 hb ho (by omega) (by omega) (by omega) hv1
    refine Ev.step (fun n => by simp only [mintageref01_Prod.l0]; rw [if_pos (by omega)]) ?_
    refine prod_inner ha hb sa sb hia o 0 pre 0 (by omega) ho (by omega) (by omega) (by simp; omega) (by omega) (by simpa using hv1) ?_
    simp only [List.drop_zero]
    rw [prodC]
    cases hm : mulAdd (rd a (i : Int)) b o 0 with
    | nil => rw [hm] at m2; simp at m2; omega
    | cons h t =>
      rw [hm] at m1 m2 m3
      simp only [val] at m3
      simp only [List.length_cons] at m2
      rw [← m2, Int.pow_succ] at hv
      have hh := m1.head
      have := ih (i + 1) (pre ++ [h]) t (by omega) (by simp [hp]) (hg.app (Dg.cons hh.1 hh.2 Dg.nil)) m1.tail (by omega) (by simp at hn ⊢; omega) (by omega)
      simpa [List.append_assoc] using this
theorem prod_ev {a b : Nat} (sa : (dig a).length ≤ 4000000) (sb : (dig b).length ≤ 4000000) : Ev (fun k => mintageref01_Prod.f k (dig a) (dig b)) (dig (a * b)) := by
  have e : wrap64 (((dig a).length : Int) + ((dig b).length : Int)) = (((dig a).length + (dig b).length : Nat) : Int) := by rw [wid (by omega) (by omega)]; omega
  have hv : val (dig a) * val (dig b) < 65536 ^ ((dig a).length + (dig b).length) := by
    rw [Int.pow_add]
    have h1 := val_lt (dig_dg a)
    have h2 := val_lt (dig_dg b)
    have h3 := val_nonneg (dig_dg a)
    have h4 := val_nonneg (dig_dg b)
    have p1 : (0 : Int) < 65536 ^ (dig a).length := Int.pow_pos (by decide)
    exact Int.lt_of_le_of_lt (Int.mul_le_mul_of_nonneg_right (Int.le_of_lt h1) h4) (Int.mul_lt_mul_of_pos_left h2 p1)
  have hb' : val (List.replicate ((dig a).length + (dig b).length) 0) + val (dig a) * val (dig b) < 65536 ^ (List.replicate ((dig a).length + (dig b).length) (0 : Int)).length := by
    rw [val_rep, List.length_replicate]; omega
  have h := prod_loop (dig_dg a) (dig_dg b) (by unfold Sm; omega) (by unfold Sm; omega) (dig a).length 0 [] (List.replicate ((dig a).length + (dig b).length) 0) (by omega) rfl Dg.nil (Dg.rep _) (by simp) (by simp; omega) (by simpa using hb')
  simp only [List.nil_append, List.drop_zero] at h
  obtain ⟨-, -, p3⟩ := prodC_all (dig b) (dig_dg b) (dig a) (List.replicate ((dig a).length + (dig b).length) 0) (dig_dg a) (Dg.rep _) (by simp) hb'
  rw [p3, val_rep, val_dig, val_dig, show ((0 : Int) + (a : Int) * (b : Int)).toNat = a * b from by rw [Int.zero_add, ← Int.natCast_mul, Int.toNat_natCast]] at h
  refine Ev.congr (fun k => by unfold mintageref01_Prod.f; rw [e, if_pos (by omega), Int.toNat_natCast, if_pos (by omega)]) ?_
  exact h

/-! ### Bits -/
theorem bits_loop : ∀ (d n x : Nat), x < 2 ^ d → d ≤ 60 → n + d ≤ 1000000000 → Ev (fun k => mintageref01_Bits.l0 k (n : Int) (x : Int)) ((n + bl x : Nat) : Int)
  | 0, n, x, h, _, _ => by
    have : x = 0 := by simpa using h
    subst this
    refine Ev.step (fun k => by simp only [mintageref01_Bits.l0]; rw [if_neg (by omega)]) ?_
    rw [bl_zero]; exact Ev.now _
  | d + 1, n, x, h, hd, hn => by
    by_cases hx : x = 0
    · subst hx
      refine Ev.step (fun k => by simp only [mintageref01_Bits.l0]; rw [if_neg (by omega)]) ?_
      rw [bl_zero]; exact Ev.now _
    · have hb : (2 : Nat) ^ (d + 1) ≤ 2 ^ 60 := Nat.pow_le_pow_right (by decide) hd
      have hb' : (2 : Nat) ^ 60 = 1152921504606846976 := rfl
      have hbig : (x : Int) < 9223372036854775808 := by omega
      have : True := trivial
      refine Ev.step (fun k => by
          simp only [mintageref01_Bits.l0]
          rw [if_pos (by omega), wid (x := (n : Int) + 1) (by omega) (by omega), td (by omega), show (x : Int) / 2 = ((x / 2 : Nat) : Int) from by omega, wid (x := ((x / 2 : Nat) : Int)) (by omega) (by omega), show (n : Int) + 1 = ((n + 1 : Nat) : Int) from by omega]) ?_
      have := bits_loop d (n + 1) (x / 2) (by clear hb hb' hbig; rw [Nat.pow_succ] at h; omega) (by omega) (by omega)
      rw [bl_pos hx, show n + (bl (x / 2) + 1) = n + 1 + bl (x / 2) from by omega]
      exact this
theorem bl_top : ∀ {l : List Int}, Dg l → Nz l → l ≠ [] → bl (val l).toNat = 16 * (l.length - 1) + bl (rd l ((l.length - 1 : Nat) : Int)).toNat
  | [], _, _, h => absurd rfl h
  | [d], h, _, _ => by simp [val, rd]
  | d :: e :: l, h, hz, _ => by
    have ih := bl_top h.tail hz.1 (by simp)
    have hp := val_pos h.tail hz.1 (by simp)
    have h0 := h.head
    have e1 : (val (d :: e :: l)).toNat / 2 ^ 16 = (val (e :: l)).toNat := by
      have : val (d :: e :: l) = d + 65536 * val (e :: l) := rfl
      rw [this]; omega
    rw [bl_div 16 (val (d :: e :: l)).toNat (by rw [e1]; omega), e1, ih]
    have e2 : rd (d :: e :: l) (((d :: e :: l).length - 1 : Nat) : Int) = rd (e :: l) (((e :: l).length - 1 : Nat) : Int) := by
      simp [rd]
    rw [e2]; simp only [List.length_cons]; omega
theorem bits_ev {a : Nat} (sa : Sm (dig a)) : Ev (fun k => mintageref01_Bits.f k (dig a)) (bl a : Int) := by
  by_cases h : a = 0
  · subst h
    rw [dig_zero, bl_zero]
    refine Ev.congr (fun k => by unfold mintageref01_Bits.f; rw [if_pos (by simp)]; rfl) (Ev.now _)
  · have hne : dig a ≠ [] := fun he => h (dig_eq_nil.1 he)
    have hl : 0 < (dig a).length := List.length_pos_iff.2 hne
    have ht := bl_top (dig_dg a) (dig_nz a) hne
    rw [val_dig, Int.toNat_natCast] at ht
    have hr := (dig_dg a).rd (((dig a).length - 1 : Nat) : Int)
    have e1 : wrap64 (((dig a).length : Int) - 1) = (((dig a).length - 1 : Nat) : Int) := by rw [wid (by omega) (by omega)]; omega
    refine Ev.congr (fun k => by
      unfold mintageref01_Bits.f
      rw [if_neg (by omega), e1, if_pos (by omega), if_pos (by omega), wid (by omega) (by omega), show 16 * (((dig a).length - 1 : Nat) : Int) = ((16 * ((dig a).length - 1) : Nat) : Int) from by omega,
        show rd (dig a) (((dig a).length - 1 : Nat) : Int) = (((rd (dig a) (((dig a).length - 1 : Nat) : Int)).toNat : Nat) : Int) from by omega]) ?_
    rw [ht]
    exact bits_loop 16 _ _ (by omega) (by omega) (by omega)

/-! ### Words -/
def wrd (n : Nat) : List Int := if h : n = 0 then [] else ((n % 18446744073709551616 : Nat) : Int) :: wrd (n / 18446744073709551616)
decreasing_by omega
theorem wrd_zero : wrd 0 = [] := by rw [wrd]; simp
theorem wrd_pos {n : Nat} (h : n ≠ 0) : wrd n = ((n % 18446744073709551616 : Nat) : Int) :: wrd (n / 18446744073709551616) := by rw [wrd]; simp [h]
theorem Nz.drop : ∀ {l : List Int} (n : Nat), Nz l → Nz (l.drop n)
  | l, 0, h => by simpa using h
  | [], n + 1, h => by simpa using h
  | d :: l, n + 1, h => by simpa using Nz.drop (l := l) n h.1
theorem val_drop1 {l : List Int} (i : Nat) (h : Dg l) : val (l.drop i) = rd l (i : Int) + 65536 * val (l.drop (i + 1)) := by
  by_cases hi : i < l.length
  · rw [drop_at hi]; rfl
  · rw [List.drop_eq_nil_of_le (by omega), List.drop_eq_nil_of_le (by omega), rd_out (by omega)]; rfl
theorem words_one {l : List Int} (hd : Dg l) (hs : Sm l) {i j : Nat} {x : Int} (hx : 0 ≤ x) (hx' : x < 281474976710656) (hj : j ≤ 3) {out r : List Int}
    (h : Ev (fun k => mintageref01_Words.l1 k l out (i : Int) (x * 65536 + rd l ((i + j : Nat) : Int)) ((j : Int) - 1)) r) (hi : i ≤ l.length) :
    Ev (fun k => mintageref01_Words.l1 k l out (i : Int) x (j : Int)) r := by
  have hr := hd.rd ((i + j : Nat) : Int)
  have e : wrap64 ((i : Int) + (j : Int)) = ((i + j : Nat) : Int) := by rw [wid (by omega) (by omega)]; omega
  by_cases hlt : i + j < l.length
  · refine Ev.step (fun k => by
      simp only [mintageref01_Words.l1]
      rw [if_pos (by omega), e, if_pos (by omega), if_pos (by omega), uw (x := x * 65536) (by omega) (by omega), uw (x := rd l ((i + j : Nat) : Int)) (by omega) (by omega), uw (by omega) (by omega), wid (x := (j : Int) - 1) (by omega) (by omega)]) h
  · rw [rd_out (l := l) (i := ((i + j : Nat) : Int)) (by omega), Int.add_zero] at h
    refine Ev.step (fun k => by
      simp only [mintageref01_Words.l1]
      rw [if_pos (by omega), e, if_neg (by omega), uw (x := x * 65536) (by omega) (by omega), wid (x := (j : Int) - 1) (by omega) (by omega)]) h
theorem words_loop {l : List Int} (hd : Dg l) (hz : Nz l) (hs : Sm l) : ∀ (d i : Nat) (out : List Int), l.length ≤ i + 4 * d → out.length ≤ i → i ≤ l.length + 4 → Ev (fun k => mintageref01_Words.l0 k l out (i : Int)) (out ++ wrd (val (l.drop i)).toNat)
  | d, i, out, h, ho, hi => by
    by_cases hlt : i < l.length
    · cases d with
      | zero => omega
      | succ d =>
        have r0 := hd.rd ((i + 0 : Nat) : Int)
        have r1 := hd.rd ((i + 1 : Nat) : Int)
        have r2 := hd.rd ((i + 2 : Nat) : Int)
        have r3 := hd.rd ((i + 3 : Nat) : Int)
        have v0 := val_drop1 i hd
        have v1 := val_drop1 (i + 1) hd
        have v2 := val_drop1 (i + 2) hd
        have v3 := val_drop1 (i + 3) hd
        have hn := val_nonneg (hd.drop (i + 4))
        have hp := val_pos (hd.drop i) (hz.drop i) (by rw [drop_at hlt]; simp)
        refine Ev.step (fun k => by simp only [mintageref01_Words.l0]; rw [if_pos (by omega)]) ?_
        refine words_one (j := 3) hd hs (by omega) (by omega) (by omega) ?_ (by omega)
        refine words_one (j := 2) hd hs (by omega) (by omega) (by omega) ?_ (by omega)
        refine words_one (j := 1) hd hs (by omega) (by omega) (by omega) ?_ (by omega)
        refine words_one (j := 0) hd hs (by omega) (by omega) (by omega) ?_ (by omega)
        refine Ev.step (fun k => by simp only [mintageref01_Words.l1]; rw [if_neg (by omega), if_pos (by omega), wid (by omega) (by omega), show (i : Int) + 4 = ((i + 4 : Nat) : Int) from by omega]) ?_
        have := words_loop hd hz hs d (i + 4) (out ++ [(((0 * 65536 + rd l ((i + 3 : Nat) : Int)) * 65536 + rd l ((i + 2 : Nat) : Int)) * 65536 + rd l ((i + 1 : Nat) : Int)) * 65536 + rd l ((i + 0 : Nat) : Int)]) (by omega) (by simp; omega) (by omega)
        rw [wrd_pos (n := (val (l.drop i)).toNat) (by omega)]
        have e1 : ((((0 * 65536 + rd l ((i + 3 : Nat) : Int)) * 65536 + rd l ((i + 2 : Nat) : Int)) * 65536 + rd l ((i + 1 : Nat) : Int)) * 65536 + rd l ((i + 0 : Nat) : Int)) = (((val (l.drop i)).toNat % 18446744073709551616 : Nat) : Int) := by
          simp only [Nat.add_zero] at *
          rw [show i + 1 + 1 = i + 2 from rfl] at v1
          rw [show i + 2 + 1 = i + 3 from rfl] at v2
          rw [show i + 3 + 1 = i + 4 from rfl] at v3
          omega
        have e2 : (val (l.drop (i + 4))).toNat = (val (l.drop i)).toNat / 18446744073709551616 := by
          simp only [Nat.add_zero] at *
          rw [show i + 1 + 1 = i + 2 from rfl] at v1
          rw [show i + 2 + 1 = i + 3 from rfl] at v2
          rw [show i + 3 + 1 = i + 4 from rfl] at v3
          omega
        rw [e1, e2, List.append_assoc] at this
        rw [e1]
        exact this
    · refine Ev.step (fun k => by simp only [mintageref01_Words.l0]; rw [if_neg (by omega)]) ?_
      rw [List.drop_eq_nil_of_le (by omega)]
      simp only [val]
      rw [show (0 : Int).toNat = 0 from rfl, wrd_zero, List.append_nil]
      exact Ev.now _
theorem words_ev {a : Nat} (sa : Sm (dig a)) : Ev (fun k => mintageref01_Words.f k (dig a)) (wrd a) := by
  have := words_loop (dig_dg a) (dig_nz a) sa (dig a).length 0 [] (by omega) (by simp) (by omega)
  simp only [List.drop_zero, List.nil_append, val_dig, Int.toNat_natCast] at this
  exact this
theorem rd_wrd : ∀ (j n m : Nat), rd (wrd n ++ List.replicate m 0) (j : Int) = ((n / 18446744073709551616 ^ j % 18446744073709551616 : Nat) : Int)
  | 0, n, m => by
    by_cases h : n = 0
    · subst h; rw [wrd_zero]; cases m <;> simp [rd, List.replicate_succ]
    · rw [wrd_pos h]; simp [rd]
  | j + 1, n, m => by
    by_cases h : n = 0
    · subst h
      rw [wrd_zero, List.nil_append]
      simp [rd, List.getD_eq_getElem?_getD]
      by_cases hj : j + 1 < m
      · simp [hj]
      · simp [hj]
    · have := rd_wrd j (n / 18446744073709551616) m
      rw [wrd_pos h, List.cons_append]
      rw [Nat.pow_succ, Nat.mul_comm, ← Nat.div_div_eq_div_mul, ← this]
      simp [rd]
theorem wrd_len (n : Nat) : (wrd n).length ≤ (dig n).length := by
  induction n using Nat.strongRecOn with
  | _ n ih =>
    by_cases h : n = 0
    · subst h; rw [wrd_zero]; simp
    · rw [wrd_pos h, dig_pos h, List.length_cons, List.length_cons]
      have h1 := ih (n / 18446744073709551616) (by omega)
      have h2 : (dig (n / 18446744073709551616)).length ≤ (dig (n / 65536)).length := by
        have hl := val_lt (dig_dg (n / 65536))
        rw [val_dig] at hl
        refine dig_len ?_
        have : ((n / 18446744073709551616 : Nat) : Int) < 65536 ^ (dig (n / 65536)).length := by
          have : n / 18446744073709551616 ≤ n / 65536 := by omega
          omega
        have e : ((65536 ^ (dig (n / 65536)).length : Nat) : Int) = 65536 ^ (dig (n / 65536)).length := by simp
        omega
      omega


end Go.Proofs.Ytjefmcfkhalagaa.Big
