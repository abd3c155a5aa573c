/- The document's long division, bit by bit. -/
import Derived.Test.YtjefmcfkhalagaaBigbZScaledWrites
import Derived.Test.YtjefmcfkhalagaaQ1ZScaledWrites
namespace Go.Proofs.Ytjefmcfkhalagaa.Big
set_option linter.unusedVariables false
set_option linter.unusedSimpArgs false
open Go.RowKit Go.Proofs.Ytjefmcfkhalagaa.Q Go.Proofs.YtjefmcfkhalagaaW.PrintWords Go.Proofs.YtjefmcfkhalagaaW.PrintLast

theorem rd_dig : ∀ (j n : Nat), rd (dig n) (j : Int) = ((n / 65536 ^ j % 65536 : Nat) : Int)
  | 0, n => by
    by_cases h : n = 0
    · subst h; rw [dig_zero]; rfl
    · rw [dig_pos h]; simp [rd]
  | j + 1, n => by
    by_cases h : n = 0
    · subst h
      rw [dig_zero]
      simp [rd]
    · have := rd_dig j (n / 65536)
      rw [dig_pos h]
      rw [Nat.pow_succ, Nat.mul_comm, ← Nat.div_div_eq_div_mul, ← this]
      simp [rd]
theorem val_set : ∀ (l : List Int) (i : Nat) (y : Int), i < l.length → val (l.set i y) = val l + 65536 ^ i * (y - rd l (i : Int))
  | [], i, y, h => absurd h (by simp)
  | d :: l, 0, y, h => by
    show y + 65536 * val l = d + 65536 * val l + 65536 ^ 0 * (y - d)
    rw [Int.pow_zero]; omega
  | d :: l, i + 1, y, h => by
    have ih := val_set l i y (by simpa using h)
    have e : rd (d :: l) ((i + 1 : Nat) : Int) = rd l (i : Int) := by simp [rd]
    rw [e]
    show d + 65536 * val (l.set i y) = d + 65536 * val l + 65536 ^ (i + 1) * (y - rd l (i : Int))
    rw [ih, Int.pow_succ, Int.mul_add, Int.mul_comm (65536 ^ i) 65536, Int.mul_assoc]; omega
theorem Dg.set {l : List Int} (h : Dg l) (i : Nat) {y : Int} (h0 : 0 ≤ y) (h1 : y < 65536) : Dg (l.set i y) := fun x hx => by
  rcases List.mem_or_eq_of_mem_set hx with q | rfl
  · exact h x q
  · exact ⟨h0, h1⟩
theorem rd_set {l : List Int} {i j : Nat} (hi : i < l.length) (y : Int) : rd (l.set i y) (j : Int) = if j = i then y else rd l (j : Int) := by
  unfold rd
  rw [Int.toNat_natCast, List.getD_eq_getElem?_getD, List.getD_eq_getElem?_getD]
  by_cases q : j = i
  · subst q
    rw [if_pos rfl, List.getElem?_set_self hi]; rfl
  · rw [if_neg q, List.getElem?_set_ne (fun e => q e.symm)]
/-- What is still 0 in the answer's digits. -/
def Lz (q : List Int) (m : Nat) : Prop := ∀ j : Nat, rd q (j : Int) % 2 ^ (min 16 (m - 16 * j)) = 0
theorem bit_aux (x s : Nat) (h : x < 65536) : Int.tmod (wrap64 (Int.tdiv (x : Int) (s : Int))) 2 = ((x / s % 2 : Nat) : Int) := by
  have h3 : x / s ≤ x := Nat.div_le_self _ _
  rw [td (Int.natCast_nonneg _), ← Int.natCast_ediv]
  generalize x / s = y at h3 ⊢
  rw [wid (by omega) (by omega), tm (Int.natCast_nonneg _)]
  rfl
theorem bit_of (a m : Nat) : Int.tmod (wrap64 (Int.tdiv (rd (dig a) ((m / 16 : Nat) : Int)) ((2 ^ (m % 16) : Nat) : Int))) 2 = ((a / 2 ^ m % 2 : Nat) : Int) := by
  rw [rd_dig]
  have hs : m % 16 < 16 := Nat.mod_lt _ (by decide)
  have h1 : a / 65536 ^ (m / 16) % 65536 / 2 ^ (m % 16) % 2 = a / 2 ^ m % 2 := by
    have e1 : (65536 : Nat) = 2 ^ (m % 16) * 2 ^ (16 - m % 16) := by rw [← Nat.pow_add, show m % 16 + (16 - m % 16) = 16 by omega]
    have e2 : a / 65536 ^ (m / 16) % 65536 / 2 ^ (m % 16) = a / 65536 ^ (m / 16) / 2 ^ (m % 16) % 2 ^ (16 - m % 16) := by
      conv => lhs; rw [show (65536 : Nat) = 2 ^ (m % 16) * 2 ^ (16 - m % 16) from e1]
      rw [← e1]
      have := Nat.mod_mul_right_div_self (a / 65536 ^ (m / 16)) (2 ^ (m % 16)) (2 ^ (16 - m % 16))
      rw [← e1] at this
      exact this
    rw [e2, Nat.mod_mod_of_dvd _ (by
      refine ⟨2 ^ (15 - m % 16), ?_⟩
      rw [← Nat.pow_succ', show (15 - m % 16).succ = 16 - m % 16 by omega]), Nat.div_div_eq_div_mul]
    have e3 : 65536 ^ (m / 16) * 2 ^ (m % 16) = 2 ^ m := by
      rw [show (65536 : Nat) = 2 ^ 16 from rfl, ← Nat.pow_mul, ← Nat.pow_add]
      congr 1; omega
    rw [e3]
  have h2 : a / 65536 ^ (m / 16) % 65536 < 65536 := Nat.mod_lt _ (by decide)
  rw [← h1]
  exact bit_aux _ _ h2
theorem dig_mono {x y : Nat} (h : x ≤ y) : (dig x).length ≤ (dig y).length := by
  refine dig_len ?_
  have hl := val_lt (dig_dg y)
  rw [val_dig] at hl
  have e : ((65536 ^ (dig y).length : Nat) : Int) = 65536 ^ (dig y).length := by simp
  omega
theorem dig_twice {x y : Nat} (h : x ≤ 2 * y + 1) : (dig x).length ≤ (dig y).length + 1 := by
  refine dig_len ?_
  have hl := val_lt (dig_dg y)
  rw [val_dig] at hl
  have e : ((65536 ^ (dig y).length : Nat) : Int) = 65536 ^ (dig y).length := by simp
  rw [Nat.pow_succ]
  omega
theorem Lz.less {q : List Int} {m : Nat} (h : Lz q (m + 1)) : Lz q m := fun j => by
  have := h j
  have hd : (2 : Int) ^ (min 16 (m - 16 * j)) ∣ 2 ^ (min 16 (m + 1 - 16 * j)) := ⟨2 ^ (min 16 (m + 1 - 16 * j) - min 16 (m - 16 * j)), by rw [← Int.pow_add]; congr 1; omega⟩
  have h2 := Int.dvd_of_emod_eq_zero this
  exact Int.emod_eq_zero_of_dvd (Int.dvd_trans hd h2)
theorem Lz.room {q : List Int} {m : Nat} (h : Lz q (m + 1)) (hq : Dg q) : 0 ≤ rd q ((m / 16 : Nat) : Int) + 2 ^ (m % 16) ∧ rd q ((m / 16 : Nat) : Int) + 2 ^ (m % 16) < 65536 := by
  have hr := hq.rd ((m / 16 : Nat) : Int)
  have h1 := h (m / 16)
  rw [show min 16 (m + 1 - 16 * (m / 16)) = m % 16 + 1 by omega] at h1
  have hs : m % 16 < 16 := Nat.mod_lt _ (by decide)
  generalize rd q ((m / 16 : Nat) : Int) = x at hr h1 ⊢
  generalize m % 16 = s at hs h1 ⊢
  have hc : s = 0 ∨ s = 1 ∨ s = 2 ∨ s = 3 ∨ s = 4 ∨ s = 5 ∨ s = 6 ∨ s = 7 ∨ s = 8 ∨ s = 9 ∨ s = 10 ∨ s = 11 ∨ s = 12 ∨ s = 13 ∨ s = 14 ∨ s = 15 := by omega
  rcases hc with rfl | rfl | rfl | rfl | rfl | rfl | rfl | rfl | rfl | rfl | rfl | rfl | rfl | rfl | rfl | rfl <;> simp only [Nat.reduceAdd, Int.reducePow] at h1 ⊢ <;> omega
theorem Lz.set {q : List Int} {m : Nat} (h : Lz q (m + 1)) (hm : m / 16 < q.length) : Lz (q.set (m / 16) (rd q ((m / 16 : Nat) : Int) + 2 ^ (m % 16))) m := fun j => by
  rw [rd_set hm]
  by_cases e : j = m / 16
  · rw [if_pos e]
    have h2 := h.less (m / 16)
    rw [e]
    rw [show min 16 (m - 16 * (m / 16)) = m % 16 by omega] at h2 ⊢
    rw [Int.add_emod_right]; exact h2
  · rw [if_neg e]; exact h.less j
theorem pow_cut (m : Nat) : (65536 : Int) ^ (m / 16) * 2 ^ (m % 16) = 2 ^ m := by
  rw [show (65536 : Int) = 2 ^ 16 from rfl, ← Int.pow_mul, ← Int.pow_add]
  congr 1; omega
theorem div_step {A b bit : Nat} (hb : 0 < b) (hbit : bit < 2) :
    (2 * (A % b) + bit < b → (2 * A + bit) / b = 2 * (A / b) ∧ (2 * A + bit) % b = 2 * (A % b) + bit) ∧
    (¬ 2 * (A % b) + bit < b → (2 * A + bit) / b = 2 * (A / b) + 1 ∧ (2 * A + bit) % b = 2 * (A % b) + bit - b) := by
  have h0 := Nat.div_add_mod A b
  have h1 := Nat.mod_lt A hb
  have h2 : b * (2 * (A / b)) = 2 * (b * (A / b)) := by rw [Nat.mul_left_comm]
  refine ⟨fun h => (Nat.div_mod_unique hb).2 ⟨?_, h⟩, fun h => (Nat.div_mod_unique hb).2 ⟨?_, by omega⟩⟩
  · rw [h2]; omega
  · rw [Nat.mul_add, h2]; omega
theorem bl_len (a : Nat) : bl a ≤ 16 * (dig a).length := by
  have h1 := val_lt (dig_dg a)
  rw [val_dig] at h1
  have h2 : a < 2 ^ (16 * (dig a).length) := by
    have e1 : (65536 : Int) ^ (dig a).length = 2 ^ (16 * (dig a).length) := by rw [show (65536 : Int) = 2 ^ 16 from rfl, ← Int.pow_mul]
    have : ((2 ^ (16 * (dig a).length) : Nat) : Int) = 2 ^ (16 * (dig a).length) := by simp
    omega
  exact (bl_le_iff a _).2 h2
theorem ix {m : Nat} (h : m < 16000000) : Int.tdiv (m : Int) 16 = ((m / 16 : Nat) : Int) ∧ Int.tmod (m : Int) 16 = ((m % 16 : Nat) : Int) ∧ wrap64 ((m / 16 : Nat) : Int) = ((m / 16 : Nat) : Int) ∧ wrap64 ((m : Int) - 1) = (m : Int) - 1 ∧ m % 16 ≤ 15 :=
  ⟨by rw [td (by omega)]; omega, by rw [tm (by omega)]; omega, wid (by omega) (by omega), wid (by omega) (by omega), by omega⟩
theorem two_loopo (n : Nat) (hn : n ≤ 15) : ∀ (d i : Nat), i + d = n → Ev (fun k => mintageref01_two.l0 k (n : Int) ((2 ^ i : Nat) : Int) (i : Int)) ((2 ^ n : Nat) : Int)
  | 0, i, h => by
    obtain rfl : i = n := by omega
    refine Ev.step (fun k => by simp only [mintageref01_two.l0]; rw [if_neg (by omega)]) (Ev.now _)
  | d + 1, i, h => by
    have hp : 2 ^ i ≤ 2 ^ 15 := Nat.pow_le_pow_right (by decide) (by omega)
    have hp' : (2 : Nat) ^ 15 = 32768 := rfl
    have ih := two_loopo n hn d (i + 1) (by omega)
    rw [Nat.pow_succ] at ih
    generalize 2 ^ i = p at *
    refine Ev.step (fun k => by
      simp only [mintageref01_two.l0]
      rw [if_pos (by omega), wid (x := 2 * (p : Int)) (by omega) (by omega), wid (x := (i : Int) + 1) (by omega) (by omega), show 2 * (p : Int) = ((p * 2 : Nat) : Int) from by omega,
        show (i : Int) + 1 = ((i + 1 : Nat) : Int) from by omega]) ih
theorem two_evo {n : Nat} (hn : n ≤ 15) : Ev (fun k => mintageref01_two.f k (n : Int)) ((2 ^ n : Nat) : Int) := two_loopo n hn n 0 (by omega)
theorem top_bit (a m : Nat) : a / 2 ^ m = 2 * (a / 2 ^ (m + 1)) + a / 2 ^ m % 2 := by
  rw [Nat.pow_succ, ← Nat.div_div_eq_div_mul]
  generalize a / 2 ^ m = x
  omega
theorem two16 {m : Nat} : 0 < 2 ^ (m % 16) ∧ 2 ^ (m % 16) ≤ 32768 := by
  refine ⟨Nat.pow_pos (by decide), ?_⟩
  have : 2 ^ (m % 16) ≤ 2 ^ 15 := Nat.pow_le_pow_right (by decide) (by omega)
  exact this
theorem over_j1 {a b bit A A' m : Nat} {q : List Int} {res : List Int × List Int} (hb : 0 < b) (sb : (dig b).length ≤ 1000000) (hm : m < 16000000) (hA : A' = 2 * A + bit) (hb2 : bit < 2) (hl : m / 16 < q.length) (hq : Dg q) (hz : Lz q (m + 1))
    (IH : ∀ q' : List Int, q'.length = q.length → Dg q' → Lz q' m → ((A' / b = 2 * (A / b) ∧ val q' = val q) ∨ (A' / b = 2 * (A / b) + 1 ∧ val q' = val q + 2 ^ m)) → Ev (fun k => mintageref01_Over.l0 k (dig a) (dig b) q' (dig (A' % b)) ((m : Int) - 1)) res) :
    Ev (fun k => mintageref01_Over.j1 k (dig a) (dig b) q (dig (2 * (A % b) + bit)) (m : Int)) res := by
  obtain ⟨d1, d2⟩ := div_step (A := A) hb hb2
  rw [← hA] at d1 d2
  have hrb := Nat.mod_lt A hb
  have l2 : (dig (2 * (A % b) + bit)).length ≤ (dig b).length + 1 := dig_twice (by omega)
  have c1 := Big.cmp_ev (a := 2 * (A % b) + bit) (b := b) (by unfold Sm; omega) (by unfold Sm; omega)
  have ls := fun h => less_ev (a := 2 * (A % b) + bit) (b := b) (by unfold Sm; omega) (by unfold Sm; omega) h
  clear hA l2 hrb
  generalize 2 * (A % b) + bit = r at *
  obtain ⟨e16, e17, ew, ew1, hs⟩ := ix hm
  have t1 := two_evo hs
  refine Ev.step (fun k => by simp only [mintageref01_Over.j1, e16, e17, ew, ew1]; rfl) ?_
  refine Ev.bind c1 ?_
  by_cases hlt : r < b
  · obtain ⟨f1, f2⟩ := d1 hlt
    simp only [if_pos hlt, if_neg (show ¬ ((-1 : Int) ≥ 0) by decide)]
    have := IH q rfl hq hz.less (.inl ⟨f1, rfl⟩)
    rw [f2] at this
    exact this
  · obtain ⟨f1, f2⟩ := d2 hlt
    simp only [if_neg hlt]
    have hc : (if r > b then (1 : Int) else 0) ≥ 0 := by split <;> decide
    simp only [if_pos hc]
    refine Ev.bind (ls (Nat.le_of_not_lt hlt)) ?_
    obtain ⟨r0, r1⟩ := hz.room hq
    simp only [if_pos (show (0 : Int) ≤ ((m / 16 : Nat) : Int) from Int.natCast_nonneg _), if_pos (show ((m / 16 : Nat) : Int) < (q.length : Int) from Int.ofNat_lt.2 hl)]
    refine Ev.bind t1 ?_
    have ep : ((2 ^ (m % 16) : Nat) : Int) = 2 ^ (m % 16) := by simp
    simp only [Int.toNat_natCast, ep]
    have hv : val (q.set (m / 16) (rd q ((m / 16 : Nat) : Int) + 2 ^ (m % 16))) = val q + 2 ^ m := by
      rw [val_set _ _ _ hl, ← pow_cut m]
      congr 2
      generalize (2 : Int) ^ (m % 16) = p
      omega
    have := IH _ (List.length_set ..) (hq.set _ r0 r1) (hz.set hl) (.inr ⟨f1, hv⟩)
    rw [f2] at this
    rw [wid (x := rd q ((m / 16 : Nat) : Int) + 2 ^ (m % 16)) (Int.le_trans (by decide) r0) (Int.lt_trans r1 (by decide))]
    exact this
theorem val_up {Q Q' : Nat} {m : Nat} {v v' : Int} (hv : v = (Q : Int) * 2 ^ (m + 1)) (h : (Q' = 2 * Q ∧ v' = v) ∨ (Q' = 2 * Q + 1 ∧ v' = v + 2 ^ m)) : v' = (Q' : Int) * 2 ^ m := by
  rw [Int.pow_succ] at hv
  generalize (2 : Int) ^ m = p at *
  have e : (Q : Int) * (p * 2) = 2 * ((Q : Int) * p) := by rw [← Int.mul_assoc, Int.mul_comm]
  rcases h with ⟨rfl, rfl⟩ | ⟨rfl, rfl⟩
  · rw [hv, e]; push_cast; rw [Int.mul_assoc]
  · rw [hv, e]; push_cast; rw [Int.add_mul, Int.mul_assoc, Int.one_mul]
theorem over_loop {a b : Nat} (hb : 0 < b) (sa : (dig a).length ≤ 1000000) (sb : (dig b).length ≤ 1000000) : ∀ (m : Nat) (q : List Int), m ≤ bl a → q.length = (dig a).length → Dg q → val q = ((a / 2 ^ m / b : Nat) : Int) * 2 ^ m → Lz q m →
    Ev (fun k => mintageref01_Over.l0 k (dig a) (dig b) q (dig (a / 2 ^ m % b)) ((m : Int) - 1)) (dig (a / b), dig (a % b)) := by
  intro m
  induction m with
  | zero =>
    intro q hm hl hq hv hz
    rw [Nat.pow_zero, Nat.div_one] at *
    refine Ev.step (fun k => by simp only [mintageref01_Over.l0]; rw [if_neg (by decide)]) ?_
    have ht := trim_ev hq (by unfold Sm; omega)
    rw [hv, Int.pow_zero, Int.mul_one, Int.toNat_natCast] at ht
    exact Ev.bind ht (Ev.now _)
  | succ m ih =>
    intro q hm hl hq hv hz
    have hA := top_bit a m
    have hbl := bl_len a
    have hml : m < bl a := hm
    clear hm
    have hlen : m / 16 < q.length := by omega
    have hm16 : m < 16000000 := by omega
    have hb2 : a / 2 ^ m % 2 < 2 := Nat.mod_lt _ (by decide)
    have hbit := bit_of a m
    have IH := fun q' (h1 : q'.length = q.length) h2 h3 h4 => ih q' (Nat.le_of_lt hml) (h1.trans hl) h2 (val_up hv h4) h3
    clear ih hv
    generalize a / 2 ^ m % 2 = bit at hA hb2 hbit
    generalize a / 2 ^ (m + 1) = A at hA IH ⊢
    generalize a / 2 ^ m = A' at hA IH
    have tail := over_j1 (a := a) hb sb hm16 hA hb2 hlen hq hz IH
    have hrb := Nat.mod_lt A hb
    have sr : (dig (A % b)).length ≤ 1000000 := Nat.le_trans (dig_mono (Nat.le_of_lt hrb)) sb
    have s1 := sum_ev (a := A % b) (b := A % b) (by unfold Sm; omega) (by unfold Sm; omega)
    obtain ⟨e16, e17, ew, ew1, hs⟩ := ix hm16
    have t1 := two_evo hs
    have s1l : (dig (A % b + A % b)).length ≤ (dig b).length + 1 := dig_twice (by omega)
    have p2 := (two16 (m := m)).1
    have em : ((m + 1 : Nat) : Int) - 1 = (m : Int) := by omega
    have hl0 : (0 : Int) ≤ ((m / 16 : Nat) : Int) := Int.natCast_nonneg _
    have hl1 : ((m / 16 : Nat) : Int) < ((dig a).length : Int) := Int.ofNat_lt.2 (hl ▸ hlen)
    have hm0 : (m : Int) ≥ 0 := Int.natCast_nonneg _
    refine Ev.step (fun k => by simp only [mintageref01_Over.l0, em, e16, e17, ew, if_pos hm0, if_pos hl0, if_pos hl1]; rfl) ?_
    refine Ev.bind s1 ?_
    refine Ev.bind t1 ?_
    have hp0 : ¬ ((2 ^ (m % 16) : Nat) : Int) = 0 := Int.natCast_ne_zero.2 (Nat.ne_of_gt p2)
    simp only [if_neg hp0, hbit]
    clear hp0 p2 t1 e16 e17 ew ew1 hs hbl hml hlen hm16 hl0 hl1 hm0 em hz hq hA IH
    have e2 : A % b + A % b = 2 * (A % b) := (Nat.two_mul _).symm
    by_cases h1 : bit = 1
    · have hi : ((bit : Nat) : Int) = 1 := by rw [h1]; rfl
      simp only [if_pos hi]
      have e1 : ([1] : List Int) = dig 1 := (dig_small (by decide) (by decide)).symm
      have l1 : (dig 1).length ≤ 1 := dig_len (by decide)
      have s2 := sum_ev (a := A % b + A % b) (b := 1) (by unfold Sm; omega) (by unfold Sm; omega)
      rw [e1]
      refine Ev.bind s2 ?_
      rw [e2, show 2 * (A % b) + 1 = 2 * (A % b) + bit by rw [h1]]
      exact tail
    · have h0 : bit = 0 := by omega
      have hi : ¬ ((bit : Nat) : Int) = 1 := by rw [h0]; decide
      simp only [if_neg hi]
      rw [e2, show 2 * (A % b) = 2 * (A % b) + bit by rw [h0, Nat.add_zero]]
      exact tail
theorem over_ev {a b : Nat} (hb : 0 < b) (sa : (dig a).length ≤ 1000000) (sb : (dig b).length ≤ 1000000) : Ev (fun k => mintageref01_Over.f k (dig a) (dig b)) (dig (a / b), dig (a % b)) := by
  have hz : a / 2 ^ bl a = 0 := Nat.div_eq_of_lt (bl_lt a)
  have h := over_loop hb sa sb (bl a) (List.replicate (dig a).length 0) (Nat.le_refl _) (List.length_replicate ..) (Dg.rep _) (by rw [val_rep, hz]; simp) (fun j => by
    have : rd (List.replicate (dig a).length 0) (j : Int) = 0 := by
      unfold rd
      rw [Int.toNat_natCast, List.getD_eq_getElem?_getD, List.getElem?_replicate]
      split <;> rfl
    rw [this]; simp)
  rw [hz, Nat.zero_mod, dig_zero] at h
  have hbl := bl_len a
  unfold mintageref01_Over.f
  simp only [if_pos (show (0 : Int) ≤ ((dig a).length : Int) by omega), Int.toNat_natCast, if_pos (show (dig a).length ≤ 35184372088832 by omega)]
  refine Ev.bind (bits_ev (by unfold Sm; omega)) ?_
  rw [wid (x := ((bl a : Nat) : Int) - 1) (by omega) (by omega)]
  exact h
end Go.Proofs.Ytjefmcfkhalagaa.Big
