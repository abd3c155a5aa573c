/- Numbers as digits of base 65536, the least first: plain facts. -/
import Derived.Test.YtjefmcfkhalagaaWWords
namespace Go.Proofs.Ytjefmcfkhalagaa.Big
open Go.RowKit Go.Proofs.YtjefmcfkhalagaaW.PrintWords

def val : List Int → Int
  | [] => 0
  | d :: l => d + 65536 * val l
def Dg (l : List Int) : Prop := ∀ d ∈ l, 0 ≤ d ∧ d < 65536
/-- No nought on top. -/
def Nz : List Int → Prop
  | [] => True
  | d :: l => Nz l ∧ (l = [] → d ≠ 0)
theorem Dg.nil : Dg [] := fun d h => by cases h
theorem Dg.cons {d : Int} {l : List Int} (h0 : 0 ≤ d) (h1 : d < 65536) (h : Dg l) : Dg (d :: l) := by
  intro x hx
  rcases List.mem_cons.1 hx with rfl | hx
  · exact ⟨h0, h1⟩
  · exact h x hx
theorem Dg.head {d : Int} {l : List Int} (h : Dg (d :: l)) : 0 ≤ d ∧ d < 65536 := h d (List.mem_cons_self ..)
theorem Dg.tail {d : Int} {l : List Int} (h : Dg (d :: l)) : Dg l := fun x hx => h x (List.mem_cons_of_mem _ hx)
theorem Dg.app {l m : List Int} (h : Dg l) (k : Dg m) : Dg (l ++ m) := fun x hx => by
  rcases List.mem_append.1 hx with hx | hx
  · exact h x hx
  · exact k x hx
theorem Dg.take {l : List Int} (h : Dg l) (n : Nat) : Dg (l.take n) := fun x hx => h x (List.mem_of_mem_take hx)
theorem Dg.drop {l : List Int} (h : Dg l) (n : Nat) : Dg (l.drop n) := fun x hx => h x (List.mem_of_mem_drop hx)
theorem Dg.rep (n : Nat) : Dg (List.replicate n 0) := fun x hx => by
  have := List.eq_of_mem_replicate hx
  subst this; decide
theorem Dg.rd {l : List Int} (h : Dg l) (i : Int) : 0 ≤ rd l i ∧ rd l i < 65536 := by
  unfold Go.Proofs.YtjefmcfkhalagaaW.PrintWords.rd
  rw [List.getD_eq_getElem?_getD]
  by_cases hi : i.toNat < l.length
  · rw [List.getElem?_eq_getElem hi]; exact h _ (List.getElem_mem hi)
  · rw [List.getElem?_eq_none (by omega)]; decide
theorem val_nonneg : ∀ {l : List Int}, Dg l → 0 ≤ val l
  | [], _ => by simp [val]
  | d :: l, h => by
    have := val_nonneg h.tail
    have := h.head
    simp only [val]; omega
theorem val_pos : ∀ {l : List Int}, Dg l → Nz l → l ≠ [] → 0 < val l
  | [], _, _, h => absurd rfl h
  | d :: l, h, hz, _ => by
    have h0 := h.head
    by_cases hl : l = []
    · subst hl; have := hz.2 rfl; simp only [val]; omega
    · have := val_pos h.tail hz.1 hl
      simp only [val]; omega
theorem val_append : ∀ (l m : List Int), val (l ++ m) = val l + 65536 ^ l.length * val m
  | [], m => by simp [val]
  | d :: l, m => by
    simp only [List.cons_append, val, List.length_cons]
    rw [val_append l m, Int.pow_succ]; grind
theorem val_lt : ∀ {l : List Int}, Dg l → val l < 65536 ^ l.length
  | [], _ => by simp [val]
  | d :: l, h => by
    have h0 := h.head
    have := val_lt h.tail
    simp only [val, List.length_cons, Int.pow_succ]
    omega
theorem val_rep : ∀ n, val (List.replicate n 0) = 0
  | 0 => rfl
  | n + 1 => by simp [List.replicate_succ, val, val_rep n]
theorem rd_cons_zero (d : Int) (l : List Int) : rd (d :: l) 0 = d := rfl
theorem drop_at {l : List Int} {i : Nat} (h : i < l.length) : l.drop i = rd l (i : Int) :: l.drop (i + 1) := by
  rw [List.drop_eq_getElem_cons h]; congr 1
  simp [rd, h]
theorem rd_drop (l : List Int) (i j : Nat) : rd (l.drop i) (j : Int) = rd l ((i + j : Nat) : Int) := by
  unfold rd; simp only [Int.toNat_natCast, List.getD_eq_getElem?_getD, List.getElem?_drop]
theorem rd_out {l : List Int} {i : Int} (h : (l.length : Int) ≤ i) : rd l i = 0 := by
  unfold rd; rw [List.getD_eq_getElem?_getD, List.getElem?_eq_none (by omega)]; rfl
theorem rd_app_left {l m : List Int} {i : Nat} (h : i < l.length) : rd (l ++ m) (i : Int) = rd l (i : Int) := by
  unfold rd; simp only [Int.toNat_natCast, List.getD_eq_getElem?_getD]; rw [List.getElem?_append_left h]
theorem rd_app_right (l m : List Int) (j : Nat) : rd (l ++ m) ((l.length + j : Nat) : Int) = rd m (j : Int) := by
  unfold rd; simp only [Int.toNat_natCast, List.getD_eq_getElem?_getD]; rw [List.getElem?_append_right (by omega)]; congr 2; omega
theorem set_app_right (l m : List Int) (j : Nat) (x : Int) : (l ++ m).set (l.length + j) x = l ++ m.set j x := by
  rw [List.set_append_right _ _ (by omega)]; congr 2; omega

/-! ### the canonical digits of a number -/
def dig (n : Nat) : List Int := if h : n = 0 then [] else ((n % 65536 : Nat) : Int) :: dig (n / 65536)
decreasing_by omega
theorem dig_zero : dig 0 = [] := by rw [dig]; simp
theorem dig_pos {n : Nat} (h : n ≠ 0) : dig n = ((n % 65536 : Nat) : Int) :: dig (n / 65536) := by rw [dig]; simp [h]
theorem dig_all (n : Nat) : Dg (dig n) ∧ Nz (dig n) ∧ val (dig n) = n := by
  induction n using Nat.strongRecOn with
  | _ n ih =>
    by_cases h : n = 0
    · subst h; rw [dig_zero]; exact ⟨Dg.nil, trivial, rfl⟩
    · obtain ⟨h1, h2, h3⟩ := ih (n / 65536) (by omega)
      rw [dig_pos h]
      refine ⟨Dg.cons (by omega) (by omega) h1, ⟨h2, fun he => ?_⟩, ?_⟩
      · rw [he] at h3; simp only [val] at h3; omega
      · simp only [val]; rw [h3]; omega
theorem dig_dg (n : Nat) : Dg (dig n) := (dig_all n).1
theorem dig_nz (n : Nat) : Nz (dig n) := (dig_all n).2.1
theorem val_dig (n : Nat) : val (dig n) = n := (dig_all n).2.2
theorem dig_val : ∀ {l : List Int}, Dg l → Nz l → ∀ n : Nat, val l = n → l = dig n
  | [], _, _, n, h => by
    have : n = 0 := by simp only [val] at h; omega
    subst this; rw [dig_zero]
  | d :: l, h, hz, n, hv => by
    have h0 := h.head
    have hn := val_nonneg h.tail
    have hp := val_pos h hz (by simp)
    simp only [val] at hv hp
    rw [dig_pos (by omega), ← dig_val h.tail hz.1 (n / 65536) (by omega)]
    congr 1; omega
theorem dig_eq_nil {n : Nat} : dig n = [] ↔ n = 0 := by
  constructor
  · intro h; have := val_dig n; rw [h] at this; simp only [val] at this; omega
  · rintro rfl; exact dig_zero
theorem dig_len {n k : Nat} (h : n < 65536 ^ k) : (dig n).length ≤ k := by
  induction k generalizing n with
  | zero => have : n = 0 := by simpa using h
            subst this; rw [dig_zero]; simp
  | succ k ih =>
    by_cases h0 : n = 0
    · subst h0; rw [dig_zero]; simp
    · rw [dig_pos h0, List.length_cons]
      have := ih (n := n / 65536) (by rw [Nat.pow_succ] at h; omega)
      omega
theorem dig_small {x : Nat} (h : x < 65536) (h0 : x ≠ 0) : dig x = [(x : Int)] := by
  rw [dig_pos h0]
  have e1 : x % 65536 = x := by omega
  have e2 : x / 65536 = 0 := by omega
  rw [e1, e2, dig_zero]

/-! ### how many bits -/
def bl (n : Nat) : Nat := if h : n = 0 then 0 else bl (n / 2) + 1
decreasing_by omega
theorem bl_zero : bl 0 = 0 := by rw [bl]; simp
theorem bl_pos {n : Nat} (h : n ≠ 0) : bl n = bl (n / 2) + 1 := by rw [bl]; simp [h]
theorem bl_div : ∀ (j n : Nat), n / 2 ^ j ≠ 0 → bl n = bl (n / 2 ^ j) + j
  | 0, n, _ => by simp
  | j + 1, n, h => by
    have e : n / 2 ^ (j + 1) = n / 2 ^ j / 2 := by rw [Nat.pow_succ, Nat.div_div_eq_div_mul]
    rw [e] at h
    have h' : n / 2 ^ j ≠ 0 := by intro h0; rw [h0] at h; exact h rfl
    rw [bl_div j n h', bl_pos h', e]; omega
theorem bl_lt (n : Nat) : n < 2 ^ bl n := by
  induction n using Nat.strongRecOn with
  | _ n ih =>
    by_cases h : n = 0
    · subst h; simp [bl_zero]
    · have := ih (n / 2) (by omega)
      rw [bl_pos h, Nat.pow_succ]; omega
theorem bl_ge {n : Nat} (h : n ≠ 0) : 2 ^ (bl n - 1) ≤ n := by
  induction n using Nat.strongRecOn with
  | _ n ih =>
    rw [bl_pos h]
    by_cases h1 : n / 2 = 0
    · rw [h1, bl_zero]; simp; omega
    · have := ih (n / 2) (by omega) h1
      have e : bl (n / 2) + 1 - 1 = bl (n / 2) - 1 + 1 := by have := bl_pos h1; omega
      rw [e, Nat.pow_succ]; omega
theorem bl_le_iff (n d : Nat) : bl n ≤ d ↔ n < 2 ^ d := by
  constructor
  · intro h; exact Nat.lt_of_lt_of_le (bl_lt n) (Nat.pow_le_pow_right (by decide) h)
  · intro h
    by_cases h0 : n = 0
    · subst h0; simp [bl_zero]
    · have h1 := bl_ge h0
      have h2 : 2 ^ (bl n - 1) < 2 ^ d := Nat.lt_of_le_of_lt h1 h
      have := (Nat.pow_lt_pow_iff_right (by decide)).1 h2
      omega

/-! ### sums -/
def sumC : List Int → List Int → Int → List Int
  | [], [], c => if c = 0 then [] else [c]
  | x :: a, [], c => (x + c) % 65536 :: sumC a [] ((x + c) / 65536)
  | [], y :: b, c => (y + c) % 65536 :: sumC [] b ((y + c) / 65536)
  | x :: a, y :: b, c => (x + y + c) % 65536 :: sumC a b ((x + y + c) / 65536)
theorem sumC_all : ∀ (a b : List Int) (c : Int), Dg a → Dg b → Nz a → Nz b → 0 ≤ c → c ≤ 1 → Dg (sumC a b c) ∧ Nz (sumC a b c) ∧ val (sumC a b c) = val a + val b + c ∧ (sumC a b c = [] → a = [] ∧ b = [] ∧ c = 0) ∧ (sumC a b c).length ≤ max a.length b.length + 1
  | [], [], c, _, _, _, _, h0, h1 => by
    unfold sumC
    by_cases h : c = 0
    · subst h; simp [Dg.nil, Nz, val]
    · rw [if_neg h]; refine ⟨Dg.cons (by omega) (by omega) Dg.nil, ⟨trivial, fun _ => h⟩, by simp [val], by simp, by simp⟩
  | x :: a, [], c, ha, hb, na, nb, h0, h1 => by
    have hx := ha.head
    obtain ⟨i1, i2, i3, i4, i5⟩ := sumC_all a [] ((x + c) / 65536) ha.tail Dg.nil na.1 trivial (by omega) (by omega)
    unfold sumC
    refine ⟨Dg.cons (by omega) (by omega) i1, ⟨i2, fun h => ?_⟩, by simp only [val] at *; omega, by simp, by simp at *; omega⟩
    have := i4 h
    have := na.2 this.1
    omega
  | [], y :: b, c, ha, hb, na, nb, h0, h1 => by
    have hx := hb.head
    obtain ⟨i1, i2, i3, i4, i5⟩ := sumC_all [] b ((y + c) / 65536) Dg.nil hb.tail trivial nb.1 (by omega) (by omega)
    unfold sumC
    refine ⟨Dg.cons (by omega) (by omega) i1, ⟨i2, fun h => ?_⟩, by simp only [val] at *; omega, by simp, by simp at *; omega⟩
    have := i4 h
    have := nb.2 this.2.1
    omega
  | x :: a, y :: b, c, ha, hb, na, nb, h0, h1 => by
    have hx := ha.head
    have hy := hb.head
    obtain ⟨i1, i2, i3, i4, i5⟩ := sumC_all a b ((x + y + c) / 65536) ha.tail hb.tail na.1 nb.1 (by omega) (by omega)
    unfold sumC
    refine ⟨Dg.cons (by omega) (by omega) i1, ⟨i2, fun h => ?_⟩, by simp only [val] at *; omega, by simp, by simp at *; omega⟩
    have := i4 h
    have := na.2 this.1
    omega
theorem sumC_dig (a b : Nat) : sumC (dig a) (dig b) 0 = dig (a + b) := by
  obtain ⟨h1, h2, h3, -, -⟩ := sumC_all (dig a) (dig b) 0 (dig_dg a) (dig_dg b) (dig_nz a) (dig_nz b) (by decide) (by decide)
  refine dig_val h1 h2 _ ?_
  rw [h3, val_dig, val_dig]; omega

/-! ### differences -/
def lessC : List Int → List Int → Int → List Int
  | [], _, _ => []
  | x :: a, [], c => if x - c < 0 then (x - c + 65536) :: lessC a [] 1 else (x - c) :: lessC a [] 0
  | x :: a, y :: b, c => if x - c - y < 0 then (x - c - y + 65536) :: lessC a b 1 else (x - c - y) :: lessC a b 0
theorem lessC_all : ∀ (a b : List Int) (c : Int), Dg a → Dg b → 0 ≤ c → c ≤ 1 → Dg (lessC a b c) ∧ (lessC a b c).length = a.length ∧ (val b + c ≤ val a → val (lessC a b c) = val a - val b - c)
  | [], b, c, _, hb, h0, h1 => by
    have := val_nonneg hb
    unfold lessC
    exact ⟨Dg.nil, rfl, fun h => by simp only [val] at *; omega⟩
  | x :: a, [], c, ha, hb, h0, h1 => by
    have hx := ha.head
    have hn := val_nonneg ha.tail
    unfold lessC
    by_cases h : x - c < 0
    · obtain ⟨i1, i2, i3⟩ := lessC_all a [] 1 ha.tail Dg.nil (by omega) (by omega)
      rw [if_pos h]
      refine ⟨Dg.cons (by omega) (by omega) i1, by simp [i2], fun hv => ?_⟩
      simp only [val] at *
      rw [i3 (by omega)]; omega
    · obtain ⟨i1, i2, i3⟩ := lessC_all a [] 0 ha.tail Dg.nil (by omega) (by omega)
      rw [if_neg h]
      refine ⟨Dg.cons (by omega) (by omega) i1, by simp [i2], fun hv => ?_⟩
      simp only [val] at *
      rw [i3 (by omega)]; omega
  | x :: a, y :: b, c, ha, hb, h0, h1 => by
    have hx := ha.head
    have hy := hb.head
    unfold lessC
    by_cases h : x - c - y < 0
    · obtain ⟨i1, i2, i3⟩ := lessC_all a b 1 ha.tail hb.tail (by omega) (by omega)
      rw [if_pos h]
      refine ⟨Dg.cons (by omega) (by omega) i1, by simp [i2], fun hv => ?_⟩
      simp only [val] at *
      rw [i3 (by omega)]; omega
    · obtain ⟨i1, i2, i3⟩ := lessC_all a b 0 ha.tail hb.tail (by omega) (by omega)
      rw [if_neg h]
      refine ⟨Dg.cons (by omega) (by omega) i1, by simp [i2], fun hv => ?_⟩
      simp only [val] at *
      rw [i3 (by omega)]; omega

/-! ### products -/
def mulAdd (x : Int) : List Int → List Int → Int → List Int
  | _, [], _ => []
  | [], z :: o, c => if c > 0 then (c + z) % 65536 :: mulAdd x [] o ((c + z) / 65536) else z :: o
  | y :: b, z :: o, c => (c + z + x * y) % 65536 :: mulAdd x b o ((c + z + x * y) / 65536)
theorem mulAdd_all (x : Int) (hx : 0 ≤ x ∧ x < 65536) : ∀ (b o : List Int) (c : Int), Dg b → Dg o → 0 ≤ c → c < 65536 → b.length ≤ o.length → val o + x * val b + c < 65536 ^ o.length →
    Dg (mulAdd x b o c) ∧ (mulAdd x b o c).length = o.length ∧ val (mulAdd x b o c) = val o + x * val b + c
  | b, [], c, _, _, h0, h1, hl, hv => by
    obtain rfl : b = [] := List.eq_nil_of_length_eq_zero (by simpa using hl)
    unfold mulAdd
    refine ⟨Dg.nil, rfl, ?_⟩
    simp only [val, List.length_nil, Int.pow_zero] at *
    omega
  | [], z :: o, c, _, ho, h0, h1, hl, hv => by
    have hz := ho.head
    unfold mulAdd
    by_cases h : c > 0
    · rw [if_pos h]
      simp only [val, List.length_cons, Int.pow_succ] at hv
      obtain ⟨i1, i2, i3⟩ := mulAdd_all x hx [] o ((c + z) / 65536) Dg.nil ho.tail (by omega) (by omega) (by simp) (by simp only [val]; omega)
      refine ⟨Dg.cons (by omega) (by omega) i1, by simp [i2], ?_⟩
      simp only [val] at *; rw [i3]; omega
    · rw [if_neg h]
      refine ⟨ho, rfl, ?_⟩
      have : c = 0 := by omega
      subst this; simp [val]
  | y :: b, z :: o, c, hb, ho, h0, h1, hl, hv => by
    have hz := ho.head
    have hy := hb.head
    have p0 : 0 ≤ x * y := Int.mul_nonneg hx.1 hy.1
    have p1 : x * y ≤ 65535 * 65535 := Int.mul_le_mul (by omega) (by omega) hy.1 (by omega)
    unfold mulAdd
    simp only [val, List.length_cons, Int.pow_succ] at hv
    have e : x * (y + 65536 * val b) = x * y + 65536 * (x * val b) := by grind
    rw [e] at hv
    obtain ⟨i1, i2, i3⟩ := mulAdd_all x hx b o ((c + z + x * y) / 65536) hb.tail ho.tail (by omega) (by omega) (by simpa using hl) (by omega)
    refine ⟨Dg.cons (by omega) (by omega) i1, by simp [i2], ?_⟩
    simp only [val]; rw [i3, e]; omega
def prodC (b : List Int) : List Int → List Int → List Int
  | [], o => o
  | x :: a, o => match mulAdd x b o 0 with
    | [] => []
    | h :: t => h :: prodC b a t
theorem prodC_all (b : List Int) (hb : Dg b) : ∀ (a o : List Int), Dg a → Dg o → a.length + b.length ≤ o.length → val o + val a * val b < 65536 ^ o.length →
    Dg (prodC b a o) ∧ (prodC b a o).length = o.length ∧ val (prodC b a o) = val o + val a * val b
  | [], o, _, ho, _, _ => by unfold prodC; exact ⟨ho, rfl, by simp [val]⟩
  | x :: a, o, ha, ho, hl, hv => by
    have hx := ha.head
    have hbn := val_nonneg hb
    have han := val_nonneg ha.tail
    simp only [val] at hv
    have e : (x + 65536 * val a) * val b = x * val b + 65536 * (val a * val b) := by grind
    rw [e] at hv
    have hp : 0 ≤ val a * val b := Int.mul_nonneg han hbn
    simp only [List.length_cons] at hl
    obtain ⟨i1, i2, i3⟩ := mulAdd_all x hx b o 0 hb ho (by omega) (by omega) (by omega) (by omega)
    unfold prodC
    cases hm : mulAdd x b o 0 with
    | nil => rw [hm] at i2; simp at i2; omega
    | cons h t =>
      rw [hm] at i1 i2 i3
      simp only [val] at i3
      have hh := i1.head
      simp only [List.length_cons] at i2
      rw [← i2, Int.pow_succ] at hv
      obtain ⟨k1, k2, k3⟩ := prodC_all b hb a t ha.tail i1.tail (by omega) (by omega)
      refine ⟨Dg.cons hh.1 hh.2 k1, by simp only [List.length_cons]; omega, ?_⟩
      simp only [val]; rw [k3, e]; omega
end Go.Proofs.Ytjefmcfkhalagaa.Big
