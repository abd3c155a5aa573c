/- Print: what both sides write. -/
import Derived.Test.YtjefmcfkhalagaaSwaZScaledWrites
import Derived.Test.YtjefmcfkhalagaaConvZScaledWrites
import Derived.Lib.SlBytesRow
import Derived.Test.YtjefmcfkhalagaaQ0ZScaledWrites
import Derived.Test.YtjefmcfkhalagaaQ2ZScaledWrites
namespace Go.Proofs.Ytjefmcfkhalagaa.Swx
set_option linter.unusedVariables false
set_option linter.unusedSimpArgs false
open Go.Proofs.YtjefmcfkhalagaaW.PrintWords hiding bt
open Go.RowKit Go.Proofs.Ytjefmcfkhalagaa.Q Go.Proofs.YtjefmcfkhalagaaW.PrintLast Go.Proofs.YtjefmcfkhalagaaW.PrintMore Go.Proofs.Ytjefmcfkhalagaa.Dig Go.Proofs.Ytjefmcfkhalagaa.Big Go.Proofs.Ytjefmcfkhalagaa.Keep
theorem D_lenb : ∀ (n : Nat) (x : Int), (digit_Pad.D n x).length = n
  | 0, _ => rfl
  | n + 1, x => by simp [digit_Pad.D, D_lenb n]
def sgl (neg : Bool) : List Int := if neg = true then [45] else []
/-- The text: sign, digits, a point and digits behind it. -/
def pt (neg : Bool) (ds : List Int) (s : Nat) : List Int := sgl neg ++ ds.take (ds.length - s) ++ (if s = 0 then [] else 46 :: ds.drop (ds.length - s))
theorem print_ev {x : Int} (hx : Sz x) {s : Nat} (hs : s ≤ 18) : ∃ c wd : Nat, ab x < 10 ^ (c + 1) ∧ (c = 0 ∨ 10 ^ c ≤ ab x) ∧ c ≤ 18 ∧ c + 1 ≤ wd ∧ s + 1 ≤ wd ∧ (wd = c + 1 ∨ wd = s + 1) ∧ Ev (fun k => scaled_Print.f k (s : Int) (bt x)) (pt (decide (x < 0)) (digit_Pad.D wd (ab x)) s, 0) := by
  have hab := ab_range hx
  obtain ⟨c, hc, h19, hlt, hge⟩ := count_ev (x := ab x) hab.1 (by omega)
  have hc18 : c ≤ 18 := by
    rcases hge with h | h
    · omega
    · have h1 : (10 : Int) ^ c < 10 ^ 18 := by
        have : (10 : Int) ^ 18 = 1000000000000000000 := by rfl
        omega
      have := pow10_lt (Int.le_refl _) h1
      omega
  obtain ⟨wd, hwd, w1, w2, w3, w4⟩ : ∃ wd : Nat, mx ((c : Int) + 1) (wrap64 ((s : Int) + 1)) = (wd : Int) ∧ c + 1 ≤ wd ∧ s + 1 ≤ wd ∧ wd ≤ 20 ∧ (wd = c + 1 ∨ wd = s + 1) := by
    rw [wrap64_id (by omega) (by omega)]
    unfold mx
    split
    · exact ⟨s + 1, by omega, by omega, by omega, by omega, .inr rfl⟩
    · exact ⟨c + 1, by omega, by omega, by omega, by omega, .inl rfl⟩
  have hp := pad_ev hc (wd := wd) (by omega) w3 w1
  have dL := D_lenb wd (ab x)
  refine ⟨c, wd, hlt, hge, hc18, w1, w2, w4, ?_⟩
  generalize digit_Pad.D wd (ab x) = ds at *
  unfold pt
  rw [dL]
  · unfold scaled_Print.f
    simp only [size_of hx, Option.bind_some, may_yes hs, if_true]
    refine Ev.bind hc ?_
    rw [hwd]
    refine Ev.bind hp ?_
    have e1 : wrap64 ((ds.length : Int) - (s : Int)) = ((wd - s : Nat) : Int) := by rw [wrap64_id (by omega) (by omega)]; omega
    simp only [e1, if_pos (show (0 : Int) ≤ ((wd - s : Nat) : Int) by omega), if_pos (show ((wd - s : Nat) : Int) ≤ (ds.length : Int) by omega), Int.toNat_natCast, List.nil_append, List.length_nil, if_pos (show 0 < 140737488355328 by omega)]
    have l1 : (ds.take (wd - s)).length = wd - s := by simp; omega
    have l2 : (ds.drop (wd - s)).length = s := by simp; omega
    by_cases hn : x < 0
    · simp only [decide_eq_true hn, if_true, List.length_singleton, l1, if_pos (show 1 + (wd - s) < 140737488355328 by omega), List.length_append, l2]
      by_cases h0 : s = 0
      · simp only [if_pos h0, if_neg (show ¬ (s : Int) > 0 by omega), sgl, if_true, List.append_nil]; exact Ev.now _
      · simp only [if_neg h0, if_pos (show (s : Int) > 0 by omega), if_pos (show 1 + (wd - s) < 140737488355328 by omega), if_pos (show 1 + (wd - s) + 1 + s < 140737488355328 by omega), sgl, if_true]
        rw [show ([45] ++ List.take (wd - s) ds ++ [46] ++ List.drop (wd - s) ds : List Int) = [45] ++ List.take (wd - s) ds ++ 46 :: List.drop (wd - s) ds by simp]
        exact Ev.now _
    · simp only [decide_eq_false hn, Bool.false_eq_true, if_false, List.length_nil, l1, Nat.zero_add, if_pos (show (wd - s) < 140737488355328 by omega), List.length_append, l2, List.length_singleton]
      by_cases h0 : s = 0
      · simp only [if_pos h0, if_neg (show ¬ (s : Int) > 0 by omega), sgl, Bool.false_eq_true, if_false, List.append_nil, List.nil_append]; exact Ev.now _
      · simp only [if_neg h0, if_pos (show (s : Int) > 0 by omega), if_pos (show (wd - s) < 140737488355328 by omega), if_pos (show (wd - s) + 1 + s < 140737488355328 by omega), sgl, Bool.false_eq_true, if_false, List.nil_append]
        rw [show (List.take (wd - s) ds ++ [46] ++ List.drop (wd - s) ds : List Int) = List.take (wd - s) ds ++ 46 :: List.drop (wd - s) ds by simp]
        exact Ev.now _
theorem rep_set (n : Nat) (q : List Int) (y : Int) : (List.replicate (n + 1) 0 ++ q).set n y = List.replicate n 0 ++ y :: q := by
  rw [List.replicate_succ', List.append_assoc, List.singleton_append]
  simp
theorem small_loop {l : List Int} (hd : Dg l) (hs : Sm l) {d : Int} (h1 : 1 ≤ d) (h2 : d ≤ 65535) : ∀ (n : Nat) (q : List Int) (r : Int), n + q.length = l.length → Dg q → val q = val (l.drop n) / d → r = val (l.drop n) % d →
    Ev (fun k => mintageref01_Small.l0 k l d (List.replicate n 0 ++ q) r ((n : Int) - 1)) (dig (val l / d).toNat, val l % d)
  | 0, q, r, hl, hq, hv, hr => by
    refine Ev.step (fun k => by simp only [mintageref01_Small.l0]; rw [if_neg (by omega)]) ?_
    simp only [List.drop_zero] at hv hr
    simp only [List.replicate_zero, List.nil_append]
    refine Ev.bind (trim_ev hq (by unfold Sm at *; omega)) ?_
    rw [hv, hr]; exact Ev.now _
  | n + 1, q, r, hl, hq, hv, hr => by
    have hn : n < l.length := by omega
    have hx := hd.rd (n : Int)
    have hV := val_nonneg (hd.drop (n + 1))
    have hr0 : 0 ≤ r ∧ r < d := by rw [hr]; exact ⟨Int.emod_nonneg _ (by omega), Int.emod_lt_of_pos _ (by omega)⟩
    have ed := val_drop1 n hd
    have e0 : ((n + 1 : Nat) : Int) - 1 = (n : Int) := by omega
    have hb : 0 ≤ r * 65536 + rd l (n : Int) ∧ r * 65536 + rd l (n : Int) < 65536 * d := by
      constructor
      · have := hr0.1; omega
      · have := hr0.2; omega
    have hb2 : r * 65536 + rd l (n : Int) < 65536 * 65536 := by omega
    have w1 := wid (x := r * 65536) (by omega) (by omega)
    have w2 := wid (x := r * 65536 + rd l (n : Int)) (by omega) (by omega)
    have q0 : 0 ≤ (r * 65536 + rd l (n : Int)) / d := Int.ediv_nonneg hb.1 (by omega)
    have q1 : (r * 65536 + rd l (n : Int)) / d < 65536 := Int.ediv_lt_of_lt_mul (by omega) hb.2
    have w3 := wid (x := (r * 65536 + rd l (n : Int)) / d) (by omega) (by omega)
    have w4 := wid (x := (n : Int) - 1) (by omega) (by omega)
    have c1 : (n : Int) ≥ 0 := by omega
    have c2 : (n : Int) < (l.length : Int) := by omega
    have c3 : ¬ d = 0 := by omega
    have c4 : (n : Int) < ((List.replicate (n + 1) 0 ++ q).length : Int) := by simp; omega
    have t1 := td (x := r * 65536 + rd l (n : Int)) (y := d) hb.1
    have t2 := tm (x := r * 65536 + rd l (n : Int)) (y := d) hb.1
    rw [e0]
    refine Ev.step (fun k => by simp only [mintageref01_Small.l0]; rw [if_pos c1, if_pos c1, if_pos c2, if_neg c3, if_pos c4, w1, w2, t1, t2, w3, w4, Int.toNat_natCast, rep_set]) ?_
    have hV' : val (l.drop n) = r * 65536 + rd l (n : Int) + d * (65536 * (val (l.drop (n + 1)) / d)) := by
      have := Int.emod_add_mul_ediv (val (l.drop (n + 1))) d
      rw [← hr] at this
      rw [ed]; grind
    refine small_loop hd hs h1 h2 n ((r * 65536 + rd l (n : Int)) / d :: q) _ (by simp only [List.length_cons]; omega) (Dg.cons q0 q1 hq) ?_ ?_
    · rw [hV', Int.add_mul_ediv_left _ _ (by omega)]
      simp only [val]; rw [hv]
    · rw [hV', Int.add_mul_emod_self_left]
theorem small_ev {l : List Int} (hd : Dg l) (hs : Sm l) {d : Int} (h1 : 1 ≤ d) (h2 : d ≤ 65535) : Ev (fun k => mintageref01_Small.f k l d) (dig (val l / d).toNat, val l % d) := by
  have h := small_loop hd hs h1 h2 l.length [] 0 (by simp) Dg.nil (by rw [List.drop_length]; simp [val]) (by rw [List.drop_length]; simp [val])
  rw [List.append_nil] at h
  unfold Sm at hs
  refine Ev.congr (fun k => by unfold mintageref01_Small.f; rw [if_pos (by omega), Int.toNat_natCast, if_pos (by omega), wid (by omega) (by omega)]) h

theorem str_nil2 {l : List Int} : (strOfNums l).toList = ([] : List UInt8) ↔ l = [] := by
  rw [Go.Lib.strOfNums_toList]
  unfold Go.Lib.bytesOf
  simp
theorem dig_div10 (x : Nat) : (val (dig x) / 10).toNat = x / 10 ∧ val (dig x) % 10 = ((x % 10 : Nat) : Int) := by
  rw [val_dig]
  constructor
  · omega
  · omega
theorem digits_step {x : Nat} (h0 : 0 < x) (hx : (x : Int) < 18446744073709551616) {acc : List Int} (hacc : acc.length < 1000) {r : ByteArray}
    (h : Ev (fun k => mintageref02_Digits.l0 k (dig (x / 10)) (strOfNums (digit_Pad.dg (x : Int) :: acc))) r) : Ev (fun k => mintageref02_Digits.l0 k (dig x) (strOfNums acc)) r := by
  have hl : (dig x).length ≤ 4 := dig_len (by omega)
  have hne : 0 < (dig x).length := List.length_pos_iff.2 (fun e => by have := dig_eq_nil.1 e; omega)
  have sm := small_ev (dig_dg x) (by unfold Sm; omega) (d := 10) (by decide) (by decide)
  obtain ⟨e1, e2⟩ := dig_div10 x
  rw [e1, e2] at sm
  refine Ev.step (fun k => by simp only [mintageref02_Digits.l0, if_pos (show ((dig x).length : Int) > 0 by omega)]; rfl) ?_
  refine Ev.bind sm ?_
  have e3 : wrap64 (48 + ((x % 10 : Nat) : Int)) % 256 = digit_Pad.dg (x : Int) := by
    rw [dg_of (Int.natCast_nonneg _), wrap64_id (by omega) (by omega)]; omega
  have e4 : (strOfNums [digit_Pad.dg (x : Int)]).size + (strOfNums acc).size ≤ 9223372036854775807 := by rw [strOfNums_size, strOfNums_size]; simp; omega
  simp only [Option.bind_some, e3, if_pos e4, str_append, List.singleton_append]
  exact h
theorem digits_end (acc : List Int) : Ev (fun k => mintageref02_Digits.l0 k (dig 0) (strOfNums acc)) (if acc = [] then ⟨#[48]⟩ else strOfNums acc) := by
  refine Ev.step (fun k => by simp only [mintageref02_Digits.l0, dig_zero, List.length_nil]; rw [if_neg (by decide)]) ?_
  by_cases h : acc = []
  · rw [if_pos h]
    simp only [if_pos (str_nil2.2 h)]
    exact Ev.now _
  · rw [if_neg h]
    simp only [if_neg (fun q => h (str_nil2.1 q))]
    exact Ev.now _
theorem digits_loop : ∀ (c x : Nat) (acc : List Int), (x : Int) < 18446744073709551616 → x < 10 ^ (c + 1) → 10 ^ c ≤ x → acc.length + c < 1000 →
    Ev (fun k => mintageref02_Digits.l0 k (dig x) (strOfNums acc)) (strOfNums (digit_Pad.D (c + 1) (x : Int) ++ acc)) := by
  intro c
  induction c with
  | zero =>
    intro x acc hx h1 h2 hl
    have h10 : x < 10 := by simpa using h1
    have h1' : 1 ≤ x := by simpa using h2
    refine digits_step (by omega) hx (by omega) ?_
    rw [show x / 10 = 0 by omega]
    have := digits_end (digit_Pad.dg (x : Int) :: acc)
    rw [if_neg (by simp)] at this
    exact this
  | succ c ih =>
    intro x acc hx h1 h2 hl
    have hp : 1 ≤ 10 ^ c := Nat.one_le_pow _ _ (by decide)
    have e1 : 10 ^ (c + 1) = 10 ^ c * 10 := Nat.pow_succ ..
    have e2 : 10 ^ (c + 1 + 1) = 10 ^ c * 10 * 10 := by rw [Nat.pow_succ, e1]
    refine digits_step (by omega) hx (by omega) ?_
    have := ih (x / 10) (digit_Pad.dg (x : Int) :: acc) (by omega) (by omega) (by omega) (by simp; omega)
    have en : digit_Pad.nx (x : Int) = ((x / 10 : Nat) : Int) := by rw [nx_of (Int.natCast_nonneg _) hx]; omega
    rw [show digit_Pad.D (c + 1 + 1) (x : Int) ++ acc = digit_Pad.D (c + 1) ((x / 10 : Nat) : Int) ++ digit_Pad.dg (x : Int) :: acc from by
      have : digit_Pad.D (c + 1 + 1) (x : Int) = digit_Pad.D (c + 1) (digit_Pad.nx (x : Int)) ++ [digit_Pad.dg (x : Int)] := rfl
      rw [this, en]; simp]
    exact this
theorem digits_ev {x c : Nat} (hx : (x : Int) < 18446744073709551616) (h1 : x < 10 ^ (c + 1)) (h2 : c = 0 ∨ 10 ^ c ≤ x) (hc : c ≤ 19) : Ev (fun k => mintageref02_Digits.f k (dig x)) (strOfNums (digit_Pad.D (c + 1) (x : Int))) := by
  unfold mintageref02_Digits.f
  have e0 : (⟨#[]⟩ : ByteArray) = strOfNums [] := rfl
  rw [e0]
  by_cases h0 : x = 0
  · subst h0
    have hc0 : c = 0 := by
      rcases h2 with h | h
      · exact h
      · have : 0 < 10 ^ c := Nat.pow_pos (by decide)
        omega
    subst hc0
    have := digits_end []
    rw [if_pos rfl] at this
    exact this
  · have h3 : 10 ^ c ≤ x := by
      rcases h2 with rfl | h
      · simp; omega
      · exact h
    have := digits_loop c x [] hx h1 h3 (by simp; omega)
    rw [List.append_nil] at this
    exact this
theorem D_zero : ∀ n, digit_Pad.D n 0 = List.replicate n 48
  | 0 => rfl
  | n + 1 => by
    have e1 : digit_Pad.nx 0 = 0 := by decide
    have e2 : digit_Pad.dg 0 = 48 := by decide
    rw [digit_Pad.D, e1, e2, D_zero n, List.replicate_succ']
theorem D_rep : ∀ (n j : Nat) {x : Int}, 0 ≤ x → x < 18446744073709551616 → x < 10 ^ n → digit_Pad.D (n + j) x = List.replicate j 48 ++ digit_Pad.D n x
  | 0, j, x, h0, h1, h2 => by
    have : x = 0 := by simp at h2; omega
    subst this
    rw [Nat.zero_add, D_zero]; simp [digit_Pad.D]
  | n + 1, j, x, h0, h1, h2 => by
    have hn := nx_of h0 h1
    rw [Int.pow_succ] at h2
    have ih := D_rep n j (x := digit_Pad.nx x) (by rw [hn]; omega) (by rw [hn]; omega) (by rw [hn]; omega)
    rw [show n + 1 + j = n + j + 1 by omega]
    rw [digit_Pad.D, digit_Pad.D, ih, List.append_assoc]
/-- Cmp, both. -/
theorem cmp_same {a b : Int} (ha : 0 ≤ a ∧ a < 18446744073709551616) (hb : 0 ≤ b ∧ b < 18446744073709551616) : ∃ v, Ev (fun k => scaled_Cmp.f k a b) v ∧ Ev (fun k => mintageref12_Cmp.f k a b) v := by
  obtain ⟨v1, n1, o1, s1⟩ := size_any a
  obtain ⟨v2, n2, o2, s2⟩ := size_any b
  rcases szor a ha with ⟨x, hx, rfl⟩ | ⟨⟨v, n, e1⟩, ⟨v', n', e2⟩⟩
  · rcases szor b hb with ⟨y, hy, rfl⟩ | ⟨⟨v, n, e1⟩, ⟨v', n', e2⟩⟩
    · refine ⟨_, Dig.cmp_ev hx hy, ?_⟩
      unfold mintageref12_Cmp.f
      simp only [fits_bt hx, fits_bt hy, Option.bind_some, if_true, Bool.not_true]
      refine Ev.step (fun k => by simp only [mintageref12_Cmp.j0]; rfl) ?_
      simp only [Bool.false_eq_true, if_false]
      unfold Sz at hx hy
      have tail : ∀ p q : Int, Ev (fun k => mintageref12_Cmp.j1 k p q) (if p < q then -1 else if p > q then 1 else 0, 0) := by
        intro p q
        refine Ev.step (fun k => by simp only [mintageref12_Cmp.j1]; rfl) ?_
        by_cases c1 : p < q
        · simp only [if_pos c1]; exact Ev.now _
        · by_cases c2 : p > q
          · simp only [if_neg c1, if_pos c2]; exact Ev.now _
          · simp only [if_neg c1, if_neg c2]; exact Ev.now _
      by_cases n1 : x < 0
      · by_cases n2 : y < 0
        · have t := tail (ab y) (ab x)
          have e : (if ab y < ab x then (-1 : Int) else if ab y > ab x then 1 else 0) = if x < y then -1 else if x > y then 1 else 0 := by
            unfold ab; rw [if_pos n1, if_pos n2]
            by_cases c1 : x < y
            · rw [if_pos c1, if_pos (by omega)]
            · by_cases c2 : x > y
              · rw [if_neg c1, if_pos c2, if_neg (by omega), if_pos (by omega)]
              · rw [if_neg c1, if_neg c2, if_neg (by omega), if_neg (by omega)]
          rw [e] at t
          simp only [decide_eq_true n1, decide_eq_true n2, bne_self_eq_false, Bool.false_eq_true, if_false, if_true]
          exact t
        · simp only [decide_eq_true n1, decide_eq_false n2, if_true, show ((true != false) = true) from rfl, if_pos (show x < y by omega)]
          exact Ev.now _
      · by_cases n2 : y < 0
        · simp only [decide_eq_false n1, decide_eq_true n2, if_true, show ((false != true) = true) from rfl, Bool.false_eq_true, if_false, if_neg (show ¬ x < y by omega), if_pos (show x > y by omega)]
          exact Ev.now _
        · have t := tail (ab x) (ab y)
          unfold ab at t
          rw [if_neg n1, if_neg n2] at t
          unfold ab
          rw [if_neg n1, if_neg n2]
          simp only [decide_eq_false n1, decide_eq_false n2, bne_self_eq_false, Bool.false_eq_true, if_false]
          exact t
    · refine ⟨(0, 123), ?_, ?_⟩
      · unfold scaled_Cmp.f
        simp only [size_of hx, e1, Option.bind_some, if_true, Bool.not_false]
        refine Ev.step (fun k => by simp only [scaled_Cmp.j0]; rfl) ?_
        simp only [if_true]; exact Ev.now _
      · unfold mintageref12_Cmp.f
        simp only [fits_bt hx, e2, Option.bind_some, if_true, Bool.not_false]
        refine Ev.step (fun k => by simp only [mintageref12_Cmp.j0]; rfl) ?_
        simp only [if_true]; exact Ev.now _
  · have hf : ∃ q, mintageref12_Fits.f b = some q := by
      unfold mintageref12_Fits.f
      split <;> exact ⟨_, rfl⟩
    obtain ⟨q, e3⟩ := hf
    refine ⟨(0, 123), ?_, ?_⟩
    · unfold scaled_Cmp.f
      simp only [s2, e1, Option.bind_some, Bool.false_eq_true, if_false]
      refine Ev.step (fun k => by simp only [scaled_Cmp.j0]; rfl) ?_
      simp only [if_true]; exact Ev.now _
    · unfold mintageref12_Cmp.f
      simp only [e3, e2, Option.bind_some, Bool.false_eq_true, if_false]
      refine Ev.step (fun k => by simp only [mintageref12_Cmp.j0]; rfl) ?_
      simp only [if_true]; exact Ev.now _
end Go.Proofs.Ytjefmcfkhalagaa.Swx
