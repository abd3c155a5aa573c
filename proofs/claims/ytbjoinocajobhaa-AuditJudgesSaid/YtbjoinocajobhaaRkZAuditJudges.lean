/- The document's judge: all, fits, walked. -/
import Derived.Test.YtbjoinocajobhaaRjZAuditJudges
namespace Go.Proofs.Ytbjoinocajobhaa.Ju
set_option linter.unusedVariables false
set_option linter.unusedSimpArgs false
open Go.RowKit Go.Proofs.Ytbjoinocajobhaa.Q Go.Proofs.YtbjoinocajobhaaW.PrintWords Go.Proofs.YtbjoinocajobhaaW.PrintLast Go.Proofs.Ytbjoinocajobhaa.Keep Go.Maps
theorem and1 (n : Int) : Go.bits .and .i64 n 1 = n % 2 := by
  have h1 : (BitVec.ofInt 64 1).toNat = 2 ^ 1 - 1 := by decide
  have key : (BitVec.ofInt 64 n &&& BitVec.ofInt 64 1).toNat = (n % ((2 ^ 64 : Nat) : Int)).toNat % 2 ^ 1 := by
    rw [BitVec.toNat_and, BitVec.toNat_ofInt, h1, Nat.and_two_pow_sub_one_eq_mod]
  show IntKind.i64.wrap ((BitVec.ofInt 64 n &&& BitVec.ofInt 64 1).toNat : Nat) = n % 2
  rw [key, IntKind.wrap_i64]
  omega
theorem bit64 {m i : Nat} : Go.bits .and .i64 ((m : Int) / 2 ^ i) 1 = if m.testBit i = true then 1 else 0 := by
  have e : (m : Int) / 2 ^ i = ((m / 2 ^ i : Nat) : Int) := by rw [Int.natCast_ediv]; norm_cast
  rw [and1, e, Nat.testBit_eq_decide_div_mod_eq]
  rcases Nat.mod_two_eq_zero_or_one (m / 2 ^ i) with h | h
  · rw [h]; simp; omega
  · rw [h]; simp; omega
set_option maxHeartbeats 2000000 in
set_option maxRecDepth 100000 in
theorem rall_calls (w : World) (g : Nat) (A : Option Addr) (c : Nat) (l : List S32) (m : Nat) (k0 : w.cell? ⟨g, 0, none⟩ = some (.slice A l.length c)) (hr : Kd.C k32 w A l.length l) (hm : m < 16384) (hl : l.length ≤ 14) :
    Calls Try.prog 36 #[.pointer (some ⟨g, 0, none⟩), .int .i64 (m : Int)] w fun e w' => e = .returned (.bool (over l m)) ∧ w = w' := by
  have CR := Aside0.mk hr
  clear hr
  go_enter Try.func36, Try.ntmps36
  go_upto_region 2 with fail
  go_loop [5] (fun v => ∃ j : Nat, j ≤ l.length ∧ v = .int .i64 j ∧ Aside0 (∀ i, i < j → (!(ended (sp l i) && !m.testBit i)) = true)) (fun v => l.length - (intOf v).toNat)
  case atStart => exact ⟨0, Nat.zero_le _, rfl, ⟨fun i hi => by omega⟩⟩
  case round =>
    obtain ⟨j, hj, rfl, HT⟩ := hrel
    by_cases hlt : j < l.length
    · obtain ⟨ad, e, h0, h1, h2, h3, h4⟩ := span_at CR.out (Below.refl _ _) hlt
      subst e
      have p1 := eq_true (show (0 : Int) ≤ (j : Int) by omega)
      have p2 := eq_true (show (j : Int) < (l.length : Int) by omega)
      have p3 := eq_true (show (j : Int) ≤ 32 by omega)
      have hz := bit64 (m := m) (i := j)
      cases hb : m.testBit j
      case true =>
        rw [hb, if_pos rfl] at hz
        go_wp2_with fail
        go_round
        case rel => exact ⟨j + 1, by omega, by go_num, ⟨upto HT.out (by rw [hb]; simp)⟩⟩
        case measure => simp [intOf]; omega
      case false =>
        rw [hb, if_neg (by decide)] at hz
        cases hE : ended (sp l j)
        case true =>
          have he : ((sp l j).f2 != -1) = true := hE
          go_wp2_with fail
          go_ret
          exact ⟨by rw [over_false hlt (by rw [hE, hb]; rfl)]; rfl, rfl⟩
        case false =>
          have he : ((sp l j).f2 != -1) = false := hE
          go_wp2_with fail
          go_round
          case rel => exact ⟨j + 1, by omega, by go_num, ⟨upto HT.out (by rw [hE]; rfl)⟩⟩
          case measure => simp [intOf]; omega
    · obtain rfl : j = l.length := by omega
      have p2 := eq_false (show ¬ ((l.length : Int) < (l.length : Int)) by omega)
      go_wp2_with fail
      go_ret
      exact ⟨by rw [over_true HT.out]; rfl, rfl⟩
set_option maxHeartbeats 2000000 in
set_option maxRecDepth 100000 in
theorem rfits_calls (w : World) (g : Nat) (A : Option Addr) (c : Nat) (l : List S32) (m i : Nat) (k0 : w.cell? ⟨g, 0, none⟩ = some (.slice A l.length c)) (hr : Kd.C k32 w A l.length l) (hm : m < 16384) (hl : l.length ≤ 14) (hi : i < l.length) :
    Calls Try.prog 37 #[.pointer (some ⟨g, 0, none⟩), .int .i64 (i : Int), .int .i64 (m : Int)] w fun e w' => e = .returned (.bool (may l m i)) ∧ Below w.heap.size w w' := by
  have CR := Aside0.mk hr
  have K0 := Aside0.mk k0
  clear hr k0
  have q1 := eq_true (show (0 : Int) ≤ (i : Int) by omega)
  have q2 := eq_true (show (i : Int) ≤ 32 by omega)
  have hzi := bit64 (m := m) (i := i)
  go_enter Try.func37, Try.ntmps37
  cases hbi : m.testBit i
  case true =>
    rw [hbi, if_pos rfl] at hzi
    go_wp2_with fail
    go_ret
    exact ⟨by unfold may; rw [hbi]; simp, Below.refl _ _⟩
  case false =>
    rw [hbi, if_neg (by decide)] at hzi
    have HBI := Aside0.mk hbi
    go_upto_region 4 with fail
    clear hzi q1 q2 hbi
    go_loopw [7] (fun v wr => ∃ j : Nat, j ≤ l.length ∧ v = .int .i64 j ∧ Aside0 (Below w.heap.size w wr) ∧ Aside0 (∀ k, k < j → (!(!m.testBit k && ahead (sp l k) (sp l i))) = true)) (fun v _ => l.length - (intOf v).toNat)
    case atStart => exact ⟨0, Nat.zero_le _, rfl, ⟨Below.refl _ _⟩, ⟨fun i hi => by omega⟩⟩
    case round =>
      obtain ⟨j, hj, rfl, HB, HT⟩ := hrel
      have k1 : wr.cell? ⟨g, 0, none⟩ = some (.slice A l.length c) := (HB.out.cell (World.block_lt_of_cell? w _ K0.out)).trans K0.out
      by_cases hlt : j < l.length
      · obtain ⟨ad, e, h0, h1, h2, h3, h4⟩ := span_at CR.out HB.out hlt
        subst e
        obtain ⟨ad', e', g0, g1, g2, g3, g4⟩ := span_at CR.out HB.out hi
        obtain rfl := Option.some.inj e'
        clear e' h0 h1 h3 h4 g0 g2 g3 g4
        have p1 := eq_true (show (0 : Int) ≤ (j : Int) by omega)
        have p2 := eq_true (show (j : Int) < (l.length : Int) by omega)
        have p3 := eq_true (show (j : Int) ≤ 32 by omega)
        have q1 := eq_true (show (0 : Int) ≤ (i : Int) by omega)
        have q2 := eq_true (show (i : Int) < (l.length : Int) by omega)
        have hz := bit64 (m := m) (i := j)
        cases hb : m.testBit j
        case true =>
          rw [hb, if_pos rfl] at hz
          go_upto_region 6 with fail
          go_quiet (fail)
          go_wp2_with fail
          go_roundw
          case rel => exact ⟨j + 1, by omega, by go_num, ⟨pw_below_drewN HB.out _⟩, ⟨upto HT.out (by rw [hb]; simp)⟩⟩
          case measure => simp [intOf]; omega
        case false =>
          rw [hb, if_neg (by decide)] at hz
          cases hE : ended (sp l j)
          case true =>
            have he : ((sp l j).f2 != -1) = true := hE
            by_cases hA : (sp l j).f2 < (sp l i).f1
            · have ha : decide ((sp l j).f2 < (sp l i).f1) = true := decide_eq_true hA
              go_upto_region 6 with fail
              go_quiet (fail)
              go_wp2_with fail
              go_ret
              exact ⟨by rw [may_false hlt (by unfold ahead; rw [hE, hb, ha]; rfl)]; rfl, pw_below_drewN HB.out _⟩
            · have ha : decide ((sp l j).f2 < (sp l i).f1) = false := decide_eq_false hA
              go_upto_region 6 with fail
              go_quiet (fail)
              go_wp2_with fail
              go_roundw
              case rel => exact ⟨j + 1, by omega, by go_num, ⟨pw_below_drewN HB.out _⟩, ⟨upto HT.out (by unfold ahead; rw [hE, hb, ha]; rfl)⟩⟩
              case measure => simp [intOf]; omega
          case false =>
            have he : ((sp l j).f2 != -1) = false := hE
            go_upto_region 6 with fail
            go_quiet (fail)
            go_wp2_with fail
            go_roundw
            case rel => exact ⟨j + 1, by omega, by go_num, ⟨pw_below_drewN HB.out _⟩, ⟨upto HT.out (by unfold ahead; rw [hE]; simp)⟩⟩
            case measure => simp [intOf]; omega
      · obtain rfl : j = l.length := by omega
        have p2 := eq_false (show ¬ ((l.length : Int) < (l.length : Int)) by omega)
        go_wp2_with fail
        go_ret
        exact ⟨by rw [may_end HT.out, HBI.out]; rfl, HB.out⟩
end Go.Proofs.Ytbjoinocajobhaa.Ju
