/- WholeReads, walked. -/
import Derived.Test.YtlcglnnmcgpnpaaRpaZWholeReads
import Derived.Test.YtlcglnnmcgpnpaaLendZWholeReads
import Derived.Test.YtlcglnnmcgpnpaaQ2ZWholeReads
import Derived.Test.YtlcglnnmcgpnpaaQ0ZWholeReads
namespace Go.Proofs.Ytlcglnnmcgpnpaa.Keep
set_option linter.unusedVariables false
set_option linter.unusedSimpArgs false
open Go.RowKit Go.Proofs.Ytlcglnnmcgpnpaa.Q Go.Proofs.YtlcglnnmcgpnpaaW.PrintWords Go.Proofs.YtlcglnnmcgpnpaaW.PrintLast

theorem kind_some (a : Int) : ∃ r, mintagelaw05_kind.f a = some r := by
  unfold mintagelaw05_kind.f
  split <;> exact ⟨_, rfl⟩
set_option maxHeartbeats 2000000 in
set_option maxRecDepth 100000 in
theorem wholeReads_walk (n : Int) (A : Option Addr) (len c : Nat) (z : List Int) (w : World) (_ : (Lit.int .i64 n).wf = true) (hz : (A = none ∧ len = 0 ∧ c = 0 ∧ z = []) ∨ ∃ x, A = some x ∧ len ≤ c ∧ c ≤ maxLen ∧ z.length = c ∧ (∀ i, i < z.length → w.cell? (x.add i) = some (.int .u8 (z.getD i 0))) ∧ ∀ n ∈ z, (Lit.int .u8 n).wf = true) (_ : len * 1 ≤ 140737488351232) :
    Calls Try.prog 3 #[.int .i64 n, .slice A len c] w fun e w' => e = .returned (.bool true) ∧ Below w.heap.size w w' := by
  obtain ⟨l, rfl, hr, hm, hw, hc⟩ := ReadsInt.ofRowC hz
  have HR : Aside0 (Kd.C (Kd.int .u8) w A l.length l) := ⟨Kd.C_of_reads (readsInt_of.1 hr)⟩
  obtain ⟨ys, hys⟩ : ∃ ys, ys = l.take 4000 := ⟨_, rfl⟩
  have hyl : ys.length ≤ 4000 := by rw [hys, List.length_take]; omega
  have hyl2 : ys.length ≤ l.length := by rw [hys, List.length_take]; omega
  have hcy : ys.length ≤ c := by omega
  have HY : Aside0 (Kd.C (Kd.int .u8) w A ys.length ys) := ⟨Kd.C_of_reads (readsInt_of.1 (by
    have := reads_take hr (min 4000 l.length) (by omega)
    have e : ys = l.take (min 4000 l.length) := by rw [hys]; rcases Nat.le_total 4000 l.length with h | h
                                                   · rw [Nat.min_eq_left h]
                                                   · rw [Nat.min_eq_right h, List.take_of_length_le h, List.take_of_length_le (Nat.le_refl _)]
    rw [e]; simpa using this))⟩
  have HYS := Aside0.mk hys
  clear hr hz hw hm hys
  go_enter Try.func3, Try.ntmps3
  go_wp2_with (first
    | (go_at_call 10; refine (lv_calls _ A c ys HY.out (by omega)).mono ?_; rintro e_ w1 ⟨g, rfl, L_⟩; have L1 := Aside0.mk L_; clear L_)
    | (go_at_call 9; refine (cut_calls _ A c 4000 l HR.out hc ys HYS.out).mono ?_; rintro e_ w0 ⟨rfl, rfl⟩))
  go_loopw [6] (fun i wr => ∃ m : Nat, m ≤ 9 ∧ i = .int .i64 (m : Int) ∧ Aside0 (Lv w wr g A ys)) (fun i _ => 9 - (intOf i).toNat)
  case atStart => exact ⟨0, by omega, rfl, L1⟩
  case round =>
    obtain ⟨m, hm, rfl, L⟩ := hrel
    by_cases hlt : m < 9
    · obtain ⟨kd, hkd⟩ := kind_some (wrap64 (n + m))
      obtain ⟨K, v, p, e, h1, h2⟩ := Whw.reads kd (l := ys) (by omega)
      have HK := Aside0.mk hkd
      have H1 := Aside0.mk h1
      have H2 := Aside0.mk h2
      clear hkd h1 h2
      go_wp2_with (first
        | (go_at_call 14; refine (mintagelaw05_num.calls e e w4 rfl).mono ?_; rintro e_ w5 ⟨rfl, hd_⟩; have M5 := Aside0.mk (M4.out.below hd_.below); clear hd_)
        | (go_at_call 13; refine (mintageref05_Parse.calls K kd A c ys v p e w3 M3.out.read hcy H2.out).mono ?_; rintro e_ w4 ⟨rfl, hd_⟩; have M4 := Aside0.mk (M3.out.below hd_); clear hd_)
        | (go_at_call 12; refine (mintagelaw05_kind.calls _ kd w2 HK.out).mono ?_; rintro e_ w3 ⟨rfl, hd_⟩; have M3 := Aside0.mk (M2.out.below hd_.below); clear hd_)
        | (go_at_call 11; refine (whole_Parse.calls K kd _ _ ys v p e w1 M1.out.lent.C (by omega) H1.out).mono ?_; rintro e_ w2 ⟨rfl, hd_⟩; have M2 := Aside0.mk (M1.out.below hd_); clear hd_)
        | (go_at_call 12; refine (mintagelaw05_kind.calls _ kd wr HK.out).mono ?_; rintro e_ w1 ⟨rfl, hd_⟩; have M1 := Aside0.mk (L.out.below hd_.below); clear hd_))
      go_roundw
      case rel => exact ⟨m + 1, by omega, by go_num, M5⟩
      case measure => simp [intOf]; omega
    · obtain rfl : m = 9 := by omega
      go_wp2_with (first
        | (go_at_call 16; refine (mintagelaw05_wakes.calls true _ rfl).mono ?_; rintro e_ w12 ⟨rfl, hd_⟩; have L12 := Aside0.mk (below_step L11.out hd_); clear hd_)
        | (go_at_call 15; refine (L.out.back_calls hcy (by omega)).mono ?_; rintro e_ w11 ⟨rfl, hd_⟩; have L11 := Aside0.mk hd_; clear hd_))
      go_ret
      exact ⟨rfl, L12.out⟩
end Go.Proofs.Ytlcglnnmcgpnpaa.Keep
