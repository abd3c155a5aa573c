/- ScaledReads, walked. -/
import Derived.Test.YtjefmcfkhalagaaSrfZScaledReads
import Derived.Test.YtjefmcfkhalagaaLendZScaledReads
import Derived.Test.YtjefmcfkhalagaaQ2ZScaledReads
import Derived.Test.YtjefmcfkhalagaaQ0ZScaledReads
import Derived.Test.YtjefmcfkhalagaaQ1ZScaledReads
namespace Go.Proofs.Ytjefmcfkhalagaa.Scr
set_option linter.unusedVariables false
set_option linter.unusedSimpArgs false
open Go.RowKit Go.Proofs.Ytjefmcfkhalagaa.Q Go.Proofs.YtjefmcfkhalagaaW.PrintWords Go.Proofs.YtjefmcfkhalagaaW.PrintLast Go.Proofs.YtjefmcfkhalagaaW.PrintMore Go.Proofs.Ytjefmcfkhalagaa.Dig Go.Proofs.Ytjefmcfkhalagaa.Keep

theorem wf_u8 {a : Int} (h : (Lit.int .u8 a).wf = true) : 0 ≤ a ∧ a < 256 := by
  have h2 : IntKind.u8.min ≤ a ∧ a ≤ IntKind.u8.max := by simpa [Lit.wf] using h
  have e1 : IntKind.u8.min = 0 := by decide
  have e2 : IntKind.u8.max = 255 := by decide
  omega
def refR (l : List Int) (sc : Int) : Int × Int × Int := if ¬ (0 ≤ sc ∧ sc ≤ 18) then (0, 0, 120) else if 1024 < l.length then (0, 0, 80) else resF l sc.toNat
theorem parse_ref (l : List Int) (sc : Int) : ∃ K, parseF K l sc = some (refR l sc) := by
  unfold refR
  by_cases h : 0 ≤ sc ∧ sc ≤ 18
  · rw [if_neg (by omega)]
    by_cases hl : 1024 < l.length
    · rw [if_pos hl]
      refine ⟨0, ?_⟩
      unfold parseF
      rw [if_neg (by omega), if_pos (by omega)]
    · rw [if_neg hl]
      have := parse_exact l sc.toNat (by omega) (by omega)
      rw [Int.toNat_of_nonneg h.1] at this
      exact this
  · rw [if_pos h]
    refine ⟨0, ?_⟩
    unfold parseF
    rw [if_pos (by omega)]
theorem ref_calls (sc : Int) (l : List Int) (hb : Bts l) (A : Option Addr) (c : Nat) (w : World) (hC : Kd.C (Kd.int .u8) w A l.length l) : Calls Try.prog 13 #[.int .i64 sc, .slice A l.length c] w (Told3 w (refR l sc)) := by
  unfold refR
  by_cases h : 0 ≤ sc ∧ sc ≤ 18
  · rw [if_neg (by omega)]
    by_cases hl : 1024 < l.length
    · rw [if_pos hl]; exact rp_long sc l A c w h hl
    · rw [if_neg hl]
      by_cases hf : NoForm l
      · have e : resF l sc.toNat = (0, (endAt l : Int), 121) := by unfold resF; rw [if_pos hf]
        rw [e]; exact rp_form sc l hb A c w h (by omega) hC hf
      · have := rp_go sc.toNat l hb A c w (by omega) (by omega) hC hf
        rw [Int.toNat_of_nonneg h.1] at this
        exact this
  · rw [if_pos h]; exact rp_scale sc l A c w h
theorem scale_some (a : Int) : ∃ r, mintagelaw12_scale.f a = some r := by
  unfold mintagelaw12_scale.f
  split
  · exact ⟨_, rfl⟩
  · unfold mintagekeep_Within.f
    have e1 : wrap64 (wrap64 ((18 : Int) - 0) + 1) = 19 := by unfold wrap64; omega
    rw [e1, if_neg (by omega)]
    split <;> exact ⟨_, rfl⟩
set_option maxHeartbeats 2000000 in
set_option maxRecDepth 100000 in
theorem scaledReads_walk (n : Int) (A : Option Addr) (len c : Nat) (z : List Int) (w : World) (_ : (Lit.int .i64 n).wf = true) (hz : (A = none ∧ len = 0 ∧ c = 0 ∧ z = []) ∨ ∃ x, A = some x ∧ len ≤ c ∧ c ≤ maxLen ∧ z.length = c ∧ (∀ i, i < z.length → w.cell? (x.add i) = some (.int .u8 (z.getD i 0))) ∧ ∀ n ∈ z, (Lit.int .u8 n).wf = true) (_ : len * 1 ≤ 140737488351232) :
    Calls Try.prog 3 #[.int .i64 n, .slice A len c] w fun e w' => e = .returned (.bool true) ∧ Below w.heap.size w w' := by
  obtain ⟨l, rfl, hr, hm, hw, hc⟩ := ReadsInt.ofRowC hz
  have HR : Aside0 (Kd.C (Kd.int .u8) w A l.length l) := ⟨Kd.C_of_reads (readsInt_of.1 hr)⟩
  obtain ⟨ys, hys⟩ : ∃ ys, ys = l.take 1100 := ⟨_, rfl⟩
  have hyl : ys.length ≤ 1100 := by rw [hys, List.length_take]; omega
  have hyl2 : ys.length ≤ l.length := by rw [hys, List.length_take]; omega
  have hcy : ys.length ≤ c := by omega
  have hby : Aside0 (Bts ys) := ⟨fun b hb => by
    rw [hys] at hb
    exact wf_u8 (hw b (List.mem_of_mem_take hb))⟩
  have HY : Aside0 (Kd.C (Kd.int .u8) w A ys.length ys) := ⟨Kd.C_of_reads (readsInt_of.1 (by
    have := reads_take hr (min 1100 l.length) (by omega)
    have e : ys = l.take (min 1100 l.length) := by rw [hys]; rcases Nat.le_total 1100 l.length with h | h
                                                   · rw [Nat.min_eq_left h]
                                                   · rw [Nat.min_eq_right h, List.take_of_length_le h, List.take_of_length_le (Nat.le_refl _)]
    rw [e]; simpa using this))⟩
  have HYS := Aside0.mk hys
  clear hr hz hw hm hys
  go_enter Try.func3, Try.ntmps3
  go_wp2_with (first
    | (go_at_call 10; refine (lv_calls _ A c ys HY.out (by omega)).mono ?_; rintro e_ w1 ⟨g, rfl, L_⟩; have L1 := Aside0.mk L_; clear L_)
    | (go_at_call 9; refine (cut_calls _ A c 1100 l HR.out hc ys HYS.out).mono ?_; rintro e_ w0 ⟨rfl, rfl⟩))
  go_loopw [6] (fun i wr => ∃ m : Nat, m ≤ 4 ∧ i = .int .i64 (m : Int) ∧ Aside0 (Lv w wr g A ys)) (fun i _ => 4 - (intOf i).toNat)
  case atStart => exact ⟨0, by omega, rfl, L1⟩
  case round =>
    obtain ⟨m, hm, rfl, L⟩ := hrel
    by_cases hlt : m < 4
    · obtain ⟨sc, hsc⟩ := scale_some (wrap64 (n + wrap64 (m * 64)))
      obtain ⟨K, hK⟩ := parse_ref ys sc
      obtain ⟨v, p, e, hr⟩ : ∃ v p e, refR ys sc = (v, p, e) := ⟨_, _, _, rfl⟩
      have H1 : Aside0 (parseF K ys sc = some (v, p, e)) := ⟨by rw [hK, hr]⟩
      have H2 : Aside0 (∀ W, Kd.C (Kd.int .u8) W A ys.length ys → Calls Try.prog 13 #[.int .i64 sc, .slice A ys.length c] W fun e' w' => e' = .returned (.tuple #[.int .u64 v, .int .i64 p, .int .i64 e]) ∧ Below W.heap.size W w') := ⟨fun W hC => by have := ref_calls sc ys hby.out A c W hC; rw [hr] at this; exact this⟩
      have HK := Aside0.mk hsc
      have E1 : Aside0 (wrap64 ((m : Int) * 64) = (m : Int) * 64 ∧ IntKind.i64.wrap ((m : Int) * 64) = (m : Int) * 64) := ⟨w_id0 rfl (by omega)⟩
      clear hsc hK hr
      rw [E1.out.1] at HK
      obtain ⟨e1, e1'⟩ := E1.out
      go_wp2_with (first
        | (go_at_call 14; go_loud (refine (mintagelaw12_num.calls e e w4 rfl).mono ?_; rintro e_ w5 ⟨rfl, hd_⟩; have M5 := Aside0.mk (M4.out.below hd_.below); clear hd_))
        | (go_at_call 13; go_loud (refine (H2.out w3 M3.out.read).mono ?_; rintro e_ w4 ⟨rfl, hd_⟩; have M4 := Aside0.mk (M3.out.below hd_); clear hd_))
        | (go_at_call 12; go_loud (refine (Parse_calls w2 _ _ ys sc M2.out.lent.C (by omega) K v p e H1.out).mono ?_; rintro e_ w3 ⟨rfl, hd_⟩; have M3 := Aside0.mk (M2.out.below hd_); clear hd_))
        | (go_at_call 11; go_loud (refine (mintagelaw12_scale.calls _ sc wr HK.out).mono ?_; rintro e_ w2 ⟨rfl, hd_⟩; have M2 := Aside0.mk (L.out.below hd_.below); clear hd_)))
      go_roundw
      case rel => exact ⟨m + 1, by omega, by go_num, M5⟩
      case measure => clear e1 e1'; simp [intOf]; omega
    · obtain rfl : m = 4 := by omega
      go_wp2_with (first
        | (go_at_call 16; refine (mintagelaw12_wakes.calls true _ rfl).mono ?_; rintro e_ w12 ⟨rfl, hd_⟩; have L12 := Aside0.mk (below_step L11.out hd_); clear hd_)
        | (go_at_call 15; refine (L.out.back_calls hcy (by omega)).mono ?_; rintro e_ w11 ⟨rfl, hd_⟩; have L11 := Aside0.mk hd_; clear hd_))
      go_ret
      exact ⟨rfl, L12.out⟩
end Go.Proofs.Ytjefmcfkhalagaa.Scr
