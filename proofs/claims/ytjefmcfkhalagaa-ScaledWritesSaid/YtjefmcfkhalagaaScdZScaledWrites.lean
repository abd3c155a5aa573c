/- scaled.reader: digits. -/
import Derived.Test.YtjefmcfkhalagaaScrZScaledWrites
import Derived.Test.YtjefmcfkhalagaaRunZScaledWrites
import Derived.Test.YtjefmcfkhalagaaKeep0ZScaledWrites
import Derived.Deep.RegionLaw
import Derived.Test.YtjefmcfkhalagaaQ0ZScaledWrites
namespace Go.Proofs.Ytjefmcfkhalagaa.Scr
set_option linter.unusedVariables false
set_option linter.unusedSimpArgs false
open Go.RowKit Go.Proofs.Ytjefmcfkhalagaa.Q Go.Proofs.YtjefmcfkhalagaaW.PrintWords Go.Proofs.YtjefmcfkhalagaaW.PrintLast Go.Proofs.Ytjefmcfkhalagaa.Keep Go.Proofs.Ytjefmcfkhalagaa.Dig

/-- The text is read, whatever happens to block g. -/
def Txt (w : World) (g : Nat) (A : Option Addr) (l : List Int) : Prop := ∀ W' : World, (∀ k, k < w.heap.size → k ≠ g → W'.heap[k]? = w.heap[k]?) → Kd.C (Kd.int .u8) W' A l.length l
theorem mid {W' : World} {A : Option Addr} {c p m : Nat} {l : List Int} (h : Kd.C (Kd.int .u8) W' A l.length l) (hc : l.length ≤ c) (hm : m ≤ l.length - p) (hp : p ≤ l.length := by omega) :
    Kd.C (Kd.int .u8) W' (if c = p then A else A.map (·.add p)) m ((l.drop p).take m) := by
  have t := Kd.C_mid (c := c) (lo := p) (hi := p + m) h (by omega) (by omega) hc
  have e : (l.take (p + m)).drop p = (l.drop p).take m := by rw [List.drop_take]; congr 1; omega
  have e2 : ((l.drop p).take m).length = m := by rw [List.length_take, List.length_drop]; omega
  rw [e, e2] at t
  have e3 : p * (Kd.int .u8).sz = p := Nat.mul_one p
  rw [e3] at t
  exact t
set_option maxHeartbeats 2000000 in
set_option maxRecDepth 100000 in
theorem digits_calls (w : World) (g : Nat) (A : Option Addr) (c : Nat) (l : List Int) (p : Nat) (hg : Rd w g A c l p) (ht : Txt w g A l) (hc : l.length ≤ c) (hp : p ≤ l.length) (hl : l.length < 1000000) :
    Calls Try.prog 55 #[.pointer (some ⟨g, 0, none⟩)] w fun e w' => ∃ A', e = .returned (.slice A' (lead (l.drop p)) (c - p)) ∧ Rd w' g A c l (p + lead (l.drop p)) ∧ Chg (fun k => k = g) w w' ∧ ∀ W' : World, Kd.C (Kd.int .u8) W' A l.length l → Kd.C (Kd.int .u8) W' A' (lead (l.drop p)) ((l.drop p).take (lead (l.drop p))) := by
  obtain ⟨K, hK⟩ := (runs_ev (l := l) (by omega) p).rounds
  have hm := lead_le (l.drop p)
  rw [List.length_drop] at hm
  obtain ⟨m, hmm⟩ : ∃ m, m = lead (l.drop p) := ⟨_, rfl⟩
  rw [← hmm] at hK hm ⊢
  have HG := Aside0.mk hg
  have HT := Aside0.mk ht
  have HK := Aside0.mk hK
  unfold Rd at hg
  have k0 : w.cell? ⟨g, 0, none⟩ = some (.slice A l.length c) := (blk_cell hg 0).trans rfl
  have k1 : w.cell? ⟨g, 1, none⟩ = some (.int .i64 (p : Int)) := (blk_cell hg 1).trans rfl
  have kf := blk_frozen hg 1
  clear hg ht hK hmm
  go_enter Try.func55, Try.ntmps55
  go_wp2_with fail
  go_region_law (first
    | (go_simp; go_at_call 64; go_loud (refine (digit_Run.calls K A c l (p : Int) (m : Int) w.drew (HT.out w.drew (fun _ _ _ => rfl)) hc HK.out).mono ?_; rintro e_ w1 ⟨rfl, ⟨nd, rfl⟩⟩)))
  all_goals
    have e1 : IntKind.i64.wrap ((p : Int) + (m : Int)) = ((p + m : Nat) : Int) := by rw [IntKind.wrap_i64]; omega
    rw [e1]
    have hb1 : ((w.drewN (1 + nd)).setCell ⟨g, 1, none⟩ (.int .i64 ((p + m : Nat) : Int))).heap[g]? = some (.cells #[.slice A l.length c, .int .i64 ((p + m : Nat) : Int)] 69 (0, 0)) := blk_put (blk_drewN HG.out (1 + nd)) 1 _ rfl
    have hch : Chg (fun k => k = g) w ((w.drewN (1 + nd)).setCell ⟨g, 1, none⟩ (.int .i64 ((p + m : Nat) : Int))) := Chg.set_ (ok := fun k => k = g) (g := g) ((Chg.refl _ w).drewN_ (1 + nd)) rfl _
    obtain ⟨W1, hW1⟩ : ∃ W1, W1 = (w.drewN (1 + nd)).setCell ⟨g, 1, none⟩ (.int .i64 ((p + m : Nat) : Int)) := ⟨_, rfl⟩
    rw [← hW1] at hb1 hch ⊢
    clear hW1 k0 k1 kf e1
    have k0 : W1.cell? ⟨g, 0, none⟩ = some (.slice A l.length c) := (blk_cell hb1 0).trans rfl
    have k1 : W1.cell? ⟨g, 1, none⟩ = some (.int .i64 ((p + m : Nat) : Int)) := (blk_cell hb1 1).trans rfl
    have HB1 := Aside0.mk hb1
    have HCH := Aside0.mk hch
    clear hb1 hch
    have q1 := eq_true (show (0 : Int) ≤ (p : Int) by omega)
    have q2 := eq_true (show (p : Int) ≤ ((p + m : Nat) : Int) by omega)
    have q3 := eq_true (show ((p + m : Nat) : Int) ≤ (c : Int) by omega)
    have q4 := eq_true (show (0 : Int) ≤ ((p + m : Nat) : Int) by omega)
  all_goals go_wp2_with fail
  all_goals go_quiet (fail)
  all_goals go_wp2_with fail
  all_goals go_ret
  all_goals try subst h
  all_goals refine ⟨_, rfl, blk_drewN HB1.out _, HCH.out.drewN_ _, fun W' hW' => ?_⟩
  all_goals
    have t := mid hW' hc hm
    first
      | (rw [if_pos rfl] at t; exact t)
      | (rw [if_neg (by assumption)] at t; exact t)
      | (rw [if_neg (by omega)] at t; exact t)
end Go.Proofs.Ytjefmcfkhalagaa.Scr
