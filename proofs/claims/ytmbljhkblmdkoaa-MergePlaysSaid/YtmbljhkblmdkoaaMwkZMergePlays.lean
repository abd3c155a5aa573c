/- wakes of layer 27, walked. -/
import Derived.Test.YtmbljhkblmdkoaaMgsZMergePlays
import Derived.Test.YtmbljhkblmdkoaaQ0ZMergePlays
namespace Go.Proofs.Ytmbljhkblmdkoaa.Ms
set_option linter.unusedVariables false
set_option linter.unusedSimpArgs false
open Go.RowKit Go.Proofs.Ytmbljhkblmdkoaa.Q Go.Proofs.YtmbljhkblmdkoaaW.PrintWords Go.Proofs.YtmbljhkblmdkoaaW.PrintLast Go.Proofs.Ytmbljhkblmdkoaa.Keep Go.Maps Go.Proofs.Ytmbljhkblmdkoaa.Mg
abbrev sOne : ByteArray := { data := #[111, 110, 101] }
abbrev sNought : ByteArray := { data := #[110, 111, 117, 103, 104, 116] }
theorem put1 (n : Nat) (f : Hd ByteArray) : Mg.put 2 0 (fun _ => none) 0 1 sOne = ⟨upd (fun _ => none) 1 (some sOne), 0, 1, [], 0⟩ := by
  have h0 : upd (fun _ => (none : Option ByteArray)) 1 (some sOne) 0 = none := rfl
  unfold Mg.put
  rw [if_neg (by simp), if_neg (by decide), drain_none h0]
  rfl
theorem put2 : Mg.put 2 0 (upd (fun _ => none) 1 (some sOne)) 1 0 sNought = ⟨upd (upd (upd (upd (fun _ => none) 1 (some sOne)) 0 (some sNought)) 0 none) 1 none, 2, 0, [sNought, sOne], 0⟩ := by
  have h0 : upd (fun _ => (none : Option ByteArray)) 1 (some sOne) 0 = none := rfl
  have h1 : upd (upd (fun _ => (none : Option ByteArray)) 1 (some sOne)) 0 (some sNought) 0 = some sNought := rfl
  have h2 : upd (upd (upd (fun _ => (none : Option ByteArray)) 1 (some sOne)) 0 (some sNought)) 0 none (0 + 1) = some sOne := rfl
  unfold Mg.put
  rw [if_neg (by rw [h0]; simp), if_neg (by decide), drain_some h1, drain_some h2]
  rfl
theorem num_calls (e : Int) (w : World) : Calls Try.prog 7 #[.int .i64 e] w fun x w' => x = .returned (.int .i64 e) ∧ Drawn0 w w' := mintagelaw27_num.calls e e w rfl
theorem two_at {W : World} {A : Option Addr} {n : Nat} {x y : ByteArray} (h : Kd.C Kd.string W A n [x, y]) : ∃ ad, A = some ad ∧ ∀ W' : World, Below W.heap.size W W' → W'.cell? (ad.add 0) = some (.string x) ∧ W'.cell? (ad.add 1) = some (.string y) := by
  obtain ⟨h1, h2, h3⟩ := h
  obtain ⟨ad, e, -⟩ := h3 (by simp at h1; omega)
  refine ⟨ad, e, fun W' hb => ?_⟩
  obtain ⟨-, -, h3⟩ := Kd.C_below (d := Kd.string) ⟨h1, h2, h3⟩ hb
  obtain ⟨ad', e', h4⟩ := h3 (by simp at h1; omega)
  rw [e] at e'
  injection e' with e'
  subst e'
  obtain ⟨c0, -, k0, g0⟩ := h4 0 x rfl
  obtain ⟨c1, -, k1, g1⟩ := h4 1 y rfl
  have k0' : c0 = [.string x] := k0
  have k1' : c1 = [.string y] := k1
  subst k0'
  subst k1'
  exact ⟨g0 0 _ rfl, g1 0 _ rfl⟩
theorem R2_at {W : World} {base e : Nat} {ok : Nat → Prop} {v : Value} {x y : ByteArray} (h : Kd.R Kd.string e W base ok v [x, y]) : ∃ b c, v = .slice (some ⟨b, 0, none⟩) 2 c ∧ ∀ W' : World, Below W.heap.size W W' → W'.cell? ⟨b, 0, none⟩ = some (.string x) ∧ W'.cell? ⟨b, 1, none⟩ = some (.string y) := by
  obtain ⟨inner, o⟩ := Kd.R_own h
  obtain ⟨A, c, hv⟩ := Kd.R_slice h
  subst hv
  have C := (Kd.R_reads' h).2.2
  obtain ⟨ad, rfl, hat⟩ := two_at C
  rcases o.2 with ⟨hn, _⟩ | ⟨g, cap, cur, hv2, hb, _⟩
  · injection hn with h1 h2; cases h1
  · injection hv2 with h1 h2 h3
    injection h1 with h1
    subst h1
    exact ⟨g, c, rfl, fun W' hb => hat W' hb⟩
set_option maxHeartbeats 4000000 in
set_option maxRecDepth 100000 in
theorem wakes_calls (w : World) : Calls Try.prog 8 #[] w fun e w' => e = .returned (.bool true) ∧ Below w.heap.size w w' := by
  go_enter Try.func8, Try.ntmps8
  go_upto_region 5 with (first
    | (go_at_call 7; (with_reducible refine (num_calls _ _).mono ?_); rintro e_ w2 ⟨rfl, hd_⟩; have B2 := Aside0.mk (below_step B1.out hd_.below); have S2 := Aside0.mk (S1.out.below hd_.below); clear hd_)
    | (go_at_call 19; (with_reducible refine (new_calls 2 (by decide) (by decide) w).mono ?_); rintro e_ w1 ⟨g, bm, rfl, hS_, hg_, hbm_, hb_⟩; have S1 := Aside0.mk hS_; have B1 := Aside0.mk hb_; have LG := Aside0.mk hg_; have LB := Aside0.mk hbm_; clear hS_ hg_ hbm_ hb_)
    | (go_at_call 20; go_must ((refine (put_calls w2 g bm 0 2 0 (fun _ => none) 0 S2.out (by decide) (by decide) 1 sOne (by decide) (by unfold maxLen; decide)).mono ?_); rintro e_ w3 ⟨⟨v3, rfl, hR_⟩, hS_, hC_⟩; rw [put1 0 (fun _ => none)] at hS_ hR_; rw [put1 0 (fun _ => none)]; dsimp only at hS_ hR_ ⊢; obtain ⟨A3, c3, rfl⟩ := Kd.R_slice hR_; have S3 := Aside0.mk hS_; have B3 := Aside0.mk (B2.out.trans (hC_.below B2.out.size (fun b hb => by have := LG.out; have := LB.out; omega))); clear hS_ hR_ hC_)))
  go_upto_region 6 with (first
    | (go_at_call 20; go_must ((refine (put_calls w3 g bm 1 2 0 _ 1 S3.out (by decide) (by decide) 0 sNought (by decide) (by unfold maxLen; decide)).mono ?_); rintro e_ w4 ⟨⟨v4, rfl, hR_⟩, hS_, hC_⟩; rw [put2] at hS_ hR_; rw [put2]; dsimp only at hS_ hR_ ⊢; obtain ⟨b4, c4, rfl, hat⟩ := R2_at hR_; have HAT := Aside0.mk hat; clear hat; have S4 := Aside0.mk hS_; have B4 := Aside0.mk (B3.out.trans (hC_.below B3.out.size (fun b hb => by have := LG.out; have := LB.out; omega))); clear hS_ hR_ hC_)))
  clear S1 S2 S3 B1 B2 B3
  go_wp2_with (first
    | (go_at_call 21; (with_reducible refine (next_calls w6 S6.out).mono ?_); rintro e_ w7 ⟨rfl, hd_⟩; have B7 := Aside0.mk (below_step B6.out (below_eq hd_)); clear hd_)
    | (go_at_call 7; (with_reducible refine (num_calls 0 w5).mono ?_); rintro e_ w6 ⟨rfl, hd_⟩; have hd6 := below_step D5.out hd_.below; have c0 := (HAT.out w6 hd6).1; have c1 := (HAT.out w6 hd6).2; have B6 := Aside0.mk (below_step B5.out hd_.below); have S6 := Aside0.mk (S5.out.below hd_.below); clear hd_ hd6)
    | (go_at_call 7; (with_reducible refine (num_calls 0 w4).mono ?_); rintro e_ w5 ⟨rfl, hd_⟩; have D5 := Aside0.mk hd_.below; have B5 := Aside0.mk (below_step B4.out hd_.below); have S5 := Aside0.mk (S4.out.below hd_.below); clear hd_))
  go_ret
  exact ⟨rfl, B7.out⟩
end Go.Proofs.Ytmbljhkblmdkoaa.Ms
