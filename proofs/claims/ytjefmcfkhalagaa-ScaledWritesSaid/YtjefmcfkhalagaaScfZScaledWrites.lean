/- scaled.reader.read, walked: the reader's state. -/
import Derived.Test.YtjefmcfkhalagaaSceZScaledWrites
namespace Go.Proofs.Ytjefmcfkhalagaa.Scr
set_option linter.unusedVariables false
set_option linter.unusedSimpArgs false
open Go.RowKit Go.Proofs.Ytjefmcfkhalagaa.Q Go.Proofs.YtjefmcfkhalagaaW.PrintWords Go.Proofs.YtjefmcfkhalagaaW.PrintLast Go.Proofs.Ytjefmcfkhalagaa.Keep Go.Proofs.Ytjefmcfkhalagaa.Dig

structure St (w W : World) (g : Nat) (A : Option Addr) (c : Nat) (l : List Int) (p : Nat) : Prop where
  rd : Rd W g A c l p
  chg : Chg (fun k => k = g) w W
  txt : Txt w g A l
  glt : g < w.heap.size
theorem St.start {w : World} {g : Nat} {A : Option Addr} {c : Nat} {l : List Int} {p : Nat} (h : Rd w g A c l p) (ht : Txt w g A l) : St w w g A c l p := ⟨h, Chg.refl _ _, ht, blk_lt h⟩
theorem St.txt' {w W : World} {g : Nat} {A : Option Addr} {c : Nat} {l : List Int} {p : Nat} (h : St w W g A c l p) : Txt W g A l := fun W' hW => h.txt W' fun k hk hn => (hW k (Nat.lt_of_lt_of_le hk h.chg.size) hn).trans (h.chg.block k hk hn)
theorem St.below {w W W1 : World} {g : Nat} {A : Option Addr} {c : Nat} {l : List Int} {p : Nat} (h : St w W g A c l p) (hb : Below W.heap.size W W1) : St w W1 g A c l p :=
  ⟨(hb.block g (blk_lt h.rd)).trans h.rd, h.chg.trans (Chg.of_below hb), h.txt, h.glt⟩
theorem St.is_calls {w W : World} {g : Nat} {A : Option Addr} {c : Nat} {l : List Int} {p : Nat} (h : St w W g A c l p) (a b : Int) :
    Calls Try.prog 54 #[.pointer (some ⟨g, 0, none⟩), .int .u8 a, .int .u8 b] W fun e w' => e = .returned (.bool (isb l p a b)) ∧ St w w' g A c l p :=
  (Scr.is_calls W g A c l p a b h.rd (h.txt' W fun _ _ _ => rfl)).mono fun _ _ ⟨he, hd⟩ => ⟨he, h.below hd.below⟩
theorem St.put {w W : World} {g : Nat} {A : Option Addr} {c : Nat} {l : List Int} {p : Nat} (h : St w W g A c l p) (q : Nat) : St w (W.setCell ⟨g, 1, none⟩ (.int .i64 (q : Int))) g A c l q :=
  ⟨blk_put h.rd 1 _ rfl, h.chg.set_ (ok := fun k => k = g) (g := g) rfl _, h.txt, h.glt⟩
theorem St.digits_calls {w W : World} {g : Nat} {A : Option Addr} {c : Nat} {l : List Int} {p : Nat} (h : St w W g A c l p) (hc : l.length ≤ c) (hp : p ≤ l.length) (hl : l.length < 1000000) :
    Calls Try.prog 55 #[.pointer (some ⟨g, 0, none⟩)] W fun e w' => ∃ A', e = .returned (.slice A' (lead (l.drop p)) (c - p)) ∧ St w w' g A c l (p + lead (l.drop p)) ∧
      ∀ W' : World, Kd.C (Kd.int .u8) W' A l.length l → Kd.C (Kd.int .u8) W' A' (lead (l.drop p)) ((l.drop p).take (lead (l.drop p))) :=
  (Scr.digits_calls W g A c l p h.rd h.txt' hc hp hl).mono fun _ _ ⟨A', he, h1, h2, h3⟩ => ⟨A', he, ⟨h1, h.chg.trans h2, h.txt, h.glt⟩, h3⟩
theorem St.C {w W : World} {g : Nat} {A : Option Addr} {c : Nat} {l : List Int} {p : Nat} (h : St w W g A c l p) : Kd.C (Kd.int .u8) W A l.length l := h.txt' W fun _ _ _ => rfl
end Go.Proofs.Ytjefmcfkhalagaa.Scr
