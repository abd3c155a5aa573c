/- Rows that are read, of no book: they stay while a book is written. -/
import Derived.Test.YtjefmcfkhalagaaKeep0ZScaledWrites
namespace Go.Proofs.Ytjefmcfkhalagaa.Keep
set_option linter.unusedVariables false
set_option linter.unusedSimpArgs false
open Go.RowKit Go.Proofs.YtjefmcfkhalagaaW.PrintWords Go.Proofs.YtjefmcfkhalagaaW.PrintLast

/-- A row of whole numbers that is read; its block's type. -/
structure RdR (e : TypeId) (k : IntKind) (W : World) (A : Option Addr) (l : List Int) : Prop where
  c : Kd.C (Kd.int k) W A l.length l
  t : ∀ ad, A = some ad → ∃ cells fr, W.heap[ad.block]? = some (.cells cells e fr)
theorem RdR.nil (e : TypeId) (k : IntKind) (W : World) : RdR e k W none [] := ⟨Kd.C_of_reads (h1 := fun _ => rfl) (readsInt_of.1 (ReadsInt.nil W k)), fun ad h => by cases h⟩
theorem RdR.mk1 {e : TypeId} {k : IntKind} {W : World} {A : Addr} {l : List Int} (h : Kd.C (Kd.int k) W (some A) l.length l) (ht : ∃ cells fr, W.heap[A.block]? = some (.cells cells e fr)) : RdR e k W (some A) l :=
  ⟨h, fun ad e => by injection e with e; subst e; exact ht⟩
theorem blk_cell_eq {W w1 : World} {ad : Addr} (h : w1.heap[ad.block]? = W.heap[ad.block]?) (j : Nat) : w1.cell? (ad.add j) = W.cell? (ad.add j) := by
  have e : (ad.add j).block = ad.block := by unfold Addr.add; split <;> rfl
  unfold World.cell?
  rw [e, h]
theorem RdR.move {e : TypeId} {k : IntKind} {W w1 : World} {A : Option Addr} {l : List Int} (h : RdR e k W A l) (hm : ∀ ad, A = some ad → w1.heap[ad.block]? = W.heap[ad.block]?) : RdR e k w1 A l := by
  refine ⟨?_, fun ad hA => ?_⟩
  · have hr : ReadsInt W k A l.length l := readsInt_of.2 (Kd.reads_of_C (d := (0 : Int)) (h1 := fun _ => rfl) h.c)
    refine Kd.C_of_reads (h1 := fun _ => rfl) (readsInt_of.1 ⟨hr.1, hr.2.1, fun hn => ?_⟩)
    obtain ⟨ad, hA, hc⟩ := hr.2.2 hn
    exact ⟨ad, hA, fun j hj => by rw [blk_cell_eq (hm ad hA)]; exact hc j hj⟩
  · obtain ⟨cells, fr, ht⟩ := h.t ad hA
    exact ⟨cells, fr, by rw [hm ad hA]; exact ht⟩
theorem RdR.below {e : TypeId} {k : IntKind} {W w1 : World} {A : Option Addr} {l : List Int} (h : RdR e k W A l) (hb : Below W.heap.size W w1) : RdR e k w1 A l :=
  h.move fun ad hA => by
    obtain ⟨cells, fr, ht⟩ := h.t ad hA
    exact hb.block ad.block (blk_lt ht)
/-- All but blocks of these types is as it was. -/
def Typed (ts : List TypeId) (W w1 : World) : Prop := Chg (fun j => ∃ t ∈ ts, ∃ cells, W.heap[j]? = some (.cells cells t (0, 0))) W w1
theorem RdR.typed {e : TypeId} {k : IntKind} {W w1 : World} {A : Option Addr} {l : List Int} (h : RdR e k W A l) {ts : List TypeId} (hc : Typed ts W w1) (he : e ∉ ts) : RdR e k w1 A l :=
  h.move fun ad hA => by
    obtain ⟨cells, fr, ht⟩ := h.t ad hA
    refine hc.block ad.block (blk_lt ht) ?_
    rintro ⟨t, hm, cells', h'⟩
    rw [ht] at h'
    injection h' with h'
    injection h' with _ h2
    exact he (h2 ▸ hm)
end Go.Proofs.Ytjefmcfkhalagaa.Keep
