/- '[]byte(s)' of a string: a row that is read. -/
import Derived.Test.YtjefmcfkhalagaaWLast
import Derived.Test.YtjefmcfkhalagaaWMore
import Derived.Lib.ConvBytes
namespace Go.Proofs.Ytjefmcfkhalagaa.Keep
set_option linter.unusedVariables false
set_option linter.unusedSimpArgs false
open Go.RowKit Go.Proofs.YtjefmcfkhalagaaW.PrintWords Go.Proofs.YtjefmcfkhalagaaW.PrintLast

/-- All are bytes. -/
def Bts (l : List Int) : Prop := ∀ c ∈ l, 0 ≤ c ∧ c < 256
theorem Bts.nil : Bts [] := fun c h => by cases h
theorem Bts.append {l m : List Int} (h : Bts l) (k : Bts m) : Bts (l ++ m) := fun c hc => (List.mem_append.1 hc).elim (h c) (k c)
theorem Bts.take {l : List Int} (h : Bts l) (n : Nat) : Bts (l.take n) := fun c hc => h c (List.mem_of_mem_take hc)
theorem str_append (l m : List Int) : strOfNums l ++ strOfNums m = strOfNums (l ++ m) := by
  apply ByteArray.ext
  simp [strOfNums]
theorem str_get {l : List Int} (h : Bts l) {j : Nat} (hj : j < l.length) : (((strOfNums l).data.toList.getD j 0).toNat : Int) = l.getD j 0 := by
  rw [strOfNums_data, List.getD_eq_getElem?_getD, List.getD_eq_getElem?_getD, List.getElem?_map, List.getElem?_eq_getElem hj]
  have hb := h _ (List.getElem_mem hj)
  simp only [Option.map_some, Option.getD_some]
  rw [UInt8.toNat_ofNat_of_lt' (by show l[j].toNat < 256; omega)]
  omega
theorem bytesWorld_below (w : World) (e : TypeId) (s : ByteArray) : Below w.heap.size w (Go.Lib.bytesWorld w e s) := by
  refine ⟨?_, ?_, ?_, by rw [Go.Lib.bytesWorld_size]; omega, fun k hk => Go.Lib.bytesWorld_at_old w e s k hk⟩
  all_goals
    unfold Go.Lib.bytesWorld World.freeze
    split <;> rfl
theorem bytesWorld_reads (w : World) (e : TypeId) {l : List Int} (hl : Bts l) (hsz : l.length ≤ 140737488355328) : Kd.C (Kd.int .u8) (Go.Lib.bytesWorld w e (strOfNums l)) (some ⟨w.heap.size, 0, none⟩) l.length l := by
  refine Kd.C_of_reads (h1 := fun _ => rfl) (readsInt_of.1 ⟨rfl, by omega, fun hn => ⟨_, rfl, fun j hj => ?_⟩⟩)
  have := Go.Lib.bytesWorld_cell w e (strOfNums l) j (by rw [strOfNums_size]; exact hj)
  rw [str_get hl hj] at this
  rw [show Addr.add ⟨w.heap.size, 0, none⟩ j = ⟨w.heap.size, j, none⟩ by unfold Addr.add; split <;> simp_all]
  exact this
section
variable {P : Program} {ops : Array Oper} {rest : List Oper} {o : Oper} {a : Act} {Q : Exit → Act → World → Prop}
/-- The same at the operation. -/
theorem conv_bytes {W : World} (hgd : o.guard = none) (src dst e : TypeId) (x : Operand) (ho : o.op = .convert src dst x) (l : List Int) (hl : Bts l) (hx : a.eval x = .string (strOfNums l)) {u : TypeDesc} (hs : P.underlying src = some u) (hd : P.underlying dst = some (.slice e)) (he : P.underlying e = some (.int .u8))
    (hsz : l.length ≤ 140737488355328) (h : ∀ A c W1, Kd.C (Kd.int .u8) W1 (some A) l.length l → (∃ cells fr, W1.heap[A.block]? = some (.cells cells e fr)) → l.length ≤ c → Below W.heap.size W W1 → wpList P ops Q rest (a.put o.dst (.slice (some A) l.length c)) W1) : wpList P ops Q (o :: rest) a W := by
  have hr := Go.Lib.run_convert_string_bytes (P := P) W src dst e (strOfNums l) hs hd he
  rw [strOfNums_size] at hr
  exact Kd.event_run hgd (v := .slice (some ⟨W.heap.size, 0, none⟩) l.length (grownCap W l.length 0 e)) (w1 := Go.Lib.bytesWorld W e (strOfNums l)) (by simp [execOp, ho, hx]; rw [hr]; rfl) (h _ _ _ (bytesWorld_reads W e hl hsz) ⟨_, _, Go.Lib.bytesWorld_at_new W e (strOfNums l)⟩ (grownCap_ge _ _ _ _) (bytesWorld_below _ _ _))
end
end Go.Proofs.Ytjefmcfkhalagaa.Keep
