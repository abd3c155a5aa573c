/- The document's PrintDay and PrintMoment, walked. -/
import Derived.Test.YtobgpdmiiipmmaaConvZDateParts
import Derived.Test.YtobgpdmiiipmmaaRdrZDateParts
import Derived.Outline
import Derived.Test.YtobgpdmiiipmmaaQ1ZDateParts
import Derived.Test.YtobgpdmiiipmmaaQ2ZDateParts
namespace Go.Proofs.Ytobgpdmiiipmmaa.Keep
set_option linter.unusedVariables false
set_option linter.unusedSimpArgs false
open Go.RowKit Go.Proofs.Ytobgpdmiiipmmaa.Q Go.Proofs.YtobgpdmiiipmmaaW.PrintWords Go.Proofs.YtobgpdmiiipmmaaW.PrintLast

/-- A row that is read, in a new world. -/
def ToldR (w : World) (l : List Int) (er : Int) (e : Ending) (w' : World) : Prop := ∃ A c, e = .returned (.tuple #[.slice A l.length c, .int .i64 er]) ∧ RdR 5 .u8 w' A l ∧ l.length ≤ c ∧ Below w.heap.size w w'
set_option maxHeartbeats 1000000 in
set_option maxRecDepth 100000 in
theorem rpd_no (b n : Int) (w : World) (h1 : mintageref13_IsDay.f b = some (n, false)) : Calls Try.prog 11 #[.int .u64 b] w (ToldR w [] 131) := by
  have H1 := Aside0.mk h1
  clear h1
  go_enter Try.func11, Try.ntmps11
  go_wp2_with (first | (go_at_call 33; refine (mintageref13_IsDay.calls b n false _ H1.out).mono ?_; rintro e_ w1 ⟨rfl, hd_⟩; have HB := Aside0.mk hd_.below; clear hd_))
  go_ret2
  exact ⟨none, 0, rfl, RdR.nil _ _ _, Nat.le_refl _, HB.out⟩
set_option maxHeartbeats 1000000 in
set_option maxRecDepth 100000 in
theorem rpd_yes (k : Nat) (b n : Int) (l : List Int) (hl : Bts l) (hlen : l.length ≤ 1000) (w : World) (h1 : mintageref13_IsDay.f b = some (n, true)) (h2 : mintageref13_text.f k n = some (strOfNums l)) : Calls Try.prog 11 #[.int .u64 b] w (ToldR w l 0) := by
  have H1 := Aside0.mk h1
  have H2 := Aside0.mk h2
  have HL := Aside0.mk hl
  clear h1 h2 hl
  obtain ⟨S, hS⟩ : ∃ S, strOfNums l = S := ⟨_, rfl⟩
  have HS := Aside0.mk hS
  rw [hS] at H2
  clear hS
  go_enter Try.func11, Try.ntmps11
  go_wp2_with (first
    | ((with_reducible refine gate_dst (N := 15) rfl ?_); refine conv_bytes rfl 9 29 5 _ rfl l HL.out (by rw [HS.out]; rfl) Try.underlying9 Try.underlying29 Try.underlying5 (by omega) ?_; intro A_ c_ w3 hC_ hT_ hc_ hb_; have HC3 := Aside0.mk (RdR.mk1 hC_ hT_); clear hT_; have HB3 := Aside0.mk (below_step HB2.out hb_); clear hC_ hb_)
    | (go_at_call 34; refine (mintageref13_text.calls k n S _ H2.out).mono ?_; rintro e_ w2 ⟨rfl, hd_⟩; have HB2 := Aside0.mk (below_step HB.out hd_); clear hd_)
    | (go_at_call 33; refine (mintageref13_IsDay.calls b n true _ H1.out).mono ?_; rintro e_ w1 ⟨rfl, hd_⟩; have HB := Aside0.mk hd_.below; clear hd_))
  go_ret2
  exact ⟨_, _, rfl, HC3.out, hc_, HB3.out⟩
theorem str_last {l : List Int} (hl : Bts l) (h : 0 < l.length) (W : World) {z : Int} (hz : l.getLast? = some z) : (Instr.index 9 (.string (strOfNums l)) (.int .i64 ((l.length : Int) - 1))).run Try.prog W = .ok (.int .u8 z) W := by
  rw [run_index_string (h := Try.underlying9)]
  have hs : (strOfNums l).size = l.length := strOfNums_size l
  rw [dif_pos ⟨by omega, by omega⟩]
  have hg := str_get hl (j := l.length - 1) (by omega)
  have e : ((l.length : Int) - 1).toNat = l.length - 1 := by omega
  have hz' : l.getD (l.length - 1) 0 = z := by
    rw [List.getLast?_eq_getElem?] at hz
    rw [List.getD_eq_getElem?_getD, hz]; rfl
  rw [hz'] at hg
  have hv : (((strOfNums l)[((l.length : Int) - 1).toNat]'(by omega)).toNat : Int) = z := by
    rw [← hg]
    congr 2
    have h1 : (strOfNums l).data.toList.getD (l.length - 1) 0 = (strOfNums l)[((l.length : Int) - 1).toNat]'(by omega) := by
      rw [List.getD_eq_getElem?_getD, List.getElem?_eq_getElem (show l.length - 1 < (strOfNums l).data.toList.length by rw [strOfNums_data, List.length_map]; omega)]
      simp [e]; rfl
    exact h1.symm
  rw [hv]
theorem str_cut {l : List Int} (h : 0 < l.length) (W : World) : (Instr.slice 9 (.string (strOfNums l)) none (some (.int .i64 ((l.length : Int) - 1))) none).run Try.prog W = .ok (.string (strOfNums l.dropLast)) W := by
  have hs : (strOfNums l).size = l.length := strOfNums_size l
  rw [run_slice_string_h (ht := Try.underlying9) (h0 := by omega) (h2 := by omega)]
  congr 2
  apply ByteArray.ext
  have e : ((l.length : Int) - 1).toNat = l.length - 1 := by omega
  rw [e]
  simp [strOfNums, List.dropLast_eq_take]
/-- The strings' parts: their lengths. -/
structure Parts (k : Nat) (q : Int) (D H M S : ByteArray) : Prop where
  d : mintageref13_text.f k (q / 86400000000 + -719528) = some D
  h : mintageref13_digits.f k (q % 86400000000 / 1000000 / 3600) 2 = some H
  m : mintageref13_digits.f k (q % 86400000000 / 1000000 / 60 % 60) 2 = some M
  s : mintageref13_digits.f k (q % 86400000000 / 1000000 % 60) 2 = some S
theorem lit1s (b : UInt8) : (⟨#[b]⟩ : ByteArray) = strOfNums [(b.toNat : Int)] := by
  apply ByteArray.ext
  simp [strOfNums]
set_option maxHeartbeats 1000000 in
set_option maxRecDepth 100000 in
theorem rpm_no (b n : Int) (w : World) (h1 : mintageref13_IsMoment.f b = some (n, false)) : Calls Try.prog 14 #[.int .u64 b] w (ToldR w [] 131) := by
  have H1 := Aside0.mk h1
  clear h1
  go_enter Try.func14, Try.ntmps14
  go_wp2_with (first | (go_at_call 37; refine (mintageref13_IsMoment.calls b n false _ H1.out).mono ?_; rintro e_ w1 ⟨rfl, hd_⟩; have HB := Aside0.mk hd_.below; clear hd_))
  go_ret2
  exact ⟨none, 0, rfl, RdR.nil _ _ _, Nat.le_refl _, HB.out⟩
set_option maxHeartbeats 1000000 in
set_option maxRecDepth 100000 in
theorem rpm_yes0 (k : Nat) (b n q : Int) (w : World) (D H M S : ByteArray) (L : List Int) (hn : n - -62167219200000000 = q) (q0 : 0 ≤ q) (q1 : q < 315569520000000000) (h1 : mintageref13_IsMoment.f b = some (n, true)) (hp : Parts k q D H M S) (zD : D.size = 10) (zH : H.size = 2) (zM : M.size = 2) (zS : S.size = 2) (hf : q % 86400000000 % 1000000 = 0)
    (hL : D ++ { data := #[84] } ++ H ++ { data := #[58] } ++ M ++ { data := #[58] } ++ S = strOfNums L) (hB : Bts L) (hLl : L.length ≤ 1000) :
    Calls Try.prog 14 #[.int .u64 b] w (ToldR w L 0) := by
  have H1 := Aside0.mk h1
  have HP := Aside0.mk hp
  have HL := Aside0.mk hL
  have HBt := Aside0.mk hB
  have hw : wrap64 (n - -62167219200000000) = q := by unfold wrap64; omega
  have hw2 : n + 62167219200000000 = q := by omega
  clear h1 hp hL hB
  go_enter Try.func14, Try.ntmps14
  go_wp2_with (first
    | ((with_reducible refine gate_dst (N := 65) rfl ?_); refine conv_bytes rfl 9 29 5 _ rfl L HBt.out (congrArg Value.string HL.out) Try.underlying9 Try.underlying29 Try.underlying5 (by omega) ?_; intro A_ c_ w6 hC_ hT_ hc_ hb_; have HC6 := Aside0.mk (RdR.mk1 hC_ hT_); clear hT_; have HB6 := Aside0.mk (below_step HB5.out hb_); clear hC_ hb_)
    | (go_at_call 38; (with_reducible refine (mintageref13_digits.calls k _ _ S _ HP.out.s).mono ?_); rintro e_ w5 ⟨rfl, hd_⟩; have HB5 := Aside0.mk (below_step HB4.out hd_); clear hd_)
    | (go_at_call 38; (with_reducible refine (mintageref13_digits.calls k _ _ M _ HP.out.m).mono ?_); rintro e_ w4 ⟨rfl, hd_⟩; have HB4 := Aside0.mk (below_step HB3.out hd_); clear hd_)
    | (go_at_call 38; (with_reducible refine (mintageref13_digits.calls k _ _ H _ HP.out.h).mono ?_); rintro e_ w3 ⟨rfl, hd_⟩; have HB3 := Aside0.mk (below_step HB2.out hd_); clear hd_)
    | (go_at_call 34; (with_reducible refine (mintageref13_text.calls k _ D _ HP.out.d).mono ?_); rintro e_ w2 ⟨rfl, hd_⟩; have HB2 := Aside0.mk (below_step HB.out hd_); clear hd_)
    | (go_at_call 37; refine (mintageref13_IsMoment.calls b n true _ H1.out).mono ?_; rintro e_ w1 ⟨rfl, hd_⟩; have HB := Aside0.mk hd_.below; clear hd_))
  go_ret2
  exact ⟨_, _, rfl, HC6.out, hc_, HB6.out⟩
set_option maxHeartbeats 1000000 in
set_option maxRecDepth 100000 in
theorem rpm_yes1 (k : Nat) (b n q : Int) (w : World) (D H M S P : ByteArray) (L p Z : List Int) (hZ : L ++ 46 :: p = Z) (j : Nat) (hn : n - -62167219200000000 = q) (q0 : 0 ≤ q) (q1 : q < 315569520000000000) (h1 : mintageref13_IsMoment.f b = some (n, true)) (hp : Parts k q D H M S) (zD : D.size = 10) (zH : H.size = 2) (zM : M.size = 2) (zS : S.size = 2) (hf : 0 < q % 1000000)
    (h6 : mintageref13_digits.f k (q % 1000000) 6 = some P) (zP : P.size = 6) (hP : P = strOfNums (p ++ List.replicate j 48)) (z : Int) (hz : p.getLast? = some z) (hz48 : z ≠ 48)
    (hL : D ++ { data := #[84] } ++ H ++ { data := #[58] } ++ M ++ { data := #[58] } ++ S = strOfNums L) (hB : Bts L) (hBp : Bts p) (hLl : L.length ≤ 100) (hpl : p.length ≤ 6) (hj : j ≤ 6) :
    Calls Try.prog 14 #[.int .u64 b] w (ToldR w Z 0) := by
  have H1 := Aside0.mk h1
  have HP := Aside0.mk hp
  have H6 := Aside0.mk h6
  have hbt : ∀ i, Bts (L ++ [46] ++ p ++ List.replicate i 48) := fun i => ((hB.append (fun c hc => by simp at hc; omega)).append hBp).append (fun c hc => by have := (List.mem_replicate.1 hc).2; omega)
  have HBt := Aside0.mk hbt
  have HS : Aside0 (D ++ { data := #[84] } ++ H ++ { data := #[58] } ++ M ++ { data := #[58] } ++ S ++ { data := #[46] } ++ P = strOfNums (L ++ [46] ++ p ++ List.replicate j 48)) := ⟨by rw [hL, hP, lit1s, str_append, str_append, List.append_assoc (L ++ [46])]; rfl⟩
  have HZ := Aside0.mk hz
  have HZZ := Aside0.mk hZ
  have HZ2 : Aside0 ((z == 48) = false) := ⟨by simpa using hz48⟩
  have hw : wrap64 (n - -62167219200000000) = q := by unfold wrap64; omega
  have hw2 : n + 62167219200000000 = q := by omega
  clear h1 hp hL hB hBp hbt hP h6 hz hz48 hZ
  go_enter Try.func14, Try.ntmps14
  go_wp2_with (first
    | (go_at_call 38; (with_reducible refine (mintageref13_digits.calls k _ _ P _ H6.out).mono ?_); rintro e_ w6 ⟨rfl, hd_⟩; have HB6 := Aside0.mk (below_step HB5.out hd_); clear hd_)
    | (go_at_call 38; (with_reducible refine (mintageref13_digits.calls k _ _ S _ HP.out.s).mono ?_); rintro e_ w5 ⟨rfl, hd_⟩; have HB5 := Aside0.mk (below_step HB4.out hd_); clear hd_)
    | (go_at_call 38; (with_reducible refine (mintageref13_digits.calls k _ _ M _ HP.out.m).mono ?_); rintro e_ w4 ⟨rfl, hd_⟩; have HB4 := Aside0.mk (below_step HB3.out hd_); clear hd_)
    | (go_at_call 38; (with_reducible refine (mintageref13_digits.calls k _ _ H _ HP.out.h).mono ?_); rintro e_ w3 ⟨rfl, hd_⟩; have HB3 := Aside0.mk (below_step HB2.out hd_); clear hd_)
    | (go_at_call 34; (with_reducible refine (mintageref13_text.calls k _ D _ HP.out.d).mono ?_); rintro e_ w2 ⟨rfl, hd_⟩; have HB2 := Aside0.mk (below_step HB.out hd_); clear hd_)
    | (go_at_call 37; refine (mintageref13_IsMoment.calls b n true _ H1.out).mono ?_; rintro e_ w1 ⟨rfl, hd_⟩; have HB := Aside0.mk hd_.below; clear hd_))
  go_loop [9] (fun v => ∃ i : Nat, i ≤ j ∧ v = .string (strOfNums (L ++ [46] ++ p ++ List.replicate i 48))) (fun v => match v with | .string s => s.size | _ => 0)
  case atStart => exact ⟨j, Nat.le_refl _, congrArg Value.string HS.out⟩
  case round =>
    obtain ⟨i, hi, rfl⟩ := hrel
    clear HS HB HB2 HB3 HB4 HB5 H6 HP
    have hlen : (L ++ [46] ++ p ++ List.replicate i 48).length = L.length + 1 + p.length + i := by simp; omega
    have hcut := fun W => str_cut (l := L ++ [46] ++ p ++ List.replicate i 48) (by omega) W
    cases i with
    | zero =>
      have hidx := fun W => str_last (HBt.out 0) (by omega) W (z := z) (by rw [List.replicate_zero, List.append_nil, List.getLast?_append, HZ.out]; rfl)
      obtain ⟨N, hN⟩ : ∃ N, (strOfNums (L ++ [46] ++ p ++ List.replicate 0 48)).size = N := ⟨_, rfl⟩
      have hN' := hN
      rw [strOfNums_size, hlen] at hN'
      rw [hlen, hN'] at hidx
      have HL : Aside0 (strOfNums (L ++ [46] ++ p ++ List.replicate 0 48) = strOfNums Z) := ⟨by rw [← HZZ.out]; simp⟩
      have HBL : Aside0 (Bts Z) := ⟨by have := HBt.out 0; rw [← HZZ.out]; simpa using this⟩
      obtain ⟨T, hT⟩ : ∃ T, strOfNums (L ++ [46] ++ p ++ List.replicate 0 48) = T := ⟨_, rfl⟩
      rw [hT] at hN HL hidx
      simp only [hT]
      have hz2 := HZ2.out
      have hll : Z.length ≤ 1000 := by rw [← HZZ.out]; simp; omega
      clear hcut hlen hT HBt HZ HZ2 HZZ
      go_wp2_with (first
        | ((with_reducible refine gate_dst (N := 65) rfl ?_); refine conv_bytes rfl 9 29 5 _ rfl Z HBL.out (congrArg Value.string HL.out) Try.underlying9 Try.underlying29 Try.underlying5 (by omega) ?_; intro A_ c_ w7 hC_ hT_ hc_ hb_; have HC7 := Aside0.mk (RdR.mk1 hC_ hT_); clear hT_; have HB7 := Aside0.mk (below_step HB6.out hb_); clear hC_ hb_))
      go_ret2
      exact ⟨_, _, rfl, HC7.out, hc_, HB7.out⟩
    | succ i =>
      have hidx := fun W => str_last (HBt.out (i + 1)) (by omega) W (z := 48) (by rw [List.replicate_succ', ← List.append_assoc, List.getLast?_concat])
      have hdl : (L ++ [46] ++ p ++ List.replicate (i + 1) 48).dropLast = L ++ [46] ++ p ++ List.replicate i 48 := by rw [List.replicate_succ', ← List.append_assoc, List.dropLast_concat]
      obtain ⟨N, hN⟩ : ∃ N, (strOfNums (L ++ [46] ++ p ++ List.replicate (i + 1) 48)).size = N := ⟨_, rfl⟩
      have hN' := hN
      rw [strOfNums_size, hlen] at hN'
      rw [hlen, hN'] at hidx hcut
      rw [hdl] at hcut
      have hN2 : Aside0 ((strOfNums (L ++ [46] ++ p ++ List.replicate i 48)).size < N) := ⟨by rw [strOfNums_size]; simp; omega⟩
      obtain ⟨T, hT⟩ : ∃ T, strOfNums (L ++ [46] ++ p ++ List.replicate (i + 1) 48) = T := ⟨_, rfl⟩
      rw [hT] at hN hidx hcut
      simp only [hT]
      obtain ⟨T2, hT2⟩ : ∃ T2, strOfNums (L ++ [46] ++ p ++ List.replicate i 48) = T2 := ⟨_, rfl⟩
      have HT2 := Aside0.mk hT2
      rw [hT2] at hcut hN2
      clear hlen hT HBt HZ HZ2 hdl hT2
      go_wp2_with fail
      go_round
      case rel => exact ⟨i, by omega, by rw [HT2.out]⟩
      case measure => simpa [hN] using hN2.out
end Go.Proofs.Ytobgpdmiiipmmaa.Keep
