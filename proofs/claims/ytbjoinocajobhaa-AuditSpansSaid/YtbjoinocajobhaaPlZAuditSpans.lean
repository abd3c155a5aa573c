/- Plain: the program's and the document's. -/
import Derived.Test.YtbjoinocajobhaaOpsZAuditSpans
import Derived.Test.YtbjoinocajobhaaJubZAuditSpans
import Derived.WalkLawsBesides
import Derived.Test.YtbjoinocajobhaaQ0ZAuditSpans
namespace Go.Proofs.Ytbjoinocajobhaa.Ju
set_option linter.unusedVariables false
set_option linter.unusedSimpArgs false
open Go.RowKit Go.Proofs.Ytbjoinocajobhaa.Q Go.Proofs.YtbjoinocajobhaaW.PrintWords Go.Proofs.YtbjoinocajobhaaW.PrintLast Go.Proofs.YtbjoinocajobhaaW.PrintMore
def goodP (x : S32) (q : Qs) : Bool := decide (1 ≤ x.f0 ∧ x.f0 ≤ 4) && ((callQ q x.f0).2.2.2 && (decide ((callQ q x.f0).1 = x.f3) && decide ((callQ q x.f0).2.1 = x.f4)))
def plainF (l : List S32) : Nat → Nat → Qs → Bool
  | 0, _, _ => true
  | d + 1, j, q => if goodP (sp l j) q = true then plainF l d (j + 1) (callQ q (sp l j).f0).2.2.1 else false
def qq0 : Qs := ⟨0, 0, false, false⟩
def plainB (l : List S32) : Bool := plainF l l.length 0 qq0
theorem w64i {x : Int} (h : (Lit.int .i64 x).wf = true) : wrap64 (wrap64 (x + 1) - 1) = x := by
  have h1 : (decide (IntKind.i64.min ≤ x) && decide (x ≤ IntKind.i64.max)) = true := h
  rw [show IntKind.i64.min = -9223372036854775808 from rfl, show IntKind.i64.max = 9223372036854775807 from rfl] at h1
  simp at h1
  unfold wrap64; omega
theorem take_ev {q : Qs} (h : Wq q) (kind : Int) (hk : 1 ≤ kind ∧ kind ≤ 4) : Ev (fun k => mintageref31_Queue_Take.f k q.i q.o q.cl q.ca kind) ((callQ q kind).1, (callQ q kind).2.1, (callQ q kind).2.2.2, (callQ q kind).2.2.1.i, (callQ q kind).2.2.1.o, (callQ q kind).2.2.1.cl, (callQ q kind).2.2.1.ca) := by
  unfold mintageref31_Queue_Take.f callQ
  by_cases h1 : kind = 1
  · simp only [if_pos h1]
    by_cases hc : q.cl = true
    · simp only [if_pos hc]
      refine Ev.step (fun k => by simp only [mintageref31_Queue_Take.j0]; rfl) ?_
      simp only [if_true]; exact Ev.now _
    · simp only [if_neg hc]
      refine Ev.step (fun k => by simp only [mintageref31_Queue_Take.j0]; rfl) ?_
      by_cases ha : q.ca = true
      · simp only [if_pos ha]; exact Ev.now _
      · simp only [if_neg ha]
        by_cases h4 : wrap64 (q.i - q.o) = 4
        · simp only [if_pos h4]; exact Ev.now _
        · simp only [if_neg h4, w64i h.1]; exact Ev.now _
  · simp only [if_neg h1]
    by_cases h2 : kind = 2
    · simp only [if_pos h2]
      by_cases ha : q.ca = true
      · simp only [if_pos ha]; exact Ev.now _
      · simp only [if_neg ha]
        by_cases h4 : q.i > q.o
        · simp only [if_pos h4, w64i h.2]; exact Ev.now _
        · simp only [if_neg h4]; exact Ev.now _
    · simp only [if_neg h2]
      by_cases h3 : kind = 3
      · simp only [if_pos h3]; exact Ev.now _
      · simp only [if_neg h3]
        by_cases h4 : kind = 4
        · simp only [if_pos h4]; exact Ev.now _
        · omega
theorem sp_eq (l : List S32) (j : Nat) : rd_T32 l (j : Int) = sp l j := rfl
theorem good_or (x : S32) (q : Qs) : goodP x q = true ↔ ((callQ q x.f0).2.2.2 = true ∧ (callQ q x.f0).1 = x.f3 ∧ (callQ q x.f0).2.1 = x.f4) := by
  unfold goodP
  simp only [Bool.and_eq_true, decide_eq_true_eq]
  constructor
  · rintro ⟨_, h1, h2, h3⟩; exact ⟨h1, h2, h3⟩
  · rintro ⟨h1, h2, h3⟩
    refine ⟨?_, h1, h2, h3⟩
    unfold callQ at h1
    by_cases e1 : x.f0 = 1
    · omega
    · by_cases e2 : x.f0 = 2
      · omega
      · by_cases e3 : x.f0 = 3
        · omega
        · by_cases e4 : x.f0 = 4
          · omega
          · rw [if_neg e1, if_neg e2, if_neg e3, if_neg e4] at h1; cases h1
theorem plain_ev (l : List S32) (hl : l.length < 1000000) : ∀ (d j : Nat) (q : Qs), j + d = l.length → Ev (fun k => audit_Plain.l0 k l (l.length : Int) (j : Int) q.i q.o q.cl q.ca) (plainF l d j q) := by
  intro d
  induction d with
  | zero =>
    intro j q hj
    refine Ev.step (fun k => by simp only [audit_Plain.l0]; rfl) ?_
    simp only [if_neg (show ¬ (j : Int) < (l.length : Int) by omega)]
    exact Ev.now _
  | succ d ih =>
    intro j q hj
    refine Ev.step (fun k => by simp only [audit_Plain.l0]; rfl) ?_
    simp only [if_pos (show (j : Int) < (l.length : Int) by omega), if_pos (show (0 : Int) ≤ (j : Int) by omega)]
    have hce := call_ev q (rd_T32 l (j : Int)).f0
    have hgo := good_or (rd_T32 l (j : Int)) q
    have hpl : plainF l (d + 1) j q = if goodP (rd_T32 l (j : Int)) q = true then plainF l d (j + 1) (callQ q (rd_T32 l (j : Int)).f0).2.2.1 else false := rfl
    rw [hpl]
    clear hpl
    obtain ⟨⟨code, num, q', okk⟩, hcq⟩ : ∃ r, callQ q (rd_T32 l (j : Int)).f0 = r := ⟨_, rfl⟩
    rw [hcq] at hce hgo ⊢
    dsimp only at hce hgo ⊢
    refine Ev.bind hce ?_
    clear hcq hce
    dsimp only
    rw [show wrap64 ((j : Int) + 1) = ((j + 1 : Nat) : Int) by unfold wrap64; omega]
    have ihj := ih (j + 1) q' (by omega)
    generalize hgd : goodP (rd_T32 l (j : Int)) q = gd at hgo ⊢
    generalize (rd_T32 l (j : Int)).f3 = x3 at hgo ⊢
    generalize (rd_T32 l (j : Int)).f4 = x4 at hgo ⊢
    by_cases e1 : okk = true
    · by_cases e2 : code = x3
      · by_cases e3 : num = x4
        · rw [if_pos (hgo.2 ⟨e1, e2, e3⟩)]
          simp only [if_pos e1, if_pos e2, if_pos e3]; exact ihj
        · rw [if_neg (fun h => e3 (hgo.1 h).2.2)]
          simp only [if_pos e1, if_pos e2, if_neg e3]; exact Ev.now _
      · rw [if_neg (fun h => e2 (hgo.1 h).2.1)]
        simp only [if_pos e1, if_neg e2]; exact Ev.now _
    · rw [if_neg (fun h => e1 (hgo.1 h).1)]
      simp only [if_neg e1]; exact Ev.now _
theorem plain_calls (w : World) (A : Option Addr) (c : Nat) (l : List S32) (hr : Kd.C k32 w A l.length l) (hc : l.length ≤ c) (hl : l.length < 1000000) :
    Calls Try.prog 21 #[.slice A l.length c] w fun e w' => e = .returned (.bool (plainB l)) ∧ Below w.heap.size w w' := by
  obtain ⟨k, hk⟩ := (plain_ev l hl l.length 0 qq0 (by omega)).rounds
  exact audit_Plain.calls k A c l (plainB l) w hr hc hk
set_option maxHeartbeats 2000000 in
set_option maxRecDepth 100000 in
theorem refPlain_calls (w : World) (A : Option Addr) (c : Nat) (l : List S32) (hr : Kd.C k32 w A l.length l) (hl : l.length < 1000000) :
    Calls Try.prog 22 #[.slice A l.length c] w fun e w' => e = .returned (.bool (plainB l)) ∧ Below w.heap.size w w' := by
  have CR := Aside0.mk hr
  clear hr
  go_enter Try.func22, Try.ntmps22
  go_upto_region 2 with fail
  have HI : Aside0 (IsS44 w (w.alloc (.cells #[.int .i64 0, .int .i64 0, .bool false, .bool false] 44)) w.heap.size 0 0 false false) := ⟨⟨(Go.MapKept.heap_alloc w _).1, Nat.le_refl _⟩⟩
  have HB : Aside0 (Below w.heap.size w (w.alloc (.cells #[.int .i64 0, .int .i64 0, .bool false, .bool false] 44))) := ⟨below_alloc (Below.refl _ _) _⟩
  generalize w.alloc (.cells #[.int .i64 0, .int .i64 0, .bool false, .bool false] 44) = W1 at HI HB ⊢
  have HG : Aside0 (w.heap.size = w.heap.size) := ⟨rfl⟩
  generalize hgq : w.heap.size = g at HI ⊢
  go_wp2_with fail
  go_loopw [4] (fun s4 wr => ∃ (j : Nat) (q : Qs), j ≤ l.length ∧ s4 = .int .i64 j ∧ Aside0 (IsS44 w wr g q.i q.o q.cl q.ca) ∧ Aside0 (Below w.heap.size w wr) ∧ Aside0 (Wq q) ∧ Aside0 (plainF l (l.length - j) j q = plainB l)) (fun s4 _ => l.length - (intOf s4).toNat)
  case atStart => exact ⟨0, qq0, Nat.zero_le _, rfl, HI, HB, ⟨⟨by decide, by decide⟩⟩, ⟨rfl⟩⟩
  case round =>
    obtain ⟨j, q, hj, rfl, IQ, HBr, HW, HP⟩ := hrel
    clear HI HB
    by_cases hlt : j < l.length
    · obtain ⟨ad, e, h0, h1, h2, h3, h4⟩ := span_at CR.out HBr.out hlt
      subst e
      have p1 := eq_true (show (0 : Int) ≤ (j : Int) by omega)
      have p2 := eq_true (show (j : Int) < (l.length : Int) by omega)
      have hpl : plainF l (l.length - j) j q = if goodP (sp l j) q = true then plainF l (l.length - (j + 1)) (j + 1) (callQ q (sp l j).f0).2.2.1 else false := by
        rw [show l.length - j = (l.length - (j + 1)) + 1 by omega]; rfl
      by_cases hk : 1 ≤ (sp l j).f0 ∧ (sp l j).f0 ≤ 4
      · have k1 := eq_false (show ¬ ((sp l j).f0 < 1) by omega)
        have k2 := eq_false (show ¬ (4 < (sp l j).f0) by omega)
        obtain ⟨kk, hkk⟩ := (take_ev HW.out (sp l j).f0 hk).rounds
        have hwq := wq_call HW.out (sp l j).f0
        obtain ⟨⟨code, num, q', okk⟩, hcq⟩ : ∃ r, callQ q (sp l j).f0 = r := ⟨_, rfl⟩
        have hgo := good_or (sp l j) q
        rw [hcq] at hkk hwq hpl hgo
        dsimp only at hkk hwq hpl hgo
        have HKK := Aside0.mk hkk
        have HWQ := Aside0.mk hwq
        have HPL := Aside0.mk hpl
        have HGO := Aside0.mk hgo
        clear hkk hcq hwq hpl hgo
        go_upto_region 8 with (go_at_call 18; go_must (refine (mintageref31_Queue_Take.calls kk g q.i q.o q.cl q.ca (sp l j).f0 code num okk q'.i q'.o q'.cl q'.ca w wr IQ.out HBr.out HKK.out).mono ?_; rintro e_ w5 ⟨rfl, hi_, hb_, hk_⟩; have IQ5 := Aside0.mk hi_; have HB5 := Aside0.mk hb_; clear hi_ hb_ hk_))
        clear h0 h1 h2 h3 h4
        obtain ⟨ad', e', h0, h1, h2, h3, h4⟩ := span_at CR.out HB5.out hlt
        obtain rfl := Option.some.inj e'
        cases hok : okk
        case false =>
          go_wp2_with fail
          go_ret
          exact ⟨by rw [← HP.out, HPL.out, if_neg (fun h => by have := (HGO.out.1 h).1; rw [hok] at this; cases this)]; rfl, by first | exact HB5.out | (rw [← hgq]; exact HB5.out)⟩
        case true =>
          by_cases hc : code = (sp l j).f3
          · have hc' : (code != (sp l j).f3) = false := by simp [hc]
            by_cases hnm : num = (sp l j).f4
            · have hn' : (num != (sp l j).f4) = false := by simp [hnm]
              have HOK : Aside0 (goodP (sp l j) q = true) := ⟨HGO.out.2 ⟨hok, hc, hnm⟩⟩
              clear hc hnm
              go_wp2_with fail
              go_roundw
              case rel => exact ⟨j + 1, q', by omega, by go_num, IQ5, HB5, HWQ, ⟨by rw [← HP.out, HPL.out, if_pos HOK.out]⟩⟩
              case measure => simp [intOf]; omega
            · have hn' : (num != (sp l j).f4) = true := by simpa using hnm
              have HNO : Aside0 (¬ goodP (sp l j) q = true) := ⟨fun h => hnm (HGO.out.1 h).2.2⟩
              clear hc hnm
              go_wp2_with fail
              go_ret
              exact ⟨by rw [← HP.out, HPL.out, if_neg HNO.out]; rfl, by first | exact HB5.out | (rw [← hgq]; exact HB5.out)⟩
          · have hc' : (code != (sp l j).f3) = true := by simpa using hc
            have HNO : Aside0 (¬ goodP (sp l j) q = true) := ⟨fun h => hc (HGO.out.1 h).2.1⟩
            clear hc
            go_wp2_with fail
            go_ret
            exact ⟨by rw [← HP.out, HPL.out, if_neg HNO.out]; rfl, by first | exact HB5.out | (rw [← hgq]; exact HB5.out)⟩
      · have HNO : Aside0 (¬ goodP (sp l j) q = true) := ⟨fun h => hk (by unfold goodP at h; simp only [Bool.and_eq_true, decide_eq_true_eq] at h; exact h.1)⟩
        have HPL := Aside0.mk hpl
        clear hpl
        by_cases hk1 : (sp l j).f0 < 1
        · have k1 := eq_true hk1
          clear hk hk1
          go_wp2_with fail
          go_ret
          exact ⟨by rw [← HP.out, HPL.out, if_neg HNO.out]; rfl, by first | exact HBr.out | (rw [← hgq]; exact HBr.out)⟩
        · have k1 := eq_false hk1
          have k2 := eq_true (show 4 < (sp l j).f0 by omega)
          clear hk hk1
          go_wp2_with fail
          go_ret
          exact ⟨by rw [← HP.out, HPL.out, if_neg HNO.out]; rfl, by first | exact HBr.out | (rw [← hgq]; exact HBr.out)⟩
    · obtain rfl : j = l.length := by omega
      have p2 := eq_false (show ¬ ((l.length : Int) < (l.length : Int)) by omega)
      go_wp2_with fail
      go_ret
      exact ⟨by rw [← HP.out, Nat.sub_self]; rfl, by first | exact HBr.out | (rw [← hgq]; exact HBr.out)⟩
end Go.Proofs.Ytbjoinocajobhaa.Ju
