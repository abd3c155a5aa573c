/- WholePlaces: the printed law function answers true. -/
import Derived.Test.YtlcglnnmcgpnpaaWhob
import Derived.Test.YtlcglnnmcgpnpaaQx17
import Derived.Test.YtlcglnnmcgpnpaaQx19
import Derived.Test.YtlcglnnmcgpnpaaQx20
namespace Go.Proofs.Ytlcglnnmcgpnpaa.Dig
open Go.RowKit Go.Proofs.Ytlcglnnmcgpnpaa.Q Go.Proofs.YtlcglnnmcgpnpaaW.PrintWords Go.Proofs.YtlcglnnmcgpnpaaW.PrintLast Go.Proofs.YtlcglnnmcgpnpaaW.PrintMore
theorem nump (e : Int) : mintagelaw05_num.f e = some e := rfl
theorem wakes_evp : Ev (fun _ => mintagelaw05_wakes.f) true := Ev.now _
theorem allD_appendp {l m : List Int} (h : AllD l) (h' : AllD m) : AllD (l ++ m) := by
  intro c hc
  rcases List.mem_append.1 hc with hc | hc
  · exact h c hc
  · exact h' c hc
theorem digit_of {l : List Int} (h : ∀ x ∈ l, 0 ≤ x ∧ x < 256) {i : Nat} (hi : i < l.length) : IsD ((48 + Int.tmod (rd l i) 10) % 256) := by
  have e : rd l (i : Int) = l[i] := by simp [rd, hi]
  have b := h _ (List.getElem_mem hi)
  rw [e, Int.tmod_eq_emod_of_nonneg b.1]
  unfold IsD; omega
theorem wf_bytes {l : List Int} (h : ∀ x ∈ l, (Lit.int .u8 x).wf = true) : ∀ x ∈ l, 0 ≤ x ∧ x < 256 := by
  intro x hx
  have h1 : (decide (IntKind.u8.min ≤ x) && decide (x ≤ IntKind.u8.max)) = true := h x hx
  have e1 : IntKind.u8.min = 0 := by rfl
  have e2 : IntKind.u8.max = 255 := by rfl
  rw [e1, e2] at h1
  simp at h1
  omega
theorem p0 (s : Bool) : Pre s false [] := .inl ⟨rfl, rfl⟩
theorem frm_pre {s neg : Bool} {p : List Int} (h : p = [] ∧ neg = false ∨ p = [45] ∧ neg = true ∧ s = true) (ds : List Int) (hd : AllD ds) : frm s (p ++ ds) = p.length := by
  rcases h with ⟨rfl, _⟩ | ⟨rfl, _, rfl⟩
  · match ds, hd with
    | [], _ => rfl
    | c :: m, hd =>
      have := hd c List.mem_cons_self
      unfold IsD at this
      simp only [List.nil_append, frm, List.length_nil]; rw [if_neg (by omega)]
  · simp [frm]
/-- The last part: a byte behind. -/
theorem places_last {k : Int} {w : Nat} {s neg : Bool} (hk : whole_width.f k = some ((w : Int), s, true)) {p ds : List Int} (hp : p = [] ∧ neg = false ∨ p = [45] ∧ neg = true ∧ s = true) (hd : AllD ds) (h0 : ds ≠ []) (hl : ds.length ≤ 200) (c : Int) :
    Ev (fun n => mintagelaw05_WholePlaces.j8 n c k (p ++ ds) false) true := by
  have hp2 : p.length ≤ 1 := by rcases hp with ⟨rfl, _⟩ | ⟨rfl, _⟩ <;> simp
  have fin9 : ∀ b, b = decide (IsD c) → Ev (fun n => mintagelaw05_WholePlaces.j9 n c k (p ++ ds) b) true := by
    intro b hb
    refine Ev.step (fun k => by simp only [mintagelaw05_WholePlaces.j9]; rfl) ?_
    by_cases hc : IsD c
    · rw [hb, decide_eq_true hc]
      simp only [if_true]
      exact Ev.bind wakes_evp (Ev.now _)
    · rw [hb, decide_eq_false hc]
      simp only [Bool.false_eq_true, if_false, if_pos (show (p ++ ds).length < 140737488355328 by rw [List.length_append]; omega)]
      have f1 : frm s ((p ++ ds) ++ [c]) = p.length := by
        rcases hp with ⟨rfl, _⟩ | ⟨rfl, _, rfl⟩
        · match ds, hd, h0 with
          | d :: m, hd, _ =>
            have := hd d List.mem_cons_self
            unfold IsD at this
            simp only [List.nil_append, List.cons_append, frm, List.length_nil]; rw [if_neg (by omega)]
        · simp [frm]
      have dr : ((p ++ ds) ++ [c]).drop p.length = ds ++ [c] := by rw [List.append_assoc, List.drop_left]
      have ld : lead (ds ++ [c]) = ds.length := by rw [lead_append hd, lead_no hc]; rfl
      have pf := parse_form (l := (p ++ ds) ++ [c]) hk (by simp; omega) (by rw [f1, dr, ld]; simp)
      rw [f1, dr, ld] at pf
      refine Ev.bind pf ?_
      simp only [nump, Option.bind_some, if_true, List.length_append]
      exact Ev.bind wakes_evp (Ev.now _)
  refine Ev.step (fun k => by simp only [mintagelaw05_WholePlaces.j8]; rfl) ?_
  simp only [Bool.false_eq_true, if_false]
  by_cases h48 : c ≥ 48
  · simp only [if_pos h48]
    exact fin9 _ (by unfold IsD; simp [show (48 : Int) ≤ c from h48])
  · simp only [if_neg h48]
    exact fin9 _ (by unfold IsD; simp [show ¬ (48 : Int) ≤ c from h48])
theorem places_seven {k : Int} {w : Nat} {s neg : Bool} (hk : whole_width.f k = some ((w : Int), s, true)) (hw : Wd w) {p ds : List Int} (hp : p = [] ∧ neg = false ∨ p = [45] ∧ neg = true ∧ s = true) (hd : AllD ds) (h0 : ds ≠ []) (hl : ds.length ≤ 200) (c : Int) {q : Nat} (ho : over (lim w s neg) 0 ds 0 = some q) :
    Ev (fun n => mintagelaw05_WholePlaces.j7 n c k ((p.length + q : Nat) : Int) (p ++ ds)) true := by
  have hpre : Pre s neg p := hp.elim .inl (fun h => .inr (.inr h))
  have hp2 := pre_len hpre
  refine Ev.step (fun k => by simp only [mintagelaw05_WholePlaces.j7]; rfl) ?_
  have pp := parse_pre hk hw hpre hd h0 (by omega)
  rw [ho] at pp
  refine Ev.bind pp ?_
  simp only [fin, nump, Option.bind_some, if_true, bne_self_eq_false]
  exact places_last hk hp hd h0 hl c
theorem places_loop {k : Int} {w : Nat} {s neg : Bool} (hk : whole_width.f k = some ((w : Int), s, true)) (hw : Wd w) {p ds : List Int} (hp : p = [] ∧ neg = false ∨ p = [45] ∧ neg = true ∧ s = true) (hd : AllD ds) (h0 : ds ≠ []) (hl : ds.length ≤ 60) (c : Int) {q : Nat} (ho : over (lim w s neg) 0 ds 0 = some q) {more : List Int} (hm : ∀ x ∈ more, 0 ≤ x ∧ x < 256) :
    ∀ (d i : Nat) (ms : List Int), i + d = 60 → ms.length = i → i ≤ more.length → AllD ms → Ev (fun n => mintagelaw05_WholePlaces.l1 n more c k ((p.length + q : Nat) : Int) (p ++ (ds ++ ms)) i) true := by
  have hp2 : p.length ≤ 1 := by rcases hp with ⟨rfl, _⟩ | ⟨rfl, _⟩ <;> simp
  intro d
  induction d with
  | zero =>
    intro i ms hi hms hle hma
    have seven := places_seven hk hw hp (allD_appendp hd hma) (by simp [h0]) (by rw [List.length_append]; omega) c (over_append ds ms _ _ _ ho)
    by_cases hn : (i : Int) < more.length
    · have h60 : ¬ (i : Int) < 60 := by omega
      refine Ev.step (fun k => by simp only [mintagelaw05_WholePlaces.l1]; rw [if_pos hn, if_neg h60]) ?_
      exact seven
    · refine Ev.step (fun k => by simp only [mintagelaw05_WholePlaces.l1]; rw [if_neg hn]) ?_
      exact seven
  | succ d ih =>
    intro i ms hi hms hle hma
    have seven := places_seven hk hw hp (allD_appendp hd hma) (by simp [h0]) (by rw [List.length_append]; omega) c (over_append ds ms _ _ _ ho)
    by_cases hn : (i : Int) < more.length
    · have h60 : (i : Int) < 60 := by omega
      have h0i : (0 : Int) ≤ i := by omega
      have hlen : (p ++ (ds ++ ms)).length < 140737488355328 := by simp only [List.length_append]; omega
      refine Ev.step (fun k => by simp only [mintagelaw05_WholePlaces.l1]; rw [if_pos hn, if_pos h60, if_pos h0i, if_pos hlen]) ?_
      rw [wrap64_id (by omega) (by omega), List.append_assoc, List.append_assoc]
      have hdig := digit_of hm (show i < more.length by omega)
      have := ih (i + 1) (ms ++ [(48 + Int.tmod (rd more i) 10) % 256]) (by omega) (by rw [List.length_append, hms]; rfl) (by omega) (allD_appendp hma (by intro z hz; rw [List.mem_singleton.1 hz]; exact hdig))
      rw [show ((i + 1 : Nat) : Int) = (i : Int) + 1 by omega] at this
      exact this
    · refine Ev.step (fun k => by simp only [mintagelaw05_WholePlaces.l1]; rw [if_neg hn]) ?_
      exact seven
theorem places_four {k : Int} {w : Nat} {s neg : Bool} (hk : whole_width.f k = some ((w : Int), s, true)) (hw : Wd w) {p ds : List Int} (hp : p = [] ∧ neg = false ∨ p = [45] ∧ neg = true ∧ s = true) (hd : AllD ds) (hl : ds.length ≤ 60) (c : Int) {more : List Int} (hm : ∀ x ∈ more, 0 ≤ x ∧ x < 256) (b : Bool) (hb : ds = [] → p = [45] → b = true) :
    Ev (fun n => mintagelaw05_WholePlaces.j4 n more c k (p ++ ds) b) true := by
  have hpre : Pre s neg p := hp.elim .inl (fun h => .inr (.inr h))
  have hp2 := pre_len hpre
  refine Ev.step (fun k => by simp only [mintagelaw05_WholePlaces.j4]; rfl) ?_
  by_cases h0 : ds = []
  · have f1 := frm_pre hp ds hd
    have pe := parse_empty (l := p ++ ds) hk (by simp; omega) (by rw [f1, h0]; simp)
    refine Ev.bind pe ?_
    simp only [nump, Option.bind_some, if_neg (show ¬ (51 : Int) = 53 by omega), if_neg (show ¬ (51 : Int) = 0 by omega), if_true]
    rcases hp with ⟨rfl, _⟩ | ⟨rfl, _, _⟩
    · rw [h0]
      simp only [List.append_nil, List.length_nil, Int.natCast_zero, if_true]
      exact Ev.bind wakes_evp (Ev.now _)
    · rw [hb h0 rfl, h0]
      simp only [List.append_nil, List.length_cons, List.length_nil, if_neg (show ¬ (((0 + 1 : Nat) : Int)) = 0 by omega), if_true, if_pos (show (((0 + 1 : Nat) : Int)) = 1 by omega)]
      exact Ev.bind wakes_evp (Ev.now _)
  · have pp := parse_pre hk hw hpre hd h0 (by omega)
    cases ho : over (lim w s neg) 0 ds 0 with
    | none =>
      rw [ho] at pp
      refine Ev.bind pp ?_
      simp only [fin, nump, Option.bind_some, if_neg (show ¬ (0 : Int) = 53 by omega), if_true]
      exact Ev.bind wakes_evp (Ev.now _)
    | some q =>
      rw [ho, show fin w neg p.length (dval ds) (some q) = (0, ((p.length + q : Nat) : Int), 53) from rfl] at pp
      refine Ev.bind pp ?_
      obtain ⟨-, hq, ht⟩ := over_take ds 0 0 q ho
      simp only [Nat.sub_zero] at hq ht
      simp only [nump, Option.bind_some, if_true]
      simp only [if_pos (show (0 : Int) ≤ ((p.length + q : Nat) : Int) by omega)]
      simp only [if_pos (show ((p.length + q : Nat) : Int) ≤ ((p ++ ds).length : Int) by rw [List.length_append]; omega), Int.toNat_natCast]
      have tk : (p ++ ds).take (p.length + q) = p ++ ds.take q := by rw [List.take_append, List.take_of_length_le (by omega), Nat.add_sub_cancel_left]
      have five : Ev (fun n => mintagelaw05_WholePlaces.j5 n more c k (p ++ ds) ((p.length + q : Nat) : Int) false) true := by
        refine Ev.step (fun k => by simp only [mintagelaw05_WholePlaces.j5]; rfl) ?_
        simp only [Bool.false_eq_true, if_false, Option.bind_some, List.length_nil, List.nil_append, if_pos (show 0 + (p ++ ds).length < 140737488355328 by rw [List.length_append]; omega)]
        have := places_loop hk hw hp hd h0 hl c ho hm 60 0 [] rfl rfl (Nat.zero_le _) (fun z hz => by simp at hz)
        simpa using this
      rw [tk]
      by_cases hq0 : q = 0
      · have f1 := frm_pre hp (ds.take q) (fun z hz => hd z (List.mem_of_mem_take hz))
        have pe := parse_empty (l := p ++ ds.take q) hk (by simp; omega) (by rw [f1, hq0]; simp)
        refine Ev.bind pe ?_
        simp only [if_neg (show ¬ (51 : Int) = 0 by omega), if_true]
        split
        · exact five
        · rw [show ((51 : Int) == 0) = false from rfl]; exact five
      · have pt := parse_pre hk hw hpre (ds := ds.take q) (fun z hz => hd z (List.mem_of_mem_take hz)) (by intro h; have := congrArg List.length h; rw [List.length_take, Nat.min_eq_left (by omega)] at this; exact hq0 this) (by rw [List.length_take]; omega)
        rw [ht] at pt
        refine Ev.bind pt ?_
        simp only [fin, if_true]
        exact five
theorem places_three {k : Int} {w : Nat} {s neg : Bool} (hk : whole_width.f k = some ((w : Int), s, true)) (hw : Wd w) {p ds : List Int} (hp : p = [] ∧ neg = false ∨ p = [45] ∧ neg = true ∧ s = true) (hd : AllD ds) (hl : ds.length ≤ 60) (c : Int) {more : List Int} (hm : ∀ x ∈ more, 0 ≤ x ∧ x < 256) :
    Ev (fun n => mintagelaw05_WholePlaces.j3 n more c k (p ++ ds)) true := by
  refine Ev.step (fun k => by simp only [mintagelaw05_WholePlaces.j3]; rfl) ?_
  by_cases hg : ((p ++ ds).length : Int) > 0
  · simp only [if_pos hg]
    refine places_four hk hw hp hd hl c hm _ ?_
    rintro rfl rfl
    rfl
  · simp only [if_neg hg]
    refine places_four hk hw hp hd hl c hm _ ?_
    rintro rfl rfl
    simp at hg
theorem places_zero {k : Int} {w : Nat} {s neg : Bool} (hk : whole_width.f k = some ((w : Int), s, true)) (hw : Wd w) {p : List Int} (hp : p = [] ∧ neg = false ∨ p = [45] ∧ neg = true ∧ s = true) (c : Int) {dg more : List Int} (hg : ∀ x ∈ dg, 0 ≤ x ∧ x < 256) (hm : ∀ x ∈ more, 0 ≤ x ∧ x < 256) :
    ∀ (d i : Nat) (ds : List Int), i + d = 60 → ds.length = i → AllD ds → Ev (fun n => mintagelaw05_WholePlaces.l0 n dg more c k (p ++ ds) i) true := by
  have hp2 : p.length ≤ 1 := by rcases hp with ⟨rfl, _⟩ | ⟨rfl, _⟩ <;> simp
  intro d
  induction d with
  | zero =>
    intro i ds hi hds hda
    have three := places_three hk hw hp hda (by omega) c hm
    by_cases hn : (i : Int) < dg.length
    · have h60 : ¬ (i : Int) < 60 := by omega
      refine Ev.step (fun k => by simp only [mintagelaw05_WholePlaces.l0]; rw [if_pos hn, if_neg h60]) ?_
      exact three
    · refine Ev.step (fun k => by simp only [mintagelaw05_WholePlaces.l0]; rw [if_neg hn]) ?_
      exact three
  | succ d ih =>
    intro i ds hi hds hda
    have three := places_three hk hw hp hda (by omega) c hm
    by_cases hn : (i : Int) < dg.length
    · have h60 : (i : Int) < 60 := by omega
      have h0i : (0 : Int) ≤ i := by omega
      have hlen : (p ++ ds).length < 140737488355328 := by simp only [List.length_append]; omega
      refine Ev.step (fun k => by simp only [mintagelaw05_WholePlaces.l0]; rw [if_pos hn, if_pos h60, if_pos h0i, if_pos hlen]) ?_
      rw [wrap64_id (by omega) (by omega), List.append_assoc]
      have hdig := digit_of hg (show i < dg.length by omega)
      have := ih (i + 1) (ds ++ [(48 + Int.tmod (rd dg i) 10) % 256]) (by omega) (by rw [List.length_append, hds]; rfl) (allD_appendp hda (by intro z hz; rw [List.mem_singleton.1 hz]; exact hdig))
      rw [show ((i + 1 : Nat) : Int) = (i : Int) + 1 by omega] at this
      exact this
    · refine Ev.step (fun k => by simp only [mintagelaw05_WholePlaces.l0]; rw [if_neg hn]) ?_
      exact three
theorem PureWholePlaces : mintagelaw05_WholePlaces.Pure := by
  intro n dg more c hn _ _ hdg _ _ hmore hc
  obtain ⟨k, ek, k1, k8⟩ := kind_ev n
  obtain ⟨w, s, hk, hw, hs⟩ := width_ev ⟨k1, k8⟩
  have hg := wf_bytes hdg
  have hm := wf_bytes hmore
  have none_ : Ev (fun q => mintagelaw05_WholePlaces.j0 q dg more c k ([] : List Int) false) true := by
    refine Ev.step (fun k => by simp only [mintagelaw05_WholePlaces.j0]; rfl) ?_
    simp only [Bool.false_eq_true, if_false]
    refine Ev.step (fun k => by simp only [mintagelaw05_WholePlaces.j1]; rfl) ?_
    have := places_zero (neg := false) hk hw (p := []) (.inl ⟨rfl, rfl⟩) c hg hm 60 0 [] rfl rfl (fun z hz => by simp at hz)
    simpa using this
  refine Ev.rounds ?_
  unfold mintagelaw05_WholePlaces.f
  simp only [ek]
  by_cases h8 : Go.bits .and .i64 n 8 = 8
  · simp only [if_pos h8]
    by_cases h4 : k ≤ 4
    · rw [decide_eq_true h4]
      refine Ev.step (fun k => by simp only [mintagelaw05_WholePlaces.j0]; rfl) ?_
      simp only [if_true, List.length_nil, if_pos (show 0 < 140737488355328 by omega)]
      refine Ev.step (fun k => by simp only [mintagelaw05_WholePlaces.j1]; rfl) ?_
      have := places_zero (neg := true) hk hw (p := [45]) (.inr ⟨rfl, rfl, by rw [hs, decide_eq_true h4]⟩) c hg hm 60 0 [] rfl rfl (fun z hz => by simp at hz)
      simpa using this
    · rw [decide_eq_false h4]
      exact none_
  · simp only [if_neg h8]
    exact none_
end Go.Proofs.Ytlcglnnmcgpnpaa.Dig
namespace Go.Proofs.Ytlcglnnmcgpnpaa.Pure
theorem WholePlaces : Q.mintagelaw05_WholePlaces.Pure := Dig.PureWholePlaces
end Go.Proofs.Ytlcglnnmcgpnpaa.Pure
