import Derived.Test.YtboalbiicmcljaaZEAnFn
import Derived.Test.YtboalbiicmcljaaZEPANx25
import Derived.Test.YtboalbiicmcljaaZEPANx26
import Derived.Test.YtboalbiicmcljaaZEPANx27
namespace Go.Proofs.Ytboalbiicmcljaa.PAN
open Go.RowKit Go.Proofs.YtboalbiicmcljaaW.PrintWords Go.Proofs.YtboalbiicmcljaaW.PrintLast Go.Proofs.YtboalbiicmcljaaW.PrintMore Go.Proofs.YtboalbiicmcljaaH
set_option linter.unusedVariables false
set_option linter.unusedSimpArgs false
def truthB (ats : List Int) (l : Int) : Bool := if l = -9223372036854775808 then false else if l = 0 then false else (ats.contains (if l < 0 then -l else l)) == decide (l > 0)
def clauseB (ats c : List Int) : Bool := c.any (truthB ats)
theorem truth_neg {ats : List Int} {l : Int} (hl : litB l = true) (hw : w64 l) : truthB ats (-l) = !truthB ats l := by
  rw [litB_iff] at hl
  rw [w64_iff] at hw
  unfold truthB
  rw [if_neg (by omega), if_neg (by omega), if_neg hl.2, if_neg hl.1]
  by_cases h : l < 0
  · rw [if_neg (by omega), if_pos h, decide_eq_true (show -l > 0 by omega), decide_eq_false (show ¬ l > 0 by omega)]
    cases ats.contains (-l) <;> rfl
  · rw [if_pos (by omega), if_neg h, Int.neg_neg, decide_eq_false (show ¬ -l > 0 by omega), decide_eq_true (show l > 0 by omega)]
    cases ats.contains l <;> rfl
theorem truthL_ev (ats : List Int) (hn : ats.length ≤ 4194304) (x a : Int) : ∀ d i : Nat, i + d = ats.length → Ev (fun k => fulcrumlaw21_truth.l0 k ats x a ((ats.take i).contains a) (i : Int)) (ats.contains a == decide (x > 0)) := by
  intro d
  induction d with
  | zero =>
    intro i h
    rw [List.take_of_length_le (by omega)]
    refine Ev.step (f := fun _ => some (ats.contains a == decide (x > 0))) (fun k => ?_) (Ev.now _)
    simp only [fulcrumlaw21_truth.l0]; rw [if_neg (by omega)]
  | succ d ih =>
    intro i h
    have hlt : i < ats.length := by omega
    have hw := wrapI hlt (by omega)
    have h1 := ih (i + 1) (by omega)
    rw [take_rd hlt] at h1
    cases hc : (ats.take i).contains a with
    | true =>
      have e : (ats.take i ++ [rd ats (i : Int)]).contains a = true := by
        rw [List.contains_iff_mem] at hc ⊢
        exact List.mem_append_left _ hc
      rw [e] at h1
      refine Ev.step (fun k => ?_) h1
      simp only [fulcrumlaw21_truth.l0, if_true]; rw [if_pos (by omega), hw]
    | false =>
      have e : (ats.take i ++ [rd ats (i : Int)]).contains a = (rd ats (i : Int) == a) := by
        have h2 : a ∉ ats.take i := fun q => by rw [List.contains_iff_mem.2 q] at hc; cases hc
        rw [Bool.eq_iff_iff, List.contains_iff_mem, List.mem_append, List.mem_singleton, beq_iff_eq]
        exact ⟨fun q => (q.resolve_left h2).symm, fun q => .inr q.symm⟩
      rw [e] at h1
      refine Ev.step (fun k => ?_) h1
      simp only [fulcrumlaw21_truth.l0, Bool.false_eq_true, if_false]; rw [if_pos (by omega), if_pos (by omega), hw]
theorem truth_all (ats : List Int) (hn : ats.length ≤ 4194304) (x : Int) (hx : w64 x) : Ev (fun k => fulcrumlaw21_truth.f k ats x) (truthB ats x) := by
  have hL := fun a => truthL_ev ats hn x a ats.length 0 (by omega)
  rw [w64_iff] at hx
  unfold fulcrumlaw21_truth.f truthB
  by_cases h0 : x = -9223372036854775808
  · rw [if_pos h0]
    refine Ev.congr (fun k => if_pos (by omega)) ?_
    refine Ev.step (f := fun _ => some false) (fun k => ?_) (Ev.now _)
    simp only [fulcrumlaw21_truth.j0]; rw [if_pos (by unfold wrap64; omega)]
  · rw [if_neg h0]
    by_cases h1 : x = 0
    · rw [if_pos h1]
      refine Ev.congr (fun k => if_neg (by omega)) ?_
      refine Ev.step (f := fun _ => some false) (fun k => ?_) (Ev.now _)
      simp only [fulcrumlaw21_truth.j0]; rw [if_pos (by omega)]
    · rw [if_neg h1]
      by_cases h2 : x < 0
      · rw [if_pos h2]
        refine Ev.congr (fun k => if_pos h2) ?_
        refine Ev.step (fun k => ?_) (hL (-x))
        have : wrap64 (-x) = -x := by unfold wrap64; omega
        simp only [fulcrumlaw21_truth.j0]; rw [this, if_neg (by omega)]; rfl
      · rw [if_neg h2]
        refine Ev.congr (fun k => if_neg h2) ?_
        refine Ev.step (fun k => ?_) (hL x)
        simp only [fulcrumlaw21_truth.j0]; rw [if_neg (by omega)]; rfl
theorem clause_ev (ats : List Int) (hn : ats.length ≤ 4194304) (c : List Int) (hc : c.length ≤ 4194304) (hw : ∀ x ∈ c, w64 x) : ∀ d i : Nat, i + d = c.length → Ev (fun k => fulcrumlaw21_clause.l0 k ats c (i : Int)) ((c.drop i).any (truthB ats)) := by
  intro d
  induction d with
  | zero =>
    intro i h
    rw [List.drop_eq_nil_of_le (by omega)]
    refine Ev.step (f := fun _ => some false) (fun k => ?_) (Ev.now _)
    simp only [fulcrumlaw21_clause.l0]; rw [if_neg (by omega)]
  | succ d ih =>
    intro i h
    have hlt : i < c.length := by omega
    have hwr := wrapI hlt (by omega)
    have hxw := hw _ (rdm hlt)
    rw [rdi_drop hlt, List.any_cons]
    refine Ev.step (f := fun k => (fulcrumlaw21_truth.f k ats (rd c (i : Int))).bind fun t => if t = true then some true else fulcrumlaw21_clause.l0 k ats c ((i + 1 : Nat) : Int)) (fun k => ?_) (Ev.bind (truth_all ats hn _ hxw) ?_)
    · simp only [fulcrumlaw21_clause.l0]; rw [if_pos (by omega), if_pos (by omega), hwr]
    · cases truthB ats (rd c (i : Int)) with
      | true => simp only [if_true, Bool.true_or]; exact Ev.now _
      | false => simp only [Bool.false_eq_true, if_false, Bool.false_or]; exact ih (i + 1) (by omega)
theorem clause_all (ats : List Int) (hn : ats.length ≤ 4194304) (c : List Int) (hc : c.length ≤ 4194304) (hw : ∀ x ∈ c, w64 x) : Ev (fun k => fulcrumlaw21_clause.f k ats c) (clauseB ats c) := clause_ev ats hn c hc hw c.length 0 (by omega)
theorem finL_places {cs : List (List Int)} {ms : List Mk} : ∀ (n : Nat) (S out : List Int), ∃ qs : List Nat, finL cs ms n S out = out ++ qs.map (fun p => (mkAt ms p).f0) ∧ qs.Pairwise (fun a b => b < a) ∧ ∀ q ∈ qs, q < n ∧ (mkAt ms q).f2 < 0
  | 0, S, out => ⟨[], by rw [finL_zero]; simp, List.Pairwise.nil, by simp⟩
  | n + 1, S, out => by
    rw [finL_succ]
    split
    · split
      · rename_i hr
        obtain ⟨qs, h1, h2, h3⟩ := finL_places (cs := cs) (ms := ms) n S (out ++ [(mkAt ms n).f0])
        refine ⟨n :: qs, by rw [h1]; simp, List.pairwise_cons.2 ⟨fun q hq => (h3 q hq).1, h2⟩, fun q hq => ?_⟩
        rcases List.mem_cons.1 hq with rfl | hq
        · exact ⟨by omega, hr⟩
        · exact ⟨by have := (h3 q hq).1; omega, (h3 q hq).2⟩
      · obtain ⟨qs, h1, h2, h3⟩ := finL_places (cs := cs) (ms := ms) n ((rdC cs (mkAt ms n).f2).foldl (addF ms (mkAt ms n).f0) S) out
        exact ⟨qs, h1, h2, fun q hq => ⟨by have := (h3 q hq).1; omega, (h3 q hq).2⟩⟩
    · obtain ⟨qs, h1, h2, h3⟩ := finL_places (cs := cs) (ms := ms) n S out
      exact ⟨qs, h1, h2, fun q hq => ⟨by have := (h3 q hq).1; omega, (h3 q hq).2⟩⟩
theorem addF_sub (ms : List Mk) (a : Int) : ∀ (c S : List Int), (∀ x ∈ S, x ∈ c.foldl (addF ms a) S) ∧ ∀ l ∈ c, l ≠ a → ((placeN ms (-l) : Nat) : Int) ∈ c.foldl (addF ms a) S
  | [], S => ⟨fun x h => h, by simp⟩
  | y :: r, S => by
    obtain ⟨h1, h2⟩ := addF_sub ms a r (addF ms a S y)
    rw [List.foldl_cons]
    have h3 : ∀ x ∈ S, x ∈ addF ms a S y := fun x hx => by unfold addF; split; exact hx; exact mem_insK.2 (.inl hx)
    refine ⟨fun x hx => h1 x (h3 x hx), fun l hl hne => ?_⟩
    rcases List.mem_cons.1 hl with rfl | hl
    · exact h1 _ (by unfold addF; rw [if_neg hne]; exact mem_insK.2 (.inr rfl))
    · exact h2 l hl hne
theorem finL_sound {cs : List (List Int)} {ms : List Mk} (hv : VT cs ms) (hw : ∀ c ∈ cs, ∀ x ∈ c, w64 x) {ats : List Int} (hcs : ∀ c ∈ cs, clauseB ats c = true) : ∀ (n : Nat) (S out : List Int), n ≤ ms.length → (∀ x ∈ finL cs ms n S out, truthB ats x = true) → ∀ i : Nat, i < n → (i : Int) ∈ S → truthB ats (mkAt ms i).f0 = true := by
  intro n
  induction n with
  | zero => intro S out _ _ i hi; omega
  | succ n ih =>
    intro S out hn hT i hi hiS
    rw [finL_succ] at hT
    by_cases hnS : (n : Int) ∈ S
    · rw [if_pos hnS] at hT
      by_cases hr : (mkAt ms n).f2 < 0
      · rw [if_pos hr] at hT
        by_cases he : i = n
        · subst he
          obtain ⟨qs, h1, _, _⟩ := finL_places (cs := cs) (ms := ms) i S (out ++ [(mkAt ms i).f0])
          exact hT _ (by rw [h1]; simp)
        · exact ih S _ (by omega) hT i (by omega) hiS
      · rw [if_neg hr] at hT
        obtain ⟨h1, h2⟩ := addF_sub ms (mkAt ms n).f0 (rdC cs (mkAt ms n).f2) S
        have hI := ih _ _ (by omega) hT
        by_cases he : i = n
        · subst he
          have ho := (okAt_iff.1 (hv i _ (mkAt_get (by omega)))).how
          obtain ⟨q0, q1, q2⟩ : 0 ≤ (mkAt ms i).f2 ∧ (mkAt ms i).f2 < cs.length ∧ forcesB (ms.take i) (rdC cs (mkAt ms i).f2) (mkAt ms i).f0 = true := by
            rcases ho with ⟨q, _⟩ | ⟨_, q1, q2, q3, _⟩
            · omega
            · exact ⟨q1, q2, q3⟩
          have hc := hcs _ (rdC_mem q0 q1)
          unfold clauseB at hc
          obtain ⟨l, hl, hlt⟩ := List.any_eq_true.1 hc
          by_cases hla : l = (mkAt ms i).f0
          · rw [← hla]; exact hlt
          · exfalso
            unfold forcesB at q2
            rw [Bool.and_eq_true] at q2
            have h3 := List.all_eq_true.1 q2.2 l hl
            have hb : (l == (mkAt ms i).f0) = false := by simpa using hla
            rw [hb, Bool.false_or] at h3
            unfold isFalseB at h3
            rw [Bool.and_eq_true] at h3
            obtain ⟨h4, h5⟩ := placeN_take h3.2
            obtain ⟨m', g1, g2⟩ := placeN_get h4
            rw [mkAt_get (show placeN ms (-l) < ms.length from placeN_lt.2 h4)] at g1
            injection g1 with g1
            have h6 := hI (placeN ms (-l)) h5 (h2 l hl hla)
            rw [g1, g2, truth_neg h3.1 (hw _ (rdC_mem q0 q1) l hl), hlt] at h6
            cases h6
        · exact hI i (by omega) (h1 _ hiS)
    · rw [if_neg hnS] at hT
      have he : i ≠ n := fun e => hnS (e ▸ hiS)
      exact ih S out (by omega) hT i (by omega) hiS
theorem finalP_places {cs : List (List Int)} {ms : List Mk} (hv : VT cs ms) (lit : Int) : ∃ ps : List Nat, (finalP cs ms lit).1 = ps.map (fun p => (mkAt ms p).f0) ∧ ps.Pairwise (fun a b => a < b) ∧ ∀ q ∈ ps, q < ms.length ∧ (mkAt ms q).f2 = -1 := by
  unfold finalP
  split
  · split
    · rename_i hh
      have hp := placeN_lt.2 hh
      obtain ⟨qs, h1, h2, h3⟩ := finL_places (cs := cs) (ms := ms) (placeN ms lit + 1) [(placeN ms lit : Int)] []
      refine ⟨qs.reverse, by rw [h1]; simp, List.pairwise_reverse.2 h2, fun q hq => ?_⟩
      obtain ⟨g1, g2⟩ := h3 q (List.mem_reverse.1 hq)
      have g3 : q < ms.length := by omega
      refine ⟨g3, ?_⟩
      rcases (okAt_iff.1 (hv q _ (mkAt_get g3))).how with ⟨z, _⟩ | ⟨_, z, _⟩
      · exact z
      · omega
    · exact ⟨[], rfl, List.Pairwise.nil, by simp⟩
  · exact ⟨[], rfl, List.Pairwise.nil, by simp⟩
theorem finalP_sound {cs : List (List Int)} {ms : List Mk} (hv : VT cs ms) (hvb : validB cs [] ms = true) (hw : ∀ c ∈ cs, ∀ x ∈ c, w64 x) {ats : List Int} {lit : Int} (h0 : (finalP cs ms lit).2 = 0) (hcs : ∀ c ∈ cs, clauseB ats c = true) (hT : ∀ x ∈ (finalP cs ms lit).1, truthB ats x = true) : truthB ats lit = true := by
  unfold finalP at h0 hT
  rw [hvb] at h0 hT
  simp only [if_true] at h0 hT
  cases hh : hasM ms lit with
  | false => rw [hh] at h0; simp at h0
  | true =>
    rw [hh] at hT
    simp only [if_true] at hT
    have hp := placeN_lt.2 hh
    have h1 := finL_sound hv hw hcs (placeN ms lit + 1) [(placeN ms lit : Int)] [] (by omega) (fun x hx => hT x (List.mem_reverse.2 hx)) (placeN ms lit) (by omega) (by simp)
    obtain ⟨m', g1, g2⟩ := placeN_get hh
    rw [mkAt_get hp] at g1
    injection g1 with g1
    rw [g1, g2] at h1
    exact h1
theorem leans2_ev {cs : List (List Int)} {ms : List Mk} {r : Bool} (hv : VT cs ms) (hlm : ms.length ≤ 4194304) {lit : Int} {ats res : List Int} {all : Bool} {last : Int} {i : Nat} (hi : i < res.length) (hres : res.length ≤ 4194305) {p : Nat} (hp : p < ms.length) (hr : rd res (i : Int) = (mkAt ms p).f0) (hf : (mkAt ms p).f2 = -1) (hl : last < (p : Int)) (hat : ats.length ≤ 4194304) (hw : w64 (rd res (i : Int)))
    (hK : Ev (fun k => fulcrumlaw21_AnalyseLeans.l1 k lit ats res (all && truthB ats (rd res (i : Int))) (p : Int) ((i + 1 : Nat) : Int) cs ms) r) :
    ∀ d j : Nat, j + d = ms.length → Ev (fun k => fulcrumlaw21_AnalyseLeans.l2 k lit ats res all last (i : Int) (if p < j then (p : Int) else -1) (j : Int) cs ms) r := by
  intro d
  induction d with
  | zero =>
    intro j hj
    rw [if_pos (by omega)]
    have HWR : Aside0 _ := ⟨wrapI hi (show res.length ≤ 4611686018427387904 by omega)⟩
    cases all with
    | true =>
      rw [Bool.true_and] at hK
      refine Ev.step (f := fun k => (fulcrumlaw21_truth.f k ats (rd res (i : Int))).bind fun t => fulcrumlaw21_AnalyseLeans.l1 k lit ats res t (p : Int) ((i + 1 : Nat) : Int) cs ms) (fun k => ?_) (Ev.bind (truth_all ats hat _ hw) hK)
      simp only [fulcrumlaw21_AnalyseLeans.l2]
      rw [if_neg (by omega), if_neg (by omega), if_pos trivial, if_pos (by omega), if_pos (by omega), HWR.out]
    | false =>
      rw [Bool.false_and] at hK
      refine Ev.step (fun k => ?_) hK
      simp only [fulcrumlaw21_AnalyseLeans.l2]
      rw [if_neg (by omega), if_neg (by omega), if_neg (by simp), HWR.out]
  | succ d ih =>
    intro j hj
    have hlt : j < ms.length := by omega
    have HWR : Aside0 _ := ⟨wrapI hlt (show ms.length ≤ 4611686018427387904 by omega)⟩
    have h1 := ih (j + 1) (by omega)
    have hme : (rd_T49 ms (j : Int)) = mkAt ms j := rfl
    by_cases he : j = p
    · subst he
      rw [if_pos (by omega)] at h1
      rw [if_neg (by omega)]
      refine Ev.step (fun k => ?_) h1
      simp only [fulcrumlaw21_AnalyseLeans.l2]
      rw [if_pos (by omega), if_pos (by omega), if_pos (by omega), if_pos (by omega), hme, if_pos hr.symm, if_pos hf, HWR.out]
    · have hne : (mkAt ms j).f0 ≠ rd res (i : Int) := fun q => he (by
        have e1 := place_mk hv hlt
        have e2 := place_mk hv hp
        rw [q, hr] at e1
        omega)
      have hsame : (if p < j + 1 then (p : Int) else -1) = if p < j then (p : Int) else -1 := by
        by_cases q : p < j
        · rw [if_pos q, if_pos (by omega)]
        · rw [if_neg q, if_neg (by omega)]
      rw [hsame] at h1
      generalize (if p < j then (p : Int) else -1) = z at h1 ⊢
      refine Ev.step (fun k => ?_) h1
      simp only [fulcrumlaw21_AnalyseLeans.l2]
      rw [if_pos (by omega), if_pos (by omega), if_pos (by omega), if_pos (by omega), hme, if_neg hne, HWR.out]
theorem leans1_ev {cs : List (List Int)} {ms : List Mk} (hv : VT cs ms) (hW : Wf cs ms) {lit : Int} (hlw : w64 lit) {ats : List Int} (hat : ats.length ≤ 4194304) {ps : List Nat} (hps : ps.Pairwise (fun a b => a < b)) (hpq : ∀ q ∈ ps, q < ms.length ∧ (mkAt ms q).f2 = -1) (hpl : ps.length ≤ 4194305) :
    ∀ d i : Nat, i + d = ps.length → ∀ (all : Bool) (last : Int), (∀ j q, i ≤ j → ps[j]? = some q → last < (q : Int)) → Ev (fun k => fulcrumlaw21_AnalyseLeans.l1 k lit ats (ps.map (fun p => (mkAt ms p).f0)) all last (i : Int) cs ms) (if (all && ((ps.drop i).map (fun p => (mkAt ms p).f0)).all (truthB ats)) = true then truthB ats lit else true) := by
  intro d
  induction d with
  | zero =>
    intro i hi all last _
    rw [List.drop_eq_nil_of_le (by omega), List.map_nil, List.all_nil, Bool.and_true]
    cases all with
    | true =>
      rw [if_pos rfl]
      refine Ev.step (f := fun k => (fulcrumlaw21_truth.f k ats lit).bind fun t => some t) (fun k => ?_) (Ev.bind (truth_all ats hat lit hlw) (Ev.now _))
      simp only [fulcrumlaw21_AnalyseLeans.l1]
      rw [if_neg (by simp; omega), if_pos trivial]
    | false =>
      rw [if_neg (by simp)]
      refine Ev.step (f := fun _ => some true) (fun k => ?_) (Ev.now _)
      simp only [fulcrumlaw21_AnalyseLeans.l1]
      rw [if_neg (by simp; omega), if_neg (by simp)]
  | succ d ih =>
    intro i hi all last hl
    have hlt : i < ps.length := by omega
    obtain ⟨p, hp⟩ : ∃ p, ps[i]? = some p := ⟨_, List.getElem?_eq_getElem hlt⟩
    have hpm := List.mem_of_getElem? hp
    obtain ⟨h1, h2⟩ := hpq p hpm
    have hrd : rd (ps.map (fun p => (mkAt ms p).f0)) (i : Int) = (mkAt ms p).f0 := by
      unfold rd
      rw [Int.toNat_natCast, List.getD_eq_getElem?_getD, List.getElem?_map, hp]; rfl
    have hdr : ps.drop i = p :: ps.drop (i + 1) := by
      rw [List.drop_eq_getElem_cons hlt]
      have := (List.getElem?_eq_getElem hlt).symm.trans hp
      injection this with this
      rw [this]
    have hlp := hl i p (Nat.le_refl _) hp
    have hnext := ih (i + 1) (by omega) (all && truthB ats (mkAt ms p).f0) (p : Int) (fun j q hj hq => by
      have h3 := (List.pairwise_iff_getElem.1 hps) i j hlt (List.getElem?_eq_some_iff.1 hq).1 (by omega)
      have e1 := (List.getElem?_eq_some_iff.1 hp).2
      have e2 := (List.getElem?_eq_some_iff.1 hq).2
      rw [e1, e2] at h3
      omega)
    rw [hdr, List.map_cons, List.all_cons, ← Bool.and_assoc]
    have h3 := leans2_ev (cs := cs) (all := all) (last := last) (lit := lit) (ats := ats) (res := ps.map (fun p => (mkAt ms p).f0)) (i := i) hv hW.lm (by simpa using hlt) (by simpa using hpl) h1 hrd h2 hlp hat (by rw [hrd]; exact (hW.m _ (List.mem_of_getElem? (mkAt_get h1))).1) (by rw [hrd]; exact hnext) ms.length 0 (by omega)
    rw [if_neg (by omega)] at h3
    refine Ev.step (fun k => ?_) h3
    simp only [fulcrumlaw21_AnalyseLeans.l1]
    rw [if_pos (by simp; omega)]
    rfl
theorem leans0_ev {cs : List (List Int)} {ms : List Mk} (hW : Wf cs ms) {lit : Int} {ats res : List Int} (hat : ats.length ≤ 4194304) {r : Bool} (hK : ∀ all, all = (cs.all (clauseB ats)) → Ev (fun k => fulcrumlaw21_AnalyseLeans.l1 k lit ats res all (-1) 0 cs ms) r) :
    ∀ d i : Nat, i + d = cs.length → Ev (fun k => fulcrumlaw21_AnalyseLeans.l0 k lit ats res ((cs.take i).all (clauseB ats)) (i : Int) cs ms) r := by
  have hlc := hW.lc
  intro d
  induction d with
  | zero =>
    intro i hi
    rw [List.take_of_length_le (by omega)]
    refine Ev.step (fun k => ?_) (hK _ rfl)
    simp only [fulcrumlaw21_AnalyseLeans.l0]
    rw [if_neg (by omega)]
  | succ d ih =>
    intro i hi
    have hlt : i < cs.length := by omega
    have HWR : Aside0 _ := ⟨wrapI hlt (show cs.length ≤ 4611686018427387904 by omega)⟩
    have h1 := ih (i + 1) (by omega)
    rw [rdl_drop hlt, List.all_append] at h1
    simp only [List.all_cons, List.all_nil, Bool.and_true] at h1
    have hm := rdl_mem hlt
    cases hc : (cs.take i).all (clauseB ats) with
    | true =>
      rw [hc, Bool.true_and] at h1
      refine Ev.step (f := fun k => (fulcrumlaw21_clause.f k ats (rd_L1 cs (i : Int))).bind fun t => fulcrumlaw21_AnalyseLeans.l0 k lit ats res t ((i + 1 : Nat) : Int) cs ms) (fun k => ?_) (Ev.bind (clause_all ats hat _ (hW.lcl _ hm) (hW.c _ hm)) h1)
      simp only [fulcrumlaw21_AnalyseLeans.l0]
      rw [if_pos (by omega), if_pos trivial, if_pos (by omega), HWR.out]
    | false =>
      rw [hc, Bool.false_and] at h1
      refine Ev.step (fun k => ?_) h1
      simp only [fulcrumlaw21_AnalyseLeans.l0]
      rw [if_pos (by omega), if_neg (by simp), HWR.out]
theorem leans_all {cs : List (List Int)} {ms : List Mk} (hW : Wf cs ms) (hm : ms.length ≤ 524288) (lit : Int) (hl : w64 lit) (ats : List Int) (hat : ats.length ≤ 4194304) : Ev (fun k => fulcrumlaw21_AnalyseLeans.f k cs ms lit ats) true := by
  have hcond : (wfB cs ms && decide (w64 lit)) = true := by rw [wfB_of hW, decide_eq_true hl]; rfl
  refine Ev.bind (twin_all cs hW.lc hW.lcl) (Ev.bind (marks_all ms hW.lm) ?_)
  unfold analyse_Final.f
  simp only [hcond, if_true, Option.bind_some]
  refine Ev.bind lives_all ?_
  simp only [if_true]
  by_cases h0 : (finalP cs ms lit).2 = 0
  · simp only [h0, if_true]
    cases hvb : validB cs [] ms with
    | false => unfold finalP at h0; rw [hvb] at h0; simp at h0
    | true =>
      have hv := VT.of hvb
      obtain ⟨ps, p1, p2, p3⟩ := finalP_places hv lit
      have hlen := finalP_len (cs := cs) (ms := ms) lit
      have hpl : ps.length ≤ 4194305 := by rw [p1, List.length_map] at hlen; omega
      refine leans0_ev hW hat (fun all hall => ?_) cs.length 0 (by omega)
      have h1 := leans1_ev hv hW hl hat p2 p3 hpl ps.length 0 (by omega) all (-1) (fun j q _ _ => by omega)
      rw [← p1, List.drop_zero, ← p1] at h1
      have h2 : (if (all && (finalP cs ms lit).1.all (truthB ats)) = true then truthB ats lit else true) = true := by
        split
        · rename_i h3
          rw [Bool.and_eq_true, hall] at h3
          exact finalP_sound hv hvb hW.c h0 (fun c hc => List.all_eq_true.1 h3.1 c hc) (fun x hx => List.all_eq_true.1 h3.2 x hx)
        · rfl
      rw [h2] at h1
      exact h1
  · simp only [h0, if_false]
    have : (finalP cs ms lit).1 = [] := by
      unfold finalP at h0 ⊢
      split
      · rename_i q1
        rw [if_pos q1] at h0
        split
        · rename_i q2; rw [if_pos q2] at h0; exact absurd rfl h0
        · rfl
      · rfl
    rw [this]
    exact Ev.now _
theorem leans_walk (A0 : Option Addr) (c0 : Nat) (l0 : List (List Int)) (A1 : Option Addr) (c1 : Nat) (l1 : List (S49)) (a1 : Int) (A2 : Option Addr) (c2 : Nat) (l2 : List Int) (w : World) (hr0 : Kd.C (Kd.slice 3 (Kd.int .i64)) w A0 l0.length l0) (hc0 : l0.length ≤ c0) (hr1 : Kd.C k49 w A1 l1.length l1) (hc1 : l1.length ≤ c1) (hr2 : Kd.C (Kd.int .i64) w A2 l2.length l2) (hc2 : l2.length ≤ c2) (h : Wf l0 l1) (hm : l1.length ≤ 524288) (hl : w64 a1) (hat : l2.length ≤ 4194304) :
    Calls Try.prog 8 #[.agg #[.slice A0 l0.length c0, .slice A1 l1.length c1], .int .i64 a1, .slice A2 l2.length c2] w fun e w' => e = .returned (.bool true) ∧ Below w.heap.size w w' := by
  obtain ⟨k, hk⟩ := (leans_all h hm a1 hl l2 hat).rounds
  exact fulcrumlaw21_AnalyseLeans.calls k A0 c0 l0 A1 c1 l1 a1 A2 c2 l2 true w hr0 hc0 hr1 hc1 hr2 hc2 hk
end Go.Proofs.Ytboalbiicmcljaa.PAN
