import Derived.Test.YtegaaobiedfjcaaStA
import Derived.Test.YtegaaobiedfjcaaPUx6
namespace Go.Proofs.Ytegaaobiedfjcaa.PU
open Go.RowKit Go.Proofs.YtegaaobiedfjcaaW.PrintWords Go.Proofs.YtegaaobiedfjcaaW.PrintLast Go.Proofs.YtegaaobiedfjcaaW.PrintMore Go.Proofs.YtegaaobiedfjcaaH
set_option linter.unusedVariables false
set_option linter.unusedSimpArgs false
/-! ### the document's answer (layer 20), in plain words -/
theorem wrapI {i n : Nat} (h : i < n) (hn : n ≤ 4611686018427387904) : wrap64 ((i : Int) + 1) = ((i + 1 : Nat) : Int) := by unfold wrap64; omega
def inR (x : Int) : Prop := -4611686018427387904 ≤ x ∧ x ≤ 4611686018427387904
theorem wrapN {x : Int} (h : inR x) : wrap64 (-x) = -x := by unfold inR at h; unfold wrap64; omega
theorem inR_neg {x : Int} (h : inR x) : inR (-x) := by unfold inR at *; omega
theorem rdm_drop {l : List S48} {i : Nat} (h : i < l.length) : l.drop i = rd_T48 l (i : Int) :: l.drop (i + 1) := by
  rw [List.drop_eq_getElem_cons h]
  simp [rd_T48, List.getD_eq_getElem?_getD, List.getElem?_eq_getElem h]
theorem rdm_mem {l : List S48} {i : Nat} (h : i < l.length) : rd_T48 l (i : Int) ∈ l := by
  simp [rd_T48, List.getD_eq_getElem?_getD, List.getElem?_eq_getElem h]
theorem rdl_drop {l : List (List Int)} {i : Nat} (h : i < l.length) : l.drop i = rd_L2 l (i : Int) :: l.drop (i + 1) := by
  rw [List.drop_eq_getElem_cons h]
  simp [rd_L2, List.getD_eq_getElem?_getD, List.getElem?_eq_getElem h]
theorem rdl_mem {l : List (List Int)} {i : Nat} (h : i < l.length) : rd_L2 l (i : Int) ∈ l := by
  simp [rd_L2, List.getD_eq_getElem?_getD, List.getElem?_eq_getElem h]
theorem rdl_get {l : List (List Int)} {i : Nat} (h : i < l.length) : l[i]? = some (rd_L2 l (i : Int)) := by
  rw [List.getElem?_eq_getElem h]
  simp [rd_L2, List.getD_eq_getElem?_getD, List.getElem?_eq_getElem h]
theorem rdm_get {l : List S48} {i : Nat} (h : i < l.length) : l[i]? = some (rd_T48 l (i : Int)) := by
  rw [List.getElem?_eq_getElem h]
  simp [rd_T48, List.getD_eq_getElem?_getD, List.getElem?_eq_getElem h]
/-- Is a literal true? -/
def tB (marks : List S48) (l : Int) : Bool := marks.any (fun m => decide (m.f0 = l))
theorem tB_iff {marks : List S48} {l : Int} : tB marks l = true ↔ ∃ m ∈ marks, m.f0 = l := by simp [tB]
theorem place_ev (marks : List S48) (l : Int) (hn : marks.length ≤ 4611686018427387904) : ∀ d i : Nat, i + d = marks.length → ∃ r, Ev (fun k => fulcrumref20_Place.l0 k marks l (i : Int)) r ∧ decide (r < 0) = !tB (marks.drop i) l := by
  intro d
  induction d with
  | zero =>
    intro i h
    refine ⟨-1, Ev.step (f := fun _ => some (-1)) (fun k => ?_) (Ev.now _), ?_⟩
    · simp only [fulcrumref20_Place.l0]; rw [if_neg (by omega)]
    · rw [List.drop_eq_nil_of_le (by omega)]; rfl
  | succ d ih =>
    intro i h
    have hlt : i < marks.length := by omega
    rw [rdm_drop hlt]
    by_cases he : (rd_T48 marks (i : Int)).f0 = l
    · refine ⟨(i : Int), Ev.step (f := fun _ => some (i : Int)) (fun k => ?_) (Ev.now _), ?_⟩
      · simp only [fulcrumref20_Place.l0]; rw [if_pos (by omega), if_pos (by omega), if_pos he]
      · have : tB (rd_T48 marks (i : Int) :: marks.drop (i + 1)) l = true := by simp [tB, he]
        rw [this, decide_eq_false (by omega)]; rfl
    · obtain ⟨r, h1, h2⟩ := ih (i + 1) (by omega)
      refine ⟨r, Ev.step (f := fun k => fulcrumref20_Place.l0 k marks l ((i + 1 : Nat) : Int)) (fun k => ?_) h1, ?_⟩
      · simp only [fulcrumref20_Place.l0]; rw [if_pos (by omega), if_pos (by omega), if_neg he, wrapI hlt hn]
      · rw [h2]; simp [tB, he]
theorem place_all (marks : List S48) (l : Int) (hn : marks.length ≤ 4611686018427387904) : ∃ r, Ev (fun k => fulcrumref20_Place.f k marks l) r ∧ decide (r < 0) = !tB marks l := by
  obtain ⟨r, h1, h2⟩ := place_ev marks l hn marks.length 0 (by omega)
  exact ⟨r, by simpa [fulcrumref20_Place.f] using h1, by simpa using h2⟩
theorem true_all (marks : List S48) (l : Int) (hn : marks.length ≤ 4611686018427387904) : Ev (fun k => fulcrumref20_True.f k marks l) (tB marks l) := by
  obtain ⟨r, h1, h2⟩ := place_all marks l hn
  refine Ev.bind (f := fun _ r => some (decide (r ≥ 0))) h1 ?_
  have : decide (r ≥ 0) = tB marks l := by
    by_cases hr : r < 0
    · rw [decide_eq_true hr] at h2
      rw [decide_eq_false (by omega)]
      cases hb : tB marks l
      · rfl
      · rw [hb] at h2; cases h2
    · rw [decide_eq_false hr] at h2
      rw [decide_eq_true (by omega)]
      cases hb : tB marks l
      · rw [hb] at h2; cases h2
      · rfl
  rw [this]; exact Ev.now _
def openB (marks : List S48) (l : Int) : Bool := !tB marks l && !tB marks (-l)
theorem open_all (marks : List S48) (l : Int) (hn : marks.length ≤ 4611686018427387904) (hl : inR l) : Ev (fun k => fulcrumref20_Open.f k marks l) (openB marks l) := by
  obtain ⟨r, h1, h2⟩ := place_all marks l hn
  obtain ⟨r', h3, h4⟩ := place_all marks (-l) hn
  have h3' : Ev (fun k => fulcrumref20_Place.f k marks (wrap64 (-l))) r' := by rw [wrapN hl]; exact h3
  refine Ev.bind (f := fun k t102 => (if t102 < 0 then ((fulcrumref20_Place.f k marks (wrap64 (-l))).bind fun t103 => (some (decide (t103 < 0)))) else (some false))) h1 ?_
  unfold openB
  rw [← h2, ← h4]
  by_cases hr : r < 0
  · simp only [hr, if_true, decide_true, Bool.true_and]
    exact Ev.bind (f := fun _ t => some (decide (t < 0))) h3' (Ev.now _)
  · simp only [hr, if_false, decide_false, Bool.false_and]
    exact Ev.now _
/-- Are all of a clause's literals false? -/
def brkB (marks : List S48) (c : List Int) : Bool := c.all (fun x => tB marks (-x))
theorem Broken_ev (c : List Int) (marks : List S48) (hn : marks.length ≤ 4611686018427387904) (hc : c.length ≤ 4611686018427387904) (hr : ∀ x ∈ c, inR x) : ∀ d i : Nat, i + d = c.length → Ev (fun k => fulcrumref20_Broken.l0 k c marks (i : Int)) (brkB marks (c.drop i)) := by
  intro d
  induction d with
  | zero =>
    intro i h
    refine Ev.step (f := fun _ => some true) (fun k => ?_) ?_
    · simp only [fulcrumref20_Broken.l0]; rw [if_neg (by omega)]
    · rw [List.drop_eq_nil_of_le (by omega)]; exact Ev.now _
  | succ d ih =>
    intro i h
    have hlt : i < c.length := by omega
    obtain ⟨r, h1, h2⟩ := place_all marks (-(rd c (i : Int))) hn
    have ed : c.drop i = rd c (i : Int) :: c.drop (i + 1) := rd_drop' hlt
    rw [ed]
    refine Ev.step (f := fun k => (fulcrumref20_Place.f k marks (-(rd c (i : Int)))).bind fun t128 => (if t128 < 0 then (some false) else (fulcrumref20_Broken.l0 k c marks ((i + 1 : Nat) : Int)))) (fun k => ?_) ?_
    · simp only [fulcrumref20_Broken.l0]; rw [if_pos (by omega), if_pos (by omega), wrapI hlt hc, wrapN (hr _ (rd_mem' hlt))]
    · refine Ev.bind h1 ?_
      have e : brkB marks (rd c (i : Int) :: c.drop (i + 1)) = (tB marks (-(rd c (i : Int))) && brkB marks (c.drop (i + 1))) := rfl
      rw [e]
      by_cases hr0 : r < 0
      · rw [decide_eq_true hr0] at h2
        have : tB marks (-(rd c (i : Int))) = false := by simpa using h2.symm
        rw [this]
        simp only [hr0, if_true, Bool.false_and]
        exact Ev.now _
      · rw [decide_eq_false hr0] at h2
        have : tB marks (-(rd c (i : Int))) = true := by simpa using h2.symm
        rw [this]
        simp only [hr0, if_false, Bool.true_and]
        exact ih (i + 1) (by omega)
theorem Broken_all (c : List Int) (marks : List S48) (hn : marks.length ≤ 4611686018427387904) (hc : c.length ≤ 4611686018427387904) (hr : ∀ x ∈ c, inR x) : Ev (fun k => fulcrumref20_Broken.f k c marks) (brkB marks c) := by
  have := Broken_ev c marks hn hc hr c.length 0 (by omega)
  simpa [fulcrumref20_Broken.f] using this
/-- Does a clause force a literal? -/
def forcesB (marks : List S48) (c : List Int) (l : Int) : Bool := (decide (l ∈ c) && c.all (fun x => decide (x = l) || tB marks (-x))) && openB marks l
theorem Forces_ev (c : List Int) (marks : List S48) (l : Int) (hl : inR l) (hn : marks.length ≤ 4611686018427387904) (hc : c.length ≤ 4611686018427387904) (hr : ∀ x ∈ c, inR x) : ∀ d i : Nat, i + d = c.length → ∀ b : Bool, Ev (fun k => fulcrumref20_Forces.l0 k c marks l b (i : Int)) (((b || decide (l ∈ c.drop i)) && (c.drop i).all (fun x => decide (x = l) || tB marks (-x))) && openB marks l) := by
  intro d
  induction d with
  | zero =>
    intro i h b
    rw [List.drop_eq_nil_of_le (by omega)]
    cases b with
    | true =>
      refine Ev.step (f := fun k => (fulcrumref20_Open.f k marks l).bind fun t => some t) (fun k => ?_) ?_
      · simp only [fulcrumref20_Forces.l0]; rw [if_neg (by omega), if_pos trivial]
      · have := open_all marks l hn hl
        simpa using Ev.bind (f := fun _ t => some t) this (Ev.now _)
    | false =>
      refine Ev.step (f := fun _ => some false) (fun k => ?_) ?_
      · simp only [fulcrumref20_Forces.l0]; rw [if_neg (by omega), if_neg (by simp)]
      · simpa using Ev.now false
  | succ d ih =>
    intro i h b
    have hlt : i < c.length := by omega
    have ed : c.drop i = rd c (i : Int) :: c.drop (i + 1) := rd_drop' hlt
    rw [ed]
    by_cases he : rd c (i : Int) = l
    · refine Ev.step (f := fun k => fulcrumref20_Forces.l0 k c marks l true ((i + 1 : Nat) : Int)) (fun k => ?_) ?_
      · simp only [fulcrumref20_Forces.l0]; rw [if_pos (by omega), if_pos (by omega), if_pos he, wrapI hlt hc]
      · have := ih (i + 1) (by omega) true
        simpa [he] using this
    · obtain ⟨r, h1, h2⟩ := place_all marks (-(rd c (i : Int))) hn
      refine Ev.step (f := fun k => (fulcrumref20_Place.f k marks (-(rd c (i : Int)))).bind fun t108 => (if t108 < 0 then (some false) else (fulcrumref20_Forces.l0 k c marks l b ((i + 1 : Nat) : Int)))) (fun k => ?_) ?_
      · simp only [fulcrumref20_Forces.l0]; rw [if_pos (by omega), if_pos (by omega), if_neg he, wrapI hlt hc, wrapN (hr _ (rd_mem' hlt))]
      · refine Ev.bind h1 ?_
        by_cases hr0 : r < 0
        · rw [decide_eq_true hr0] at h2
          have : tB marks (-(rd c (i : Int))) = false := by simpa using h2.symm
          simp only [hr0, if_true, List.all_cons, he, this, decide_false, Bool.or_false, Bool.false_and, Bool.and_false]
          exact Ev.now _
        · rw [decide_eq_false hr0] at h2
          have : tB marks (-(rd c (i : Int))) = true := by simpa using h2.symm
          have h5 := ih (i + 1) (by omega) b
          simp only [hr0, if_false]
          simpa [this, Ne.symm he] using h5
theorem Forces_all (c : List Int) (marks : List S48) (l : Int) (hl : inR l) (hn : marks.length ≤ 4611686018427387904) (hc : c.length ≤ 4611686018427387904) (hr : ∀ x ∈ c, inR x) : Ev (fun k => fulcrumref20_Forces.f k c marks l) (forcesB marks c l) := by
  have := Forces_ev c marks l hl hn hc hr c.length 0 (by omega) false
  simpa [fulcrumref20_Forces.f, forcesB] using this
structure CsOk (cs : List (List Int)) : Prop where
  len : cs.length ≤ 4611686018427387904
  cl : ∀ c ∈ cs, c.length ≤ 4611686018427387904
  rng : ∀ c ∈ cs, ∀ x ∈ c, inR x
def noForce (marks : List S48) (cs : List (List Int)) : Prop := ∀ c ∈ cs, ∀ l ∈ c, forcesB marks c l = false
theorem forced_ev (cs : List (List Int)) (marks : List S48) (hn : marks.length ≤ 4611686018427387904) (hc : CsOk cs) : ∀ d i : Nat, i + d = cs.length → ∃ r : Int × Int, Ev (fun k => fulcrumref20_forced.l0 k cs marks (i : Int)) r ∧
    ((r = (0, -1) ∧ noForce marks (cs.drop i)) ∨ ∃ (j : Nat) (c : List Int) (l : Int), r = (l, (j : Int)) ∧ cs[j]? = some c ∧ l ∈ c ∧ forcesB marks c l = true) := by
  intro d
  induction d with
  | zero =>
    intro i h
    refine ⟨(0, -1), Ev.step (f := fun _ => some (0, -1)) (fun k => ?_) (Ev.now _), .inl ⟨rfl, ?_⟩⟩
    · simp only [fulcrumref20_forced.l0]; rw [if_neg (by omega)]
    · rw [List.drop_eq_nil_of_le (by omega)]; intro c hc; cases hc
  | succ d ih =>
    intro i h
    have hlt : i < cs.length := by omega
    obtain ⟨r, h1, h2⟩ := ih (i + 1) (by omega)
    obtain ⟨c, hcd⟩ : ∃ c, c = rd_L2 cs (i : Int) := ⟨_, rfl⟩
    have hcm : c ∈ cs := by rw [hcd]; exact rdl_mem hlt
    have hcg : cs[i]? = some c := by rw [hcd]; exact rdl_get hlt
    have inner : ∀ e j : Nat, j + e = c.length → ∃ r : Int × Int, Ev (fun k => fulcrumref20_forced.l1 k cs marks (i : Int) (j : Int)) r ∧
        ((r = (0, -1) ∧ noForce marks (cs.drop (i + 1)) ∧ ∀ l ∈ c.drop j, forcesB marks c l = false) ∨ ∃ (j : Nat) (c : List Int) (l : Int), r = (l, (j : Int)) ∧ cs[j]? = some c ∧ l ∈ c ∧ forcesB marks c l = true) := by
      intro e
      induction e with
      | zero =>
        intro j hj
        refine ⟨r, Ev.step (f := fun k => fulcrumref20_forced.l0 k cs marks ((i + 1 : Nat) : Int)) (fun k => ?_) h1, ?_⟩
        · simp only [fulcrumref20_forced.l1]; rw [if_pos (by omega), if_pos (by omega), ← hcd, if_neg (by omega), wrapI hlt hc.len]
        · rcases h2 with ⟨q1, q2⟩ | q
          · refine .inl ⟨q1, q2, ?_⟩
            rw [List.drop_eq_nil_of_le (by omega)]; intro l hl; cases hl
          · exact .inr q
      | succ e ihe =>
        intro j hj
        have hjl : j < c.length := by omega
        have hF := Forces_all c marks (rd c (j : Int)) (hc.rng c hcm _ (rd_mem' hjl)) hn (hc.cl c hcm) (hc.rng c hcm)
        by_cases hf : forcesB marks c (rd c (j : Int)) = true
        · rw [hf] at hF
          refine ⟨(rd c (j : Int), (i : Int)), Ev.step (f := fun k => (fulcrumref20_Forces.f k c marks (rd c (j : Int))).bind fun t142 => (if t142 = true then (some (rd c (j : Int), (i : Int))) else (fulcrumref20_forced.l1 k cs marks (i : Int) ((j + 1 : Nat) : Int)))) (fun k => ?_) ?_, .inr ⟨i, c, _, rfl, hcg, rd_mem' hjl, hf⟩⟩
          · simp only [fulcrumref20_forced.l1]; rw [if_pos (by omega), if_pos (by omega), ← hcd, if_pos (by omega), if_pos (by omega), wrapI hjl (hc.cl c hcm)]
          · refine Ev.bind hF ?_
            simp only [if_true]
            exact Ev.now _
        · have hf' : forcesB marks c (rd c (j : Int)) = false := by simpa using hf
          rw [hf'] at hF
          obtain ⟨r', h3, h4⟩ := ihe (j + 1) (by omega)
          refine ⟨r', Ev.step (f := fun k => (fulcrumref20_Forces.f k c marks (rd c (j : Int))).bind fun t142 => (if t142 = true then (some (rd c (j : Int), (i : Int))) else (fulcrumref20_forced.l1 k cs marks (i : Int) ((j + 1 : Nat) : Int)))) (fun k => ?_) ?_, ?_⟩
          · simp only [fulcrumref20_forced.l1]; rw [if_pos (by omega), if_pos (by omega), ← hcd, if_pos (by omega), if_pos (by omega), wrapI hjl (hc.cl c hcm)]
          · refine Ev.bind hF ?_
            simp only [Bool.false_eq_true, if_false]
            exact h3
          · rcases h4 with ⟨q1, q2, q3⟩ | q
            · refine .inl ⟨q1, q2, ?_⟩
              rw [rd_drop' hjl]
              intro l hl
              rcases List.mem_cons.1 hl with rfl | hl
              · exact hf'
              · exact q3 l hl
            · exact .inr q
    obtain ⟨r', h3, h4⟩ := inner c.length 0 (by omega)
    refine ⟨r', Ev.step (f := fun k => fulcrumref20_forced.l1 k cs marks (i : Int) ((0 : Nat) : Int)) (fun k => ?_) h3, ?_⟩
    · simp only [fulcrumref20_forced.l0]; rw [if_pos (by omega)]; rfl
    · rcases h4 with ⟨q1, q2, q3⟩ | q
      · refine .inl ⟨q1, ?_⟩
        rw [rdl_drop hlt, ← hcd]
        intro c' hc' l hl
        rcases List.mem_cons.1 hc' with rfl | hc'
        · exact q3 l (by simpa using hl)
        · exact q2 c' hc' l hl
      · exact .inr q
theorem forced_all (cs : List (List Int)) (marks : List S48) (hn : marks.length ≤ 4611686018427387904) (hc : CsOk cs) : ∃ r : Int × Int, Ev (fun k => fulcrumref20_forced.f k cs marks) r ∧
    ((r = (0, -1) ∧ noForce marks cs) ∨ ∃ (j : Nat) (c : List Int) (l : Int), r = (l, (j : Int)) ∧ cs[j]? = some c ∧ l ∈ c ∧ forcesB marks c l = true) := by
  have := forced_ev cs marks hn hc cs.length 0 (by omega)
  simpa [fulcrumref20_forced.f] using this
def noBroken (marks : List S48) (cs : List (List Int)) : Prop := ∀ c ∈ cs, brkB marks c = false
theorem broken_ev (cs : List (List Int)) (marks : List S48) (hn : marks.length ≤ 4611686018427387904) (hc : CsOk cs) : ∀ d i : Nat, i + d = cs.length → ∃ r : Int, Ev (fun k => fulcrumref20_broken.l0 k cs marks (i : Int)) r ∧
    ((r = -1 ∧ noBroken marks (cs.drop i)) ∨ ∃ (j : Nat) (c : List Int), r = (j : Int) ∧ cs[j]? = some c ∧ brkB marks c = true) := by
  intro d
  induction d with
  | zero =>
    intro i h
    refine ⟨-1, Ev.step (f := fun _ => some (-1)) (fun k => ?_) (Ev.now _), .inl ⟨rfl, ?_⟩⟩
    · simp only [fulcrumref20_broken.l0]; rw [if_neg (by omega)]
    · rw [List.drop_eq_nil_of_le (by omega)]; intro c hc; cases hc
  | succ d ih =>
    intro i h
    have hlt : i < cs.length := by omega
    have hcm := rdl_mem hlt
    have hB := Broken_all _ marks hn (hc.cl _ hcm) (hc.rng _ hcm)
    by_cases hb : brkB marks (rd_L2 cs (i : Int)) = true
    · rw [hb] at hB
      refine ⟨(i : Int), Ev.step (f := fun k => (fulcrumref20_Broken.f k (rd_L2 cs (i : Int)) marks).bind fun t146 => (if t146 = true then (some (i : Int)) else (fulcrumref20_broken.l0 k cs marks ((i + 1 : Nat) : Int)))) (fun k => ?_) ?_, .inr ⟨i, _, rfl, rdl_get hlt, hb⟩⟩
      · simp only [fulcrumref20_broken.l0]; rw [if_pos (by omega), if_pos (by omega), wrapI hlt hc.len]
      · refine Ev.bind hB ?_
        simp only [if_true]
        exact Ev.now _
    · have hb' : brkB marks (rd_L2 cs (i : Int)) = false := by simpa using hb
      rw [hb'] at hB
      obtain ⟨r, h1, h2⟩ := ih (i + 1) (by omega)
      refine ⟨r, Ev.step (f := fun k => (fulcrumref20_Broken.f k (rd_L2 cs (i : Int)) marks).bind fun t146 => (if t146 = true then (some (i : Int)) else (fulcrumref20_broken.l0 k cs marks ((i + 1 : Nat) : Int)))) (fun k => ?_) ?_, ?_⟩
      · simp only [fulcrumref20_broken.l0]; rw [if_pos (by omega), if_pos (by omega), wrapI hlt hc.len]
      · refine Ev.bind hB ?_
        simp only [Bool.false_eq_true, if_false]
        exact h1
      · rcases h2 with ⟨q1, q2⟩ | q
        · refine .inl ⟨q1, ?_⟩
          rw [rdl_drop hlt]
          intro c hc
          rcases List.mem_cons.1 hc with rfl | hc
          · exact hb'
          · exact q2 c hc
        · exact .inr q
theorem broken_all (cs : List (List Int)) (marks : List S48) (hn : marks.length ≤ 4611686018427387904) (hc : CsOk cs) : ∃ r : Int, Ev (fun k => fulcrumref20_broken.f k cs marks) r ∧
    ((r = -1 ∧ noBroken marks cs) ∨ ∃ (j : Nat) (c : List Int), r = (j : Int) ∧ cs[j]? = some c ∧ brkB marks c = true) := by
  have := broken_ev cs marks hn hc cs.length 0 (by omega)
  simpa [fulcrumref20_broken.f] using this
theorem rest_all (cs : List (List Int)) (marks : List S48) (hn : marks.length ≤ 4611686018427387904) (hc : CsOk cs) (h1 : noForce marks cs) (h2 : noBroken marks cs) : Ev (fun k => fulcrumref20_Rest.f k cs marks) true := by
  obtain ⟨r, e1, q⟩ := forced_all cs marks hn hc
  obtain ⟨r', e2, q'⟩ := broken_all cs marks hn hc
  have hr : r.2 < 0 := by
    rcases q with ⟨rfl, _⟩ | ⟨j, c, l, _, h3, h4, h5⟩
    · decide
    · rw [h1 c (List.mem_of_getElem? h3) l h4] at h5; cases h5
  have hr' : r' < 0 := by
    rcases q' with ⟨rfl, _⟩ | ⟨j, c, _, h3, h4⟩
    · decide
    · rw [h2 c (List.mem_of_getElem? h3)] at h4; cases h4
  refine Ev.bind (f := fun k bt147 => (if bt147.2 < 0 then ((fulcrumref20_broken.f k cs marks).bind fun t149 => (some (decide (t149 < 0)))) else (some false))) e1 ?_
  simp only [hr, if_true]
  refine Ev.bind (f := fun _ t149 => (some (decide (t149 < 0)))) e2 ?_
  rw [decide_eq_true hr']
  exact Ev.now _
theorem SameTrue_ev (a b : List S48) (ha : a.length ≤ 4611686018427387904) (hb : b.length ≤ 4611686018427387904) (h : ∀ m ∈ a, tB b m.f0 = true) : ∀ d i : Nat, i + d = a.length → Ev (fun k => fulcrumref20_SameTrue.l0 k a b (i : Int)) true := by
  intro d
  induction d with
  | zero =>
    intro i h
    refine Ev.step (f := fun _ => some true) (fun k => ?_) (Ev.now _)
    simp only [fulcrumref20_SameTrue.l0]; rw [if_neg (by omega)]
  | succ d ih =>
    intro i hi
    have hlt : i < a.length := by omega
    obtain ⟨r, h1, h2⟩ := place_all b (rd_T48 a (i : Int)).f0 hb
    rw [h _ (rdm_mem hlt)] at h2
    refine Ev.step (f := fun k => (fulcrumref20_Place.f k b ((rd_T48 a (i : Int)).f0)).bind fun t137 => (if t137 < 0 then (some false) else (fulcrumref20_SameTrue.l0 k a b ((i + 1 : Nat) : Int)))) (fun k => ?_) ?_
    · simp only [fulcrumref20_SameTrue.l0]; rw [if_pos (by omega), if_pos (by omega), wrapI hlt ha]
    · refine Ev.bind h1 ?_
      have hr : ¬ r < 0 := by
        intro q
        rw [decide_eq_true q] at h2; cases h2
      simp only [hr, if_false]
      exact ih (i + 1) (by omega)
theorem SameTrue_all (a b : List S48) (ha : a.length ≤ 4611686018427387904) (hab : a.length = b.length) (h : ∀ m ∈ a, tB b m.f0 = true) : Ev (fun k => fulcrumref20_SameTrue.f k a b) true := by
  refine Ev.congr (f := fun k => fulcrumref20_SameTrue.l0 k a b ((0 : Nat) : Int)) (fun k => ?_) (SameTrue_ev a b ha (by omega) h a.length 0 (by omega))
  unfold fulcrumref20_SameTrue.f
  rw [if_pos (by omega)]; rfl
theorem Level_f (marks : List S48) (hn : marks.length ≤ 4611686018427387904) : fulcrumref20_Level.f marks = some (lvl marks) := by
  unfold fulcrumref20_Level.f lvl
  by_cases h : marks = []
  · subst h; rfl
  · have h0 : 0 < marks.length := List.length_pos_iff.2 h
    have e : wrap64 ((marks.length : Int) - 1) = (marks.length : Int) - 1 := by unfold wrap64; omega
    rw [if_neg (by omega), e, if_pos (by omega), if_pos (by omega), if_neg h]

end Go.Proofs.Ytegaaobiedfjcaa.PU
