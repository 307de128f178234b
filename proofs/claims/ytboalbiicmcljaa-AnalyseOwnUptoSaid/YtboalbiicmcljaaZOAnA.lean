import Derived.Test.YtboalbiicmcljaaZOAn8
import Derived.Test.YtboalbiicmcljaaZOPANx10
import Derived.Test.YtboalbiicmcljaaZOPANx12
namespace Go.Proofs.Ytboalbiicmcljaa.PAN
open Go.RowKit Go.Proofs.YtboalbiicmcljaaW.PrintWords Go.Proofs.YtboalbiicmcljaaW.PrintLast Go.Proofs.YtboalbiicmcljaaW.PrintMore Go.Proofs.YtboalbiicmcljaaH
set_option linter.unusedVariables false
set_option linter.unusedSimpArgs false
theorem wrapI {i n : Nat} (h : i < n) (hn : n ≤ 4611686018427387904) : wrap64 ((i : Int) + 1) = ((i + 1 : Nat) : Int) := by unfold wrap64; omega
theorem wrapN {x : Int} (h : w64 x) (h0 : x ≠ -9223372036854775808) : wrap64 (-x) = -x := by rw [w64_iff] at h; unfold wrap64; omega
theorem wrapS {x : Int} (h : w64 x) (h0 : litB x = true) : wrap64 (-x) = -x := wrapN h (litB_iff.1 h0).2
theorem rdm_get {l : List Mk} {i : Nat} (h : i < l.length) : l[i]? = some (rd_T49 l (i : Int)) := by
  rw [List.getElem?_eq_getElem h]
  simp [rd_T49, List.getD_eq_getElem?_getD, List.getElem?_eq_getElem h]
theorem rdi_drop {l : List Int} {i : Nat} (h : i < l.length) : l.drop i = rd l (i : Int) :: l.drop (i + 1) := by
  rw [List.drop_eq_getElem_cons h]
  simp [rd, List.getD_eq_getElem?_getD, List.getElem?_eq_getElem h]
def placeI (ms : List Mk) (l : Int) : Int := if hasM ms l = true then (placeN ms l : Int) else -1
theorem placeI_neg {ms : List Mk} {l : Int} : placeI ms l < 0 ↔ hasM ms l = false := by
  unfold placeI
  split
  · rename_i h; rw [h]; simp
  · rename_i h; simp [h]
theorem placeI_ge {ms : List Mk} {l : Int} : placeI ms l ≥ 0 ↔ hasM ms l = true := by
  have := @placeI_neg ms l
  cases h : hasM ms l
  · rw [h] at this; simp at this ⊢; exact this
  · rw [h] at this; simp at this ⊢; exact this
theorem placeN_at {ms : List Mk} {l : Int} {i : Nat} (hlt : i < ms.length) (h0 : hasM (ms.take i) l = false) (he : (rd_T49 ms (i : Int)).f0 = l) : placeI ms l = i := by
  have hg := rdm_get hlt
  have hm : hasM ms l = true := by
    unfold hasM
    rw [List.any_eq_true]
    exact ⟨_, List.mem_of_getElem? hg, by rw [he]; simp⟩
  have hp : placeN ms l = i := by
    unfold placeN
    have : ms = ms.take i ++ ms.drop i := (List.take_append_drop i ms).symm
    obtain ⟨p, hp⟩ : ∃ p, p = ms.take i := ⟨_, rfl⟩
    have hpl : p.length = i := by rw [hp, List.length_take]; omega
    obtain ⟨m, hm⟩ : ∃ m, m = rd_T49 ms (i : Int) := ⟨_, rfl⟩
    rw [drop_mk hlt, ← hp, ← hm] at this
    rw [← hp] at h0
    rw [← hm] at he
    rw [this, List.findIdx_append, if_neg (by rw [List.findIdx_lt_length, ← List.any_eq_true]; unfold hasM at h0; rw [h0]; simp), List.findIdx_cons, he]
    simp [hpl]
  unfold placeI
  rw [if_pos hm, hp]
theorem place_ev (ms : List Mk) (l : Int) (hn : ms.length ≤ 4611686018427387904) : ∀ d i : Nat, i + d = ms.length → hasM (ms.take i) l = false → Ev (fun k => fulcrumref21_place.l0 k ms l (i : Int)) (placeI ms l) := by
  intro d
  induction d with
  | zero =>
    intro i h h0
    rw [List.take_of_length_le (by omega)] at h0
    refine Ev.step (f := fun _ => some (-1)) (fun k => ?_) ?_
    · simp only [fulcrumref21_place.l0]; rw [if_neg (by omega)]
    · unfold placeI; rw [h0]; exact Ev.now _
  | succ d ih =>
    intro i h h0
    have hlt : i < ms.length := by omega
    by_cases he : (rd_T49 ms (i : Int)).f0 = l
    · refine Ev.step (f := fun _ => some (i : Int)) (fun k => ?_) ?_
      · simp only [fulcrumref21_place.l0]; rw [if_pos (by omega), if_pos (by omega), if_pos he]
      · rw [placeN_at hlt h0 he]; exact Ev.now _
    · refine Ev.step (f := fun k => fulcrumref21_place.l0 k ms l ((i + 1 : Nat) : Int)) (fun k => ?_) (ih (i + 1) (by omega) ?_)
      · simp only [fulcrumref21_place.l0]; rw [if_pos (by omega), if_pos (by omega), if_neg he, wrapI hlt hn]
      · rw [take_mk hlt]
        unfold hasM at h0 ⊢
        rw [List.any_append, h0]
        simp [he]
theorem place_all (ms : List Mk) (l : Int) (hn : ms.length ≤ 4611686018427387904) : Ev (fun k => fulcrumref21_place.f k ms l) (placeI ms l) := by
  have := place_ev ms l hn ms.length 0 (by omega) (by simp [hasM])
  simpa [fulcrumref21_place.f] using this
theorem has_ev (l : List Int) (x : Int) (hn : l.length ≤ 4611686018427387904) : ∀ d i : Nat, i + d = l.length → Ev (fun k => fulcrumref21_has.l0 k l x (i : Int)) (decide (x ∈ l.drop i)) := by
  intro d
  induction d with
  | zero =>
    intro i h
    rw [List.drop_eq_nil_of_le (by omega)]
    refine Ev.step (f := fun _ => some false) (fun k => ?_) (by simpa using Ev.now false)
    simp only [fulcrumref21_has.l0]; rw [if_neg (by omega)]
  | succ d ih =>
    intro i h
    have hlt : i < l.length := by omega
    rw [rdi_drop hlt]
    by_cases he : rd l (i : Int) = x
    · refine Ev.step (f := fun _ => some true) (fun k => ?_) (by rw [he]; simpa using Ev.now true)
      simp only [fulcrumref21_has.l0]; rw [if_pos (by omega), if_pos (by omega), if_pos he]
    · refine Ev.step (f := fun k => fulcrumref21_has.l0 k l x ((i + 1 : Nat) : Int)) (fun k => ?_) ?_
      · simp only [fulcrumref21_has.l0]; rw [if_pos (by omega), if_pos (by omega), if_neg he, wrapI hlt hn]
      · have := ih (i + 1) (by omega)
        simpa [Ne.symm he] using this
theorem has_all (l : List Int) (x : Int) (hn : l.length ≤ 4611686018427387904) : Ev (fun k => fulcrumref21_has.f k l x) (decide (x ∈ l)) := by
  have := has_ev l x hn l.length 0 (by omega)
  simpa [fulcrumref21_has.f] using this
theorem literal_all (x : Int) : fulcrumref21_literal.f x = some (litB x) := by
  unfold fulcrumref21_literal.f litB
  split
  · rename_i h; simp [h]
  · rename_i h
    congr 1
    rw [Bool.eq_iff_iff]
    simp [h]
theorem falses_ev (ms : List Mk) (c : List Int) (hn : ms.length ≤ 4611686018427387904) (hc : c.length ≤ 4611686018427387904) (hw : ∀ x ∈ c, w64 x) : ∀ d i : Nat, i + d = c.length → Ev (fun k => fulcrumref21_falses.l0 k ms c (i : Int)) ((c.drop i).all fun x => isFalseB ms x) := by
  intro d
  induction d with
  | zero =>
    intro i h
    rw [List.drop_eq_nil_of_le (by omega)]
    refine Ev.step (f := fun _ => some true) (fun k => ?_) (Ev.now true)
    simp only [fulcrumref21_falses.l0]; rw [if_neg (by omega)]
  | succ d ih =>
    intro i h
    have hlt : i < c.length := by omega
    rw [rdi_drop hlt]
    have hx := hw _ (rdm hlt)
    obtain ⟨x, hxe⟩ : ∃ x, x = rd c (i : Int) := ⟨_, rfl⟩
    rw [← hxe] at hx ⊢
    cases hl : litB x with
    | false =>
      refine Ev.step (f := fun _ => some false) (fun k => ?_) ?_
      · simp only [fulcrumref21_falses.l0]; rw [if_pos (by omega), if_pos (by omega), ← hxe, literal_all, hl]; rfl
      · simpa [isFalseB, hl] using Ev.now false
    | true =>
      refine Ev.step (f := fun k => (fulcrumref21_place.f k ms (-x)).bind fun t => if t < 0 then some false else fulcrumref21_falses.l0 k ms c ((i + 1 : Nat) : Int)) (fun k => ?_) (Ev.bind (place_all ms (-x) hn) ?_)
      · simp only [fulcrumref21_falses.l0]; rw [if_pos (by omega), if_pos (by omega), ← hxe, literal_all, hl, Option.bind_some, if_pos rfl, wrapI hlt hc, wrapS hx hl]
      · cases hh : hasM ms (-x) with
        | false =>
          simp only [placeI_neg.2 hh, if_true]
          simpa [isFalseB, hh] using Ev.now false
        | true =>
          have hp : ¬ placeI ms (-x) < 0 := fun q => by rw [placeI_neg, hh] at q; cases q
          simp only [hp, if_false]
          have := ih (i + 1) (by omega)
          simpa [isFalseB, hl, hh] using this
theorem falses_all (ms : List Mk) (c : List Int) (hn : ms.length ≤ 4611686018427387904) (hc : c.length ≤ 4611686018427387904) (hw : ∀ x ∈ c, w64 x) : Ev (fun k => fulcrumref21_falses.f k ms c) (c.all fun x => isFalseB ms x) := by
  have := falses_ev ms c hn hc hw c.length 0 (by omega)
  simpa [fulcrumref21_falses.f] using this
theorem supL_ev (ms : List Mk) (i : Nat) (hi : i ≤ ms.length) (c : List Int) (f0 f1 f2 : Int) (hn : ms.length ≤ 4611686018427387904) (hc : c.length ≤ 4611686018427387904) (hw : ∀ x ∈ c, w64 x) : ∀ d j : Nat, j + d = c.length → Ev (fun k => fulcrumref21_supported.l0 k ms (i : Int) c (j : Int) f0 f1 f2) ((c.drop j).all fun x => x == f0 || isFalseB (ms.take i) x) := by
  intro d
  induction d with
  | zero =>
    intro j h
    rw [List.drop_eq_nil_of_le (by omega)]
    refine Ev.step (f := fun _ => some true) (fun k => ?_) (Ev.now true)
    simp only [fulcrumref21_supported.l0]; rw [if_neg (by omega)]
  | succ d ih =>
    intro j h
    have hlt : j < c.length := by omega
    rw [rdi_drop hlt]
    have hx := hw _ (rdm hlt)
    obtain ⟨x, hxe⟩ : ∃ x, x = rd c (j : Int) := ⟨_, rfl⟩
    rw [← hxe] at hx ⊢
    by_cases hf : x = f0
    · refine Ev.step (f := fun k => fulcrumref21_supported.l0 k ms (i : Int) c ((j + 1 : Nat) : Int) f0 f1 f2) (fun k => ?_) ?_
      · simp only [fulcrumref21_supported.l0]; rw [if_pos (by omega), if_pos (by omega), ← hxe, if_pos hf, wrapI hlt hc]
      · have := ih (j + 1) (by omega)
        simpa [hf] using this
    · cases hl : litB x with
      | false =>
        refine Ev.step (f := fun _ => some false) (fun k => ?_) ?_
        · simp only [fulcrumref21_supported.l0]; rw [if_pos (by omega), if_pos (by omega), ← hxe, if_neg hf, literal_all, hl]; rfl
        · simpa [isFalseB, hl, show (x == f0) = false by simpa using hf] using Ev.now false
      | true =>
        refine Ev.step (f := fun k => (fulcrumref21_place.f k (ms.take i) (-x)).bind fun t => if t < 0 then some false else fulcrumref21_supported.l0 k ms (i : Int) c ((j + 1 : Nat) : Int) f0 f1 f2) (fun k => ?_) (Ev.bind (place_all (ms.take i) (-x) (by rw [List.length_take]; omega)) ?_)
        · simp only [fulcrumref21_supported.l0]; rw [if_pos (by omega), if_pos (by omega), ← hxe, if_neg hf, literal_all, hl, Option.bind_some, if_pos rfl, if_pos (by omega), if_pos (by omega), wrapI hlt hc, wrapS hx hl, Int.toNat_natCast]
        · cases hh : hasM (ms.take i) (-x) with
          | false =>
            simp only [placeI_neg.2 hh, if_true]
            simpa [isFalseB, hh, show (x == f0) = false by simpa using hf] using Ev.now false
          | true =>
            have hp : ¬ placeI (ms.take i) (-x) < 0 := fun q => by rw [placeI_neg, hh] at q; cases q
            simp only [hp, if_false]
            have := ih (j + 1) (by omega)
            simpa [isFalseB, hl, hh, show (x == f0) = false by simpa using hf] using this
def supB (cs : List (List Int)) (pre : List Mk) (m : Mk) : Bool := if m.f2 = -1 then m.f1 == lvlM pre + 1 else decide (0 ≤ m.f2 ∧ m.f2 < cs.length) && forcesB pre (rdC cs m.f2) m.f0 && m.f1 == lvlM pre
theorem rdL_C (cs : List (List Int)) (i : Int) : rd_L1 cs i = rdC cs i := rfl
theorem lvlM_take {ms : List Mk} {i : Nat} (h0 : 0 < i) (hi : i ≤ ms.length) : lvlM (ms.take i) = (rd_T49 ms ((i - 1 : Nat) : Int)).f1 := by
  obtain ⟨j, rfl⟩ : ∃ j, i = j + 1 := ⟨i - 1, by omega⟩
  rw [take_mk (by omega), lvlM_snoc]
  rfl
theorem sup_all (cs : List (List Int)) (ms : List Mk) (hW : Wf cs ms) (i : Nat) (hi : i < ms.length) (hl : 0 ≤ lvlM (ms.take i) ∧ lvlM (ms.take i) ≤ i) : Ev (fun k => fulcrumref21_supported.f k cs ms (i : Int)) (supB cs (ms.take i) (rd_T49 ms (i : Int))) := by
  have hlm := hW.lm
  obtain ⟨m, hm⟩ : ∃ m, m = rd_T49 ms (i : Int) := ⟨_, rfl⟩
  have hj1 : ∀ f0 f1 f2, Ev (fun k => fulcrumref21_supported.j1 k cs ms (i : Int) true f0 f1 f2) false := fun f0 f1 f2 => Ev.step (f := fun _ => some false) (fun k => by simp [fulcrumref21_supported.j1]) (Ev.now _)
  have main : Ev (fun k => fulcrumref21_supported.j0 k cs ms (i : Int) (lvlM (ms.take i)) m.f0 m.f1 m.f2) (supB cs (ms.take i) m) := by
    unfold supB
    by_cases h2 : m.f2 = -1
    · rw [if_pos h2]
      refine Ev.step (f := fun _ => some (m.f1 == lvlM (ms.take i) + 1)) (fun k => ?_) (Ev.now _)
      simp only [fulcrumref21_supported.j0]
      rw [if_pos h2]
      congr 2
      unfold wrap64
      omega
    · rw [if_neg h2]
      by_cases h3 : m.f2 < 0
      · rw [decide_eq_false (by omega), Bool.false_and, Bool.false_and]
        refine Ev.step (f := fun k => fulcrumref21_supported.j1 k cs ms (i : Int) true m.f0 m.f1 m.f2) (fun k => ?_) (hj1 _ _ _)
        simp only [fulcrumref21_supported.j0]
        rw [if_neg h2, if_pos h3]
      · by_cases h4 : m.f2 ≥ (cs.length : Int)
        · rw [decide_eq_false (by omega), Bool.false_and, Bool.false_and]
          refine Ev.step (f := fun k => fulcrumref21_supported.j1 k cs ms (i : Int) true m.f0 m.f1 m.f2) (fun k => ?_) (hj1 _ _ _)
          simp only [fulcrumref21_supported.j0]
          rw [if_neg h2, if_neg h3, if_pos h4]
        · rw [decide_eq_true (by omega), Bool.true_and]
          by_cases h5 : m.f1 = lvlM (ms.take i)
          · have hmem := rdC_mem (cs := cs) (i := m.f2) (by omega) (by omega)
            have hcl := hW.lcl _ hmem
            have hcw := hW.c _ hmem
            have e5 : (m.f1 == lvlM (ms.take i)) = true := by simpa using h5
            rw [e5, Bool.and_true]
            refine Ev.step (f := fun k => (fulcrumref21_has.f k (rdC cs m.f2) m.f0).bind fun t => fulcrumref21_supported.j1 k cs ms (i : Int) (!t) m.f0 m.f1 m.f2) (fun k => ?_) (Ev.bind (has_all _ _ (by omega)) ?_)
            · simp only [fulcrumref21_supported.j0]
              rw [if_neg h2, if_neg h3, if_neg h4, if_pos h5, if_pos (by omega), if_pos (by omega), rdL_C]
            · unfold forcesB
              by_cases h6 : m.f0 ∈ rdC cs m.f2
              · have e6 : (rdC cs m.f2).contains m.f0 = true := by simpa using h6
                rw [e6, Bool.true_and]
                simp only [h6, decide_true, Bool.not_true]
                refine Ev.step (f := fun k => fulcrumref21_supported.l0 k ms (i : Int) (rdC cs m.f2) ((0 : Nat) : Int) m.f0 m.f1 m.f2) (fun k => ?_) ?_
                · simp only [fulcrumref21_supported.j1]
                  rw [if_neg (by simp), if_pos (by omega), if_pos (by omega), rdL_C]
                  rfl
                · have := supL_ev ms i (by omega) (rdC cs m.f2) m.f0 m.f1 m.f2 (by omega) (by omega) hcw (rdC cs m.f2).length 0 (by omega)
                  simpa using this
              · have e6 : (rdC cs m.f2).contains m.f0 = false := by simpa using h6
                rw [e6, Bool.false_and]
                simp only [h6, decide_false, Bool.not_false]
                exact hj1 _ _ _
          · have e5 : (m.f1 == lvlM (ms.take i)) = false := by simpa using h5
            rw [e5, Bool.and_false]
            refine Ev.step (f := fun k => fulcrumref21_supported.j1 k cs ms (i : Int) true m.f0 m.f1 m.f2) (fun k => ?_) (hj1 _ _ _)
            simp only [fulcrumref21_supported.j0]
            rw [if_neg h2, if_neg h3, if_neg h4, if_neg h5]
  rw [← hm]
  refine Ev.congr (fun k => ?_) main
  unfold fulcrumref21_supported.f
  rw [if_pos (by omega), if_pos (by omega), ← hm]
  by_cases h0 : (i : Int) > 0
  · have e1 : wrap64 ((i : Int) - 1) = ((i - 1 : Nat) : Int) := by unfold wrap64; omega
    rw [if_pos h0, e1, if_pos (by omega), if_pos (by omega), lvlM_take (by omega) (by omega)]
  · have : i = 0 := by omega
    subst this
    rw [if_neg h0]
    rfl
theorem Check_ev (cs : List (List Int)) (ms : List Mk) (hW : Wf cs ms) : ∀ d i : Nat, i + d = ms.length → 0 ≤ lvlM (ms.take i) ∧ lvlM (ms.take i) ≤ i → Ev (fun k => fulcrumref21_Check.l0 k cs ms (i : Int)) (if validB cs (ms.take i) (ms.drop i) = true then 0 else 200) := by
  have hlm := hW.lm
  intro d
  induction d with
  | zero =>
    intro i h _
    rw [List.drop_eq_nil_of_le (by omega)]
    refine Ev.step (f := fun _ => some 0) (fun k => ?_) (by simpa [validB] using Ev.now (0 : Int))
    simp only [fulcrumref21_Check.l0]; rw [if_neg (by omega)]
  | succ d ih =>
    intro i h hl
    have hlt : i < ms.length := by omega
    have hwm := (hW.mk_rd hlt).1
    have hsup := sup_all cs ms hW i hlt hl
    have htk := take_mk hlt
    rw [drop_mk hlt]
    obtain ⟨m, hm⟩ : ∃ m, m = rd_T49 ms (i : Int) := ⟨_, rfl⟩
    rw [← hm] at hwm hsup htk ⊢
    have htl : (ms.take i).length ≤ 4611686018427387904 := by rw [List.length_take]; omega
    have hval : validB cs (ms.take i) (m :: ms.drop (i + 1)) = (((litB m.f0 && (!hasM (ms.take i) m.f0 && !hasM (ms.take i) (-m.f0))) && supB cs (ms.take i) m) && validB cs (ms.take (i + 1)) (ms.drop (i + 1))) := by rw [validB, htk]; rfl
    rw [hval]
    cases hb : litB m.f0 with
    | false =>
      refine Ev.step (f := fun _ => some 200) (fun k => ?_) (by simpa using Ev.now (200 : Int))
      simp only [fulcrumref21_Check.l0]; rw [if_pos (by omega), if_pos (by omega), ← hm, literal_all, hb]; rfl
    | true =>
      refine Ev.step (f := fun k => (fulcrumref21_place.f k (ms.take i) m.f0).bind fun t => if t ≥ 0 then some 200 else (fulcrumref21_place.f k (ms.take i) (-m.f0)).bind fun t => if t ≥ 0 then some 200 else (fulcrumref21_supported.f k cs ms (i : Int)).bind fun t => if t = true then fulcrumref21_Check.l0 k cs ms ((i + 1 : Nat) : Int) else some 200) (fun k => ?_) (Ev.bind (place_all _ _ htl) ?_)
      · simp only [fulcrumref21_Check.l0]
        rw [if_pos (by omega), if_pos (by omega), ← hm, literal_all, hb, Option.bind_some, if_pos rfl, if_pos (by omega), Int.toNat_natCast, wrapS hwm hb, wrapI hlt (by omega)]
      · cases h1 : hasM (ms.take i) m.f0 with
        | true =>
          simp only [placeI_ge.2 h1, if_true]
          simpa using Ev.now (200 : Int)
        | false =>
          have hp : ¬ placeI (ms.take i) m.f0 ≥ 0 := fun q => by rw [placeI_ge, h1] at q; cases q
          simp only [hp, if_false]
          refine Ev.bind (place_all _ _ htl) ?_
          cases h2 : hasM (ms.take i) (-m.f0) with
          | true =>
            simp only [placeI_ge.2 h2, if_true]
            simpa using Ev.now (200 : Int)
          | false =>
            have hp : ¬ placeI (ms.take i) (-m.f0) ≥ 0 := fun q => by rw [placeI_ge, h2] at q; cases q
            simp only [hp, if_false]
            refine Ev.bind hsup ?_
            cases h3 : supB cs (ms.take i) m with
            | false => simpa using Ev.now (200 : Int)
            | true =>
              have hl2 : 0 ≤ lvlM (ms.take (i + 1)) ∧ lvlM (ms.take (i + 1)) ≤ ((i + 1 : Nat) : Int) := by
                rw [htk, lvlM_snoc]
                unfold supB at h3
                split at h3
                · have := beq_iff_eq.1 h3; omega
                · simp only [Bool.and_eq_true] at h3
                  have := beq_iff_eq.1 h3.2; omega
              have := ih (i + 1) (by omega) hl2
              simpa using this
theorem Check_all (cs : List (List Int)) (ms : List Mk) (hW : Wf cs ms) : Ev (fun k => fulcrumref21_Check.f k cs ms) (if validB cs [] ms = true then 0 else 200) := by
  have := Check_ev cs ms hW ms.length 0 (by omega) (by simp [lvlM])
  simpa [fulcrumref21_Check.f] using this
theorem same_ev (a : List Int) (hn : a.length ≤ 4611686018427387904) : ∀ d i : Nat, i + d = a.length → Ev (fun k => fulcrumlaw21_same.l0 k a a (i : Int)) true := by
  intro d
  induction d with
  | zero =>
    intro i h
    refine Ev.step (f := fun _ => some true) (fun k => ?_) (Ev.now _)
    simp only [fulcrumlaw21_same.l0]; rw [if_neg (by omega)]
  | succ d ih =>
    intro i h
    have hlt : i < a.length := by omega
    refine Ev.step (f := fun k => fulcrumlaw21_same.l0 k a a ((i + 1 : Nat) : Int)) (fun k => ?_) (ih (i + 1) (by omega))
    simp only [fulcrumlaw21_same.l0]; rw [if_pos (by omega), if_pos (by omega), if_pos (by omega), wrapI hlt hn]; simp
theorem same_all (a : List Int) (hn : a.length ≤ 4611686018427387904) : Ev (fun k => fulcrumlaw21_same.f k a a) true := by
  refine Ev.congr (f := fun k => fulcrumlaw21_same.l0 k a a 0) (fun k => by unfold fulcrumlaw21_same.f; rw [if_pos rfl]) ?_
  have := same_ev a hn a.length 0 (by omega)
  simpa using this
theorem set_at {α : Type} (l r : List α) (z x : α) : (l ++ z :: r).set l.length x = l ++ x :: r := by
  rw [List.set_append_right _ _ (Nat.le_refl _)]
  simp
theorem ints_ev (a : List Int) (hn : a.length ≤ 35184372088832) : ∀ d i : Nat, i + d = a.length → Ev (fun k => fulcrumlaw21_ints.l0 k a (a.take i ++ List.replicate d 0) (i : Int)) a := by
  intro d
  induction d with
  | zero =>
    intro i h
    refine Ev.step (f := fun _ => some a) (fun k => ?_) (Ev.now _)
    simp only [fulcrumlaw21_ints.l0]; rw [if_neg (by omega), List.take_of_length_le (by omega)]; simp
  | succ d ih =>
    intro i h
    have hlt : i < a.length := by omega
    have hi := ih (i + 1) (by omega)
    have hl : (a.take i).length = i := by rw [List.length_take]; omega
    have hs := set_at (a.take i) (List.replicate d (0 : Int)) 0 (rd a (i : Int))
    rw [hl] at hs
    refine Ev.step (f := fun k => fulcrumlaw21_ints.l0 k a (a.take (i + 1) ++ List.replicate d 0) ((i + 1 : Nat) : Int)) (fun k => ?_) hi
    simp only [fulcrumlaw21_ints.l0]
    rw [if_pos (by omega), if_pos (by omega), if_pos (by rw [List.length_append, hl, List.length_replicate]; omega), wrapI hlt (by omega), Int.toNat_natCast, List.replicate_succ, hs, take_rd hlt]
    simp
theorem ints_all (a : List Int) (hn : a.length ≤ 35184372088832) : Ev (fun k => fulcrumlaw21_ints.f k a) a := by
  refine Ev.congr (f := fun k => fulcrumlaw21_ints.l0 k a (List.replicate a.length 0) 0) (fun k => by unfold fulcrumlaw21_ints.f; rw [if_pos (by omega), if_pos (by omega)]; rfl) ?_
  have := ints_ev a hn a.length 0 (by omega)
  simpa using this
theorem rdl_drop {l : List (List Int)} {i : Nat} (h : i < l.length) : l.take (i + 1) = l.take i ++ [rd_L1 l (i : Int)] := by
  rw [List.take_add_one, List.getElem?_eq_getElem h]
  simp [rd_L1, List.getD_eq_getElem?_getD, List.getElem?_eq_getElem h]
theorem rdl_mem {l : List (List Int)} {i : Nat} (h : i < l.length) : rd_L1 l (i : Int) ∈ l := by
  simp [rd_L1, List.getD_eq_getElem?_getD, List.getElem?_eq_getElem h]
theorem twin_ev (a : List (List Int)) (hn : a.length ≤ 4194304) (hc : ∀ c ∈ a, c.length ≤ 4194304) : ∀ d i : Nat, i + d = a.length → Ev (fun k => fulcrumlaw21_twin.l0 k a (a.take i ++ List.replicate d []) (i : Int)) a := by
  intro d
  induction d with
  | zero =>
    intro i h
    refine Ev.step (f := fun _ => some a) (fun k => ?_) (Ev.now _)
    simp only [fulcrumlaw21_twin.l0]; rw [if_neg (by omega), List.take_of_length_le (by omega)]; simp
  | succ d ih =>
    intro i h
    have hlt : i < a.length := by omega
    have hi := ih (i + 1) (by omega)
    have hl : (a.take i).length = i := by rw [List.length_take]; omega
    have hs := set_at (a.take i) (List.replicate d ([] : List Int)) [] (rd_L1 a (i : Int))
    rw [hl] at hs
    have hcl := hc _ (rdl_mem hlt)
    have c1 : (i : Int) < ((a.take i ++ List.replicate (d + 1) ([] : List Int)).length : Int) := by rw [List.length_append, hl, List.length_replicate]; omega
    refine Ev.step (f := fun k => (fulcrumlaw21_ints.f k (rd_L1 a (i : Int))).bind fun t => fulcrumlaw21_twin.l0 k a ((a.take i ++ List.replicate (d + 1) []).set i t) ((i + 1 : Nat) : Int)) (fun k => ?_) (Ev.bind (ints_all _ (by omega)) ?_)
    · simp only [fulcrumlaw21_twin.l0]
      rw [if_pos (by omega), if_pos (by omega), wrapI hlt (by omega), Int.toNat_natCast]
      congr 1
      funext t
      rw [if_pos c1]
    · rw [List.replicate_succ, hs]
      rw [rdl_drop hlt] at hi
      simpa using hi
theorem twin_all (a : List (List Int)) (hn : a.length ≤ 4194304) (hc : ∀ c ∈ a, c.length ≤ 4194304) : Ev (fun k => fulcrumlaw21_twin.f k a) a := by
  refine Ev.congr (f := fun k => fulcrumlaw21_twin.l0 k a (List.replicate a.length []) 0) (fun k => by unfold fulcrumlaw21_twin.f; rw [if_pos (by omega), if_pos (by omega)]; rfl) ?_
  have := twin_ev a hn hc a.length 0 (by omega)
  simpa using this
theorem marks_ev (a : List Mk) (hn : a.length ≤ 4194304) : ∀ d i : Nat, i + d = a.length → Ev (fun k => fulcrumlaw21_marks.l0 k a (a.take i ++ List.replicate d z49) (i : Int)) a := by
  intro d
  induction d with
  | zero =>
    intro i h
    refine Ev.step (f := fun _ => some a) (fun k => ?_) (Ev.now _)
    simp only [fulcrumlaw21_marks.l0]; rw [if_neg (by omega), List.take_of_length_le (by omega)]; simp
  | succ d ih =>
    intro i h
    have hlt : i < a.length := by omega
    have hi := ih (i + 1) (by omega)
    have hl : (a.take i).length = i := by rw [List.length_take]; omega
    have hs := set_at (a.take i) (List.replicate d z49) z49 (rd_T49 a (i : Int))
    rw [hl] at hs
    refine Ev.step (f := fun k => fulcrumlaw21_marks.l0 k a (a.take (i + 1) ++ List.replicate d z49) ((i + 1 : Nat) : Int)) (fun k => ?_) hi
    simp only [fulcrumlaw21_marks.l0]
    rw [if_pos (by omega), if_pos (by omega), if_pos (by rw [List.length_append, hl, List.length_replicate]; omega), wrapI hlt (by omega), Int.toNat_natCast, List.replicate_succ]
    rw [show (⟨(rd_T49 a (i : Int)).f0, (rd_T49 a (i : Int)).f1, (rd_T49 a (i : Int)).f2⟩ : S49) = rd_T49 a (i : Int) from rfl, hs, take_mk hlt]
    simp
theorem marks_all (a : List Mk) (hn : a.length ≤ 4194304) : Ev (fun k => fulcrumlaw21_marks.f k a) a := by
  refine Ev.congr (f := fun k => fulcrumlaw21_marks.l0 k a (List.replicate a.length z49) 0) (fun k => by unfold fulcrumlaw21_marks.f; rw [if_pos (by omega), if_pos (by omega)]; rfl) ?_
  have := marks_ev a hn a.length 0 (by omega)
  simpa using this
theorem lives_first : analyse_First.f [[-1, 2], [-1, 3], [-2, -3]] [⟨1, 1, -1⟩, ⟨2, 1, 0⟩, ⟨3, 1, 1⟩] 2 = some ([-1], 0, [2, 1, 0], 0) := by rfl
theorem lives_all : Ev (fun k => fulcrumlaw21_lives.f k) true := by
  unfold fulcrumlaw21_lives.f
  rw [lives_first]
  simp only [Option.bind_some, if_true]
  exact Ev.bind (same_all [-1] (by decide)) (by simp only [if_true]; exact Ev.bind (same_all [2, 1, 0] (by decide)) (Ev.now _))
theorem wfB_of {cs : List (List Int)} {ms : List Mk} (h : Wf cs ms) : wfB cs ms = true := by
  unfold wfB litsW
  simp only [Bool.and_eq_true, List.all_eq_true, decide_eq_true_eq]
  exact ⟨⟨⟨fun c hc => ⟨fun x hx => h.c c hc x hx, h.lcl c hc⟩, h.m⟩, h.lm⟩, h.lc⟩
theorem sum_const {α : Type} (l : List α) (n : Nat) : (l.map fun _ => n).sum = l.length * n := by
  induction l with
  | nil => simp
  | cons x r ih => rw [List.map_cons, List.sum_cons, ih, List.length_cons, Nat.succ_mul]; omega
end Go.Proofs.Ytboalbiicmcljaa.PAN
