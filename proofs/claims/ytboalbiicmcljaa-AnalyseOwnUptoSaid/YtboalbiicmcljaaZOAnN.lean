import Derived.Test.YtboalbiicmcljaaZOAnB
import Derived.Test.YtboalbiicmcljaaZOAnL
import Derived.Test.YtboalbiicmcljaaZOPANx31
import Derived.Test.YtboalbiicmcljaaZOPANx32
import Derived.Test.YtboalbiicmcljaaZOPANx33
namespace Go.Proofs.Ytboalbiicmcljaa.PAN
open Go.RowKit Go.Proofs.YtboalbiicmcljaaW.PrintWords Go.Proofs.YtboalbiicmcljaaW.PrintLast Go.Proofs.YtboalbiicmcljaaW.PrintMore Go.Proofs.YtboalbiicmcljaaH
set_option linter.unusedVariables false
set_option linter.unusedSimpArgs false
def lvB (ms : List Mk) (c : List Int) (i : Nat) : Bool := !decide (lev ms (rd c (i : Int)) = 0) && (decide (i = 0) || !decide (lev ms (rd c (i : Int)) ≥ lev ms (rd c 0)))
theorem setlen : ∀ (l s : List Int), (l.foldl insK s).length = s.length + l.length → l.Nodup ∧ ∀ x ∈ l, x ∉ s
  | [], s, _ => ⟨List.nodup_nil, by simp⟩
  | x :: r, s, h => by
    rw [List.foldl_cons] at h
    by_cases hx : x ∈ s
    · have h2 := foldl_insK_len r s
      rw [show insK s x = s by unfold insK; rw [if_pos hx]] at h
      rw [List.length_cons] at h
      omega
    · rw [show insK s x = s ++ [x] by unfold insK; rw [if_neg hx]] at h
      have h2 := setlen r (s ++ [x]) (by rw [h, List.length_append, List.length_cons, List.length_singleton]; omega)
      refine ⟨List.nodup_cons.2 ⟨fun q => h2.2 x q (by simp), h2.1⟩, fun y hy => ?_⟩
      rcases List.mem_cons.1 hy with q | q
      · rw [q]; exact hx
      · exact fun e => h2.2 y q (by simp [e])
theorem setL_len_iff {c : List Int} : (setL c).length = c.length ↔ c.Nodup :=
  ⟨fun h => (setlen c [] (by simpa [setL] using h)).1, fun h => by rw [setL_nodup h]⟩
theorem right_split (ms : List Mk) (c : List Int) : rightB ms c = (!c.isEmpty && ((c.all fun x => isFalseB ms x) && (decide c.Nodup && (List.range c.length).all (lvB ms c)))) := by
  rw [Bool.eq_iff_iff]
  constructor
  · intro h
    unfold rightB at h
    rw [Bool.and_eq_true] at h
    have hk : ∀ j < c.length, okL ms c j = true := fun j hj => List.all_eq_true.1 h.2 j (List.mem_range.2 hj)
    have hp := okL_pre (Nat.le_refl _) hk
    rw [List.take_length] at hp
    simp only [Bool.and_eq_true]
    refine ⟨h.1, List.all_eq_true.2 hp.2, decide_eq_true hp.1, List.all_eq_true.2 (fun j hj => ?_)⟩
    have := hk j (List.mem_range.1 hj)
    unfold okL at this
    rw [Bool.and_eq_true, Bool.and_eq_true] at this
    exact this.2.2
  · intro h
    simp only [Bool.and_eq_true] at h
    obtain ⟨h1, h2, h3, h4⟩ := h
    have hn := of_decide_eq_true h3
    unfold rightB
    rw [Bool.and_eq_true]
    refine ⟨h1, List.all_eq_true.2 (fun j hj => ?_)⟩
    have hj := List.mem_range.1 hj
    unfold okL
    rw [Bool.and_eq_true, Bool.and_eq_true]
    refine ⟨?_, List.all_eq_true.1 h2 _ (rdm hj), List.all_eq_true.1 h4 j (List.mem_range.2 hj)⟩
    have htk : (c.take (j + 1)).Nodup := hn.sublist (List.take_sublist _ _)
    rw [take_rd hj, List.nodup_append] at htk
    simp only [Bool.not_eq_true', decide_eq_false_iff_not]
    exact fun q => htk.2.2 _ q _ (by simp) rfl
theorem rightL_ev {ms : List Mk} (hlm : ms.length ≤ 4194304) {c : List Int} (hs : FS ms c) : ∀ d i : Nat, i + d = c.length → (∀ j < i, lvB ms c j = true) → Ev (fun k => fulcrumref21_right.l0 k ms c (i : Int)) ((List.range c.length).all (lvB ms c)) := by
  have hcl := hs.len
  intro d
  induction d with
  | zero =>
    intro i h hp
    have : (List.range c.length).all (lvB ms c) = true := List.all_eq_true.2 (fun j hj => hp j (by have := List.mem_range.1 hj; omega))
    rw [this]
    refine Ev.step (f := fun _ => some true) (fun k => ?_) (Ev.now _)
    simp only [fulcrumref21_right.l0]; rw [if_neg (by omega)]
  | succ d ih =>
    intro i h hp
    have hlt : i < c.length := by omega
    have hxm := rdm hlt
    have h0m : rd c ((0 : Nat) : Int) ∈ c := rdm (by omega)
    have hlx := level_all hlm (hs.f _ hxm) (hs.w _ hxm)
    have hl0 := level_all hlm (hs.f _ h0m) (hs.w _ h0m)
    have no : lvB ms c i = false → (List.range c.length).all (lvB ms c) = false := fun q => by
      cases hb : (List.range c.length).all (lvB ms c) with
      | false => rfl
      | true => have := List.all_eq_true.1 hb i (List.mem_range.2 hlt); rw [q] at this; cases this
    have go : lvB ms c i = true → Ev (fun k => fulcrumref21_right.l0 k ms c ((i + 1 : Nat) : Int)) ((List.range c.length).all (lvB ms c)) := fun q => ih (i + 1) (by omega) (fun j hj => by
      rcases Nat.lt_succ_iff_lt_or_eq.1 hj with r | r
      · exact hp j r
      · rw [r]; exact q)
    have hlv : lvB ms c i = (!decide (lev ms (rd c (i : Int)) = 0) && (decide (i = 0) || !decide (lev ms (rd c (i : Int)) ≥ lev ms (rd c 0)))) := rfl
    refine Ev.step (f := fun k => (fulcrumref21_level.f k ms (rd c (i : Int))).bind fun t => if t = 0 then some false else if (i : Int) > 0 then (fulcrumref21_level.f k ms (rd c (i : Int))).bind fun u => (fulcrumref21_level.f k ms (rd c 0)).bind fun z => if u ≥ z then some false else fulcrumref21_right.l0 k ms c ((i + 1 : Nat) : Int) else fulcrumref21_right.l0 k ms c ((i + 1 : Nat) : Int)) (fun k => ?_) (Ev.bind hlx ?_)
    · have c1 : (0 : Int) < (c.length : Int) := by omega
      simp only [fulcrumref21_right.l0]; rw [if_pos (by omega), if_pos (by omega), wrapI hlt (by omega)]
      simp only [if_pos c1]
    · by_cases hz : lev ms (rd c (i : Int)) = 0
      · rw [no (by rw [hlv, decide_eq_true hz]; rfl)]
        simp only [hz, if_true]
        exact Ev.now _
      · simp only [hz, if_false]
        by_cases hi : (i : Int) > 0
        · simp only [hi, if_true]
          refine Ev.bind hlx (Ev.bind hl0 ?_)
          have hi0 : ¬ i = 0 := by omega
          by_cases hg : lev ms (rd c (i : Int)) ≥ lev ms (rd c ((0 : Nat) : Int))
          · simp only [hg, if_true]
            rw [no (by rw [hlv, decide_eq_false hz, decide_eq_false hi0, decide_eq_true (show lev ms (rd c (i : Int)) ≥ lev ms (rd c 0) from hg)]; rfl)]
            exact Ev.now _
          · simp only [hg, if_false]
            exact go (by rw [hlv, decide_eq_false hz, decide_eq_false (show ¬ lev ms (rd c (i : Int)) ≥ lev ms (rd c 0) from hg)]; simp)
        · simp only [hi, if_false]
          exact go (by rw [hlv, decide_eq_false hz, decide_eq_true (show i = 0 by omega)]; rfl)
theorem right_all {ms : List Mk} (hlm : ms.length ≤ 4194304) {c : List Int} (hcw : ∀ x ∈ c, w64 x) (hcl : c.length ≤ 4194304) : Ev (fun k => fulcrumref21_right.f k ms c) (rightB ms c) := by
  have hno : Ev (fun k => fulcrumref21_right.j0 k ms c true) false := Ev.step (f := fun _ => some false) (fun k => by simp [fulcrumref21_right.j0]) (Ev.now _)
  rw [right_split]
  by_cases h0 : c = []
  · refine Ev.congr (f := fun k => fulcrumref21_right.j0 k ms c true) (fun k => by unfold fulcrumref21_right.f; rw [if_pos (by rw [h0]; rfl)]) ?_
    rw [h0] at hno ⊢
    simpa using hno
  · have hl : ¬ ((c.length : Nat) : Int) = 0 := by cases c <;> simp_all; omega
    have he : c.isEmpty = false := by cases c <;> simp_all
    rw [he]
    refine Ev.congr (f := fun k => (fulcrumref21_falses.f k ms c).bind fun t => if t = true then (fulcrumref21_set.f k c).bind fun u => fulcrumref21_right.j0 k ms c ((u.length : Int) != (c.length : Int)) else fulcrumref21_right.j0 k ms c true) (fun k => by unfold fulcrumref21_right.f; rw [if_neg hl]) (Ev.bind (falses_all ms c (by omega) (by omega) hcw) ?_)
    cases hf : c.all fun x => isFalseB ms x with
    | false => simpa using hno
    | true =>
      simp only [if_true, Bool.not_false, Bool.true_and]
      refine Ev.bind (set_all c (by omega)) ?_
      by_cases hn : c.Nodup
      · have e : (((setL c).length : Int) != (c.length : Int)) = false := by rw [setL_nodup hn]; simp
        rw [e, decide_eq_true hn, Bool.true_and]
        have hs : FS ms c := ⟨fun x hx => List.all_eq_true.1 hf x hx, hcw, hn⟩
        refine Ev.step (f := fun k => fulcrumref21_right.l0 k ms c ((0 : Nat) : Int)) (fun k => ?_) (rightL_ev hlm hs c.length 0 (by omega) (fun j hj => by omega))
        simp only [fulcrumref21_right.j0]; rw [if_neg (by simp)]; rfl
      · have e : (((setL c).length : Int) != (c.length : Int)) = true := by
          have := fun q => hn (setL_len_iff.1 q)
          simp only [bne_iff_ne, ne_eq]
          intro q
          exact this (by omega)
        rw [e, decide_eq_false hn, Bool.false_and]
        exact hno
theorem needL_ev {cs : List (List Int)} {ms : List Mk} (hlm : ms.length ≤ 4194304) {s : List Int} (hs : s.length ≤ 4194304) (x r : Int) (hx : wrap64 (-x) = -x) (h0 : 0 ≤ r) (h1 : r < cs.length) (hc : (rdC cs r).length ≤ 4194304) (hf : ∀ y ∈ rdC cs r, y ≠ -x → isFalseB ms y = true) (hw : ∀ y ∈ rdC cs r, w64 y) : ∀ d i : Nat, i + d = (rdC cs r).length →
    Ev (fun k => fulcrumref21_needless.l0 k cs ms s x r (i : Int)) (((rdC cs r).drop i).all fun y => y == -x || (decide (y ∈ s) || !decide (lev ms y > 0))) := by
  intro d
  induction d with
  | zero =>
    intro i h
    rw [List.drop_eq_nil_of_le (by omega)]
    refine Ev.step (f := fun _ => some true) (fun k => ?_) (Ev.now _)
    simp only [fulcrumref21_needless.l0]; rw [if_pos h0, if_pos h1, if_neg (by rw [rdL_C]; omega)]
  | succ d ih =>
    intro i h
    have hlt : i < (rdC cs r).length := by omega
    have hi := ih (i + 1) (by omega)
    rw [rdi_drop hlt]
    have hyf := hf _ (rdm hlt)
    have hyw := hw _ (rdm hlt)
    obtain ⟨c, hce⟩ : ∃ c, c = rdC cs r := ⟨_, rfl⟩
    rw [← hce] at hc h hlt hi hyf hyw ⊢
    obtain ⟨y, hy⟩ : ∃ y, y = rd c (i : Int) := ⟨_, rfl⟩
    rw [← hy] at hyf hyw ⊢
    by_cases he : y = -x
    · refine Ev.step (f := fun k => fulcrumref21_needless.l0 k cs ms s x r ((i + 1 : Nat) : Int)) (fun k => ?_) (by simpa [he] using hi)
      simp only [fulcrumref21_needless.l0]; rw [if_pos h0, if_pos h1, rdL_C, ← hce, if_pos (by omega), if_pos (by omega), hx, ← hy, if_pos he, wrapI hlt (by omega)]
    · have he' : (y == -x) = false := by simpa using he
      refine Ev.step (f := fun k => (fulcrumref21_has.f k s y).bind fun t => if t = true then fulcrumref21_needless.l0 k cs ms s x r ((i + 1 : Nat) : Int) else (fulcrumref21_level.f k ms y).bind fun u => if u > 0 then some false else fulcrumref21_needless.l0 k cs ms s x r ((i + 1 : Nat) : Int)) (fun k => ?_) (Ev.bind (has_all s y (by omega)) ?_)
      · simp only [fulcrumref21_needless.l0]; rw [if_pos h0, if_pos h1, rdL_C, ← hce, if_pos (by omega), if_pos (by omega), hx, ← hy, if_neg he, wrapI hlt (by omega)]
      · rw [List.all_cons, he', Bool.false_or]
        by_cases hm : y ∈ s
        · simp only [hm, decide_true, if_true, Bool.true_or, Bool.true_and]
          exact hi
        · simp only [hm, decide_false, Bool.false_eq_true, if_false, Bool.false_or]
          refine Ev.bind (level_all hlm (hyf he) hyw) ?_
          by_cases hg : lev ms y > 0
          · simp only [hg, if_true, decide_true, Bool.not_true, Bool.false_and]
            exact Ev.now _
          · simp only [hg, if_false, decide_false, Bool.not_false, Bool.true_and]
            exact hi
theorem needless_all {cs : List (List Int)} {ms : List Mk} (hW : Wf cs ms) (hv : VT cs ms) {s : List Int} (hs : FS ms s) {x : Int} (hxf : isFalseB ms x = true) (hxw : w64 x) : Ev (fun k => fulcrumref21_needless.f k cs ms s x) (needB cs ms s x) := by
  have hlm := hW.lm
  have hsl := hs.len
  have hp := pk_lt hxf
  have hwr := wrapS hxw (fx hxf).1
  have c1 : (0 : Int) ≤ (pk ms x : Int) := by omega
  have c2 : (pk ms x : Int) < (ms.length : Int) := by omega
  refine Ev.congr (f := fun k => (fulcrumref21_place.f k ms (wrap64 (-x))).bind fun t => if 0 ≤ t then if t < (ms.length : Int) then if (rd_T49 ms t).f2 < 0 then some false else fulcrumref21_needless.l0 k cs ms s x (rd_T49 ms t).f2 0 else none else none) (fun k => rfl) (Ev.bind (place_pk hlm hxf hxw) ?_)
  simp only [if_pos c1, if_pos c2]
  have hr : (rd_T49 ms (pk ms x : Int)).f2 = rsn ms x := rfl
  rw [hr]
  unfold needB
  by_cases h0 : rsn ms x < 0
  · simp only [h0, if_true]
    rw [decide_eq_false (by omega), Bool.false_and]
    exact Ev.now _
  · simp only [h0, if_false]
    rw [decide_eq_true (by omega), Bool.true_and]
    obtain ⟨q0, q1, q2⟩ := hv.new hxf (by omega)
    have := needL_ev (cs := cs) hlm (s := s) (by omega) x (rsn ms x) hwr q0 q1 (hW.lcl _ (rdC_mem q0 q1)) (fun y hy hne => (q2 y (by unfold newL; exact List.mem_filter.2 ⟨hy, by simpa using hne⟩)).1) (fun y hy => hW.c _ (rdC_mem q0 q1) y hy) (rdC cs (rsn ms x)).length 0 (by omega)
    simpa using this
theorem pos_of_ne {c : List Int} (h : (!c.isEmpty) = true) : (0 : Int) < (c.length : Int) := by
  cases c with
  | nil => simp at h
  | cons a r => rw [List.length_cons]; omega
theorem lessF_filter (cs : List (List Int)) (ms : List Mk) (f : Int) : ∀ (l : List Int) (p : List Int × List Int), lessF cs ms f l p = lessF cs ms f (l.filter fun x => x ≠ f) p
  | [], p => rfl
  | x :: r, p => by
    by_cases hx : x = f
    · rw [lessF, if_neg (fun q => q.1 hx), List.filter_cons_of_neg (by simpa using hx)]
      exact lessF_filter cs ms f r p
    · rw [lessF, List.filter_cons_of_pos (by simpa using hx), lessF]
      exact lessF_filter cs ms f r _
theorem lessDoc {cs : List (List Int)} {ms : List Mk} (hW : Wf cs ms) (hv : VT cs ms) (hm : ms.length ≤ 524288) (f : Int) (chn : List Int) (hch : chn.length ≤ 4194304) (L : List Int) (hL : L.length ≤ ms.length) (hLf : ∀ x ∈ L, x ≠ f ∧ isFalseB ms x = true ∧ w64 x) : ∀ d i : Nat, i + d = L.length → ∀ s ch : List Int, FS ms s → ch.length ≤ i * (ms.length + 1) →
    Ev (fun k => fulcrumref21_Less.l1 k cs ms f s (chn ++ ch) L (i : Int)) (toldP ms f (lessF cs ms f (L.drop i) (s, ch)).1 (chn ++ (lessF cs ms f (L.drop i) (s, ch)).2)) := by
  have hlm := hW.lm
  intro d
  induction d with
  | zero =>
    intro i h s ch hs hc
    rw [List.drop_eq_nil_of_le (by omega)]
    refine Ev.step (f := fun k => (fulcrumref21_learnt.f k ms f s (chn ++ ch)).bind fun z => some (z.1, z.2.1, z.2.2, 0)) (fun k => ?_) (Ev.bind (learnt_all hlm hs f (chn ++ ch)) (Ev.now _))
    simp only [fulcrumref21_Less.l1]; rw [if_neg (by omega)]
  | succ d ih =>
    intro i h s ch hs hc
    have hlt : i < L.length := by omega
    obtain ⟨hx1, hx2, hx3⟩ := hLf _ (rdm hlt)
    rw [rdi_drop hlt, lessF]
    obtain ⟨x, hx⟩ : ∃ x, x = rd L (i : Int) := ⟨_, rfl⟩
    rw [← hx] at hx1 hx2 hx3 ⊢
    have hcb : ch.length ≤ 274878431232 := by
      have h1 : i * (ms.length + 1) ≤ 524288 * 524289 := Nat.mul_le_mul (by omega) (by omega)
      omega
    have c1 : (chn ++ ch).length < 17592186044416 := by rw [List.length_append]; omega
    refine Ev.step (f := fun k => (fulcrumref21_needless.f k cs ms s x).bind fun t => if t = true then (fulcrumref21_resolved.f k cs ms s x).bind fun u => if (chn ++ ch).length < 17592186044416 then (fulcrumref21_cleaned.f k cs ms u.1 (chn ++ ch ++ [u.2])).bind fun z => fulcrumref21_Less.l1 k cs ms f z.1 z.2 L ((i + 1 : Nat) : Int) else none else fulcrumref21_Less.l1 k cs ms f s (chn ++ ch) L ((i + 1 : Nat) : Int)) (fun k => ?_) (Ev.bind (needless_all hW hv hs hx2 hx3) ?_)
    · simp only [fulcrumref21_Less.l1]; rw [if_pos (by omega), if_pos (by omega), ← hx, wrapI hlt (by omega)]
    · cases hn : needB cs ms s x with
      | false =>
        simp only [Bool.false_eq_true, if_false, and_false]
        exact ih (i + 1) (by omega) s ch hs (Nat.le_trans hc (Nat.mul_le_mul_right _ (Nat.le_succ _)))
      | true =>
        have hr := need_rsn hn
        have hst := lessStep (ch := ch) hv hs.f hs.n hx2 hn
        have hsr := hs.resF hW hv hx2 hr
        have hcl := cleaned_all hW hv (resL cs ms s x) (chn ++ ch ++ [rsn ms x]) hsr (by rw [List.length_append, List.length_append, List.length_singleton]; omega)
        rw [List.append_assoc, cleanL_pre, ← List.append_assoc] at hcl
        simp only [if_true, c1, hx1, ne_eq, not_false_eq_true, and_self]
        refine Ev.bind (resolved_allF hW hv hs hx2 hx3 hr) (Ev.bind hcl ?_)
        refine ih (i + 1) (by omega) _ _ (cleanL_FS hW hv ms.length _ _ hsr) ?_
        have h3 := hst.2.2
        rw [Nat.succ_mul]
        omega
theorem lessCopy {cs : List (List Int)} {ms : List Mk} {f b : Int} {c chn : List Int} (hch : chn.length ≤ 4194304) {s : List Int} {R : List Int × Int × List Int × Int} (hfin : Ev (fun k => (fulcrumref21_without.f k s f).bind fun t => (fulcrumref21_falling.f k ms t).bind fun u => fulcrumref21_Less.l1 k cs ms f s chn u 0) R) : ∀ d i : Nat, i + d = chn.length → Ev (fun k => fulcrumref21_Less.l0 k cs ms f s (chn.take i) (i : Int) c b chn) R := by
  intro d
  induction d with
  | zero =>
    intro i h
    rw [List.take_of_length_le (by omega)]
    refine Ev.step (f := fun k => (fulcrumref21_without.f k s f).bind fun t => (fulcrumref21_falling.f k ms t).bind fun u => fulcrumref21_Less.l1 k cs ms f s chn u 0) (fun k => ?_) hfin
    simp only [fulcrumref21_Less.l0]; rw [if_neg (by omega)]
  | succ d ih =>
    intro i h
    have hlt : i < chn.length := by omega
    have hi := ih (i + 1) (by omega)
    rw [take_rd hlt] at hi
    refine Ev.step (f := fun k => fulcrumref21_Less.l0 k cs ms f s (chn.take i ++ [rd chn (i : Int)]) ((i + 1 : Nat) : Int) c b chn) (fun k => ?_) hi
    simp only [fulcrumref21_Less.l0]; rw [if_pos (by omega), if_pos (by omega), if_pos (by rw [List.length_take]; omega), wrapI hlt (by omega)]
theorem Less_all {cs : List (List Int)} {ms : List Mk} (hW : Wf cs ms) (hm : ms.length ≤ 524288) (c : List Int) (b : Int) (chn : List Int) (hcw : ∀ x ∈ c, w64 x) (hcl : c.length ≤ 4194304) (hch : chn.length ≤ 4194304) : Ev (fun k => fulcrumref21_Less.f k cs ms c b chn) (lessP cs ms c chn) := by
  have hlm := hW.lm
  refine Ev.congr (fun k => rfl) (Ev.bind (Check_all cs ms hW) ?_)
  unfold lessP
  cases hb : validB cs [] ms with
  | false => simpa using Ev.now (([] : List Int), (0 : Int), ([] : List Int), (200 : Int))
  | true =>
    have hv := VT.of hb
    simp only [if_true]
    refine Ev.bind (right_all hlm hcw hcl) ?_
    cases hr : rightB ms c with
    | false => simpa using Ev.now (([] : List Int), (0 : Int), ([] : List Int), (210 : Int))
    | true =>
      have hsp := right_split ms c
      rw [hr] at hsp
      have hsp := hsp.symm
      simp only [Bool.and_eq_true, decide_eq_true_eq] at hsp
      obtain ⟨h1, h2, h3, _⟩ := hsp
      have hs : FS ms c := ⟨fun x hx => List.all_eq_true.1 h2 x hx, hcw, h3⟩
      have c1 : (0 : Int) < (c.length : Int) := pos_of_ne h1
      simp only [if_true, c1]
      refine Ev.bind (set_all c (by omega)) ?_
      rw [setL_nodup h3]
      obtain ⟨f, hf⟩ : ∃ f, f = rd c 0 := ⟨_, rfl⟩
      rw [← hf]
      have key := lessCopy (cs := cs) (ms := ms) (f := f) (b := b) (c := c) hch (s := c) (R := toldP ms f (lessF cs ms f (fallL ms c) (c, [])).1 (chn ++ (lessF cs ms f (fallL ms c) (c, [])).2)) (by
        refine Ev.bind (without_all c f (by omega)) (Ev.bind (falling_all hlm (hs.del f)) ?_)
        rw [restL_del hs f]
        have hL : ∀ x ∈ restL ms c f, x ≠ f ∧ isFalseB ms x = true ∧ w64 x := fun x hx => by
          unfold restL at hx
          rw [List.mem_filter] at hx
          have := (fallL_perm ms c).mem_iff.1 hx.1
          exact ⟨by simpa using hx.2, hs.f x this, hs.w x this⟩
        have hLl : (restL ms c f).length ≤ ms.length := by
          have h4 : (restL ms c f).length ≤ (fallL ms c).length := List.length_filter_le _ _
          rw [(fallL_perm ms c).length_eq] at h4
          have := hs.len
          omega
        have := lessDoc hW hv hm f chn hch (restL ms c f) hLl hL (restL ms c f).length 0 (by omega) c [] hs (by simp)
        rw [List.drop_zero, List.append_nil] at this
        rw [lessF_filter cs ms f (fallL ms c)]
        exact this) chn.length 0 (by omega)
      simpa using key
end Go.Proofs.Ytboalbiicmcljaa.PAN
