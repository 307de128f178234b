import Derived.Test.YtboalbiicmcljaaZTAnDe
import Derived.Test.YtboalbiicmcljaaZTAnGl
import Derived.Test.YtboalbiicmcljaaZTAnR
import Derived.Test.YtboalbiicmcljaaZTPANx12
import Derived.Test.YtboalbiicmcljaaZTPANx36
import Derived.Test.YtboalbiicmcljaaZTPANx37
import Derived.Test.YtboalbiicmcljaaZTPANx39
import Derived.Test.YtboalbiicmcljaaZTPANx40
namespace Go.Proofs.Ytboalbiicmcljaa.PAN
open Go.RowKit Go.Proofs.YtboalbiicmcljaaW.PrintWords Go.Proofs.YtboalbiicmcljaaW.PrintLast Go.Proofs.YtboalbiicmcljaaW.PrintMore Go.Proofs.YtboalbiicmcljaaH
set_option linter.unusedVariables false
set_option linter.unusedSimpArgs false
section
variable {cs : List (List Int)} {ms : List Mk}
theorem not_both (hv : VT cs ms) {x : Int} (hx : litB x = true) (h1 : hasM ms x = true) (h2 : hasM ms (-x) = true) : False := by
  have key : ∀ y : Int, hasM ms y = true → hasM ms (-y) = true → placeN ms y < placeN ms (-y) → False := fun y g1 g2 hlt => by
    have hp := placeN_lt.2 g2
    obtain ⟨m, e1, e2⟩ := placeN_get g2
    have ho := (okAt_iff.1 (hv _ m e1)).new.2
    rw [e2, Int.neg_neg] at ho
    obtain ⟨m', e3, e4⟩ := placeN_get g1
    have : hasM (ms.take (placeN ms (-y))) y = true := by
      unfold hasM
      rw [List.any_eq_true]
      refine ⟨m', List.mem_of_getElem? (i := placeN ms y) ?_, by rw [e4]; simp⟩
      rw [List.getElem?_take_of_lt hlt]; exact e3
    rw [this] at ho
    cases ho
  have hne : placeN ms x ≠ placeN ms (-x) := fun e => by
    obtain ⟨m, e1, e2⟩ := placeN_get h1
    obtain ⟨m', e3, e4⟩ := placeN_get h2
    rw [e, e3] at e1
    injection e1 with e1
    rw [← e1, e4] at e2
    have := (litB_iff.1 hx).1
    omega
  rcases Nat.lt_or_gt_of_ne hne with h | h
  · exact key x h1 h2 h
  · exact key (-x) h2 (by rw [Int.neg_neg]; exact h1) (by rw [Int.neg_neg]; exact h)
theorem fx2 {x : Int} (h : isFalseB ms x = true) : litB x = true ∧ hasM ms (-x) = true := by unfold isFalseB at h; simpa using h
theorem rsn_clause (hv : VT cs ms) {x : Int} (hx : isFalseB ms x = true) (hr : rsn ms x ≠ -1) : -x ∈ rdC cs (rsn ms x) ∧ ∀ y ∈ rdC cs (rsn ms x), litB y = true ∧ (y ≠ -x → isFalseB ms y = true) := by
  obtain ⟨h1, h2⟩ := mkOf_get hx
  have ho := okAt_iff.1 (hv _ _ h1)
  rcases ho.how with ⟨q, _⟩ | ⟨_, q1, q2, q3, _⟩
  · exact absurd q hr
  · unfold forcesB at q3
    rw [Bool.and_eq_true] at q3
    rw [h2] at q3
    refine ⟨List.contains_iff_mem.1 q3.1, fun y hy => ?_⟩
    have h3 := List.all_eq_true.1 q3.2 y hy
    by_cases he : y = -x
    · have hlx := ho.lit
      rw [h2] at hlx
      exact ⟨he ▸ hlx, fun q => absurd he q⟩
    · have hb : (y == -x) = false := by simpa using he
      rw [hb, Bool.false_or] at h3
      unfold isFalseB at h3
      rw [Bool.and_eq_true] at h3
      exact ⟨h3.1, fun _ => by unfold isFalseB; rw [h3.1, (placeN_take h3.2).1]; rfl⟩
theorem rep_filter (hv : VT cs ms) {s : List Int} (hs : SI ms s) {x : Int} (hx : x ∈ s) (hr : rsn ms x ≠ -1) : s.filter (fun y => decide (-y ∈ rdC cs (rsn ms x))) = [x] := by
  obtain ⟨h1, h2⟩ := rsn_clause hv (hs.f x hx) hr
  have hmem : ∀ y, y ∈ s.filter (fun y => decide (-y ∈ rdC cs (rsn ms x))) ↔ y ∈ [x] := fun y => by
    rw [List.mem_filter, List.mem_singleton, decide_eq_true_iff]
    constructor
    · rintro ⟨q1, q2⟩
      refine Classical.byContradiction fun hne => ?_
      have h3 := (h2 _ q2).2 (fun q => hne (by omega))
      have h4 := fx2 h3
      rw [Int.neg_neg] at h4
      have h5 := fx2 (hs.f y q1)
      exact not_both hv h5.1 h4.2 h5.2
    · rintro rfl; exact ⟨hx, h1⟩
  have hp := perm_of_mem (hs.n.filter _) (by simp) hmem
  exact List.perm_singleton.1 hp
theorem rep_step (hv : VT cs ms) (hW : Wf cs ms) {s : List Int} (hs : SI ms s) {x : Int} (hx : x ∈ s) (hr : rsn ms x ≠ -1) : repOkB cs false s (rsn ms x) = true ∧ repS (rdC cs (rsn ms x)) s = resL cs ms s x := by
  have hf := rep_filter hv hs hx hr
  have h1 := hv.new (hs.f x hx) hr
  have hl := len_of_falses hs.n hs.f
  have hlm := hW.lm
  constructor
  · unfold repOkB
    rw [hf, decide_eq_true (show 0 ≤ rsn ms x ∧ rsn ms x < (cs.length : Int) from ⟨h1.1, h1.2.1⟩), decide_eq_true (show s.length ≤ 1099511627776 by omega), List.all_eq_true.2 (fun y hy => ((rsn_clause hv (hs.f x hx) hr).2 y hy).1)]
    rfl
  · unfold repS
    have : repB (rdC cs (rsn ms x)) s = x := by unfold repB; rw [hf]; rfl
    rw [this]
    rfl
theorem repL_append (cs : List (List Int)) : ∀ (l r s : List Int), repL cs false s (l ++ r) = (repL cs false s l).bind fun t => repL cs false t r
  | [], r, s => by simp [repL]
  | n :: l, r, s => by
    rw [List.cons_append, repL, repL]
    split
    · exact repL_append cs l r _
    · rfl
theorem repL_der (hv : VT cs ms) (hW : Wf cs ms) {s0 rs s : List Int} (h0 : SI ms s0) (h : Der cs ms s0 rs s) : repL cs false s0 rs = some s := by
  induction h with
  | nil => rfl
  | step h hx hr ih =>
    obtain ⟨h1, h2⟩ := rep_step hv hW (h.inv hv hW h0) hx hr
    rw [repL_append, ih, Option.bind_some, repL, if_pos h1, h2]
    rfl
theorem repL_first (hv : VT cs ms) (hW : Wf cs ms) {conf : Int} (h0 : 0 ≤ conf) (h1 : conf < cs.length) (hf : ((rdC cs conf).all fun x => isFalseB ms x) = true) {rs s : List Int} (h : Der cs ms (setL (rdC cs conf)) rs s) : repL cs true [] (conf :: rs) = some s := by
  have hl : ∀ y ∈ rdC cs conf, litB y = true := fun y hy => (fx2 (List.all_eq_true.1 hf y hy)).1
  have hok : repOkB cs true [] conf = true := by
    unfold repOkB
    rw [decide_eq_true (show 0 ≤ conf ∧ conf < (cs.length : Int) from ⟨h0, h1⟩), List.all_eq_true.2 hl]
    rfl
  have hS : repS (rdC cs conf) [] = setL (rdC cs conf) := by
    unfold repS setL
    have e : (rdC cs conf).filter (fun y => y ≠ -(repB (rdC cs conf) [])) = rdC cs conf := List.filter_eq_self.2 (fun y hy => by
      have : y ≠ -(0 : Int) := (litB_iff.1 (hl y hy)).1
      simpa [repB] using this)
    rw [e]
    rfl
  rw [repL, if_pos hok, hS]
  exact repL_der hv hW (setL_SI hW h0 h1 hf) h
theorem SI.noTwo (hv : VT cs ms) {s : List Int} (hs : SI ms s) : NoTwo s := by
  intro x hx y hy h
  have g1 := fx2 (hs.f x hx)
  have g2 := fx2 (hs.f y hy)
  have e1 := atom_eq (hs.w x hx) (hs.w y hy) g2.1
  have e2 : (atomI x == atomI y) = true := by simpa using h
  rw [e1, Bool.or_eq_true, beq_iff_eq, beq_iff_eq] at e2
  rcases e2 with e2 | e2
  · exact e2
  · exfalso
    rw [e2, Int.neg_neg] at g1
    exact not_both hv g2.1 g1.2 g2.2
theorem replay_says (hv : VT cs ms) (hW : Wf cs ms) {conf : Int} (h0 : 0 ≤ conf) (h1 : conf < cs.length) (hf : ((rdC cs conf).all fun x => isFalseB ms x) = true) {rs s : List Int} (h : Der cs ms (setL (rdC cs conf)) rs s) (hne : s ≠ []) (hrl : rs.length ≤ 1099511627775) : analyse_Replay.f cs (conf :: rs) = some (sortA s, 0) := by
  have hs := h.inv hv hW (setL_SI hW h0 h1 hf)
  have hlen := len_of_falses hs.n hs.f
  have hlm := hW.lm
  unfold analyse_Replay.f
  have c1 : (cs.all fun c => litsW c && decide (c.length ≤ 4194304)) = true := List.all_eq_true.2 (fun c hc => by
    rw [decide_eq_true (hW.lcl c hc), Bool.and_true]
    exact List.all_eq_true.2 (fun x hx => decide_eq_true (hW.c c hc x hx)))
  have c2 : noTwoB s = true := List.all_eq_true.2 (fun x hx => List.all_eq_true.2 (fun y hy => by
    by_cases e : atomI x = atomI y
    · rw [hs.noTwo hv x hx y hy e]; simp
    · simp [e]))
  have c3 : (!s.isEmpty) = true := by cases s <;> simp_all
  rw [c1, decide_eq_true (show (conf :: rs).length ≤ 1099511627776 by rw [List.length_cons]; omega), repL_first hv hW h0 h1 hf h]
  simp only [Bool.true_and, List.isEmpty_cons, Bool.not_false, if_true, Option.bind_some]
  rw [c2, c3, decide_eq_true (show s.length ≤ 4194304 by omega)]
  rfl
end
def LitA (s : List Int) : Prop := ∀ x ∈ s, litB x = true ∧ w64 x
theorem ahead_all {x y : Int} (hx : litB x = true ∧ w64 x) (hy : litB y = true ∧ w64 y) (hne : atomI x = atomI y → x = y) : fulcrumref21_Ahead.f x y = some (decide (atomI x < atomI y)) := by
  obtain ⟨h1, h2⟩ := hx
  obtain ⟨h3, h4⟩ := hy
  rw [litB_iff] at h1 h3
  have e1 : x < 0 → wrap64 (-x) = -x := fun _ => wrapN h2 h1.2
  have e2 : y < 0 → wrap64 (-y) = -y := fun _ => wrapN h4 h3.2
  unfold fulcrumref21_Ahead.f
  unfold atomI at hne ⊢
  rw [if_neg h1.2, if_neg h3.2] at hne ⊢
  by_cases hx0 : x < 0
  · rw [if_pos hx0, if_pos hx0] at *
    rw [e1 hx0]
    by_cases hy0 : y < 0
    · rw [if_pos hy0, if_pos hy0] at *
      rw [e2 hy0]
      clear e1 e2
      by_cases c1 : -x < -y
      · rw [if_pos c1, decide_eq_true c1]
      · rw [if_neg c1, decide_eq_false c1]
        split
        · rename_i c2; rw [hne c2]; simp
        · rfl
    · rw [if_neg hy0, if_neg hy0] at *
      clear e1 e2
      by_cases c1 : -x < y
      · rw [if_pos c1, decide_eq_true c1]
      · rw [if_neg c1, decide_eq_false c1]
        split
        · rename_i c2; rw [hne c2]; simp
        · rfl
  · rw [if_neg hx0, if_neg hx0] at *
    by_cases hy0 : y < 0
    · rw [if_pos hy0, if_pos hy0] at *
      rw [e2 hy0]
      clear e1 e2
      by_cases c1 : x < -y
      · rw [if_pos c1, decide_eq_true c1]
      · rw [if_neg c1, decide_eq_false c1]
        split
        · rename_i c2; rw [hne c2]; simp
        · rfl
    · rw [if_neg hy0, if_neg hy0] at *
      clear e1 e2
      by_cases c1 : x < y
      · rw [if_pos c1, decide_eq_true c1]
      · rw [if_neg c1, decide_eq_false c1]
        split
        · rename_i c2; rw [hne c2]; simp
        · rfl
theorem sort_step {s : List Int} (hs : s.Nodup) (hn : NoTwo s) {a : Int} (ha : a ∈ s) (hm : ∀ y ∈ s, atomI a ≤ atomI y) : sortA s = a :: sortA (delK s a) := by
  have hp : (a :: delK s a).Perm s := by
    rw [List.perm_ext_iff_of_nodup (List.nodup_cons.2 ⟨fun q => (mem_delK.1 q).2 rfl, show (delK s a).Nodup from hs.filter _⟩) hs]
    intro y
    rw [List.mem_cons, mem_delK]
    constructor
    · rintro (rfl | h)
      · exact ha
      · exact h.1
    · intro h
      by_cases e : y = a
      · exact .inl e
      · exact .inr ⟨h, e⟩
  refine (sortA_unique (((sortA_perm (delK s a)).cons a).trans hp) hn (List.pairwise_cons.2 ⟨fun y hy => ?_, sortA_sorted _⟩)).symm
  exact hm y (mem_delK.1 ((sortA_perm _).mem_iff.1 hy)).1
theorem sortedI_ev (n : Nat) (ihn : ∀ s, s.length = n → s.Nodup → NoTwo s → LitA s → ∀ out : List Int, out.length + n ≤ 1099511627776 → Ev (fun k => fulcrumref21_Sorted.l0 k out s) (out ++ sortA s)) (s : List Int) (hl : s.length = n + 1) (hs : s.Nodup) (hn : NoTwo s) (hL : LitA s) (out : List Int) (ho : out.length + (n + 1) ≤ 1099511627776) :
    ∀ d i : Nat, i + d = s.length → ∀ a ∈ s, (∀ y ∈ s.take i, atomI a ≤ atomI y) → Ev (fun k => fulcrumref21_Sorted.l1 k out s a (i : Int)) (out ++ sortA s) := by
  intro d
  induction d with
  | zero =>
    intro i h a ha hm
    rw [List.take_of_length_le (by omega)] at hm
    have hdl : (delK s a).length = n := by
      have := length_delK hs a
      rw [if_pos ha] at this
      omega
    have hi := ihn (delK s a) hdl (hs.filter _) (fun x hx y hy => hn x (mem_delK.1 hx).1 y (mem_delK.1 hy).1) (fun x hx => hL x (mem_delK.1 hx).1) (out ++ [a]) (by rw [List.length_append, List.length_singleton]; omega)
    rw [sort_step hs hn ha hm]
    refine Ev.step (f := fun k => (fulcrumref21_without.f k s a).bind fun t => fulcrumref21_Sorted.l0 k (out ++ [a]) t) (fun k => ?_) (Ev.bind (without_all s a (by omega)) (by simpa using hi))
    simp only [fulcrumref21_Sorted.l1]; rw [if_neg (by omega), if_pos (by omega)]
  | succ d ih =>
    intro i h a ha hm
    have hlt : i < s.length := by omega
    have hxm := rdm hlt
    have htk := take_rd hlt
    obtain ⟨x, hx⟩ : ∃ x, x = rd s (i : Int) := ⟨_, rfl⟩
    rw [← hx] at hxm htk
    have hA := ahead_all (hL x hxm) (hL a ha) (hn x hxm a ha)
    refine Ev.step (f := fun k => if decide (atomI x < atomI a) = true then fulcrumref21_Sorted.l1 k out s x ((i + 1 : Nat) : Int) else fulcrumref21_Sorted.l1 k out s a ((i + 1 : Nat) : Int)) (fun k => ?_) ?_
    · simp only [fulcrumref21_Sorted.l1]; rw [if_pos (by omega), if_pos (by omega), ← hx, hA, Option.bind_some, wrapI hlt (by omega)]
    · by_cases hp : atomI x < atomI a
      · simp only [hp, decide_true, if_true]
        refine ih (i + 1) (by omega) x hxm (fun y hy => ?_)
        rw [htk] at hy
        rcases List.mem_append.1 hy with hy | hy
        · have := hm y hy; omega
        · simp at hy; rw [hy]; exact Int.le_refl _
      · simp only [hp, decide_false, Bool.false_eq_true, if_false]
        refine ih (i + 1) (by omega) a ha (fun y hy => ?_)
        rw [htk] at hy
        rcases List.mem_append.1 hy with hy | hy
        · exact hm y hy
        · simp at hy; rw [hy]; omega
theorem sorted_ev : ∀ n : Nat, ∀ s, s.length = n → s.Nodup → NoTwo s → LitA s → ∀ out : List Int, out.length + n ≤ 1099511627776 → Ev (fun k => fulcrumref21_Sorted.l0 k out s) (out ++ sortA s) := by
  intro n
  induction n with
  | zero =>
    intro s hl hs _ _ out ho
    obtain rfl : s = [] := List.eq_nil_of_length_eq_zero hl
    refine Ev.step (f := fun _ => some out) (fun k => ?_) (by simpa [sortA] using Ev.now out)
    simp only [fulcrumref21_Sorted.l0]; rw [if_neg (by simp)]
  | succ n ih =>
    intro s hl hs hn hL out ho
    have h0 : (0 : Int) < (s.length : Int) := by omega
    have h0m : rd s (((0 : Nat) : Int)) ∈ s := rdm (by omega)
    have hi := sortedI_ev n ih s hl hs hn hL out ho n 1 (by omega) (rd s ((0 : Nat) : Int)) h0m (fun y hy => by
      rw [take_rd (i := 0) (by omega)] at hy
      simp at hy
      rw [hy]; exact Int.le_refl _)
    refine Ev.step (f := fun k => fulcrumref21_Sorted.l1 k out s (rd s ((0 : Nat) : Int)) ((1 : Nat) : Int)) (fun k => ?_) hi
    simp only [fulcrumref21_Sorted.l0]; rw [if_pos (by omega), if_pos h0]; rfl
theorem Sorted_all {s : List Int} (hs : s.Nodup) (hn : NoTwo s) (hL : LitA s) (hl : s.length ≤ 4194304) : Ev (fun k => fulcrumref21_Sorted.f k s) (sortA s) := by
  have h := sorted_ev s.length s rfl hs hn hL [] (by simp; omega)
  rw [List.nil_append] at h
  have e : setL s = s := by unfold setL; rw [foldl_set s [] List.nodup_nil (by simp) hs, List.nil_append]
  exact Ev.bind (set_all s (by omega)) (by rw [e]; exact h)
theorem levelL_ev {ms : List Mk} {l : Int} (hlm : ms.length ≤ 4194304) (hf : isFalseB ms l = true) (hw : w64 l) : ∀ d i : Nat, i + d = ms.length → hasM (ms.take i) (-l) = false → Ev (fun k => fulcrumlaw21_level.l0 k ms l (i : Int)) (lev ms l) := by
  have hneg := wrapS hw (fx2 hf).1
  intro d
  induction d with
  | zero =>
    intro i h h0
    rw [List.take_of_length_le (by omega), (fx2 hf).2] at h0
    cases h0
  | succ d ih =>
    intro i h h0
    have hlt : i < ms.length := by omega
    by_cases he : (rd_T49 ms (i : Int)).f0 = -l
    · have h1 := placeN_at hlt h0 he
      have h2 : lev ms l = (rd_T49 ms (i : Int)).f1 := by
        unfold placeI at h1
        rw [if_pos (fx2 hf).2] at h1
        unfold lev mkOf
        rw [show placeN ms (-l) = i by omega]
      rw [h2]
      refine Ev.step (f := fun _ => some (rd_T49 ms (i : Int)).f1) (fun k => ?_) (Ev.now _)
      simp only [fulcrumlaw21_level.l0]; rw [if_pos (by omega), if_pos (by omega), hneg, if_pos he]
    · refine Ev.step (f := fun k => fulcrumlaw21_level.l0 k ms l ((i + 1 : Nat) : Int)) (fun k => ?_) (ih (i + 1) (by omega) ?_)
      · simp only [fulcrumlaw21_level.l0]; rw [if_pos (by omega), if_pos (by omega), hneg, if_neg he, wrapI hlt (by omega)]
      · rw [take_mk hlt]
        unfold hasM at h0 ⊢
        rw [List.any_append, h0]
        simpa using he
theorem levelL_all {ms : List Mk} {l : Int} (hlm : ms.length ≤ 4194304) (hf : isFalseB ms l = true) (hw : w64 l) : Ev (fun k => fulcrumlaw21_level.f k ms l) (lev ms l) := levelL_ev hlm hf hw ms.length 0 (by omega) (by simp [hasM])
theorem teachL_ev {cs : List (List Int)} {ms : List Mk} (hlm : ms.length ≤ 4194304) {c : List Int} {b : Int} {ch : List Int} {a : Int} (hc : SI ms c) (hcl : c.length ≤ 4194304) (hlo : ∀ i : Nat, 1 ≤ i → i < c.length → 1 ≤ lev ms (rd c (i : Int)) ∧ lev ms (rd c (i : Int)) < a) : ∀ d i : Nat, i + d = c.length → 1 ≤ i → ∀ bk : Int, 0 ≤ bk → bk < a → b = max bk (mostL ms (c.drop i)) → Ev (fun k => fulcrumlaw21_teaches.l0 k a bk (i : Int) cs ms c b ch) true := by
  intro d
  induction d with
  | zero =>
    intro i h h1 bk h0 hlt hb
    rw [List.drop_eq_nil_of_le (by omega)] at hb
    have hb : b = bk := by unfold mostL at hb; omega
    refine Ev.step (f := fun _ => some true) (fun k => ?_) (Ev.now _)
    simp only [fulcrumlaw21_teaches.l0]; rw [if_neg (by omega), if_pos (by omega), hb]; simp
  | succ d ih =>
    intro i h h1 bk h0 hlt hb
    have hi : i < c.length := by omega
    have hxm := rdm hi
    obtain ⟨l1, l2⟩ := hlo i h1 hi
    rw [rdi_drop hi, mostL] at hb
    obtain ⟨x, hx⟩ : ∃ x, x = rd c (i : Int) := ⟨_, rfl⟩
    rw [← hx] at hxm l1 l2 hb
    have HWR : Aside0 _ := ⟨wrapI hi (show c.length ≤ 4611686018427387904 by omega)⟩
    refine Ev.step (f := fun k => (fulcrumlaw21_level.f k ms x).bind fun t => if t < 1 then fulcrumlaw21_teaches.j2 k a bk (i : Int) t true cs ms c b ch else fulcrumlaw21_teaches.j2 k a bk (i : Int) t (decide (t ≥ a)) cs ms c b ch) (fun k => ?_) (Ev.bind (levelL_all hlm (hc.f x hxm) (hc.w x hxm)) ?_)
    · simp only [fulcrumlaw21_teaches.l0]; rw [if_pos (by omega), if_pos (by omega), ← hx]
    · refine Ev.congr (fun k => if_neg (by omega)) ?_
      rw [decide_eq_false (show ¬ lev ms x ≥ a by omega)]
      by_cases hgt : lev ms x > bk
      · have hn := ih (i + 1) (by omega) (by omega) (lev ms x) (by omega) l2 (by omega)
        refine Ev.step (fun k => ?_) hn
        simp only [fulcrumlaw21_teaches.j2, Bool.false_eq_true, if_false]; rw [if_pos hgt, HWR.out]
      · have hn := ih (i + 1) (by omega) (by omega) bk h0 hlt (by omega)
        refine Ev.step (fun k => ?_) hn
        simp only [fulcrumlaw21_teaches.j2, Bool.false_eq_true, if_false]; rw [if_neg hgt, HWR.out]
theorem teaches_all {cs : List (List Int)} {ms : List Mk} (hv : VT cs ms) (hW : Wf cs ms) {conf : Int} (h0 : 0 ≤ conf) (h1 : conf < cs.length) (hf : ((rdC cs conf).all fun x => isFalseB ms x) = true) {rs S : List Int} {a : Int} (d : Der cs ms (setL (rdC cs conf)) rs S) (hA : Asserts ms S a) (hrl : rs.length ≤ 1099511627775) : Ev (fun k => fulcrumlaw21_teaches.f k cs ms (a :: restL ms S a) (mostL ms (restL ms S a)) (conf :: rs)) true := by
  have hs := d.inv hv hW (setL_SI hW h0 h1 hf)
  have hp := told_perm (ms := ms) hs.n hA.m
  have hc := hs.perm hp.symm
  have hlen := len_of_falses hc.n hc.f
  have hlm := hW.lm
  have hne : S ≠ [] := fun q => by have := hA.m; rw [q] at this; cases this
  have hsort : sortA (a :: restL ms S a) = sortA S := sortA_unique ((sortA_perm _).trans hp) (hs.noTwo hv) (sortA_sorted _)
  have hLs : (sortA S).length ≤ 4194304 := by rw [(sortA_perm S).length_eq, ← hp.length_eq]; omega
  unfold fulcrumlaw21_teaches.f
  refine Ev.bind (twin_all cs hW.lc hW.lcl) (Ev.bind (ints_all (conf :: rs) (by rw [List.length_cons]; omega)) ?_)
  rw [replay_says hv hW h0 h1 hf d hne hrl]
  simp only [Option.bind_some, if_true]
  refine Ev.congr (fun k => if_neg (by rw [List.length_cons]; omega)) ?_
  refine Ev.bind (Sorted_all hc.n (hc.noTwo hv) (fun x hx => ⟨(fx2 (hc.f x hx)).1, hc.w x hx⟩) (by omega)) ?_
  rw [hsort]
  refine Ev.bind (same_all (sortA S) (by omega)) ?_
  have hla : 0 < lev ms a := by
    have g1 := lev_nonneg hv (hs.f a hA.m)
    have g2 := hA.p a hA.m
    omega
  have hlo : ∀ i : Nat, 1 ≤ i → i < (a :: restL ms S a).length → 1 ≤ lev ms (rd (a :: restL ms S a) (i : Int)) ∧ lev ms (rd (a :: restL ms S a) (i : Int)) < lev ms a := fun i hi1 hi => by
    have hm := rdm hi
    have hmS := hp.mem_iff.1 hm
    have g1 := lev_nonneg hv (hs.f _ hmS)
    have g2 := hA.p _ hmS
    refine ⟨by omega, hA.l _ hmS (fun q => ?_)⟩
    have hnd := hc.n
    obtain ⟨i', rfl⟩ : ∃ i', i = i' + 1 := ⟨i - 1, by omega⟩
    have e : rd (a :: restL ms S a) ((i' + 1 : Nat) : Int) = rd (restL ms S a) (i' : Int) := by unfold rd; rw [Int.toNat_natCast, Int.toNat_natCast]; simp
    have hm2 : rd (restL ms S a) (i' : Int) ∈ restL ms S a := rdm (by rw [List.length_cons] at hi; omega)
    rw [e] at q
    rw [q] at hm2
    exact (List.nodup_cons.1 hnd).1 hm2
  have hl := teachL_ev (cs := cs) (b := mostL ms (restL ms S a)) (ch := conf :: rs) hlm hc (by omega) hlo (restL ms S a).length 1 (by rw [List.length_cons]; omega) (Nat.le_refl _) 0 (Int.le_refl _) hla (by
    have := mostL_nonneg ms (restL ms S a)
    simp only [List.drop_succ_cons, List.drop_zero]
    omega)
  refine Ev.step (f := fun k => (fulcrumlaw21_level.f k ms a).bind fun t => fulcrumlaw21_teaches.l0 k t 0 1 cs ms (a :: restL ms S a) (mostL ms (restL ms S a)) (conf :: rs)) (fun k => ?_) (Ev.bind (levelL_all hlm (hs.f a hA.m) (hs.w a hA.m)) hl)
  simp only [fulcrumlaw21_teaches.j0, Bool.not_true, Bool.false_eq_true, if_false]
  rw [if_pos (by rw [List.length_cons]; omega)]
  rfl
end Go.Proofs.Ytboalbiicmcljaa.PAN
