import Derived.Test.YtegaaobiedfjcaaStH
import Derived.Test.YtegaaobiedfjcaaPUx5
import Derived.Test.YtegaaobiedfjcaaStF
namespace Go.Proofs.Ytegaaobiedfjcaa.PU
open Go.RowKit Go.Proofs.YtegaaobiedfjcaaW.PrintWords Go.Proofs.YtegaaobiedfjcaaW.PrintLast Go.Proofs.YtegaaobiedfjcaaW.PrintMore Go.Proofs.YtegaaobiedfjcaaH
set_option linter.unusedVariables false
set_option linter.unusedSimpArgs false
/-! ### marks that may be, Back, Close: plain -/
def forceB (cs : List (List Int)) (prev : List S48) (m : S48) : Bool :=
  decide (0 ≤ m.f2) && (match cs[m.f2.toNat]? with
    | some c => decide (m.f1 = lvl prev) && forcesB prev c m.f0
    | none => false)
def fitsB (n : Int) (cs : List (List Int)) (prev : List S48) (m : S48) : Bool :=
  (litB n m.f0 && openB prev m.f0) && (if m.f2 = -1 then decide (m.f1 = lvl prev + 1) else forceB cs prev m)
inductive MayL (n : Int) (cs : List (List Int)) : List S48 → Prop
  | nil : MayL n cs []
  | snoc (ms : List S48) (m : S48) (h : MayL n cs ms) (hm : fitsB n cs ms m = true) : MayL n cs (ms ++ [m])
theorem lvl_nil : lvl [] = 0 := rfl
theorem fits_lvl {n : Int} {cs : List (List Int)} {prev : List S48} {m : S48} (h : fitsB n cs prev m = true) : m.f1 = lvl prev ∨ m.f1 = lvl prev + 1 := by
  unfold fitsB at h
  simp only [Bool.and_eq_true] at h
  obtain ⟨_, h⟩ := h
  split at h
  · exact .inr (of_decide_eq_true h)
  · unfold forceB at h
    simp only [Bool.and_eq_true] at h
    obtain ⟨_, h⟩ := h
    split at h
    · simp only [Bool.and_eq_true, decide_eq_true_eq] at h
      exact .inl h.1
    · cases h
theorem fits_lit {n : Int} {cs : List (List Int)} {prev : List S48} {m : S48} (h : fitsB n cs prev m = true) : litB n m.f0 = true ∧ openB prev m.f0 = true := by
  unfold fitsB at h
  simp only [Bool.and_eq_true] at h
  exact h.1
theorem MayL.lvl {n : Int} {cs : List (List Int)} {ms : List S48} (h : MayL n cs ms) : 0 ≤ lvl ms ∧ lvl ms ≤ ms.length ∧ ∀ m ∈ ms, m.f1 ≤ lvl ms := by
  induction h with
  | nil => exact ⟨by decide, by decide, fun m hm => by cases hm⟩
  | snoc ms m h hm ih =>
    rw [lvl_snoc, List.length_append, List.length_singleton]
    have := fits_lvl hm
    refine ⟨by omega, by omega, fun m' hm' => ?_⟩
    rcases List.mem_append.1 hm' with q | q
    · have := ih.2.2 m' q; omega
    · rw [List.mem_singleton.1 q]; exact Int.le_refl _
theorem MayL.inv {n : Int} {cs : List (List Int)} {ms : List S48} {m : S48} (h : MayL n cs (ms ++ [m])) : MayL n cs ms ∧ fitsB n cs ms m = true := by
  generalize he : ms ++ [m] = l at h
  cases h with
  | nil => simp at he
  | snoc ms' m' h hm =>
    have h1 := List.append_inj_left' he rfl
    have h2 := List.append_inj_right' he rfl
    simp only [List.cons.injEq, and_true] at h2
    subst h1 h2
    exact ⟨h, hm⟩
theorem snoc_cases (ms : List S48) : ms = [] ∨ ∃ ms' m, ms = ms' ++ [m] := by
  rcases List.eq_nil_or_concat ms with h | ⟨a, b, h⟩
  · exact .inl h
  · exact .inr ⟨a, b, by rw [h, List.concat_eq_append]⟩
theorem MayL.at_ {n : Int} {cs : List (List Int)} {ms : List S48} (h : MayL n cs ms) : ∀ (i : Nat) (m : S48), ms[i]? = some m → MayL n cs (ms.take i) ∧ fitsB n cs (ms.take i) m = true := by
  induction h with
  | nil => intro i m hi; simp at hi
  | snoc ms m0 h hm ih =>
    intro i m hi
    rcases Nat.lt_or_ge i ms.length with hl | hl
    · rw [List.getElem?_append_left hl] at hi
      rw [List.take_append_of_le_length (by omega)]
      exact ih i m hi
    · have hi2 : i = ms.length := by
        have := (List.getElem?_eq_some_iff.1 hi).1
        simp at this; omega
      subst hi2
      rw [List.getElem?_append_right (Nat.le_refl _), Nat.sub_self] at hi
      simp only [List.getElem?_cons_zero, Option.some.injEq] at hi
      subst hi
      rw [List.take_left]
      exact ⟨h, hm⟩
theorem litB_mono {n n' : Int} (hn : n ≤ n') {l : Int} (h : litB n l = true) : litB n' l = true := by
  rw [litB_iff] at *; omega
theorem fits_mono {n n' : Int} {cs : List (List Int)} {prev : List S48} {m : S48} (hn : n ≤ n') (cs' : List (List Int)) (h : fitsB n cs prev m = true) : fitsB n' (cs ++ cs') prev m = true := by
  unfold fitsB at *
  simp only [Bool.and_eq_true] at *
  refine ⟨⟨litB_mono hn h.1.1, h.1.2⟩, ?_⟩
  have h2 := h.2
  split
  · rename_i e; rw [if_pos e] at h2; exact h2
  · rename_i e
    rw [if_neg e] at h2
    unfold forceB at *
    simp only [Bool.and_eq_true] at *
    refine ⟨h2.1, ?_⟩
    have h3 := h2.2
    split at h3
    · rename_i c hc
      rw [List.getElem?_append_left (List.getElem?_eq_some_iff.1 hc).1, hc]
      exact h3
    · cases h3
theorem MayL.mono {n n' : Int} {cs : List (List Int)} {ms : List S48} (hn : n ≤ n') (cs' : List (List Int)) (h : MayL n cs ms) : MayL n' (cs ++ cs') ms := by
  induction h with
  | nil => exact .nil
  | snoc ms m h hm ih => exact .snoc ms m ih (fits_mono hn cs' hm)
/-! #### Back -/
theorem popU_snoc (vals : List Int) (ms : List S48) (m : S48) : popU (vals, ms ++ [m]) = (vals.set (absL m.f0).toNat 0, ms) := by
  unfold popU
  dsimp only
  have e : rd_T48 (ms ++ [m]) (((ms ++ [m]).length : Int) - 1) = m := by
    rw [List.length_append, List.length_singleton]
    have : (((ms.length + 1 : Nat) : Int) - 1) = (ms.length : Int) := by omega
    rw [this]
    simp [rd_T48, List.getD_eq_getElem?_getD]
  rw [e, List.length_append, List.length_singleton, Nat.add_sub_cancel, List.take_left]
theorem rd_setN' {vals : List Int} {i : Nat} {v : Int} {j : Int} (hj : 0 ≤ j) (hi : i < vals.length) : rd (vals.set i v) j = if (i : Int) = j then v else rd vals j := rd_setN hj hi
theorem TInv.pop {N : Nat} {vals : List Int} {ms : List S48} {m : S48} (h : TInv N vals (ms ++ [m])) : TInv N (vals.set (absL m.f0).toNat 0) ms := by
  have hr := h.rng m (by simp)
  have hlen := h.len
  have habs : 0 ≤ absL m.f0 ∧ absL m.f0 < vals.length := by unfold absL; split <;> omega
  have hv : ∀ x : Int, x ≠ 0 → valL (vals.set (absL m.f0).toNat 0) x = if absL x = absL m.f0 then 0 else valL vals x := by
    intro x hx
    have key : ∀ j : Int, 0 ≤ j → rd (vals.set (absL m.f0).toNat 0) j = if absL m.f0 = j then 0 else rd vals j := fun j hj => by
      rw [rd_setN' hj (by omega)]
      have : (((absL m.f0).toNat : Nat) : Int) = absL m.f0 := by omega
      rw [this]
    unfold valL
    by_cases hx0 : x < 0
    · rw [if_pos hx0, if_pos hx0, key _ (by omega)]
      have e : absL x = -x := if_pos hx0
      rw [e]
      by_cases q : absL m.f0 = -x
      · rw [if_pos q, if_pos q.symm]; rfl
      · rw [if_neg q, if_neg (fun z => q z.symm)]
    · rw [if_neg hx0, if_neg hx0, key _ (by omega)]
      have e : absL x = x := if_neg hx0
      rw [e]
      by_cases q : absL m.f0 = x
      · rw [if_pos q, if_pos q.symm]
      · rw [if_neg q, if_neg (fun z => q z.symm)]
  have hnd := h.nd
  rw [List.map_append, List.nodup_append] at hnd
  refine ⟨by rw [List.length_set]; exact hlen, fun l hl => ?_, hnd.1, fun m' hm' => h.rng m' (List.mem_append_left _ hm')⟩
  rw [hv l hl]
  have hvm := (h.tv m.f0 hr.1).2 ⟨m, by simp, rfl⟩
  by_cases q : absL l = absL m.f0
  · rw [if_pos q]
    refine ⟨fun z => by omega, fun ⟨m', hm', he⟩ => ?_⟩
    exfalso
    have hvl := (h.tv l hl).2 ⟨m', List.mem_append_left _ hm', he⟩
    have hcase : l = m.f0 ∨ l = -m.f0 := by unfold absL at q; split at q <;> split at q <;> omega
    rcases hcase with e | e
    · exact hnd.2.2 m'.f0 (List.mem_map_of_mem hm') m.f0 (by simp) (he.trans e)
    · rw [e, valL_neg vals hr.1] at hvl; omega
  · rw [if_neg q, h.tv l hl]
    constructor
    · rintro ⟨m', hm', he⟩
      rcases List.mem_append.1 hm' with z | z
      · exact ⟨m', z, he⟩
      · rw [List.mem_singleton.1 z] at he
        exact absurd (by rw [← he]) q
    · rintro ⟨m', hm', he⟩
      exact ⟨m', List.mem_append_left _ hm', he⟩
/-- What Back leaves. -/
theorem back_says {N : Nat} {n : Int} {cs : List (List Int)} (level : Int) (h0 : 0 ≤ level) {ms : List S48} (h : MayL n cs ms) : ∀ vals : List Int, TInv N vals ms → ∃ vals', backF level ms.length (vals, ms) = (vals', ms.filter (fun m => decide (m.f1 ≤ level))) ∧ TInv N vals' (ms.filter (fun m => decide (m.f1 ≤ level))) ∧ MayL n cs (ms.filter (fun m => decide (m.f1 ≤ level))) := by
  induction h with
  | nil => intro vals ht; exact ⟨vals, rfl, ht, .nil⟩
  | snoc ms m h hm ih =>
    intro vals ht
    rw [List.length_append, List.length_singleton, backF]
    dsimp only
    rw [lvl_snoc, List.filter_append]
    have hl := h.lvl
    have hf := fits_lvl hm
    by_cases q : level < m.f1
    · rw [if_pos q, popU_snoc]
      obtain ⟨vals', e1, e2, e3⟩ := ih _ ht.pop
      have : [m].filter (fun m => decide (m.f1 ≤ level)) = [] := by simp; omega
      rw [this, List.append_nil]
      exact ⟨vals', e1, e2, e3⟩
    · rw [if_neg q]
      have e1 : ms.filter (fun m => decide (m.f1 ≤ level)) = ms := List.filter_eq_self.2 (fun m' hm' => by have := hl.2.2 m' hm'; simp; omega)
      have e2 : [m].filter (fun m => decide (m.f1 ≤ level)) = [m] := by simp; omega
      rw [e1, e2]
      exact ⟨vals, rfl, ht, .snoc ms m h hm⟩
theorem Back_ev (ms : List S48) (level : Int) (hn : ms.length ≤ 4194304) : ∀ d i : Nat, i + d = ms.length → ∀ out : List S48, out.length ≤ i → Ev (fun k => fulcrumref20_Back.l0 k ms level out (i : Int)) (out ++ (ms.drop i).filter (fun m => decide (m.f1 ≤ level))) := by
  intro d
  induction d with
  | zero =>
    intro i h out ho
    refine Ev.step (f := fun _ => some out) (fun k => ?_) ?_
    · simp only [fulcrumref20_Back.l0]; rw [if_neg (by omega)]
    · rw [List.drop_eq_nil_of_le (by omega)]; simpa using Ev.now out
  | succ d ih =>
    intro i h out ho
    have hlt : i < ms.length := by omega
    rw [rdm_drop hlt, List.filter_cons]
    by_cases q : (rd_T48 ms (i : Int)).f1 ≤ level
    · rw [if_pos (by simpa using q)]
      have := ih (i + 1) (by omega) (out ++ [rd_T48 ms (i : Int)]) (by simp; omega)
      rw [List.append_assoc] at this
      refine Ev.step (f := fun k => fulcrumref20_Back.l0 k ms level (out ++ [rd_T48 ms (i : Int)]) ((i + 1 : Nat) : Int)) (fun k => ?_) this
      simp only [fulcrumref20_Back.l0]
      rw [if_pos (by omega), if_pos (by omega), if_pos q, if_pos (by omega), wrapI hlt (by omega)]
    · rw [if_neg (by simpa using q)]
      refine Ev.step (f := fun k => fulcrumref20_Back.l0 k ms level out ((i + 1 : Nat) : Int)) (fun k => ?_) (ih (i + 1) (by omega) out (by omega))
      simp only [fulcrumref20_Back.l0]
      rw [if_pos (by omega), if_pos (by omega), if_neg q, wrapI hlt (by omega)]
theorem Back_all (ms : List S48) (level : Int) (hn : ms.length ≤ 4194304) : Ev (fun k => fulcrumref20_Back.f k ms level) (ms.filter (fun m => decide (m.f1 ≤ level))) := by
  have := Back_ev ms level hn ms.length 0 (by omega) [] (by simp)
  simpa [fulcrumref20_Back.f] using this

/-! ### Lit, Fits, May, Close -/
theorem Lit_f (l n : Int) (h0 : 0 ≤ n) (h1 : n ≤ 4611686018427387904) : fulcrumref20_Lit.f l n = some (litB n l) := by
  unfold fulcrumref20_Lit.f
  have e : wrap64 (-n) = -n := by unfold wrap64; omega
  rw [e]
  by_cases a : l = 0
  · rw [if_pos a]; simp [litB, a]
  · rw [if_neg a]
    by_cases b : l ≥ -n
    · rw [if_pos b]
      congr 1
      have : -n ≤ l := b
      simp [litB, a, this]
    · rw [if_neg b]
      have : ¬ -n ≤ l := b
      simp [litB, this]
theorem Fits_all (n : Int) (h0 : 0 ≤ n) (h1 : n ≤ 4194304) (cs : List (List Int)) (prev : List S48) (m : S48) (hn : prev.length ≤ 4194304) (hc : CsOk cs) (hlv : 0 ≤ lvl prev ∧ lvl prev ≤ 4194304) : Ev (fun k => fulcrumref20_Fits.f k n cs prev m.f0 m.f1 m.f2) (fitsB n cs prev m) := by
  have hL := Lit_f m.f0 n h0 (by omega)
  have hw : wrap64 (lvl prev + 1) = lvl prev + 1 := by unfold wrap64; omega
  have hlev := Level_f prev (by omega)
  have j_true : ∀ (a b c : Int), Ev (fun k => fulcrumref20_Fits.j0 k cs prev true a b c) false := fun a b c => by
    refine Ev.step (f := fun _ => some false) (fun k => ?_) (Ev.now _)
    simp only [fulcrumref20_Fits.j0]; rfl
  by_cases hl : litB n m.f0 = true
  · have hin : inR m.f0 := by have := litB_iff.1 hl; unfold inR; omega
    refine Ev.congr (f := fun k => (fulcrumref20_Open.f k prev m.f0).bind fun t111 => (fulcrumref20_Fits.j0 k cs prev (!t111) m.f0 m.f1 m.f2)) (fun k => ?_) ?_
    · unfold fulcrumref20_Fits.f
      rw [hL]
      simp only [Option.bind_some, hl, if_true]
    · refine Ev.bind (open_all prev m.f0 (by omega) hin) ?_
      unfold fitsB
      rw [hl, Bool.true_and]
      cases ho : openB prev m.f0
      · simp only [Bool.not_false, Bool.false_and]; exact j_true _ _ _
      · simp only [Bool.not_true, Bool.true_and]
        by_cases e1 : m.f2 = -1
        · rw [if_pos e1]
          refine Ev.step (f := fun _ => some (decide (m.f1 = lvl prev + 1))) (fun k => ?_) (Ev.now _)
          simp only [fulcrumref20_Fits.j0]
          rw [if_neg (by simp), if_pos e1, hlev]
          simp only [Option.bind_some, hw]
          rfl
        · rw [if_neg e1]
          unfold forceB
          by_cases e2 : 0 ≤ m.f2
          · rw [decide_eq_true e2, Bool.true_and]
            by_cases e3 : m.f2 < (cs.length : Int)
            · have hlt : m.f2.toNat < cs.length := by omega
              have e4 : ((m.f2.toNat : Nat) : Int) = m.f2 := by omega
              have hg := rdl_get hlt
              rw [e4] at hg
              rw [hg]
              have hcm : rd_L2 cs m.f2 ∈ cs := by have := rdl_mem hlt; rwa [e4] at this
              have hF := Forces_all (rd_L2 cs m.f2) prev m.f0 hin (by omega) (hc.cl _ hcm) (hc.rng _ hcm)
              by_cases e5 : m.f1 = lvl prev
              · refine Ev.step (f := fun k => (fulcrumref20_Forces.f k (rd_L2 cs m.f2) prev m.f0).bind fun t115 => (some t115)) (fun k => ?_) ?_
                · simp only [fulcrumref20_Fits.j0]
                  rw [if_neg (by simp), if_neg e1, if_pos e2, if_pos e3, hlev]
                  simp only [Option.bind_some]
                  rw [if_pos e5, if_pos e2]
                · dsimp only
                  rw [decide_eq_true e5, Bool.true_and]
                  exact Ev.bind (f := fun _ t => some t) hF (Ev.now _)
              · refine Ev.step (f := fun _ => some false) (fun k => ?_) ?_
                · simp only [fulcrumref20_Fits.j0]
                  rw [if_neg (by simp), if_neg e1, if_pos e2, if_pos e3, hlev]
                  simp only [Option.bind_some]
                  rw [if_neg e5]
                · dsimp only
                  rw [decide_eq_false e5, Bool.false_and]
                  exact Ev.now _
            · have hg : cs[m.f2.toNat]? = none := List.getElem?_eq_none (by omega)
              rw [hg]
              refine Ev.step (f := fun _ => some false) (fun k => ?_) (Ev.now _)
              simp only [fulcrumref20_Fits.j0]
              rw [if_neg (by simp), if_neg e1, if_pos e2, if_neg e3]
          · rw [decide_eq_false e2, Bool.false_and]
            refine Ev.step (f := fun _ => some false) (fun k => ?_) (Ev.now _)
            simp only [fulcrumref20_Fits.j0]
            rw [if_neg (by simp), if_neg e1, if_neg e2]
  · have hl' : litB n m.f0 = false := by simpa using hl
    have : fitsB n cs prev m = false := by unfold fitsB; rw [hl']; rfl
    rw [this]
    refine Ev.congr (f := fun k => fulcrumref20_Fits.j0 k cs prev true m.f0 m.f1 m.f2) (fun k => ?_) (j_true _ _ _)
    unfold fulcrumref20_Fits.f
    rw [hL]
    simp only [Option.bind_some, hl', Bool.false_eq_true, if_false]
theorem forces_says {marks : List S48} {c : List Int} {l : Int} (h : forcesB marks c l = true) : l ∈ c ∧ (∀ x ∈ c, x ≠ l → tB marks (-x) = true) ∧ tB marks l = false ∧ tB marks (-l) = false := by
  unfold forcesB openB at h
  simp only [Bool.and_eq_true, decide_eq_true_eq, List.all_eq_true, Bool.or_eq_true, Bool.not_eq_true'] at h
  obtain ⟨⟨h1, h2⟩, h3, h4⟩ := h
  exact ⟨h1, fun x hx hn => (h2 x hx).resolve_left hn, h3, h4⟩
theorem valL_zero {N : Nat} {vals : List Int} {marks : List S48} (h : TInv N vals marks) {l : Int} (hl : l ≠ 0) (h1 : tB marks l = false) (h2 : tB marks (-l) = false) : valL vals l = 0 := by
  have a : ¬ 0 < valL vals l := fun q => by
    have := tB_iff.2 ((h.tv l hl).1 q)
    rw [h1] at this; cases this
  have b : ¬ valL vals l < 0 := fun q => by
    have := tB_iff.2 ((h.neg hl).1 q)
    rw [h2] at this; cases this
  omega
theorem openB_zero {N : Nat} {vals : List Int} {marks : List S48} (h : TInv N vals marks) {l : Int} (hl : l ≠ 0) (h0 : valL vals l = 0) : tB marks l = false ∧ tB marks (-l) = false := by
  constructor
  · cases e : tB marks l
    · rfl
    · have := (h.tv l hl).2 (tB_iff.1 e); omega
  · cases e : tB marks (-l)
    · rfl
    · have := (h.neg hl).2 (tB_iff.1 e); omega
theorem DInv.force {N : Nat} {cs : List (List Int)} {V0 vals : List Int} {marks : List S48} (hcs : LitsIn N cs) (h : DInv N cs V0 vals marks) {c : List Int} (hc : c ∈ cs) {l : Int} (hf : forcesB marks c l = true) (y z : Int) : DInv N cs V0 (markV vals l) (marks ++ [⟨l, y, z⟩]) ∧ valL vals l = 0 := by
  obtain ⟨h1, h2, h3, h4⟩ := forces_says hf
  have hr := hcs c hc l h1
  have hz := valL_zero h.t hr.1 h3 h4
  have ht := h.t.mark ⟨l, y, z⟩ hr.1 hr.2.1 hr.2.2 hz
  refine ⟨⟨ht, fun m hm => ?_, fun x hx hv => ?_⟩, hz⟩
  · rcases List.mem_append.1 hm with q | q
    · exact h.der m q
    · rw [List.mem_singleton.1 q]
      refine .step c l hc h1 (fun x hx hn => ?_)
      obtain ⟨m', hm', he⟩ := tB_iff.1 (h2 x hx hn)
      rw [← he]; exact h.der m' hm'
  · exact (ht.tv x hx).2 (by
      obtain ⟨m, hm1, hm2⟩ := (h.t.tv x hx).1 (h.mono x hx hv)
      exact ⟨m, List.mem_append_left _ hm1, hm2⟩)
/-- What the document's closure comes to. -/
theorem Close_ev (N : Nat) (hN : N ≤ 262145) (cs : List (List Int)) (hc : CsOk cs) (hcs : LitsIn N cs) (V0 : List Int) : ∀ (d : Nat) (vals : List Int) (marks : List S48), vals.count 0 = d → marks.length + vals.count 0 ≤ vals.length → DInv N cs V0 vals marks →
    ∃ (out : List S48) (b : Int) (vals' : List Int), Ev (fun k => fulcrumref20_Close.l0 k cs marks) (out, b) ∧ DInv N cs V0 vals' out ∧ ((b = -1 ∧ noForce out cs ∧ noBroken out cs) ∨ ∃ (j : Nat) (c : List Int), b = (j : Int) ∧ cs[j]? = some c ∧ brkB out c = true) := by
  intro d
  induction d using Nat.strongRecOn with
  | _ d ih =>
    intro vals marks hd hsum h
    have hlen := h.t.len
    have hml : marks.length ≤ 262145 := by omega
    obtain ⟨r, e1, q1⟩ := broken_all cs marks (by omega) hc
    rcases q1 with ⟨rfl, hnb⟩ | ⟨j, c, rfl, hj, hb⟩
    · obtain ⟨r2, e2, q2⟩ := forced_all cs marks (by omega) hc
      rcases q2 with ⟨rfl, hnf⟩ | ⟨j, c, l, rfl, hj, hl, hf⟩
      · refine ⟨marks, -1, vals, ?_, h, .inl ⟨rfl, hnf, hnb⟩⟩
        refine Ev.step (f := fun k => (fulcrumref20_broken.f k cs marks).bind fun t166 => (if t166 ≥ 0 then (some (marks, t166)) else ((fulcrumref20_forced.f k cs marks).bind fun bt167 => (if bt167.2 < 0 then (some (marks, (-1))) else ((fulcrumref20_Level.f marks).bind fun t169 => (if marks.length < 5864062014805 then (fulcrumref20_Close.l0 k cs (marks ++ [(⟨bt167.1, t169, bt167.2⟩ : S48)])) else (none))))))) (fun k => ?_) ?_
        · simp only [fulcrumref20_Close.l0]
        · refine Ev.bind e1 ?_
          refine Ev.congr (fun k => if_neg (by decide)) ?_
          refine Ev.bind e2 ?_
          exact Ev.now _
      · have hcm := List.mem_of_getElem? hj
        obtain ⟨h2, hz⟩ := h.force hcs hcm hf (lvl marks) (j : Int)
        have hr := hcs c hcm l hl
        have hcnt := markV_count (vals := vals) (l := l) (by omega) (by omega) hz
        obtain ⟨out, b, vals', e3, h3, q3⟩ := ih ((markV vals l).count 0) (by omega) (markV vals l) (marks ++ [⟨l, lvl marks, (j : Int)⟩]) rfl (by rw [markV_len, List.length_append, List.length_singleton]; omega) h2
        refine ⟨out, b, vals', ?_, h3, q3⟩
        refine Ev.step (f := fun k => (fulcrumref20_broken.f k cs marks).bind fun t166 => (if t166 ≥ 0 then (some (marks, t166)) else ((fulcrumref20_forced.f k cs marks).bind fun bt167 => (if bt167.2 < 0 then (some (marks, (-1))) else ((fulcrumref20_Level.f marks).bind fun t169 => (if marks.length < 5864062014805 then (fulcrumref20_Close.l0 k cs (marks ++ [(⟨bt167.1, t169, bt167.2⟩ : S48)])) else (none))))))) (fun k => ?_) ?_
        · simp only [fulcrumref20_Close.l0]
        · refine Ev.bind e1 ?_
          refine Ev.congr (fun k => if_neg (by decide)) ?_
          refine Ev.bind e2 ?_
          refine Ev.congr (fun k => if_neg (by dsimp only; omega)) ?_
          refine Ev.congr (f := fun k => fulcrumref20_Close.l0 k cs (marks ++ [⟨l, lvl marks, (j : Int)⟩])) (fun k => ?_) e3
          rw [Level_f marks (by omega)]
          simp only [Option.bind_some]
          rw [if_pos (by omega)]
    · refine ⟨marks, (j : Int), vals, ?_, h, .inr ⟨j, c, rfl, hj, hb⟩⟩
      refine Ev.step (f := fun k => (fulcrumref20_broken.f k cs marks).bind fun t166 => (if t166 ≥ 0 then (some (marks, t166)) else ((fulcrumref20_forced.f k cs marks).bind fun bt167 => (if bt167.2 < 0 then (some (marks, (-1))) else ((fulcrumref20_Level.f marks).bind fun t169 => (if marks.length < 5864062014805 then (fulcrumref20_Close.l0 k cs (marks ++ [(⟨bt167.1, t169, bt167.2⟩ : S48)])) else (none))))))) (fun k => ?_) ?_
      · simp only [fulcrumref20_Close.l0]
      · refine Ev.bind e1 ?_
        refine Ev.congr (fun k => if_pos (by omega)) ?_
        exact Ev.now _
theorem Close_all (N : Nat) (hN : N ≤ 262145) (cs : List (List Int)) (hc : CsOk cs) (hcs : LitsIn N cs) (vals : List Int) (marks : List S48) (hsum : marks.length + vals.count 0 ≤ vals.length) (h : TInv N vals marks) :
    ∃ (out : List S48) (b : Int) (vals' : List Int), Ev (fun k => fulcrumref20_Close.f k cs marks) (out, b) ∧ DInv N cs vals vals' out ∧ ((b = -1 ∧ noForce out cs ∧ noBroken out cs) ∨ ∃ (j : Nat) (c : List Int), b = (j : Int) ∧ cs[j]? = some c ∧ brkB out c = true) := by
  obtain ⟨out, b, vals', e, h2, q⟩ := Close_ev N hN cs hc hcs vals _ vals marks rfl hsum (DInv.start h)
  refine ⟨out, b, vals', Ev.congr (f := fun k => fulcrumref20_Close.l0 k cs marks) (fun k => ?_) e, h2, q⟩
  have := h.len
  unfold fulcrumref20_Close.f
  rw [if_pos (by simp only [List.length_nil]; omega), List.nil_append]
/-- Where nothing is forced and no clause is broken, all that follows by units is true. -/
theorem fin_T {N : Nat} {cs : List (List Int)} {V0 vals : List Int} {out : List S48} (hcs : LitsIn N cs) (h : DInv N cs V0 vals out) (h1 : noForce out cs) (h2 : noBroken out cs) {l : Int} (hd : Der cs V0 l) (hl : l ≠ 0) : tB out l = true := by
  induction hd with
  | base l h0 => exact tB_iff.2 ((h.t.tv l hl).1 (h.mono l hl h0))
  | step c l hc hlc _ ih =>
    have hothers : ∀ x ∈ c, x ≠ l → tB out (-x) = true := fun x hx hn => ih x hx hn (by have := (hcs c hc x hx).1; omega)
    cases e1 : tB out l
    · exfalso
      cases e2 : tB out (-l)
      · have hf := h1 c hc l hlc
        unfold forcesB openB at hf
        rw [e1, e2] at hf
        have : (decide (l ∈ c) && c.all (fun x => decide (x = l) || tB out (-x))) = true := by
          simp only [Bool.and_eq_true, decide_eq_true_eq, List.all_eq_true, Bool.or_eq_true]
          refine ⟨hlc, fun x hx => ?_⟩
          by_cases q : x = l
          · exact .inl q
          · exact .inr (hothers x hx q)
        rw [this] at hf
        cases hf
      · have hb := h2 c hc
        unfold brkB at hb
        have : c.all (fun x => tB out (-x)) = true := by
          simp only [List.all_eq_true]
          intro x hx
          by_cases q : x = l
          · rw [q]; exact e2
          · exact hothers x hx q
        rw [this] at hb
        cases hb
    · rfl
/-- How a run of Propagate ends is as the document says. -/
theorem prop_says {N : Nat} {cs : List (List Int)} {V0 va vo : List Int} {now out : List S48} {n b : Int} (hcs : LitsIn N cs) (ha : DInv N cs V0 va now) (he : Ended n cs va) (ho : DInv N cs V0 vo out)
    (hb : (b = -1 ∧ noForce out cs ∧ noBroken out cs) ∨ ∃ (j : Nat) (c : List Int), b = (j : Int) ∧ cs[j]? = some c ∧ brkB out c = true) :
    (b = -1 ∧ n = -1 ∧ noForce now cs ∧ noBroken now cs) ∨ (0 ≤ b ∧ ∃ (i : Nat) (c : List Int), n = (i : Int) ∧ cs[i]? = some c ∧ brkB now c = true) := by
  rcases hb with ⟨rfl, h1, h2⟩ | ⟨j, c, rfl, hj, hbr⟩
  · refine .inl ⟨rfl, ?_⟩
    rcases he with ⟨rfl, hall⟩ | ⟨i, c, rfl, hi, hs⟩
    · exact ⟨rfl, fine_noForce hcs ha.t hall, fine_noBroken hcs ha.t hall⟩
    · exfalso
      have hcm := List.mem_of_getElem? hi
      have h0 : ∀ x ∈ c, x ≠ 0 := fun x hx => (hcs c hcm x hx).1
      have hbb := h2 c hcm
      have : brkB out c = true := by
        unfold brkB
        simp only [List.all_eq_true]
        intro x hx
        obtain ⟨m, hm, hme⟩ := (ha.t.neg (h0 x hx)).1 (bad_says h0 hs x hx)
        rw [← hme]
        exact fin_T hcs ho h1 h2 (ha.der m hm) (ha.t.rng m hm).1
      rw [this] at hbb; cases hbb
  · refine .inr ⟨by omega, ?_⟩
    rcases he with ⟨rfl, hall⟩ | ⟨i, c', rfl, hi, hs⟩
    · exfalso
      have hcm := List.mem_of_getElem? hj
      have h0 : ∀ x ∈ c, x ≠ 0 := fun x hx => (hcs c hcm x hx).1
      unfold brkB at hbr
      simp only [List.all_eq_true] at hbr
      have hneg : ∀ x ∈ c, valL va x < 0 := fun x hx => by
        obtain ⟨m, hm, hme⟩ := tB_iff.1 (hbr x hx)
        have := fin_true hcs ha.mono hall (ho.der m hm) (ho.t.rng m hm).1
        rw [hme, valL_neg va (h0 x hx)] at this
        omega
      rcases fine_says h0 (hall c hcm) with ⟨x, hx, q⟩ | ⟨x, hx, y, hy, hxy, qx, qy⟩
      · have := hneg x hx; omega
      · exact qx (hneg x hx)
    · exact ⟨i, c', rfl, hi, bad_broken ha.t (fun x hx => (hcs c' (List.mem_of_getElem? hi) x hx).1) hs⟩
/-- What a run of Propagate keeps. -/
structure PInv (n : Int) (cs : List (List Int)) (V0 : List Int) (m0 : List S48) (vals : List Int) (marks : List S48) : Prop where
  d : DInv (n + 1).toNat cs V0 vals marks
  may : MayL n cs marks
  ext : ∃ e, marks = m0 ++ e ∧ ∀ m ∈ e, m.f2 ≠ -1
theorem PInv.step {n : Int} (hn : 0 ≤ n) {cs : List (List Int)} {V0 : List Int} {m0 : List S48} (hcs : LitsIn (n + 1).toNat cs) : Stepping cs (PInv n cs V0 m0) := by
  intro vals marks i c l h hc hs hl
  have hm : c ∈ cs := List.mem_of_getElem? hc
  have hd := DInv.step hcs vals marks i c l h.d hc hs hl
  rcases scanU_says vals c l false (fun x hx => (hcs c hm x hx).1) hs with ⟨_, q, _⟩ | ⟨q, _⟩ | ⟨_, _, hlc, hl0, hall⟩
  · cases q
  · exact absurd q hl
  have hr := hcs c hm l hlc
  obtain ⟨o1, o2⟩ := openB_zero h.d.t hr.1 hl0
  refine ⟨hd, .snoc _ _ h.may ?_, ?_⟩
  · unfold fitsB
    dsimp only
    have e1 : litB n l = true := litB_iff.2 (by omega)
    have e2 : openB marks l = true := by unfold openB; rw [o1, o2]; rfl
    rw [e1, e2, if_neg (by omega)]
    unfold forceB
    dsimp only
    rw [Int.toNat_natCast, hc]
    dsimp only
    have e3 : forcesB marks c l = true := by
      unfold forcesB
      rw [e2]
      simp only [Bool.and_true, Bool.and_eq_true, decide_eq_true_eq, List.all_eq_true, Bool.or_eq_true]
      refine ⟨hlc, fun x hx => ?_⟩
      by_cases q : x = l
      · exact .inl q
      · exact .inr (tB_iff.2 ((h.d.t.neg (hcs c hm x hx).1).1 (hall x hx q)))
    rw [e3, decide_eq_true rfl, decide_eq_true (show (0 : Int) ≤ (i : Int) by omega)]
    rfl
  · obtain ⟨e, he, hne⟩ := h.ext
    refine ⟨e ++ [⟨l, lvl marks, (i : Int)⟩], by rw [he, List.append_assoc], fun m hm => ?_⟩
    rcases List.mem_append.1 hm with q | q
    · exact hne m q
    · rw [List.mem_singleton.1 q]; dsimp only; omega

end Go.Proofs.Ytegaaobiedfjcaa.PU
