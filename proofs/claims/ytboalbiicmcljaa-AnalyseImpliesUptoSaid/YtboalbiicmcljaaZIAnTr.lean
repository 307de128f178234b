import Derived.Test.YtboalbiicmcljaaZIAnA
import Derived.Test.YtboalbiicmcljaaZIPANx25
import Derived.Test.YtboalbiicmcljaaZIPANx26
namespace Go.Proofs.Ytboalbiicmcljaa.PAN
open Go.RowKit Go.Proofs.YtboalbiicmcljaaW.PrintWords Go.Proofs.YtboalbiicmcljaaW.PrintLast Go.Proofs.YtboalbiicmcljaaW.PrintMore Go.Proofs.YtboalbiicmcljaaH
set_option linter.unusedVariables false
set_option linter.unusedSimpArgs false
def truthB (ats : List Int) (l : Int) : Bool := if l = -9223372036854775808 then false else if l = 0 then false else (ats.contains (if l < 0 then -l else l)) == decide (l > 0)
def clauseB (ats c : List Int) : Bool := c.any (truthB ats)
theorem truth_neg {ats : List Int} {l : Int} (hl : litB l = true) (hw : w64 l) : truthB ats (-l) = !truthB ats l := by
  rw [litB_iff] at hl
  rw [w64_iff] at hw
  unfold truthB
  rw [if_neg (by omega), if_neg (by omega), if_neg hl.2, if_neg hl.1]
  by_cases h : l < 0
  · rw [if_neg (by omega), if_pos h, decide_eq_true (show -l > 0 by omega), decide_eq_false (show ¬ l > 0 by omega)]
    cases ats.contains (-l) <;> rfl
  · rw [if_pos (by omega), if_neg h, Int.neg_neg, decide_eq_false (show ¬ -l > 0 by omega), decide_eq_true (show l > 0 by omega)]
    cases ats.contains l <;> rfl
theorem truthL_ev (ats : List Int) (hn : ats.length ≤ 4194304) (x a : Int) : ∀ d i : Nat, i + d = ats.length → Ev (fun k => fulcrumlaw21_truth.l0 k ats x a ((ats.take i).contains a) (i : Int)) (ats.contains a == decide (x > 0)) := by
  intro d
  induction d with
  | zero =>
    intro i h
    rw [List.take_of_length_le (by omega)]
    refine Ev.step (f := fun _ => some (ats.contains a == decide (x > 0))) (fun k => ?_) (Ev.now _)
    simp only [fulcrumlaw21_truth.l0]; rw [if_neg (by omega)]
  | succ d ih =>
    intro i h
    have hlt : i < ats.length := by omega
    have hw := wrapI hlt (by omega)
    have h1 := ih (i + 1) (by omega)
    rw [take_rd hlt] at h1
    cases hc : (ats.take i).contains a with
    | true =>
      have e : (ats.take i ++ [rd ats (i : Int)]).contains a = true := by
        rw [List.contains_iff_mem] at hc ⊢
        exact List.mem_append_left _ hc
      rw [e] at h1
      refine Ev.step (fun k => ?_) h1
      simp only [fulcrumlaw21_truth.l0, if_true]; rw [if_pos (by omega), hw]
    | false =>
      have e : (ats.take i ++ [rd ats (i : Int)]).contains a = (rd ats (i : Int) == a) := by
        have h2 : a ∉ ats.take i := fun q => by rw [List.contains_iff_mem.2 q] at hc; cases hc
        rw [Bool.eq_iff_iff, List.contains_iff_mem, List.mem_append, List.mem_singleton, beq_iff_eq]
        exact ⟨fun q => (q.resolve_left h2).symm, fun q => .inr q.symm⟩
      rw [e] at h1
      refine Ev.step (fun k => ?_) h1
      simp only [fulcrumlaw21_truth.l0, Bool.false_eq_true, if_false]; rw [if_pos (by omega), if_pos (by omega), hw]
theorem truth_all (ats : List Int) (hn : ats.length ≤ 4194304) (x : Int) (hx : w64 x) : Ev (fun k => fulcrumlaw21_truth.f k ats x) (truthB ats x) := by
  have hL := fun a => truthL_ev ats hn x a ats.length 0 (by omega)
  rw [w64_iff] at hx
  unfold fulcrumlaw21_truth.f truthB
  by_cases h0 : x = -9223372036854775808
  · rw [if_pos h0]
    refine Ev.congr (fun k => if_pos (by omega)) ?_
    refine Ev.step (f := fun _ => some false) (fun k => ?_) (Ev.now _)
    simp only [fulcrumlaw21_truth.j0]; rw [if_pos (by unfold wrap64; omega)]
  · rw [if_neg h0]
    by_cases h1 : x = 0
    · rw [if_pos h1]
      refine Ev.congr (fun k => if_neg (by omega)) ?_
      refine Ev.step (f := fun _ => some false) (fun k => ?_) (Ev.now _)
      simp only [fulcrumlaw21_truth.j0]; rw [if_pos (by omega)]
    · rw [if_neg h1]
      by_cases h2 : x < 0
      · rw [if_pos h2]
        refine Ev.congr (fun k => if_pos h2) ?_
        refine Ev.step (fun k => ?_) (hL (-x))
        have : wrap64 (-x) = -x := by unfold wrap64; omega
        simp only [fulcrumlaw21_truth.j0]; rw [this, if_neg (by omega)]; rfl
      · rw [if_neg h2]
        refine Ev.congr (fun k => if_neg h2) ?_
        refine Ev.step (fun k => ?_) (hL x)
        simp only [fulcrumlaw21_truth.j0]; rw [if_neg (by omega)]; rfl
theorem clause_ev (ats : List Int) (hn : ats.length ≤ 4194304) (c : List Int) (hc : c.length ≤ 4194304) (hw : ∀ x ∈ c, w64 x) : ∀ d i : Nat, i + d = c.length → Ev (fun k => fulcrumlaw21_clause.l0 k ats c (i : Int)) ((c.drop i).any (truthB ats)) := by
  intro d
  induction d with
  | zero =>
    intro i h
    rw [List.drop_eq_nil_of_le (by omega)]
    refine Ev.step (f := fun _ => some false) (fun k => ?_) (Ev.now _)
    simp only [fulcrumlaw21_clause.l0]; rw [if_neg (by omega)]
  | succ d ih =>
    intro i h
    have hlt : i < c.length := by omega
    have hwr := wrapI hlt (by omega)
    have hxw := hw _ (rdm hlt)
    rw [rdi_drop hlt, List.any_cons]
    refine Ev.step (f := fun k => (fulcrumlaw21_truth.f k ats (rd c (i : Int))).bind fun t => if t = true then some true else fulcrumlaw21_clause.l0 k ats c ((i + 1 : Nat) : Int)) (fun k => ?_) (Ev.bind (truth_all ats hn _ hxw) ?_)
    · simp only [fulcrumlaw21_clause.l0]; rw [if_pos (by omega), if_pos (by omega), hwr]
    · cases truthB ats (rd c (i : Int)) with
      | true => simp only [if_true, Bool.true_or]; exact Ev.now _
      | false => simp only [Bool.false_eq_true, if_false, Bool.false_or]; exact ih (i + 1) (by omega)
theorem clause_all (ats : List Int) (hn : ats.length ≤ 4194304) (c : List Int) (hc : c.length ≤ 4194304) (hw : ∀ x ∈ c, w64 x) : Ev (fun k => fulcrumlaw21_clause.f k ats c) (clauseB ats c) := clause_ev ats hn c hc hw c.length 0 (by omega)
end Go.Proofs.Ytboalbiicmcljaa.PAN
