import Derived.Test.YtlbjhpbmmdboeaaQUnits3
import Derived.Test.YtlbjhpbmmdboeaaHRow
namespace Go.Proofs.Ytlbjhpbmmdboeaa.Pure
open Go.RowKit Go.Proofs.Ytlbjhpbmmdboeaa.PC Go.Proofs.YtlbjhpbmmdboeaaW.PrintWords Go.Proofs.YtlbjhpbmmdboeaaW.PrintLast

theorem more_ev (l m : List (List Int)) (c : List Int) (Fl : Fits (m ++ l) c) (Fs : Fits l c) (hl : litsB c = true) (k0 : Nat) (h0 : checker_Units.f k0 l c = some true) (F2 : Fits l (c ++ [7, -9])) :
    ∀ d i : Nat, i + d = l.length → Ev (fun k => fulcrumlaw25_CheckerMore.l0 k l c (m ++ l.take i) (i : Int)) true := by
  intro d
  have hcn := Fl.cn
  have hn := Fl.n
  rw [List.length_append] at hn
  induction d with
  | zero =>
    intro i h
    rw [List.take_of_length_le (by omega)]
    have hl2 : litsB (c ++ [7, -9]) = true := by
      unfold litsB at hl ⊢
      simp only [List.mem_append] at *
      simp at *
      exact hl
    have u1 := units_more Fl hl (l' := l) (fun d hd => List.mem_append_right _ hd) (fun x hx => hx) h0
    have u2 := units_more F2 hl2 (l' := l) (fun d hd => hd) (fun x hx => List.mem_append_left _ hx) h0
    refine Ev.step (f := fun k => (fulcrumlaw25_ints.f k c).bind fun t205 => ((some (([7, (-9)] : List Int) : List Int)).bind fun y208 => (if t205.length + y208.length < 17592186044416 then ((fulcrumlaw25_ints.f k c).bind fun t214 => ((checker_Units.f k (m ++ l) t214).bind fun t217 => (if t217 = true then ((fulcrumlaw25_clauses.f k l).bind fun t218 => ((checker_Units.f k t218 (t205 ++ y208)).bind fun t221 => (some t221))) else (some false)))) else (none)))) (fun k => ?_) ?_
    · simp only [fulcrumlaw25_CheckerMore.l0]; rw [if_neg (by omega)]
    · refine Ev.bind (ints_all c (by omega)) (Ev.bind (Ev.now _) ?_)
      simp only [List.length_cons, List.length_nil, show c.length + (0 + 1 + 1) < 17592186044416 by omega, if_true]
      refine Ev.bind (ints_all c (by omega)) (Ev.bind u1 ?_)
      simp only [if_true]
      exact Ev.bind (clauses_all l Fs.n Fs.d) (Ev.bind u2 (Ev.now true))
  | succ d ih =>
    intro i h
    have hlt : i < l.length := by omega
    refine Ev.step (f := fun k => (fulcrumlaw25_ints.f k (rd_L1 l (i : Int))).bind fun t => fulcrumlaw25_CheckerMore.l0 k l c ((m ++ l.take i) ++ [t]) ((i + 1 : Nat) : Int)) (fun k => ?_) ?_
    · simp only [fulcrumlaw25_CheckerMore.l0]
      rw [if_pos (by omega), if_pos (by omega), wrapS hlt (by omega)]
      simp only [show (m ++ l.take i).length < 5864062014805 by rw [List.length_append, List.length_take]; omega, if_true]
    · refine Ev.bind (ints_all _ (Fs.d _ (rd1_mem hlt))) ?_
      have e : m ++ l.take i ++ [rd_L1 l (i : Int)] = m ++ l.take (i + 1) := by
        rw [List.take_succ_eq_append_getElem hlt, List.append_assoc]
        simp [rd_L1, List.getD_eq_getElem?_getD, List.getElem?_eq_getElem hlt]
      rw [e]
      exact ih (i + 1) (by omega)

theorem CheckerMore : ∀ (l0 : List (List Int)) (l1 : List (List Int)) (l2 : List Int), (((l0.map (fun l => (l.map (fun _ => 1)).sum + 1)).sum) + 1) + (((l1.map (fun l => (l.map (fun _ => 1)).sum + 1)).sum) + 1) + (((l2.map (fun _ => 1)).sum) + 1) ≤ 1048576 → (∀ x ∈ l0, (fun l => ∀ x ∈ l, (fun x => (Lit.int .i64 x).wf = true) x) x) → (∀ x ∈ l1, (fun l => ∀ x ∈ l, (fun x => (Lit.int .i64 x).wf = true) x) x) → (∀ x ∈ l2, (fun x => (Lit.int .i64 x).wf = true) x) → ∃ k, fulcrumlaw25_CheckerMore.f k l0 l1 l2 = some true := by
  intro l0 l1 l2 hb h0 h1 h2
  have hb' : (((l1 ++ l0).map (fun l => (l.map (fun _ => 1)).sum + 1)).sum) + (l2.map (fun _ => 1)).sum ≤ 1048576 := by
    rw [List.map_append, List.sum_append]; omega
  have F := fits_of (l := l0) (c := l2) (by omega) h0 h2
  have F1 := fits_of (l := l1) (c := l2) (by omega) h1 h2
  have FF := fits_of (l := l1 ++ l0) (c := l2) hb' (fun x hx => (List.mem_append.1 hx).elim (h1 x) (h0 x)) h2
  have F2 : Fits l0 (l2 ++ [7, -9]) := by
    have h3 : (l2.map (fun _ => 1)).sum ≤ 1048576 := by omega
    rw [sum_one] at h3
    refine ⟨F.n, F.d, F.w, by rw [List.length_append]; simp; omega, ?_, F.t⟩
    unfold wfL
    rw [List.all_append]
    have := F.cw
    unfold wfL at this
    rw [this]
    decide
  obtain ⟨r, e1, e2⟩ := units_both F
  refine Ev.rounds (g := fun k => fulcrumlaw25_CheckerMore.f k l0 l1 l2) ?_
  unfold fulcrumlaw25_CheckerMore.f
  refine Ev.bind lives_all ?_
  simp only [if_true]
  refine Ev.bind (clauses_all l0 F.n F.d) (Ev.bind (ints_all l2 (by have := F.cn; omega)) (Ev.bind e1 ?_))
  cases r with
  | false => simpa using Ev.now true
  | true =>
    simp only [if_true]
    obtain ⟨k, hk⟩ := Ev.rounds e1
    refine Ev.bind (clauses_all l1 F1.n F1.d) ?_
    have := more_ev l0 l1 l2 FF F (units_lits hk) k hk F2 l0.length 0 (by omega)
    simpa using this

end Go.Proofs.Ytlbjhpbmmdboeaa.Pure
