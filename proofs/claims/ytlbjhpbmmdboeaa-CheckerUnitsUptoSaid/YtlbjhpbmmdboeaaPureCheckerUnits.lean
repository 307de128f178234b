import Derived.Test.YtlbjhpbmmdboeaaQUnits2
import Derived.Test.YtlbjhpbmmdboeaaHRow
namespace Go.Proofs.Ytlbjhpbmmdboeaa.Pure
open Go.RowKit Go.Proofs.Ytlbjhpbmmdboeaa.PC Go.Proofs.YtlbjhpbmmdboeaaW.PrintWords Go.Proofs.YtlbjhpbmmdboeaaW.PrintLast

theorem CheckerUnits : ∀ (l0 : List (List Int)) (l1 : List Int), (((l0.map (fun l => (l.map (fun _ => 1)).sum + 1)).sum) + 1) + (((l1.map (fun _ => 1)).sum) + 1) ≤ 1048576 → (∀ x ∈ l0, (fun l => ∀ x ∈ l, (fun x => (Lit.int .i64 x).wf = true) x) x) → (∀ x ∈ l1, (fun x => (Lit.int .i64 x).wf = true) x) → ∃ k, fulcrumlaw25_CheckerUnits.f k l0 l1 = some true := by
  intro l0 l1 hb h0 h1
  have F := fits_of (l := l0) (c := l1) (by omega) h0 h1
  obtain ⟨r, e1, e2⟩ := units_both F
  refine Ev.rounds (g := fun k => fulcrumlaw25_CheckerUnits.f k l0 l1) ?_
  unfold fulcrumlaw25_CheckerUnits.f
  refine Ev.bind lives_all ?_
  simp only [if_true]
  refine Ev.bind (clauses_all l0 F.n F.d) (Ev.bind (ints_all l1 (by have := F.cn; omega)) (Ev.bind e1 (Ev.bind e2 ?_)))
  simpa using Ev.now true

end Go.Proofs.Ytlbjhpbmmdboeaa.Pure
