import Derived.Test.YtboalbiicmcljaaAnA
import Derived.Test.YtboalbiicmcljaaPANx17
namespace Go.Proofs.Ytboalbiicmcljaa.PAN
open Go.RowKit Go.Proofs.YtboalbiicmcljaaW.PrintWords Go.Proofs.YtboalbiicmcljaaW.PrintLast Go.Proofs.YtboalbiicmcljaaW.PrintMore Go.Proofs.YtboalbiicmcljaaH
set_option linter.unusedVariables false
set_option linter.unusedSimpArgs false
/-! ### Check's law -/
theorem checks_all {cs : List (List Int)} {ms : List Mk} (h : Wf cs ms) : Ev (fun k => fulcrumlaw21_AnalyseChecks.f k cs ms) true := by
  refine Ev.bind lives_all ?_
  simp only [if_true]
  refine Ev.bind (twin_all cs h.lc h.lcl) (Ev.bind (marks_all ms h.lm) ?_)
  unfold analyse_Check.f
  rw [wfB_of h, if_pos rfl]
  simp only [Option.bind_some]
  refine Ev.bind (Check_all cs ms h) ?_
  simpa using Ev.now true
theorem checks_walk (A0 : Option Addr) (c0 : Nat) (l0 : List (List Int)) (A1 : Option Addr) (c1 : Nat) (l1 : List (S49)) (w : World) (hr0 : Kd.C (Kd.slice 3 (Kd.int .i64)) w A0 l0.length l0) (hc0 : l0.length ≤ c0) (hr1 : Kd.C k49 w A1 l1.length l1) (hc1 : l1.length ≤ c1) (h : Wf l0 l1) :
    Calls Try.prog 5 #[.agg #[.slice A0 l0.length c0, .slice A1 l1.length c1]] w fun e w' => e = .returned (.bool true) ∧ Below w.heap.size w w' := by
  obtain ⟨k, hk⟩ := (checks_all h).rounds
  exact fulcrumlaw21_AnalyseChecks.calls k A0 c0 l0 A1 c1 l1 true w hr0 hc0 hr1 hc1 hk

end Go.Proofs.Ytboalbiicmcljaa.PAN
