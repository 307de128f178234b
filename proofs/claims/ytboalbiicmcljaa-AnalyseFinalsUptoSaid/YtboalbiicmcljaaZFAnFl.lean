import Derived.Test.YtboalbiicmcljaaZFAnFn
import Derived.Test.YtboalbiicmcljaaZFPANx25
namespace Go.Proofs.Ytboalbiicmcljaa.PAN
open Go.RowKit Go.Proofs.YtboalbiicmcljaaW.PrintWords Go.Proofs.YtboalbiicmcljaaW.PrintLast Go.Proofs.YtboalbiicmcljaaW.PrintMore Go.Proofs.YtboalbiicmcljaaH
set_option linter.unusedVariables false
set_option linter.unusedSimpArgs false
theorem finals_all {cs : List (List Int)} {ms : List Mk} (hW : Wf cs ms) (hm : ms.length ≤ 524288) (lit : Int) (hl : w64 lit) : Ev (fun k => fulcrumlaw21_AnalyseFinals.f k cs ms lit) true := by
  have hcond : (wfB cs ms && decide (w64 lit)) = true := by rw [wfB_of hW, decide_eq_true hl]; rfl
  refine Ev.bind (twin_all cs hW.lc hW.lcl) (Ev.bind (marks_all ms hW.lm) ?_)
  unfold analyse_Final.f
  simp only [hcond, if_true, Option.bind_some]
  refine Ev.bind (Final_all hW hm lit) (Ev.bind lives_all ?_)
  simp only [if_true]
  have := finalP_len (cs := cs) (ms := ms) lit
  exact Ev.bind (same_all _ (by omega)) (Ev.now true)
theorem finals_walk (A0 : Option Addr) (c0 : Nat) (l0 : List (List Int)) (A1 : Option Addr) (c1 : Nat) (l1 : List (S49)) (a1 : Int) (w : World) (hr0 : Kd.C (Kd.slice 3 (Kd.int .i64)) w A0 l0.length l0) (hc0 : l0.length ≤ c0) (hr1 : Kd.C k49 w A1 l1.length l1) (hc1 : l1.length ≤ c1) (h : Wf l0 l1) (hm : l1.length ≤ 524288) (hl : w64 a1) :
    Calls Try.prog 7 #[.agg #[.slice A0 l0.length c0, .slice A1 l1.length c1], .int .i64 a1] w fun e w' => e = .returned (.bool true) ∧ Below w.heap.size w w' := by
  obtain ⟨k, hk⟩ := (finals_all h hm a1 hl).rounds
  exact fulcrumlaw21_AnalyseFinals.calls k A0 c0 l0 A1 c1 l1 a1 true w hr0 hc0 hr1 hc1 hk
end Go.Proofs.Ytboalbiicmcljaa.PAN
