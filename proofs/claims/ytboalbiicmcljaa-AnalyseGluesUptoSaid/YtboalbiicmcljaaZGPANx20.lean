import Derived.Test.YtboalbiicmcljaaZGPANx0
import Derived.Test.YtboalbiicmcljaaZGAnG
namespace Go.Proofs.Ytboalbiicmcljaa.PAN
open Go.Proofs.YtboalbiicmcljaaH
open Go.RowKit Go.Proofs.YtboalbiicmcljaaW.PrintWords Go.Proofs.YtboalbiicmcljaaW.PrintLast Go.Proofs.YtboalbiicmcljaaW.PrintMore
attribute [local go_sem] max2_int min2_int max_two min_two max_three min_three max_four min_four   -- for this text's walks alone
set_option linter.unusedVariables false
set_option linter.unusedSimpArgs false
open Go.Proofs.YtboalbiicmcljaaH
def analyse_Glue.f (l0 : List (S49)) (l1 : List Int) : Option (Int × Int) := if (wfB [] l0 && litsW l1 && decide (l1.length ≤ 4194304)) = true then some (glueP l0 l1 []) else none
theorem analyse_Glue.calls (A0 : Option Addr) (c0 : Nat) (l0 : List (S49)) (A1 : Option Addr) (c1 : Nat) (l1 : List Int) (r1 : Int) (r2 : Int) (w : World) (hr0 : Kd.C k49 w A0 l0.length l0) (hc0 : l0.length ≤ c0) (hr1 : Kd.C (Kd.int .i64) w A1 l1.length l1) (hc1 : l1.length ≤ c1) (h : analyse_Glue.f l0 l1 = some (r1, r2)) :
  Calls Try.prog 22 #[.slice A0 l0.length c0, .slice A1 l1.length c1] w fun e w' => e = .returned (.tuple #[.int .i64 r1, .int .i64 r2]) ∧ Below w.heap.size w w' := by
 unfold analyse_Glue.f at h
 cases hw : wfB [] l0 && litsW l1 && decide (l1.length ≤ 4194304) with
 | false => rw [hw] at h; simp at h
 | true =>
  rw [hw, if_pos rfl] at h
  injection h with h
  simp only [Bool.and_eq_true, decide_eq_true_eq] at hw
  obtain ⟨⟨h1, h2⟩, h3⟩ := hw
  have hW := wfB_iff h1
  have hx := an_glue A0 c0 l0 A1 c1 l1 w hr0 hr1 (fun m hm => ⟨(hW.m m hm).1, (hW.m m hm).2.1⟩) (fun x hx => by unfold litsW at h2; exact of_decide_eq_true (List.all_eq_true.1 h2 x hx)) hW.lm h3
  rw [h] at hx
  exact hx
end Go.Proofs.Ytboalbiicmcljaa.PAN
