import Derived.Test.YtboalbiicmcljaaZTPANx0
import Derived.Test.YtboalbiicmcljaaZTAnM
namespace Go.Proofs.Ytboalbiicmcljaa.PAN
open Go.Proofs.YtboalbiicmcljaaH
open Go.RowKit Go.Proofs.YtboalbiicmcljaaW.PrintWords Go.Proofs.YtboalbiicmcljaaW.PrintLast Go.Proofs.YtboalbiicmcljaaW.PrintMore
attribute [local go_sem] max2_int min2_int max_two min_two max_three min_three max_four min_four   -- for this text's walks alone
set_option linter.unusedVariables false
set_option linter.unusedSimpArgs false
open Go.Proofs.YtboalbiicmcljaaH
def analyse_Less.f (l0 : List (List Int)) (l1 : List (S49)) (l2_0 : List Int) (a2_1 : Int) (l2_2 : List Int) : Option (List Int × Int × List Int × Int) := if (wfB l0 l1 && decide (l1.length ≤ 524288) && litsW l2_0 && decide (l2_2.length ≤ 1099511627776)) = true then some (lessP l0 l1 l2_0 l2_2) else none
theorem analyse_Less.calls (A0 : Option Addr) (c0 : Nat) (l0 : List (List Int)) (A1 : Option Addr) (c1 : Nat) (l1 : List (S49)) (A2_0 : Option Addr) (c2_0 : Nat) (l2_0 : List Int) (a2_1 : Int) (A2_2 : Option Addr) (c2_2 : Nat) (l2_2 : List Int) (r1 : List Int) (r2 : Int) (r3 : List Int) (r4 : Int) (w : World) (hr0 : Kd.C (Kd.slice 3 (Kd.int .i64)) w A0 l0.length l0) (hc0 : l0.length ≤ c0) (hr1 : Kd.C k49 w A1 l1.length l1) (hc1 : l1.length ≤ c1) (hr2_0 : Kd.C (Kd.int .i64) w A2_0 l2_0.length l2_0) (hc2_0 : l2_0.length ≤ c2_0) (hr2_2 : Kd.C (Kd.int .i64) w A2_2 l2_2.length l2_2) (hc2_2 : l2_2.length ≤ c2_2) (h : analyse_Less.f l0 l1 l2_0 a2_1 l2_2 = some (r1, r2, r3, r4)) :
  Calls Try.prog 30 #[.slice A0 l0.length c0, .slice A1 l1.length c1, .agg #[.slice A2_0 l2_0.length c2_0, .int .i64 a2_1, .slice A2_2 l2_2.length c2_2]] w fun e w' => ∃ v0_ v2_ : Value, e = .returned (.tuple #[.agg #[v0_, .int .i64 r2, v2_], .int .i64 r4]) ∧ Kd.R (Kd.int .i64) 3 w' w.heap.size (fun k_ => some k_ ≠ (v2_ : Value).ownBlock) v0_ r1 ∧ Kd.R (Kd.int .i64) 3 w' w.heap.size (fun k_ => some k_ ≠ (v0_ : Value).ownBlock) v2_ r3 ∧ Below w.heap.size w w' := by
 unfold analyse_Less.f at h
 cases hw : wfB l0 l1 && decide (l1.length ≤ 524288) && litsW l2_0 && decide (l2_2.length ≤ 1099511627776) with
 | false => rw [hw] at h; simp at h
 | true =>
  rw [hw, if_pos rfl] at h
  injection h with h
  simp only [Bool.and_eq_true, decide_eq_true_eq] at hw
  obtain ⟨⟨⟨h1, h2⟩, h3⟩, h4⟩ := hw
  have hx := an_less A0 c0 l0 A1 c1 l1 A2_0 c2_0 l2_0 a2_1 A2_2 c2_2 l2_2 w hr0 hc0 hr1 hc1 hr2_0 hc2_0 hr2_2 hc2_2 (wfB_iff h1) h2 (fun x hx => by unfold litsW at h3; exact of_decide_eq_true (List.all_eq_true.1 h3 x hx)) h4
  rw [h] at hx
  exact hx
end Go.Proofs.Ytboalbiicmcljaa.PAN
