import Derived.Test.YtboalbiicmcljaaZTPANx0
import Derived.Test.YtboalbiicmcljaaZTAnR
namespace Go.Proofs.Ytboalbiicmcljaa.PAN
open Go.Proofs.YtboalbiicmcljaaH
open Go.RowKit Go.Proofs.YtboalbiicmcljaaW.PrintWords Go.Proofs.YtboalbiicmcljaaW.PrintLast Go.Proofs.YtboalbiicmcljaaW.PrintMore
attribute [local go_sem] max2_int min2_int max_two min_two max_three min_three max_four min_four   -- for this text's walks alone
set_option linter.unusedVariables false
set_option linter.unusedSimpArgs false
open Go.Proofs.YtboalbiicmcljaaH
def noTwoB (s : List Int) : Bool := s.all fun x => s.all fun y => atomI x != atomI y || x == y
theorem noTwo_of {s : List Int} (h : noTwoB s = true) : NoTwo s := by
 intro x hx y hy e
 unfold noTwoB at h
 have := List.all_eq_true.1 (List.all_eq_true.1 h x hx) y hy
 rw [e] at this
 simpa using this
def analyse_Replay.f (l0 : List (List Int)) (l1 : List Int) : Option (List Int × Int) :=
 if ((l0.all fun c => litsW c && decide (c.length ≤ 4194304)) && decide (l1.length ≤ 1099511627776) && !l1.isEmpty) = true then (repL l0 true [] l1).bind fun s => if (noTwoB s && !s.isEmpty && decide (s.length ≤ 4194304)) = true then some (sortA s, 0) else none else none
theorem analyse_Replay.calls (A0 : Option Addr) (c0 : Nat) (l0 : List (List Int)) (A1 : Option Addr) (c1 : Nat) (l1 : List Int) (r1 : List Int) (r2 : Int) (w : World) (hr0 : Kd.C (Kd.slice 3 (Kd.int .i64)) w A0 l0.length l0) (hc0 : l0.length ≤ c0) (hr1 : Kd.C (Kd.int .i64) w A1 l1.length l1) (hc1 : l1.length ≤ c1) (h : analyse_Replay.f l0 l1 = some (r1, r2)) :
  Calls Try.prog 33 #[.slice A0 l0.length c0, .slice A1 l1.length c1] w fun e w' => ∃ v0_ : Value, e = .returned (.tuple #[v0_, .int .i64 r2]) ∧ Kd.R (Kd.int .i64) 3 w' w.heap.size (fun _ => True) v0_ r1 ∧ Below w.heap.size w w' := by
 unfold analyse_Replay.f at h
 cases hw : (l0.all fun c => litsW c && decide (c.length ≤ 4194304)) && decide (l1.length ≤ 1099511627776) && !l1.isEmpty with
 | false => rw [hw] at h; simp at h
 | true =>
  rw [hw, if_pos rfl] at h
  cases hrun : repL l0 true [] l1 with
  | none => rw [hrun] at h; simp at h
  | some s =>
   rw [hrun, Option.bind_some] at h
   cases hs : noTwoB s && !s.isEmpty && decide (s.length ≤ 4194304) with
   | false => rw [hs] at h; simp at h
   | true =>
    rw [hs, if_pos rfl] at h
    injection h with h
    injection h with h1 h2
    subst h1 h2
    simp only [Bool.and_eq_true, decide_eq_true_eq, Bool.not_eq_true', List.isEmpty_eq_false_iff] at hw hs
    refine an_replay A0 c0 l0 A1 c1 l1 w hr0 hr1 (fun c hc x hx => ?_) (fun c hc => ?_) hw.1.2 s hrun hw.2 (noTwo_of hs.1.1) hs.1.2 hs.2
    ·have := List.all_eq_true.1 hw.1.1 c hc
     simp only [Bool.and_eq_true] at this
     unfold litsW at this
     exact of_decide_eq_true (List.all_eq_true.1 this.1 x hx)
    ·have := List.all_eq_true.1 hw.1.1 c hc
     simp only [Bool.and_eq_true, decide_eq_true_eq] at this
     exact this.2
end Go.Proofs.Ytboalbiicmcljaa.PAN
