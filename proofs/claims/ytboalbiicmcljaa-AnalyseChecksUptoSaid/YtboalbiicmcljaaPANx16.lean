-- written by hprint.py (the session's wrapper round the kit's print), hooks by hand
import Derived.Test.YtboalbiicmcljaaPANx0
import Derived.Test.YtboalbiicmcljaaAn8
namespace Go.Proofs.Ytboalbiicmcljaa.PAN
open Go.RowKit Go.Proofs.YtboalbiicmcljaaW.PrintWords Go.Proofs.YtboalbiicmcljaaW.PrintLast Go.Proofs.YtboalbiicmcljaaW.PrintMore
attribute [local go_sem] max2_int min2_int max_two min_two max_three min_three max_four min_four   -- for this text's walks alone
set_option linter.unusedVariables false
set_option linter.unusedSimpArgs false

-- HOOK analyse_Check
open Go.Proofs.YtboalbiicmcljaaH
/-! ### analyse_Check: function 20 -/
/-! ### Check and First, in the print's form -/
def analyse_Check.f (l0 : List (List Int)) (l1 : List (S49)) : Option Int := if wfB l0 l1 = true then some (if validB l0 [] l1 = true then 0 else 200) else none
set_option maxHeartbeats 4000000 in
theorem analyse_Check.calls (A0 : Option Addr) (c0 : Nat) (l0 : List (List Int)) (A1 : Option Addr) (c1 : Nat) (l1 : List (S49)) (r : Int) (w : World) (hr0 : Kd.C (Kd.slice 3 (Kd.int .i64)) w A0 l0.length l0) (hc0 : l0.length ≤ c0) (hr1 : Kd.C k49 w A1 l1.length l1) (hc1 : l1.length ≤ c1) (h : analyse_Check.f l0 l1 = some r) :
  Calls Try.prog 20 #[.slice A0 l0.length c0, .slice A1 l1.length c1] w fun e w' => e = .returned (.int .i64 r) ∧ Below w.heap.size w w' := by
 unfold analyse_Check.f at h
 cases hw : wfB l0 l1 with
 | false => rw [hw] at h; simp at h
 | true =>
  rw [hw, if_pos rfl] at h
  injection h with h
  have HW := Aside0.mk (wfB_iff hw)
  have HR0 := Aside0.mk hr0
  have HR1 := Aside0.mk hr1
  have HC0 := Aside0.mk hc0
  have HC1 := Aside0.mk hc1
  clear hr0 hr1 hc0 hc1 hw
  subst h
  cases hv : validB l0 [] l1 with
  | false =>
   have HV := Aside0.mk hv
   clear hv
   go_enter Try.func20, Try.ntmps20
   go_wp2_with (first | (go_at_call 36; refine (load_no A0 c0 l0 A1 c1 l1 _ HR0.out HC0.out HR1.out HC1.out HW.out HV.out).mono ?_; rintro e w2 ⟨rfl, hb2⟩; have HB2 := Aside0.mk hb2; clear hb2))
   go_ret
   exact ⟨rfl, HB2.out⟩
  | true =>
   have HV := Aside0.mk hv
   clear hv
   go_enter Try.func20, Try.ntmps20
   go_wp2_with (first | (go_at_call 36; refine (load_yes A0 c0 l0 A1 c1 l1 _ HR0.out HC0.out HR1.out HC1.out HW.out HV.out).mono ?_; rintro e w2 ⟨tb, rfl, ht2, hb2⟩; have HB2 := Aside0.mk hb2; clear hb2))
   go_ret
   exact ⟨rfl, HB2.out⟩

end Go.Proofs.Ytboalbiicmcljaa.PAN
