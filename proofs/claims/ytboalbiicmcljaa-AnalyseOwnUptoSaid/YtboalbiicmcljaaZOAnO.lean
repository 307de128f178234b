import Derived.Test.YtboalbiicmcljaaZOPANx0
import Derived.Test.YtboalbiicmcljaaZOAnM
import Derived.Test.YtboalbiicmcljaaZOPANx10
import Derived.Test.YtboalbiicmcljaaZOPANx9
import Derived.Test.YtboalbiicmcljaaZOPANx16
import Derived.Test.YtboalbiicmcljaaZOPANx33
import Derived.Test.YtboalbiicmcljaaZOAnN
section --
namespace Go.Proofs.Ytboalbiicmcljaa.PAN
open Go.Proofs.YtboalbiicmcljaaH
open Go.RowKit Go.Proofs.YtboalbiicmcljaaW.PrintWords Go.Proofs.YtboalbiicmcljaaW.PrintLast Go.Proofs.YtboalbiicmcljaaW.PrintMore
attribute [local go_sem] max2_int min2_int max_two min_two max_three min_three max_four min_four   -- for this text's walks alone
set_option linter.unusedVariables false
set_option linter.unusedSimpArgs false
open Go.Proofs.YtboalbiicmcljaaH
def analyse_Less.f (l0 : List (List Int)) (l1 : List (S49)) (l2_0 : List Int) (a2_1 : Int) (l2_2 : List Int) : Option (List Int × Int × List Int × Int) := if (wfB l0 l1 && decide (l1.length ≤ 524288) && litsW l2_0 && decide (l2_2.length ≤ 1099511627776)) = true then some (lessP l0 l1 l2_0 l2_2) else none
theorem analyse_Less.calls (A0 : Option Addr) (c0 : Nat) (l0 : List (List Int)) (A1 : Option Addr) (c1 : Nat) (l1 : List (S49)) (A2_0 : Option Addr) (c2_0 : Nat) (l2_0 : List Int) (a2_1 : Int) (A2_2 : Option Addr) (c2_2 : Nat) (l2_2 : List Int) (r1 : List Int) (r2 : Int) (r3 : List Int) (r4 : Int) (w : World) (hr0 : Kd.C (Kd.slice 3 (Kd.int .i64)) w A0 l0.length l0) (hc0 : l0.length ≤ c0) (hr1 : Kd.C k49 w A1 l1.length l1) (hc1 : l1.length ≤ c1) (hr2_0 : Kd.C (Kd.int .i64) w A2_0 l2_0.length l2_0) (hc2_0 : l2_0.length ≤ c2_0) (hr2_2 : Kd.C (Kd.int .i64) w A2_2 l2_2.length l2_2) (hc2_2 : l2_2.length ≤ c2_2) (h : analyse_Less.f l0 l1 l2_0 a2_1 l2_2 = some (r1, r2, r3, r4)) :
  Calls Try.prog 30 #[.slice A0 l0.length c0, .slice A1 l1.length c1, .agg #[.slice A2_0 l2_0.length c2_0, .int .i64 a2_1, .slice A2_2 l2_2.length c2_2]] w fun e w' => ∃ v0_ v2_ : Value, e = .returned (.tuple #[.agg #[v0_, .int .i64 r2, v2_], .int .i64 r4]) ∧ Kd.R (Kd.int .i64) 3 w' w.heap.size (fun k_ => some k_ ≠ (v2_ : Value).ownBlock) v0_ r1 ∧ Kd.R (Kd.int .i64) 3 w' w.heap.size (fun k_ => some k_ ≠ (v0_ : Value).ownBlock) v2_ r3 ∧ Below w.heap.size w w' := by
 unfold analyse_Less.f at h
 cases hw : wfB l0 l1 && decide (l1.length ≤ 524288) && litsW l2_0 && decide (l2_2.length ≤ 1099511627776) with
 | false => rw [hw] at h; simp at h
 | true =>
  rw [hw, if_pos rfl] at h
  injection h with h
  simp only [Bool.and_eq_true, decide_eq_true_eq] at hw
  obtain ⟨⟨⟨h1, h2⟩, h3⟩, h4⟩ := hw
  have hx := an_less A0 c0 l0 A1 c1 l1 A2_0 c2_0 l2_0 a2_1 A2_2 c2_2 l2_2 w hr0 hc0 hr1 hc1 hr2_0 hc2_0 hr2_2 hc2_2 (wfB_iff h1) h2 (fun x hx => by unfold litsW at h3; exact of_decide_eq_true (List.all_eq_true.1 h3 x hx)) h4
  rw [h] at hx
  exact hx
end Go.Proofs.Ytboalbiicmcljaa.PAN
end
section --
namespace Go.Proofs.Ytboalbiicmcljaa.PAN
open Go.Proofs.YtboalbiicmcljaaH
open Go.RowKit Go.Proofs.YtboalbiicmcljaaW.PrintWords Go.Proofs.YtboalbiicmcljaaW.PrintLast Go.Proofs.YtboalbiicmcljaaW.PrintMore
attribute [local go_sem] max2_int min2_int max_two min_two max_three min_three max_four min_four   -- for this text's walks alone
set_option linter.unusedVariables false
set_option linter.unusedSimpArgs false
end Go.Proofs.Ytboalbiicmcljaa.PAN
end
section --
namespace Go.Proofs.Ytboalbiicmcljaa.PAN
open Go.Proofs.YtboalbiicmcljaaH
open Go.RowKit Go.Proofs.YtboalbiicmcljaaW.PrintWords Go.Proofs.YtboalbiicmcljaaW.PrintLast Go.Proofs.YtboalbiicmcljaaW.PrintMore
attribute [local go_sem] max2_int min2_int max_two min_two max_three min_three max_four min_four   -- for this text's walks alone
set_option linter.unusedVariables false
set_option linter.unusedSimpArgs false
end Go.Proofs.Ytboalbiicmcljaa.PAN
end
section --
namespace Go.Proofs.Ytboalbiicmcljaa.PAN
open Go.RowKit Go.Proofs.YtboalbiicmcljaaW.PrintWords Go.Proofs.YtboalbiicmcljaaW.PrintLast Go.Proofs.YtboalbiicmcljaaW.PrintMore Go.Proofs.YtboalbiicmcljaaH
set_option linter.unusedVariables false
set_option linter.unusedSimpArgs false
theorem lessF_len {cs : List (List Int)} {ms : List Mk} (hv : VT cs ms) (f : Int) : ∀ (l s ch : List Int), AllF ms s → s.Nodup → (∀ x ∈ l, isFalseB ms x = true) → AllF ms (lessF cs ms f l (s, ch)).1 ∧ (lessF cs ms f l (s, ch)).1.Nodup ∧ (lessF cs ms f l (s, ch)).2.length ≤ ch.length + l.length * (ms.length + 1)
  | [], s, ch, h1, h2, _ => ⟨h1, h2, by simp [lessF]⟩
  | x :: r, s, ch, h1, h2, h3 => by
    rw [lessF]
    have h3r : ∀ y ∈ r, isFalseB ms y = true := fun y hy => h3 y (by simp [hy])
    by_cases hc : x ≠ f ∧ needB cs ms s x = true
    · rw [if_pos hc]
      have hst := lessStep (ch := ch) hv h1 h2 (h3 x (by simp)) hc.2
      have := lessF_len hv f r (cleanL cs ms ms.length (resL cs ms s x) (ch ++ [rsn ms x])).1 (cleanL cs ms ms.length (resL cs ms s x) (ch ++ [rsn ms x])).2 hst.1 hst.2.1 h3r
      refine ⟨this.1, this.2.1, Nat.le_trans this.2.2 ?_⟩
      have h5 := hst.2.2
      have e : (r.length + 1) * (ms.length + 1) = r.length * (ms.length + 1) + (ms.length + 1) := Nat.succ_mul _ _
      rw [List.length_cons, e]
      omega
    · rw [if_neg hc]
      have := lessF_len hv f r s ch h1 h2 h3r
      refine ⟨this.1, this.2.1, ?_⟩
      have h4 := this.2.2
      have e : (r.length + 1) * (ms.length + 1) = r.length * (ms.length + 1) + (ms.length + 1) := Nat.succ_mul _ _
      rw [List.length_cons, e]
      generalize r.length * (ms.length + 1) = z at h4 ⊢
      omega
theorem lessP_len {cs : List (List Int)} {ms : List Mk} (hW : Wf cs ms) (hm : ms.length ≤ 524288) (c chn : List Int) (hch : chn.length ≤ 4194304) : (lessP cs ms c chn).1.length ≤ 1099511627776 ∧ (lessP cs ms c chn).2.2.1.length ≤ 1099511627776 := by
  unfold lessP
  split
  · rename_i hv
    have hv := VT.of hv
    split
    · rename_i hr
      have hsp := right_split ms c
      rw [hr] at hsp
      have hsp := hsp.symm
      simp only [Bool.and_eq_true, decide_eq_true_eq] at hsp
      obtain ⟨h1, h2, h3, _⟩ := hsp
      have hf : AllF ms c := fun x hx => List.all_eq_true.1 h2 x hx
      have hl := lessF_len hv (rd c 0) (fallL ms c) c [] hf h3 (fun x hx => hf x ((fallL_perm ms c).mem_iff.1 hx))
      obtain ⟨S, hS⟩ : ∃ S, S = lessF cs ms (rd c 0) (fallL ms c) (c, []) := ⟨_, rfl⟩
      rw [← hS] at hl ⊢
      have hsl := len_of_falses hl.2.1 hl.1
      have hcl := len_of_falses h3 hf
      have hr2 := restL_len (ms := ms) S.1 (rd c 0)
      have h5 := hl.2.2
      rw [(fallL_perm ms c).length_eq, List.length_nil] at h5
      have h6 : c.length * (ms.length + 1) ≤ 524288 * 524289 := Nat.mul_le_mul (by omega) (by omega)
      unfold toldP
      simp only [List.length_cons, List.length_append]
      omega
    · exact ⟨by simp, by simp⟩
  · exact ⟨by simp, by simp⟩
theorem alike_big (a : List Int) (b : Int) (c : List Int) (ha : a.length ≤ 1099511627776) (hc : c.length ≤ 1099511627776) : Ev (fun k => fulcrumlaw21_alike.f k a b c a b c) true := by
  refine Ev.bind (same_all a (by omega)) ?_
  simp only [if_true]
  refine Ev.bind (same_all c (by omega)) ?_
  simpa using Ev.now true
end Go.Proofs.Ytboalbiicmcljaa.PAN
end
