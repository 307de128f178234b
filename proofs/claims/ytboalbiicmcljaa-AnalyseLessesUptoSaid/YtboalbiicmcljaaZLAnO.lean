import Derived.Test.YtboalbiicmcljaaZLAnN
import Derived.Test.YtboalbiicmcljaaZLPANx16
import Derived.Test.YtboalbiicmcljaaZLPANx28
namespace Go.Proofs.Ytboalbiicmcljaa.PAN
open Go.RowKit Go.Proofs.YtboalbiicmcljaaW.PrintWords Go.Proofs.YtboalbiicmcljaaW.PrintLast Go.Proofs.YtboalbiicmcljaaW.PrintMore Go.Proofs.YtboalbiicmcljaaH
set_option linter.unusedVariables false
set_option linter.unusedSimpArgs false
theorem sum_const {α : Type} (l : List α) (n : Nat) : (l.map fun _ => n).sum = l.length * n := by
  induction l with
  | nil => simp
  | cons x r ih => rw [List.map_cons, List.sum_cons, ih, List.length_cons, Nat.succ_mul]; omega
theorem lessF_len {cs : List (List Int)} {ms : List Mk} (hv : VT cs ms) (f : Int) : ∀ (l s ch : List Int), AllF ms s → s.Nodup → (∀ x ∈ l, isFalseB ms x = true) → AllF ms (lessF cs ms f l (s, ch)).1 ∧ (lessF cs ms f l (s, ch)).1.Nodup ∧ (lessF cs ms f l (s, ch)).2.length ≤ ch.length + l.length * (ms.length + 1)
  | [], s, ch, h1, h2, _ => ⟨h1, h2, by simp [lessF]⟩
  | x :: r, s, ch, h1, h2, h3 => by
    rw [lessF]
    have h3r : ∀ y ∈ r, isFalseB ms y = true := fun y hy => h3 y (by simp [hy])
    by_cases hc : x ≠ f ∧ needB cs ms s x = true
    · rw [if_pos hc]
      have hst := lessStep (ch := ch) hv h1 h2 (h3 x (by simp)) hc.2
      have := lessF_len hv f r (cleanL cs ms ms.length (resL cs ms s x) (ch ++ [rsn ms x])).1 (cleanL cs ms ms.length (resL cs ms s x) (ch ++ [rsn ms x])).2 hst.1 hst.2.1 h3r
      refine ⟨this.1, this.2.1, Nat.le_trans this.2.2 ?_⟩
      have h5 := hst.2.2
      have e : (r.length + 1) * (ms.length + 1) = r.length * (ms.length + 1) + (ms.length + 1) := Nat.succ_mul _ _
      rw [List.length_cons, e]
      omega
    · rw [if_neg hc]
      have := lessF_len hv f r s ch h1 h2 h3r
      refine ⟨this.1, this.2.1, ?_⟩
      have h4 := this.2.2
      have e : (r.length + 1) * (ms.length + 1) = r.length * (ms.length + 1) + (ms.length + 1) := Nat.succ_mul _ _
      rw [List.length_cons, e]
      generalize r.length * (ms.length + 1) = z at h4 ⊢
      omega
theorem lessP_len {cs : List (List Int)} {ms : List Mk} (hW : Wf cs ms) (hm : ms.length ≤ 524288) (c chn : List Int) (hch : chn.length ≤ 4194304) : (lessP cs ms c chn).1.length ≤ 1099511627776 ∧ (lessP cs ms c chn).2.2.1.length ≤ 1099511627776 := by
  unfold lessP
  split
  · rename_i hv
    have hv := VT.of hv
    split
    · rename_i hr
      have hsp := right_split ms c
      rw [hr] at hsp
      have hsp := hsp.symm
      simp only [Bool.and_eq_true, decide_eq_true_eq] at hsp
      obtain ⟨h1, h2, h3, _⟩ := hsp
      have hf : AllF ms c := fun x hx => List.all_eq_true.1 h2 x hx
      have hl := lessF_len hv (rd c 0) (fallL ms c) c [] hf h3 (fun x hx => hf x ((fallL_perm ms c).mem_iff.1 hx))
      obtain ⟨S, hS⟩ : ∃ S, S = lessF cs ms (rd c 0) (fallL ms c) (c, []) := ⟨_, rfl⟩
      rw [← hS] at hl ⊢
      have hsl := len_of_falses hl.2.1 hl.1
      have hcl := len_of_falses h3 hf
      have hr2 := restL_len (ms := ms) S.1 (rd c 0)
      have h5 := hl.2.2
      rw [(fallL_perm ms c).length_eq, List.length_nil] at h5
      have h6 : c.length * (ms.length + 1) ≤ 524288 * 524289 := Nat.mul_le_mul (by omega) (by omega)
      unfold toldP
      simp only [List.length_cons, List.length_append]
      omega
    · exact ⟨by simp, by simp⟩
  · exact ⟨by simp, by simp⟩
theorem alike_big (a : List Int) (b : Int) (c : List Int) (ha : a.length ≤ 1099511627776) (hc : c.length ≤ 1099511627776) : Ev (fun k => fulcrumlaw21_alike.f k a b c a b c) true := by
  refine Ev.bind (same_all a (by omega)) ?_
  simp only [if_true]
  refine Ev.bind (same_all c (by omega)) ?_
  simpa using Ev.now true
theorem lesses_all {cs : List (List Int)} {ms : List Mk} (hW : Wf cs ms) (hm : ms.length ≤ 524288) (c : List Int) (b : Int) (chn : List Int) (hcw : ∀ x ∈ c, w64 x) (hcl : c.length ≤ 4194304) (hch : chn.length ≤ 4194304) : Ev (fun k => fulcrumlaw21_AnalyseLesses.f k cs ms c b chn) true := by
  have hlearnt : Ev (fun k => fulcrumlaw21_learnt.f k c b chn) (c, b, chn) := Ev.bind (ints_all c (by omega)) (Ev.bind (ints_all chn (by omega)) (Ev.now _))
  have hcond : (wfB cs ms && decide (ms.length ≤ 524288) && litsW c && decide (chn.length ≤ 1099511627776)) = true := by
    rw [wfB_of hW, decide_eq_true hm, decide_eq_true (show chn.length ≤ 1099511627776 by omega)]
    simp only [Bool.true_and, Bool.and_true]
    exact List.all_eq_true.2 (fun x hx => decide_eq_true (hcw x hx))
  refine Ev.bind (twin_all cs hW.lc hW.lcl) (Ev.bind (marks_all ms hW.lm) (Ev.bind hlearnt ?_))
  unfold analyse_Less.f
  simp only [hcond, if_true, Option.bind_some]
  have hl := lessP_len hW hm c chn hch
  refine Ev.bind (Less_all hW hm c b chn hcw hcl hch) (Ev.bind lives_all ?_)
  simp only [if_true]
  exact Ev.bind (alike_big _ _ _ hl.1 hl.2) (Ev.now _)
theorem lesses_walk (A0 : Option Addr) (c0 : Nat) (l0 : List (List Int)) (A1 : Option Addr) (c1 : Nat) (l1 : List (S49)) (A2 : Option Addr) (c2 : Nat) (l2 : List Int) (b : Int) (A3 : Option Addr) (c3 : Nat) (l3 : List Int) (w : World) (hr0 : Kd.C (Kd.slice 3 (Kd.int .i64)) w A0 l0.length l0) (hc0 : l0.length ≤ c0) (hr1 : Kd.C k49 w A1 l1.length l1) (hc1 : l1.length ≤ c1)
    (hr2 : Kd.C (Kd.int .i64) w A2 l2.length l2) (hc2 : l2.length ≤ c2) (hr3 : Kd.C (Kd.int .i64) w A3 l3.length l3) (hc3 : l3.length ≤ c3) (h : Wf l0 l1) (hm : l1.length ≤ 524288) (hcw : ∀ x ∈ l2, w64 x) (hcl : l2.length ≤ 4194304) (hch : l3.length ≤ 4194304) :
    Calls Try.prog 9 #[.agg #[.slice A0 l0.length c0, .slice A1 l1.length c1], .agg #[.slice A2 l2.length c2, .int .i64 b, .slice A3 l3.length c3]] w fun e w' => e = .returned (.bool true) ∧ Below w.heap.size w w' := by
  obtain ⟨k, hk⟩ := (lesses_all h hm l2 b l3 hcw hcl hch).rounds
  exact fulcrumlaw21_AnalyseLesses.calls k A0 c0 l0 A1 c1 l1 A2 c2 l2 b A3 c3 l3 true w hr0 hc0 hr1 hc1 hr2 hc2 hr3 hc3 hk
end Go.Proofs.Ytboalbiicmcljaa.PAN
