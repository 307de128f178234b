import Derived.Test.YtboalbiicmcljaaAnB
import Derived.Test.YtboalbiicmcljaaPANx15
namespace Go.Proofs.Ytboalbiicmcljaa.PAN
open Go.RowKit Go.Proofs.YtboalbiicmcljaaW.PrintWords Go.Proofs.YtboalbiicmcljaaW.PrintLast Go.Proofs.YtboalbiicmcljaaW.PrintMore Go.Proofs.YtboalbiicmcljaaH
set_option linter.unusedVariables false
set_option linter.unusedSimpArgs false
/-! ### First's law -/
theorem restL_len {ms : List Mk} (s : List Int) (a : Int) : (restL ms s a).length ≤ s.length := by
  have h1 : (restL ms s a).length ≤ (fallL ms s).length := List.length_filter_le _ _
  rwa [(fallL_perm ms s).length_eq] at h1
/-- What First tells is not long. -/
theorem uipL_inv {cs : List (List Int)} {ms : List Mk} (hv : VT cs ms) (m : Int) : ∀ (n : Nat) (s ch : List Int), AllF ms s → s.Nodup → AllF ms (uipL cs ms m n s ch).1 ∧ (uipL cs ms m n s ch).1.Nodup ∧ (uipL cs ms m n s ch).2.length ≤ ch.length + n
  | 0, s, ch, hs, hn => ⟨hs, hn, by simp [uipL]⟩
  | n + 1, s, ch, hs, hn => by
    match ha : atL ms s m with
    | [] => rw [uipL, ha]; exact ⟨hs, hn, by simp only []; omega⟩
    | [a] => rw [uipL, ha]; exact ⟨hs, hn, by simp only []; omega⟩
    | a :: b :: r =>
      obtain ⟨ha1, _, _, _, _, ha6, _⟩ := top_two hv hs hn ha
      have := uipL_inv hv m n (resL cs ms s a) (ch ++ [rsn ms a]) (hs.res hv ha1 ha6) (nodup_resL hn a)
      rw [uipL, ha]
      refine ⟨this.1, this.2.1, ?_⟩
      have h3 := this.2.2
      rw [List.length_append, List.length_singleton] at h3
      simp only []
      omega
theorem firstP_len {cs : List (List Int)} {ms : List Mk} (h : Wf cs ms) (conf : Int) : (firstP cs ms conf).1.length ≤ 16777216 ∧ (firstP cs ms conf).2.2.1.length ≤ 16777216 := by
  unfold firstP
  split
  · rename_i hv
    split
    · rename_i hin
      split
      · exact ⟨by simp, by simp⟩
      · have hlm := h.lm
        have hv := VT.of hv
        obtain ⟨h0, h1, hf⟩ := hin
        obtain ⟨s, hse⟩ : ∃ s, s = setL (rdC cs conf) := ⟨_, rfl⟩
        rw [← hse]
        have hs : AllF ms s ∧ s.Nodup := by
          rw [hse]
          exact ⟨fun x hx => List.all_eq_true.1 hf x (setL_mem.1 hx), nodup_foldl_insK List.nodup_nil⟩
        obtain ⟨S, hS⟩ : ∃ S, S = uipL cs ms (mostL ms s) ms.length s [] := ⟨_, rfl⟩
        have hu := uipL_inv hv (mostL ms s) ms.length s [] hs.1 hs.2
        rw [← hS] at hu ⊢
        have hc := cleanL_inv hv ms.length S.1 S.2 hu.1 hu.2.1
        have hl := len_of_falses hc.2.1 hc.1
        have hu2 := hu.2.2
        have hc2 := hc.2.2
        simp only [List.length_nil] at hu2
        unfold toldP
        simp only [List.length_cons, List.length_append, List.length_nil]
        have hr := restL_len (ms := ms) (cleanL cs ms ms.length S.1 S.2).1 ((atL ms S.1 (mostL ms s)).headD 0)
        omega
    · exact ⟨by simp, by simp⟩
  · exact ⟨by simp, by simp⟩
theorem alike_all (a : List Int) (b : Int) (c : List Int) (ha : a.length ≤ 16777216) (hc : c.length ≤ 16777216) : Ev (fun k => fulcrumlaw21_alike.f k a b c a b c) true := by
  refine Ev.bind (same_all a (by omega)) ?_
  simp only [if_true]
  refine Ev.bind (same_all c (by omega)) ?_
  simpa using Ev.now true
theorem firsts_all {cs : List (List Int)} {ms : List Mk} (h : Wf cs ms) (conf : Int) : Ev (fun k => fulcrumlaw21_AnalyseFirsts.f k cs ms conf) true := by
  refine Ev.bind (twin_all cs h.lc h.lcl) (Ev.bind (marks_all ms h.lm) ?_)
  unfold analyse_First.f
  rw [wfB_of h, if_pos rfl]
  simp only [Option.bind_some]
  have hl := firstP_len h conf
  refine Ev.bind (First_all h conf) (Ev.bind lives_all ?_)
  simp only [if_true]
  refine Ev.bind (alike_all _ _ _ hl.1 hl.2) (Ev.now _)
theorem firsts_walk (A0 : Option Addr) (c0 : Nat) (l0 : List (List Int)) (A1 : Option Addr) (c1 : Nat) (l1 : List (S49)) (a1 : Int) (w : World) (hr0 : Kd.C (Kd.slice 3 (Kd.int .i64)) w A0 l0.length l0) (hc0 : l0.length ≤ c0) (hr1 : Kd.C k49 w A1 l1.length l1) (hc1 : l1.length ≤ c1) (h : Wf l0 l1) :
    Calls Try.prog 4 #[.agg #[.slice A0 l0.length c0, .slice A1 l1.length c1], .int .i64 a1] w fun e w' => e = .returned (.bool true) ∧ Below w.heap.size w w' := by
  obtain ⟨k, hk⟩ := (firsts_all h a1).rounds
  exact fulcrumlaw21_AnalyseFirsts.calls k A0 c0 l0 A1 c1 l1 a1 true w hr0 hc0 hr1 hc1 hk

end Go.Proofs.Ytboalbiicmcljaa.PAN
