import Derived.Test.YtboalbiicmcljaaZOAnB
import Derived.Test.YtboalbiicmcljaaZOPANx15
import Derived.Test.YtboalbiicmcljaaZOPANx16
import Derived.Test.YtboalbiicmcljaaZOPANx17
namespace Go.Proofs.Ytboalbiicmcljaa.PAN
open Go.RowKit Go.Proofs.YtboalbiicmcljaaW.PrintWords Go.Proofs.YtboalbiicmcljaaW.PrintLast Go.Proofs.YtboalbiicmcljaaW.PrintMore Go.Proofs.YtboalbiicmcljaaH
set_option linter.unusedVariables false
set_option linter.unusedSimpArgs false
theorem uipDoc {cs : List (List Int)} {ms : List Mk} (hW : Wf cs ms) (hv : VT cs ms) (m conf : Int) : ∀ (n : Nat) (s ch : List Int), FS ms s → (∀ y ∈ s, lev ms y = m → pk ms y < n) → ch.length + n ≤ 4194304 →
    Ev (fun k => fulcrumref21_First.l1 k cs ms s m ([conf] ++ ch)) (toldP ms ((atL ms (uipL cs ms m n s ch).1 m).headD 0) (cleanL cs ms ms.length (uipL cs ms m n s ch).1 (uipL cs ms m n s ch).2).1 ([conf] ++ (cleanL cs ms ms.length (uipL cs ms m n s ch).1 (uipL cs ms m n s ch).2).2)) := by
  have hlm := hW.lm
  have hend : ∀ s ch, FS ms s → ch.length ≤ 4194304 → (atL ms s m).length < 2 → Ev (fun k => fulcrumref21_First.l1 k cs ms s m ([conf] ++ ch)) (toldP ms ((atL ms s m).headD 0) (cleanL cs ms ms.length s ch).1 ([conf] ++ (cleanL cs ms ms.length s ch).2)) := by
    intro s ch hs hc h2
    have c2 : ((atL ms s m).length : Int) < 2 := by omega
    have hcl := cleaned_all hW hv s ([conf] ++ ch) hs (by rw [List.length_append, List.length_singleton]; omega)
    rw [cleanL_pre] at hcl
    refine Ev.step (f := fun k => (fulcrumref21_latest.f k ms s m).bind fun t => if t.2 < 2 then (fulcrumref21_cleaned.f k cs ms s ([conf] ++ ch)).bind fun u => (fulcrumref21_learnt.f k ms t.1 u.1 u.2).bind fun z => some (z.1, z.2.1, z.2.2, 0) else (fulcrumref21_resolved.f k cs ms s t.1).bind fun u => if ([conf] ++ ch).length < 17592186044416 then fulcrumref21_First.l1 k cs ms u.1 m ([conf] ++ ch ++ [u.2]) else none) (fun k => rfl) (Ev.bind (latest_all m hlm hs) ?_)
    simp only [c2, if_true]
    refine Ev.bind hcl (Ev.bind (learnt_all hlm (cleanL_FS hW hv ms.length s ch hs) _ _) ?_)
    exact Ev.now _
  intro n
  induction n with
  | zero =>
    intro s ch hs hb hc
    have ha : atL ms s m = [] := by
      unfold atL
      rw [List.filter_eq_nil_iff]
      intro y hy hy0
      have := hb y ((fallL_perm ms s).mem_iff.1 hy) (by simpa using hy0)
      omega
    exact hend s ch hs (by omega) (by rw [ha]; simp)
  | succ n ih =>
    intro s ch hs hb hc
    match ha : atL ms s m with
    | [] =>
      have := hend s ch hs (by omega) (by rw [ha]; simp)
      rw [uipL, ha]
      exact this
    | [a] =>
      have := hend s ch hs (by omega) (by rw [ha]; simp)
      rw [uipL, ha]
      exact this
    | a :: b :: r =>
      obtain ⟨ha1, _, _, ha4, _, ha6, _⟩ := top_two hv hs.f hs.n ha
      have hbd := uip_bound hv hs.f hs.n ha
      have hi := ih (resL cs ms s a) (ch ++ [rsn ms a]) (hs.res hW hv ha1 ha6) (fun y hy hy0 => by have := hbd y hy hy0; have := hb a ha1 ha4; omega) (by rw [List.length_append, List.length_singleton]; omega)
      rw [uipL, ha]
      simp only []
      rw [← List.append_assoc] at hi
      have h1 := latest_all m hlm hs
      rw [ha] at h1
      have c2 : ¬ (((a :: b :: r).length : Nat) : Int) < 2 := by simp only [List.length_cons]; omega
      have c3 : ([conf] ++ ch).length < 17592186044416 := by rw [List.length_append, List.length_singleton]; omega
      refine Ev.step (f := fun k => (fulcrumref21_latest.f k ms s m).bind fun t => if t.2 < 2 then (fulcrumref21_cleaned.f k cs ms s ([conf] ++ ch)).bind fun u => (fulcrumref21_learnt.f k ms t.1 u.1 u.2).bind fun z => some (z.1, z.2.1, z.2.2, 0) else (fulcrumref21_resolved.f k cs ms s t.1).bind fun u => if ([conf] ++ ch).length < 17592186044416 then fulcrumref21_First.l1 k cs ms u.1 m ([conf] ++ ch ++ [u.2]) else none) (fun k => rfl) (Ev.bind h1 ?_)
      simp only [c2, if_false, c3, if_true]
      exact Ev.bind (resolved_all hW hv hs ha1 ha6) hi
theorem mostDoc {cs : List (List Int)} {ms : List Mk} (hlm : ms.length ≤ 4194304) {s : List Int} (hs : FS ms s) (conf M : Int) (R : List Int × Int × List Int × Int) (hfin : Ev (fun k => if M = 0 then some (([] : List Int), (0 : Int), ([] : List Int), (210 : Int)) else fulcrumref21_First.l1 k cs ms s M [conf]) R) :
    ∀ d i : Nat, i + d = s.length → ∀ m : Int, max m (mostL ms (s.drop i)) = M → 0 ≤ m → Ev (fun k => fulcrumref21_First.l0 k cs ms conf s m (i : Int)) R := by
  have hsl := hs.len
  intro d
  induction d with
  | zero =>
    intro i h m hm h0
    rw [List.drop_eq_nil_of_le (by omega)] at hm
    have e : m = M := by unfold mostL at hm; omega
    subst e
    refine Ev.step (f := fun k => if m = 0 then some (([] : List Int), (0 : Int), ([] : List Int), (210 : Int)) else fulcrumref21_First.l1 k cs ms s m [conf]) (fun k => ?_) hfin
    simp only [fulcrumref21_First.l0]; rw [if_neg (by omega)]
  | succ d ih =>
    intro i h m hm h0
    have hlt : i < s.length := by omega
    have hxm := rdm hlt
    rw [rdi_drop hlt] at hm
    obtain ⟨x, hx⟩ : ∃ x, x = rd s (i : Int) := ⟨_, rfl⟩
    rw [← hx] at hxm hm
    rw [mostL] at hm
    have hlev := level_all hlm (hs.f x hxm) (hs.w x hxm)
    refine Ev.step (f := fun k => (fulcrumref21_level.f k ms x).bind fun t => if t > m then (fulcrumref21_level.f k ms x).bind fun u => fulcrumref21_First.l0 k cs ms conf s u ((i + 1 : Nat) : Int) else fulcrumref21_First.l0 k cs ms conf s m ((i + 1 : Nat) : Int)) (fun k => ?_) (Ev.bind hlev ?_)
    · simp only [fulcrumref21_First.l0]
      rw [if_pos (by omega), if_pos (by omega), ← hx, wrapI hlt (by omega)]
    · by_cases hb2 : lev ms x > m
      · simp only [hb2, if_true]
        exact Ev.bind hlev (ih (i + 1) (by omega) (lev ms x) (by omega) (by omega))
      · simp only [hb2, if_false]
        exact ih (i + 1) (by omega) m (by omega) h0
theorem First_all {cs : List (List Int)} {ms : List Mk} (hW : Wf cs ms) (conf : Int) : Ev (fun k => fulcrumref21_First.f k cs ms conf) (firstP cs ms conf) := by
  have hlm := hW.lm
  have hno : Ev (fun k => fulcrumref21_First.j0 k cs ms conf true) (([] : List Int), (0 : Int), ([] : List Int), (210 : Int)) := Ev.step (f := fun _ => some (([] : List Int), (0 : Int), ([] : List Int), (210 : Int))) (fun k => by simp [fulcrumref21_First.j0]) (Ev.now _)
  refine Ev.congr (fun k => rfl) (Ev.bind (Check_all cs ms hW) ?_)
  unfold firstP
  cases hb : validB cs [] ms with
  | false => simpa using Ev.now (([] : List Int), (0 : Int), ([] : List Int), (200 : Int))
  | true =>
    have hv := VT.of hb
    simp only [if_true]
    by_cases h0 : conf < 0
    · rw [if_neg (fun q => by omega)]
      simp only [h0, if_true]
      exact hno
    · by_cases h1 : conf ≥ (cs.length : Int)
      · rw [if_neg (fun q => by omega)]
        simp only [h0, h1, if_false, if_true]
        exact hno
      · have hmem := rdC_mem (cs := cs) (i := conf) (by omega) (by omega)
        have hcl := hW.lcl _ hmem
        have hcw := hW.c _ hmem
        have g0 : 0 ≤ conf := by omega
        have g1 : conf < (cs.length : Int) := by omega
        simp only [h0, h1, g0, g1, if_false, if_true, rdL_C, true_and]
        refine Ev.bind (falses_all ms (rdC cs conf) (by omega) (by omega) hcw) ?_
        cases hf : (rdC cs conf).all fun x => isFalseB ms x with
        | false => simpa using hno
        | true =>
          simp only [if_true, Bool.not_true]
          obtain ⟨s, hse⟩ : ∃ s, s = setL (rdC cs conf) := ⟨_, rfl⟩
          rw [← hse]
          have hs : FS ms s := by
            rw [hse]
            exact ⟨fun x hx => List.all_eq_true.1 hf x (setL_mem.1 hx), fun x hx => hcw x (setL_mem.1 hx), nodup_foldl_insK List.nodup_nil⟩
          have key : Ev (fun k => fulcrumref21_First.l0 k cs ms conf s 0 ((0 : Nat) : Int)) (if mostL ms s = 0 then ([], 0, [], 210) else toldP ms ((atL ms (uipL cs ms (mostL ms s) ms.length s []).1 (mostL ms s)).headD 0)
              (cleanL cs ms ms.length (uipL cs ms (mostL ms s) ms.length s []).1 (uipL cs ms (mostL ms s) ms.length s []).2).1 ([conf] ++ (cleanL cs ms ms.length (uipL cs ms (mostL ms s) ms.length s []).1 (uipL cs ms (mostL ms s) ms.length s []).2).2)) := by
            refine mostDoc hlm hs conf (mostL ms s) _ ?_ s.length 0 (by omega) 0 (by rw [List.drop_zero]; have := mostL_nonneg ms s; omega) (Int.le_refl _)
            by_cases hm : mostL ms s = 0
            · simp only [hm, if_true]; exact Ev.now _
            · simp only [hm, if_false]
              have := uipDoc hW hv (mostL ms s) conf ms.length s [] hs (fun y hy _ => pk_lt (hs.f y hy)) (by simp; omega)
              simpa using this
          refine Ev.step (f := fun k => (fulcrumref21_set.f k (rdC cs conf)).bind fun t => fulcrumref21_First.l0 k cs ms conf t 0 0) (fun k => ?_) (Ev.bind (set_all _ (by omega)) (by rw [← hse]; exact key))
          simp only [fulcrumref21_First.j0, rdL_C]
          rw [if_neg (by simp), if_pos g0, if_pos g1]
end Go.Proofs.Ytboalbiicmcljaa.PAN
