import Derived.Test.YtboalbiicmcljaaZEAnA
import Derived.Test.YtboalbiicmcljaaZEPANx13
import Derived.Test.YtboalbiicmcljaaZEPANx14
namespace Go.Proofs.Ytboalbiicmcljaa.PAN
open Go.RowKit Go.Proofs.YtboalbiicmcljaaW.PrintWords Go.Proofs.YtboalbiicmcljaaW.PrintLast Go.Proofs.YtboalbiicmcljaaW.PrintMore Go.Proofs.YtboalbiicmcljaaH
set_option linter.unusedVariables false
set_option linter.unusedSimpArgs false
structure FS (ms : List Mk) (s : List Int) : Prop where
  f : AllF ms s
  w : ∀ x ∈ s, w64 x
  n : s.Nodup
theorem FS.len {ms : List Mk} {s : List Int} (h : FS ms s) : s.length ≤ ms.length := len_of_falses h.n h.f
def Best (ms : List Mk) (s : List Int) (m a : Int) : Prop := ((∀ y ∈ s, lev ms y ≠ m) ∧ a = 0) ∨ (a ∈ s ∧ lev ms a = m ∧ ∀ y ∈ s, lev ms y = m → pk ms y ≤ pk ms a)
theorem Best.head {ms : List Mk} {s : List Int} {m b : Int} (hf : AllF ms s) (h : Best ms s m b) : b = (atL ms s m).headD 0 := by
  have hmem : ∀ y, y ∈ atL ms s m ↔ y ∈ s ∧ lev ms y = m := fun y => by unfold atL; rw [List.mem_filter, (fallL_perm ms s).mem_iff]; simp
  cases ha : atL ms s m with
  | nil =>
    rcases h with ⟨_, q⟩ | ⟨q1, q2, _⟩
    · simpa using q
    · have := (hmem b).2 ⟨q1, q2⟩; rw [ha] at this; cases this
  | cons a r =>
    have h1 := (hmem a).1 (by rw [ha]; simp)
    rcases h with ⟨q, _⟩ | ⟨q1, q2, q3⟩
    · exact absurd h1.2 (q a h1.1)
    · have hsort : (atL ms s m).Pairwise (fun a b => pk ms b ≤ pk ms a) := (fallL_sorted ms s).sublist List.filter_sublist
      rw [ha] at hsort
      have h2 := q3 a h1.1 h1.2
      have h3 : pk ms b ≤ pk ms a := by
        have hb := (hmem b).2 ⟨q1, q2⟩
        rw [ha] at hb
        rcases List.mem_cons.1 hb with hb | hb
        · rw [hb]; exact Nat.le_refl _
        · exact (List.pairwise_cons.1 hsort).1 b hb
      show b = a
      exact pk_inj (hf b q1) (hf a h1.1) (Nat.le_antisymm h3 h2)
theorem FS.res {cs : List (List Int)} {ms : List Mk} (hW : Wf cs ms) (hv : VT cs ms) {s : List Int} (hs : FS ms s) {x : Int} (hx : x ∈ s) (hr : rsn ms x ≠ -1) : FS ms (resL cs ms s x) := by
  refine ⟨hs.f.res hv hx hr, fun y hy => ?_, nodup_resL hs.n x⟩
  rcases mem_resL.1 hy with ⟨q, _⟩ | q
  · exact hs.w y q
  · obtain ⟨h0, h1, _⟩ := hv.new (hs.f x hx) hr
    unfold newL at q
    exact hW.c _ (rdC_mem h0 h1) y (List.mem_filter.1 q).1
theorem FS.del {ms : List Mk} {s : List Int} (h : FS ms s) (a : Int) : FS ms (delK s a) := ⟨fun x hx => h.f x (mem_delK.1 hx).1, fun x hx => h.w x (mem_delK.1 hx).1, h.n.filter _⟩
end Go.Proofs.Ytboalbiicmcljaa.PAN
