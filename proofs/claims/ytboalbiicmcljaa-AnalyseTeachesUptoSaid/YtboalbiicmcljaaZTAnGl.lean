import Derived.Test.YtboalbiicmcljaaZTAnA
import Derived.Test.YtboalbiicmcljaaZTPANx13
import Derived.Test.YtboalbiicmcljaaZTPANx14
import Derived.Test.YtboalbiicmcljaaZTPANx20
import Derived.Test.YtboalbiicmcljaaZTPANx21
section --
namespace Go.Proofs.Ytboalbiicmcljaa.PAN
open Go.RowKit Go.Proofs.YtboalbiicmcljaaW.PrintWords Go.Proofs.YtboalbiicmcljaaW.PrintLast Go.Proofs.YtboalbiicmcljaaW.PrintMore Go.Proofs.YtboalbiicmcljaaH
set_option linter.unusedVariables false
set_option linter.unusedSimpArgs false
theorem setL_snoc (l : List Int) (x : Int) : setL (l ++ [x]) = insK (setL l) x := by unfold setL; rw [List.foldl_append]; rfl
theorem setL_len (l : List Int) : (setL l).length ≤ l.length := by
  have := foldl_insK_len l []
  unfold setL
  simpa using this
theorem set_ev (c : List Int) (hc : c.length ≤ 17592186044415) : ∀ d i : Nat, i + d = c.length → Ev (fun k => fulcrumref21_set.l0 k c (setL (c.take i)) (i : Int)) (setL c) := by
  intro d
  induction d with
  | zero =>
    intro i h
    rw [List.take_of_length_le (by omega)]
    refine Ev.step (f := fun _ => some (setL c)) (fun k => ?_) (Ev.now _)
    simp only [fulcrumref21_set.l0]; rw [if_neg (by omega)]
  | succ d ih =>
    intro i h
    have hlt : i < c.length := by omega
    have hl := setL_len (c.take i)
    rw [List.length_take] at hl
    have hi := ih (i + 1) (by omega)
    rw [take_rd hlt, setL_snoc] at hi
    refine Ev.step (f := fun k => (fulcrumref21_has.f k (setL (c.take i)) (rd c (i : Int))).bind fun t => if t = true then fulcrumref21_set.l0 k c (setL (c.take i)) ((i + 1 : Nat) : Int) else fulcrumref21_set.l0 k c (setL (c.take i) ++ [rd c (i : Int)]) ((i + 1 : Nat) : Int)) (fun k => ?_) (Ev.bind (has_all _ _ (by omega)) ?_)
    · simp only [fulcrumref21_set.l0]; rw [if_pos (by omega), if_pos (by omega), wrapI hlt (by omega)]
      congr 1
      funext t
      rw [if_pos (show (setL (c.take i)).length < 17592186044416 by omega)]
    · unfold insK at hi
      by_cases hm : rd c (i : Int) ∈ setL (c.take i)
      · rw [if_pos hm] at hi
        simpa [hm] using hi
      · rw [if_neg hm] at hi
        simpa [hm] using hi
theorem set_all (c : List Int) (hc : c.length ≤ 17592186044415) : Ev (fun k => fulcrumref21_set.f k c) (setL c) := by
  have := set_ev c hc c.length 0 (by omega)
  simpa [fulcrumref21_set.f, setL] using this
theorem without_ev (s : List Int) (x : Int) (hs : s.length ≤ 17592186044415) : ∀ d i : Nat, i + d = s.length → Ev (fun k => fulcrumref21_without.l0 k s x (delK (s.take i) x) (i : Int)) (delK s x) := by
  intro d
  induction d with
  | zero =>
    intro i h
    rw [List.take_of_length_le (by omega)]
    refine Ev.step (f := fun _ => some (delK s x)) (fun k => ?_) (Ev.now _)
    simp only [fulcrumref21_without.l0]; rw [if_neg (by omega)]
  | succ d ih =>
    intro i h
    have hlt : i < s.length := by omega
    have hl : (delK (s.take i) x).length ≤ (s.take i).length := List.length_filter_le _ _
    rw [List.length_take] at hl
    have hi := ih (i + 1) (by omega)
    have e : delK (s.take (i + 1)) x = if rd s (i : Int) = x then delK (s.take i) x else delK (s.take i) x ++ [rd s (i : Int)] := by
      rw [take_rd hlt]
      unfold delK
      rw [List.filter_append]
      by_cases he : rd s (i : Int) = x <;> simp [he]
    rw [e] at hi
    by_cases he : rd s (i : Int) = x
    · rw [if_pos he] at hi
      refine Ev.step (f := fun k => fulcrumref21_without.l0 k s x (delK (s.take i) x) ((i + 1 : Nat) : Int)) (fun k => ?_) hi
      simp only [fulcrumref21_without.l0]; rw [if_pos (by omega), if_pos (by omega), if_pos he, wrapI hlt (by omega)]
    · rw [if_neg he] at hi
      refine Ev.step (f := fun k => fulcrumref21_without.l0 k s x (delK (s.take i) x ++ [rd s (i : Int)]) ((i + 1 : Nat) : Int)) (fun k => ?_) hi
      simp only [fulcrumref21_without.l0]; rw [if_pos (by omega), if_pos (by omega), if_neg he, if_pos (show (delK (s.take i) x).length < 17592186044416 by omega), wrapI hlt (by omega)]
theorem without_all (s : List Int) (x : Int) (hs : s.length ≤ 17592186044415) : Ev (fun k => fulcrumref21_without.f k s x) (delK s x) := by
  have := without_ev s x hs s.length 0 (by omega)
  simpa [fulcrumref21_without.f, delK] using this
structure FS (ms : List Mk) (s : List Int) : Prop where
  f : AllF ms s
  w : ∀ x ∈ s, w64 x
  n : s.Nodup
theorem FS.len {ms : List Mk} {s : List Int} (h : FS ms s) : s.length ≤ ms.length := len_of_falses h.n h.f
def Best (ms : List Mk) (s : List Int) (m a : Int) : Prop := ((∀ y ∈ s, lev ms y ≠ m) ∧ a = 0) ∨ (a ∈ s ∧ lev ms a = m ∧ ∀ y ∈ s, lev ms y = m → pk ms y ≤ pk ms a)
theorem Best.head {ms : List Mk} {s : List Int} {m b : Int} (hf : AllF ms s) (h : Best ms s m b) : b = (atL ms s m).headD 0 := by
  have hmem : ∀ y, y ∈ atL ms s m ↔ y ∈ s ∧ lev ms y = m := fun y => by unfold atL; rw [List.mem_filter, (fallL_perm ms s).mem_iff]; simp
  cases ha : atL ms s m with
  | nil =>
    rcases h with ⟨_, q⟩ | ⟨q1, q2, _⟩
    · simpa using q
    · have := (hmem b).2 ⟨q1, q2⟩; rw [ha] at this; cases this
  | cons a r =>
    have h1 := (hmem a).1 (by rw [ha]; simp)
    rcases h with ⟨q, _⟩ | ⟨q1, q2, q3⟩
    · exact absurd h1.2 (q a h1.1)
    · have hsort : (atL ms s m).Pairwise (fun a b => pk ms b ≤ pk ms a) := (fallL_sorted ms s).sublist List.filter_sublist
      rw [ha] at hsort
      have h2 := q3 a h1.1 h1.2
      have h3 : pk ms b ≤ pk ms a := by
        have hb := (hmem b).2 ⟨q1, q2⟩
        rw [ha] at hb
        rcases List.mem_cons.1 hb with hb | hb
        · rw [hb]; exact Nat.le_refl _
        · exact (List.pairwise_cons.1 hsort).1 b hb
      show b = a
      exact pk_inj (hf b q1) (hf a h1.1) (Nat.le_antisymm h3 h2)
theorem FS.resF {cs : List (List Int)} {ms : List Mk} (hW : Wf cs ms) (hv : VT cs ms) {s : List Int} (hs : FS ms s) {x : Int} (hxf : isFalseB ms x = true) (hr : rsn ms x ≠ -1) : FS ms (resL cs ms s x) := by
  obtain ⟨h0, h1, h2⟩ := hv.new hxf hr
  refine ⟨fun y hy => ?_, fun y hy => ?_, nodup_resL hs.n x⟩
  · rcases mem_resL.1 hy with ⟨q, _⟩ | q
    · exact hs.f y q
    · exact (h2 y q).1
  · rcases mem_resL.1 hy with ⟨q, _⟩ | q
    · exact hs.w y q
    · unfold newL at q
      exact hW.c _ (rdC_mem h0 h1) y (List.mem_filter.1 q).1
theorem FS.res {cs : List (List Int)} {ms : List Mk} (hW : Wf cs ms) (hv : VT cs ms) {s : List Int} (hs : FS ms s) {x : Int} (hx : x ∈ s) (hr : rsn ms x ≠ -1) : FS ms (resL cs ms s x) := by
  refine ⟨hs.f.res hv hx hr, fun y hy => ?_, nodup_resL hs.n x⟩
  rcases mem_resL.1 hy with ⟨q, _⟩ | q
  · exact hs.w y q
  · obtain ⟨h0, h1, _⟩ := hv.new (hs.f x hx) hr
    unfold newL at q
    exact hW.c _ (rdC_mem h0 h1) y (List.mem_filter.1 q).1
theorem foldl_set (a : List Int) : ∀ s : List Int, s.Nodup → (∀ x ∈ a, x ∉ s) → a.Nodup → a.foldl insK s = s ++ a := by
  induction a with
  | nil => intro s _ _ _; simp
  | cons x r ih =>
    intro s hs hd hn
    have hx := hd x (by simp)
    rw [List.foldl_cons, show insK s x = s ++ [x] by unfold insK; rw [if_neg hx]]
    rw [ih (s ++ [x])]
    · simp
    · rw [List.nodup_append]; exact ⟨hs, by simp, fun a ha b hb => by simp at hb; rw [hb]; intro q; exact hx (q ▸ ha)⟩
    · intro y hy
      rw [List.mem_append]
      rintro (q | q)
      · exact hd y (by simp [hy]) q
      · simp at q; rw [q] at hy; exact (List.nodup_cons.1 hn).1 hy
    · exact (List.nodup_cons.1 hn).2
theorem FS.del {ms : List Mk} {s : List Int} (h : FS ms s) (a : Int) : FS ms (delK s a) := ⟨fun x hx => h.f x (mem_delK.1 hx).1, fun x hx => h.w x (mem_delK.1 hx).1, h.n.filter _⟩
end Go.Proofs.Ytboalbiicmcljaa.PAN
end
section --
namespace Go.Proofs.Ytboalbiicmcljaa.PAN
open Go.RowKit Go.Proofs.YtboalbiicmcljaaW.PrintWords Go.Proofs.YtboalbiicmcljaaW.PrintLast Go.Proofs.YtboalbiicmcljaaW.PrintMore Go.Proofs.YtboalbiicmcljaaH
set_option linter.unusedVariables false
set_option linter.unusedSimpArgs false
theorem atom_eq {a x : Int} (ha : w64 a) (hx : w64 x) (hl : litB x = true) : (atomI a == atomI x) = (a == x || a == -x) := by
  rw [w64_iff] at ha hx
  rw [litB_iff] at hl
  rw [Bool.eq_iff_iff, Bool.or_eq_true, beq_iff_eq, beq_iff_eq, beq_iff_eq]
  unfold atomI
  rw [if_neg hl.2]
  split
  · split <;> omega
  · split <;> split <;> omega
end Go.Proofs.Ytboalbiicmcljaa.PAN
end
