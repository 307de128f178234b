import Derived.Test.YtboalbiicmcljaaZOAnA
import Derived.Test.YtboalbiicmcljaaZOPANx26
import Derived.Test.YtboalbiicmcljaaZOAnL
namespace Go.Proofs.Ytboalbiicmcljaa.PAN
open Go.RowKit Go.Proofs.YtboalbiicmcljaaW.PrintWords Go.Proofs.YtboalbiicmcljaaW.PrintLast Go.Proofs.YtboalbiicmcljaaW.PrintMore Go.Proofs.YtboalbiicmcljaaH
set_option linter.unusedVariables false
set_option linter.unusedSimpArgs false
structure SI (ms : List Mk) (s : List Int) : Prop where
  f : AllF ms s
  n : s.Nodup
  w : ∀ x ∈ s, w64 x
theorem SI.res {cs : List (List Int)} {ms : List Mk} (hv : VT cs ms) (hW : Wf cs ms) {s : List Int} (h : SI ms s) {x : Int} (hx : x ∈ s) (hr : rsn ms x ≠ -1) : SI ms (resL cs ms s x) :=
  ⟨h.f.res hv hx hr, nodup_resL h.n x, fun y hy => by
    rcases mem_resL.1 hy with ⟨q, _⟩ | q
    · exact h.w y q
    · have h1 := hv.new (h.f x hx) hr
      unfold newL at q
      rw [List.mem_filter] at q
      exact hW.c _ (rdC_mem h1.1 h1.2.1) y q.1⟩
inductive Der (cs : List (List Int)) (ms : List Mk) (s0 : List Int) : List Int → List Int → Prop
  | nil : Der cs ms s0 [] s0
  | step {rs s : List Int} {x : Int} (h : Der cs ms s0 rs s) (hx : x ∈ s) (hr : rsn ms x ≠ -1) : Der cs ms s0 (rs ++ [rsn ms x]) (resL cs ms s x)
section
variable {cs : List (List Int)} {ms : List Mk}
theorem Der.one {s : List Int} {x : Int} (hx : x ∈ s) (hr : rsn ms x ≠ -1) : Der cs ms s [rsn ms x] (resL cs ms s x) := by
  have := (Der.nil (cs := cs) (ms := ms) (s0 := s)).step hx hr
  simpa using this
theorem Der.inv (hv : VT cs ms) (hW : Wf cs ms) {s0 rs s : List Int} (h0 : SI ms s0) (h : Der cs ms s0 rs s) : SI ms s := by
  induction h with
  | nil => exact h0
  | step _ hx hr ih => exact ih.res hv hW hx hr
theorem Der.trans {s0 rs s rs' s' : List Int} (h1 : Der cs ms s0 rs s) (h2 : Der cs ms s rs' s') : Der cs ms s0 (rs ++ rs') s' := by
  induction h2 with
  | nil => simpa using h1
  | step _ hx hr ih => rw [← List.append_assoc]; exact ih.step hx hr
theorem Der.range (hv : VT cs ms) (hW : Wf cs ms) {s0 rs s : List Int} (h0 : SI ms s0) (h : Der cs ms s0 rs s) : ∀ r ∈ rs, 0 ≤ r ∧ r < (cs.length : Int) := by
  induction h with
  | nil => simp
  | step h hx hr ih =>
    intro r hr'
    rcases List.mem_append.1 hr' with q | q
    · exact ih r q
    · rw [List.mem_singleton.1 q]
      have := hv.new ((h.inv hv hW h0).f _ hx) hr
      exact ⟨this.1, this.2.1⟩
theorem perm_of_mem {s t : List Int} (hs : s.Nodup) (ht : t.Nodup) (h : ∀ x, x ∈ s ↔ x ∈ t) : s.Perm t := (List.perm_ext_iff_of_nodup hs ht).2 h
theorem uipL_der (hv : VT cs ms) (hW : Wf cs ms) (m : Int) : ∀ (n : Nat) (s ch : List Int), SI ms s → ∃ rs, (uipL cs ms m n s ch).2 = ch ++ rs ∧ Der cs ms s rs (uipL cs ms m n s ch).1 ∧ rs.length ≤ n
  | 0, s, ch, _ => ⟨[], by simp [uipL], .nil, by simp⟩
  | n + 1, s, ch, hs => by
    rw [uipL]
    match hA : atL ms s m with
    | [] => exact ⟨[], by simp, .nil, by simp⟩
    | [a] => exact ⟨[], by simp, .nil, by simp⟩
    | a :: b :: r =>
      obtain ⟨h1, _, _, _, _, h6, _⟩ := top_two hv hs.f hs.n hA
      obtain ⟨rs, e1, e2, e3⟩ := uipL_der hv hW m n (resL cs ms s a) (ch ++ [rsn ms a]) (hs.res hv hW h1 h6)
      exact ⟨rsn ms a :: rs, by simp only; rw [e1]; simp, (Der.one h1 h6).trans e2, by simp; omega⟩
theorem uipL_one (hv : VT cs ms) (hW : Wf cs ms) (m : Int) : ∀ (n : Nat) (s ch : List Int), SI ms s → (∀ y ∈ s, lev ms y = m → pk ms y < n) → (atL ms (uipL cs ms m n s ch).1 m).length ≤ 1
  | 0, s, ch, hs, hb => by
    have : atL ms s m = [] := by
      rw [List.eq_nil_iff_forall_not_mem]
      intro y hy
      unfold atL at hy
      rw [List.mem_filter] at hy
      have := hb y ((fallL_perm ms s).mem_iff.1 hy.1) (by simpa using hy.2)
      omega
    rw [uipL, this]; simp
  | n + 1, s, ch, hs, hb => by
    rw [uipL]
    match hA : atL ms s m with
    | [] => simp only; rw [hA]; simp
    | [a] => simp only; rw [hA]; simp
    | a :: b :: r =>
      obtain ⟨h1, _, _, h4, _, h6, _⟩ := top_two hv hs.f hs.n hA
      have h7 := uip_bound hv hs.f hs.n hA
      have h8 := hb a h1 h4
      exact uipL_one hv hW m n _ _ (hs.res hv hW h1 h6) (fun y hy hl => by have := h7 y hy hl; omega)
theorem uipL_most (hv : VT cs ms) (hW : Wf cs ms) {m : Int} (hm : m ≠ 0) : ∀ (n : Nat) (s ch : List Int), SI ms s → mostL ms s = m → mostL ms (uipL cs ms m n s ch).1 = m
  | 0, s, ch, _, h => by rw [uipL]; exact h
  | n + 1, s, ch, hs, h => by
    rw [uipL]
    match hA : atL ms s m with
    | [] => exact h
    | [a] => exact h
    | a :: b :: r =>
      obtain ⟨h1, _, _, _, _, h6, _⟩ := top_two hv hs.f hs.n hA
      exact uipL_most hv hW hm n _ _ (hs.res hv hW h1 h6) (uip_most hv hs.f hs.n h hm hA)
theorem cleanL_der (hv : VT cs ms) (hW : Wf cs ms) : ∀ (n : Nat) (s ch : List Int), SI ms s → ∃ rs, (cleanL cs ms n s ch).2 = ch ++ rs ∧ Der cs ms s rs (cleanL cs ms n s ch).1 ∧ rs.length ≤ n
  | 0, s, ch, _ => ⟨[], by simp [cleanL], .nil, by simp⟩
  | n + 1, s, ch, hs => by
    rw [cleanL]
    cases hz : zeroF ms s with
    | none => exact ⟨[], by simp, .nil, by simp⟩
    | some x =>
      obtain ⟨h1, h2, _⟩ := zeroF_some hz
      have h3 := hv.zero (hs.f x h1) h2
      obtain ⟨rs, e1, e2, e3⟩ := cleanL_der hv hW n (resL cs ms s x) (ch ++ [rsn ms x]) (hs.res hv hW h1 h3)
      exact ⟨rsn ms x :: rs, by simp only; rw [e1]; simp, (Der.one h1 h3).trans e2, by simp; omega⟩
theorem cleanL_no0 (hv : VT cs ms) (hW : Wf cs ms) : ∀ (n : Nat) (s ch : List Int), SI ms s → (∀ y ∈ s, lev ms y = 0 → pk ms y < n) → ∀ y ∈ (cleanL cs ms n s ch).1, lev ms y ≠ 0
  | 0, s, ch, _, hb => fun y hy h0 => by rw [cleanL] at hy; have := hb y hy h0; omega
  | n + 1, s, ch, hs, hb => by
    rw [cleanL]
    cases hz : zeroF ms s with
    | none => exact zeroF_none hz
    | some x =>
      obtain ⟨h1, h2, _⟩ := zeroF_some hz
      have h3 := hv.zero (hs.f x h1) h2
      have h4 := clean_bound hv hs.f hz
      have h5 := hb x h1 h2
      exact cleanL_no0 hv hW n _ _ (hs.res hv hW h1 h3) (fun y hy h0 => by have := h4 y hy h0; omega)
theorem cleanL_keep : ∀ (n : Nat) (s ch : List Int) (y : Int), y ∈ s → lev ms y ≠ 0 → y ∈ (cleanL cs ms n s ch).1
  | 0, s, ch, y, hy, _ => by rw [cleanL]; exact hy
  | n + 1, s, ch, y, hy, h0 => by
    rw [cleanL]
    cases hz : zeroF ms s with
    | none => exact hy
    | some x =>
      obtain ⟨_, h2, _⟩ := zeroF_some hz
      exact cleanL_keep n _ _ y (mem_resL.2 (.inl ⟨hy, fun q => h0 (q ▸ h2)⟩)) h0
theorem cleanL_lev (hv : VT cs ms) (hW : Wf cs ms) : ∀ (n : Nat) (s ch : List Int), SI ms s → ∀ y ∈ (cleanL cs ms n s ch).1, lev ms y ≠ 0 → y ∈ s
  | 0, s, ch, _, y, hy, _ => by rw [cleanL] at hy; exact hy
  | n + 1, s, ch, hs, y, hy, h0 => by
    rw [cleanL] at hy
    cases hz : zeroF ms s with
    | none => rw [hz] at hy; exact hy
    | some x =>
      rw [hz] at hy
      obtain ⟨h1, h2, _⟩ := zeroF_some hz
      have h3 := hv.zero (hs.f x h1) h2
      have hs2 := hs.res hv hW h1 h3
      have hy2 := cleanL_lev hv hW n _ _ hs2 y hy h0
      rcases mem_resL.1 hy2 with ⟨q, _⟩ | q
      · exact q
      · have h4 := ((hv.new (hs.f x h1) h3).2.2 y q).2.2
        have h5 := lev_nonneg hv (hs2.f y hy2)
        omega
structure Asserts (ms : List Mk) (s : List Int) (a : Int) : Prop where
  m : a ∈ s
  p : ∀ y ∈ s, lev ms y ≠ 0
  l : ∀ y ∈ s, y ≠ a → lev ms y < lev ms a
theorem told_perm {s : List Int} {a : Int} (hn : s.Nodup) (ha : a ∈ s) : (a :: restL ms s a).Perm s := by
  refine perm_of_mem (List.nodup_cons.2 ⟨fun q => ?_, ?_⟩) hn (fun x => ?_)
  · unfold restL at q; rw [List.mem_filter] at q; simp at q
  · exact ((fallL_perm ms s).nodup_iff.2 hn).filter _
  · unfold restL
    rw [List.mem_cons, List.mem_filter, (fallL_perm ms s).mem_iff]
    by_cases he : x = a
    · simp [he, ha]
    · simp [he]
theorem setL_nd (c : List Int) : (setL c).Nodup := nodup_foldl_insK List.nodup_nil
theorem setL_SI (hW : Wf cs ms) {i : Int} (h0 : 0 ≤ i) (h1 : i < cs.length) (hf : ((rdC cs i).all fun x => isFalseB ms x) = true) : SI ms (setL (rdC cs i)) :=
  ⟨fun x hx => List.all_eq_true.1 hf x (setL_mem.1 hx), setL_nd _, fun x hx => hW.c _ (rdC_mem h0 h1) x (setL_mem.1 hx)⟩
theorem firstP_says (hW : Wf cs ms) (conf : Int) : ((firstP cs ms conf).2.2.2 ≠ 0 ∧ (firstP cs ms conf).1 = [] ∧ (firstP cs ms conf).2.1 = 0 ∧ (firstP cs ms conf).2.2.1 = []) ∨
    (validB cs [] ms = true ∧ 0 ≤ conf ∧ conf < cs.length ∧ ((rdC cs conf).all fun x => isFalseB ms x) = true ∧ ∃ S rs a, firstP cs ms conf = (a :: restL ms S a, mostL ms (restL ms S a), conf :: rs, 0) ∧ Der cs ms (setL (rdC cs conf)) rs S ∧ Asserts ms S a ∧ rs.length ≤ 2 * ms.length) := by
  unfold firstP
  split
  · rename_i hvb
    split
    · rename_i hc
      obtain ⟨h0, h1, hf⟩ := hc
      split
      · exact .inl ⟨by simp, rfl, rfl, rfl⟩
      · rename_i hm
        have hv := VT.of hvb
        refine .inr ⟨hvb, h0, h1, hf, ?_⟩
        have hs0 := setL_SI hW h0 h1 hf
        obtain ⟨m, hme⟩ : ∃ m, m = mostL ms (setL (rdC cs conf)) := ⟨_, rfl⟩
        obtain ⟨s0, hs0e⟩ : ∃ s, s = setL (rdC cs conf) := ⟨_, rfl⟩
        rw [← hme] at hm ⊢
        rw [← hs0e] at hs0 hme ⊢
        obtain ⟨rs1, e1, d1, l1⟩ := uipL_der hv hW m ms.length s0 [] hs0
        have o1 := uipL_one hv hW m ms.length s0 [] hs0 (fun y hy _ => pk_lt (hs0.f y hy))
        have m1 := uipL_most hv hW hm ms.length s0 [] hs0 hme.symm
        obtain ⟨U, hU⟩ : ∃ U, U = uipL cs ms m ms.length s0 [] := ⟨_, rfl⟩
        rw [← hU] at e1 d1 o1 m1 ⊢
        have hsU := d1.inv hv hW hs0
        obtain ⟨rs2, e2, d2, l2⟩ := cleanL_der hv hW ms.length U.1 U.2 hsU
        have n2 := cleanL_no0 hv hW ms.length U.1 U.2 hsU (fun y hy _ => pk_lt (hsU.f y hy))
        have k2 := fun y => cleanL_keep (cs := cs) (ms := ms) ms.length U.1 U.2 y
        have v2 := cleanL_lev hv hW ms.length U.1 U.2 hsU
        obtain ⟨C, hC⟩ : ∃ C, C = cleanL cs ms ms.length U.1 U.2 := ⟨_, rfl⟩
        rw [← hC] at e2 d2 n2 k2 v2 ⊢
        have hmem : ∀ y, y ∈ atL ms U.1 m ↔ y ∈ U.1 ∧ lev ms y = m := fun y => by
          unfold atL
          rw [List.mem_filter, (fallL_perm ms U.1).mem_iff]
          simp
        obtain ⟨x, hx, hxl⟩ := mostL_mem (ms := ms) U.1 (by rw [m1]; exact hm)
        rw [m1] at hxl
        have hxa := (hmem x).2 ⟨hx, hxl⟩
        obtain ⟨a, ha⟩ : ∃ a, atL ms U.1 m = [a] := by
          match hA : atL ms U.1 m with
          | [] => rw [hA] at hxa; cases hxa
          | [a] => exact ⟨a, rfl⟩
          | a :: b :: r => rw [hA] at o1; simp at o1
        obtain ⟨ha1, ha2⟩ := (hmem a).1 (by rw [ha]; simp)
        refine ⟨C.1, rs1 ++ rs2, a, ?_, d1.trans d2, ⟨k2 a ha1 (by rw [ha2]; exact hm), n2, fun y hy hne => ?_⟩, ?_⟩
        · unfold toldP
          rw [ha, e2, e1]
          simp
        · have hyU := v2 y hy (n2 y hy)
          have h5 := mostL_le (ms := ms) hyU
          rw [m1] at h5
          rcases Int.lt_or_eq_of_le h5 with h6 | h6
          · rw [ha2]; exact h6
          · have h7 := (hmem y).2 ⟨hyU, h6⟩
            rw [ha, List.mem_singleton] at h7
            exact absurd h7 hne
        · rw [List.length_append]; omega
    · exact .inl ⟨by simp, rfl, rfl, rfl⟩
  · exact .inl ⟨by simp, rfl, rfl, rfl⟩
end
end Go.Proofs.Ytboalbiicmcljaa.PAN
