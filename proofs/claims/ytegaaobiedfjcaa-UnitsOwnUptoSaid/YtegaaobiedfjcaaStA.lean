import Derived.Test.YtegaaobiedfjcaaSt7
import Derived.Test.YtegaaobiedfjcaaPUx5
import Derived.Deep.RegionWith
namespace Go.Proofs.Ytegaaobiedfjcaa.PU
open Go.RowKit Go.Proofs.YtegaaobiedfjcaaW.PrintWords Go.Proofs.YtegaaobiedfjcaaW.PrintLast Go.Proofs.YtegaaobiedfjcaaW.PrintMore Go.Proofs.YtegaaobiedfjcaaH
set_option linter.unusedVariables false
set_option linter.unusedSimpArgs false
def absI (l : Int) : Int := if l < 0 then -l else l
/-- Is a literal true under these values? -/
def tru (l : Int) (T : List Bool) : Bool := if l = 0 then false else ((if absI l < (T.length : Int) then rdOf false T (absI l) else false) == decide (l > 0))
theorem True_f {l : Int} {T : List Bool} (h1 : -9223372036854775808 < l) (h2 : l ≤ 9223372036854775807) : fulcrumref18_True.f l T = some (tru l T) := by
  unfold fulcrumref18_True.f fulcrumref18_Literal.f tru
  by_cases h0 : l = 0
  · rw [if_pos h0, if_pos h0]; rfl
  · rw [if_neg h0, if_neg h0]
    have e1 : (l != -9223372036854775808) = true := by rw [bne_iff_ne]; omega
    have e2 : fulcrumref18_Atom.f l = some (absI l) := by
      unfold fulcrumref18_Atom.f absI
      by_cases h : l < 0
      · rw [if_pos h, if_pos h]
        have : wrap64 (-l) = -l := by unfold wrap64; omega
        rw [this]
      · rw [if_neg h, if_neg h]
    have e3 : 0 ≤ absI l := by unfold absI; split <;> omega
    simp only [Option.bind_some, e1, if_true, e2]
    by_cases h : absI l < (T.length : Int)
    · rw [if_pos h, if_pos e3, if_pos h]
    · rw [if_neg h, if_neg h]
theorem tru_neg {l : Int} (h0 : l ≠ 0) (T : List Bool) : tru (-l) T = !tru l T := by
  unfold tru
  have e : absI (-l) = absI l := by unfold absI; split <;> split <;> omega
  rw [if_neg (by omega), if_neg h0, e]
  have e2 : decide (-l > 0) = !decide (l > 0) := by
    by_cases h : l > 0
    · rw [decide_eq_true h, decide_eq_false (by omega)]; rfl
    · rw [decide_eq_false h, decide_eq_true (by omega)]; rfl
  rw [e2]
  generalize (if absI l < (T.length : Int) then rdOf false T (absI l) else false) = a
  generalize decide (l > 0) = b
  cases a <;> cases b <;> rfl
theorem Made_l {T : List Bool} {c : List Int} (hc : ∀ x ∈ c, -9223372036854775808 < x ∧ x ≤ 9223372036854775807) (hl : c.length ≤ 4611686018427387904) : ∀ (k i : Nat), c.length < i + k → i ≤ c.length → fulcrumref18_Made.l0 k c T (i : Int) = some ((c.drop i).any (fun x => tru x T))
  | 0, i, h1, h2 => by omega
  | k + 1, i, h1, h2 => by
    rw [fulcrumref18_Made.l0]
    by_cases h : i < c.length
    · rw [if_pos (by omega), if_pos (by omega), True_f (hc _ (rd_mem' h)).1 (hc _ (rd_mem' h)).2]
      simp only [Option.bind_some]
      have ed : (c.drop i).any (fun x => tru x T) = (tru (rd c (i : Int)) T || (c.drop (i + 1)).any (fun x => tru x T)) := by rw [rd_drop' h]; rfl
      rw [ed]
      by_cases ht : tru (rd c (i : Int)) T = true
      · rw [if_pos ht, ht]; rfl
      · have ht' : tru (rd c (i : Int)) T = false := by simpa using ht
        rw [if_neg ht, ht']
        have : wrap64 ((i : Int) + 1) = ((i + 1 : Nat) : Int) := by unfold wrap64; omega
        rw [this, Made_l hc hl k (i + 1) (by omega) (by omega)]
        rfl
    · rw [if_neg (by omega), List.drop_eq_nil_of_le (by omega)]
      rfl
theorem Made_f {T : List Bool} {c : List Int} (hc : ∀ x ∈ c, -9223372036854775808 < x ∧ x ≤ 9223372036854775807) (hl : c.length ≤ 4611686018427387904) : fulcrumref18_Made.f (c.length + 1) c T = some (c.any (fun x => tru x T)) := by
  have := Made_l (T := T) hc hl (c.length + 1) 0 (by omega) (by omega)
  simpa [fulcrumref18_Made.f] using this
theorem rd_setN {vals : List Int} {i : Nat} {v : Int} {j : Int} (hj : 0 ≤ j) (hi : i < vals.length) : rd (vals.set i v) j = if (i : Int) = j then v else rd vals j := by
  obtain ⟨n, rfl⟩ := Int.eq_ofNat_of_zero_le hj
  unfold rd
  rw [Int.toNat_natCast, List.getD_eq_getElem?_getD, List.getD_eq_getElem?_getD, List.getElem?_set]
  by_cases h : i = n
  · subst h
    rw [if_pos rfl, if_pos rfl, if_pos hi]; rfl
  · rw [if_neg h, if_neg (by omega)]
theorem valL_mark {vals : List Int} {l x : Int} (h1 : -(vals.length : Int) < l) (h2 : l < (vals.length : Int)) (hl : l ≠ 0) (hx : x ≠ 0) : valL (markV vals l) x = if x = l then 1 else if x = -l then -1 else valL vals x := by
  unfold valL markV
  by_cases hl0 : l < 0 <;> by_cases hx0 : x < 0
  · rw [if_pos hl0, if_pos hx0, if_pos hx0, rd_setN (by omega) (by omega)]
    repeat' split
    all_goals omega
  · rw [if_pos hl0, if_neg hx0, if_neg hx0, rd_setN (by omega) (by omega)]
    repeat' split
    all_goals omega
  · rw [if_neg hl0, if_pos hx0, if_pos hx0, rd_setN (by omega) (by omega)]
    repeat' split
    all_goals omega
  · rw [if_neg hl0, if_neg hx0, if_neg hx0, rd_setN (by omega) (by omega)]
    repeat' split
    all_goals omega
structure FInv (N : Nat) (cs : List (List Int)) (vals : List Int) (marks : List S48) : Prop where
  len : vals.length = N
  con : ∀ l : Int, l ≠ 0 → valL vals l < 0 → ∃ m ∈ marks, m.f0 = -l
  snd : ∀ T : List Bool, (∀ c ∈ cs, c.any (fun x => tru x T) = true) → (∀ m ∈ marks, m.f2 = -1 → tru m.f0 T = true) → ∀ m ∈ marks, tru m.f0 T = true
  rng : ∀ m ∈ marks, m.f0 ≠ 0 ∧ -(N : Int) < m.f0 ∧ m.f0 < (N : Int)
theorem FInv.step {N : Nat} {cs : List (List Int)} (hcs : ∀ c ∈ cs, ∀ x ∈ c, x ≠ 0 ∧ -(N : Int) < x ∧ x < (N : Int)) : Stepping cs (FInv N cs) := by
  intro vals marks i c l h hc hs hl
  have hm : c ∈ cs := List.mem_of_getElem? hc
  rcases scanU_says vals c l false (fun x hx => (hcs c hm x hx).1) hs with ⟨_, q, _⟩ | ⟨q, _⟩ | ⟨_, _, hlc, hl0, hall⟩
  · cases q
  · exact absurd q hl
  have hr := hcs c hm l hlc
  have hlen := h.len
  refine ⟨by rw [markV_len]; exact h.len, fun x hx hv => ?_, fun T hT hd m hmm => ?_, fun m hmm => ?_⟩
  · rw [valL_mark (by omega) (by omega) hr.1 hx] at hv
    split at hv
    · omega
    · split at hv
      · rename_i e
        exact ⟨_, List.mem_append_right _ (List.mem_singleton.2 rfl), by dsimp only; omega⟩
      · obtain ⟨m, hm1, hm2⟩ := h.con x hx hv
        exact ⟨m, List.mem_append_left _ hm1, hm2⟩
  · have hold := h.snd T hT (fun m hm => hd m (List.mem_append_left _ hm))
    rcases List.mem_append.1 hmm with hmm | hmm
    · exact hold m hmm
    · obtain rfl := List.mem_singleton.1 hmm
      dsimp only
      obtain ⟨x, hx, hxt⟩ := List.any_eq_true.1 (hT c hm)
      by_cases e : x = l
      · subst e; exact hxt
      · obtain ⟨m, hm1, hm2⟩ := h.con x (hcs c hm x hx).1 (hall x hx e)
        have := hold m hm1
        rw [hm2, tru_neg (hcs c hm x hx).1, hxt] at this
        cases this
  · rcases List.mem_append.1 hmm with hmm | hmm
    · exact h.rng m hmm
    · obtain rfl := List.mem_singleton.1 hmm
      exact hr
theorem FInv.decide {N : Nat} {cs : List (List Int)} {vals : List Int} {marks : List S48} (h : FInv N cs vals marks ∧ ∀ m ∈ marks, m.f2 = -1) (x : Int) : FInv N cs (decU (vals, marks) x).1 (decU (vals, marks) x).2 ∧ ∀ m ∈ (decU (vals, marks) x).2, m.f2 = -1 := by
  obtain ⟨h, ha⟩ := h
  unfold decU
  split
  · rename_i q
    dsimp only at q ⊢
    have hr := litB_iff.1 q.1
    have hlen := h.len
    have ha' : ∀ m ∈ marks ++ [(⟨x, lvl marks + 1, -1⟩ : S48)], m.f2 = -1 := fun m hm => by
      rcases List.mem_append.1 hm with hm | hm
      · exact ha m hm
      · rw [List.mem_singleton.1 hm]
    refine ⟨⟨by rw [markV_len]; exact h.len, fun y hy hv => ?_, fun T hT hd m hmm => hd m hmm (ha' m hmm), fun m hmm => ?_⟩, ha'⟩
    · rw [valL_mark (by omega) (by omega) hr.1 hy] at hv
      split at hv
      · omega
      · split at hv
        · exact ⟨_, List.mem_append_right _ (List.mem_singleton.2 rfl), by dsimp only; omega⟩
        · obtain ⟨m, hm1, hm2⟩ := h.con y hy hv
          exact ⟨m, List.mem_append_left _ hm1, hm2⟩
    · rcases List.mem_append.1 hmm with hmm | hmm
      · exact h.rng m hmm
      · rw [List.mem_singleton.1 hmm]; dsimp only; omega
  · exact ⟨h, ha⟩
theorem FInv.decides {N : Nat} {cs : List (List Int)} : ∀ (l : List Int) (s : List Int × List S48), (FInv N cs s.1 s.2 ∧ ∀ m ∈ s.2, m.f2 = -1) → FInv N cs (l.foldl decU s).1 (l.foldl decU s).2
  | [], s, h => h.1
  | x :: xs, s, h => FInv.decides xs _ (FInv.decide h x)
theorem FInv.start (N : Nat) (cs : List (List Int)) : FInv N cs (List.replicate N 0) [] := by
  refine ⟨List.length_replicate .., fun l _ hv => ?_, (fun _ _ _ m hm => by cases hm), (fun m hm => by cases hm)⟩
  exfalso
  have h0 : ∀ i : Int, rd (List.replicate N (0 : Int)) i = 0 := fun i => by
    unfold rd
    rw [List.getD_eq_getElem?_getD, List.getElem?_replicate]
    split <;> rfl
  unfold valL at hv
  rw [h0, h0] at hv
  split at hv <;> omega
/-- The end: if nothing speaks against the values, no clause is false. -/
theorem FInv.end_ {N : Nat} {cs : List (List Int)} (hcs : ∀ c ∈ cs, ∀ x ∈ c, x ≠ 0 ∧ -(N : Int) < x ∧ x < (N : Int)) {vals : List Int} {marks : List S48} (h : FInv N cs vals marks) {T : List Bool} (hT : ∀ c ∈ cs, c.any (fun x => tru x T) = true) (hd : ∀ m ∈ marks, m.f2 = -1 → tru m.f0 T = true) {i : Nat} {c : List Int} (hc : cs[i]? = some c) (hs : scanU vals c 0 = (0, true)) : False := by
  have hm : c ∈ cs := List.mem_of_getElem? hc
  obtain ⟨x, hx, hxt⟩ := List.any_eq_true.1 (hT c hm)
  rcases scanU_says vals c 0 true (fun x hx => (hcs c hm x hx).1) hs with ⟨_, _, q⟩ | ⟨_, q, _⟩ | ⟨q, _⟩
  · obtain ⟨m, hm1, hm2⟩ := h.con x (hcs c hm x hx).1 (q x hx)
    have := h.snd T hT hd m hm1
    rw [hm2, tru_neg (hcs c hm x hx).1, hxt] at this
    cases this
  · cases q
  · exact absurd rfl q

end Go.Proofs.Ytegaaobiedfjcaa.PU
