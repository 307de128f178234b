/-
  The copies, the small question, Units on both sides; soundness of what follows by units; more clauses and longer ones.
-/
import Derived.Test.YtlbjhpbmmdboeaaQUnits
import Derived.Test.YtlbjhpbmmdboeaaPCx5
namespace Go.Proofs.Ytlbjhpbmmdboeaa.PC
open Go.RowKit Go.Proofs.YtlbjhpbmmdboeaaW.PrintWords Go.Proofs.YtlbjhpbmmdboeaaW.PrintLast
set_option linter.unusedVariables false
set_option linter.unusedSimpArgs false

/-! ### copies -/
theorem set_copy {α : Type} (l : List α) (z : α) {i : Nat} (h : i < l.length) (x : α) (hx : l[i]? = some x) : (l.take i ++ List.replicate (l.length - i) z).set i x = l.take (i + 1) ++ List.replicate (l.length - (i + 1)) z := by
  apply List.ext_getElem?
  intro j
  have hti : (l.take i).length = i := by rw [List.length_take]; omega
  have htj : (l.take (i + 1)).length = i + 1 := by rw [List.length_take]; omega
  by_cases hj : j = i
  · subst hj
    rw [List.getElem?_set_self (by simp; omega), List.getElem?_append_left (by omega), List.getElem?_take_of_lt (by omega), hx]
  · rw [List.getElem?_set_ne (Ne.symm hj)]
    rcases Nat.lt_or_ge j i with hlt | hge
    · rw [List.getElem?_append_left (by omega), List.getElem?_append_left (by omega), List.getElem?_take_of_lt hlt, List.getElem?_take_of_lt (by omega)]
    · rw [List.getElem?_append_right (by omega), List.getElem?_append_right (by omega), hti, htj]
      simp only [List.getElem?_replicate]
      by_cases h1 : j - i < l.length - i
      · rw [if_pos h1, if_pos (by omega)]
      · rw [if_neg h1, if_neg (by omega)]
theorem rd_at {l : List Int} {i : Nat} (h : i < l.length) : l[i]? = some (rd l (i : Int)) := by
  simp [rd, List.getD_eq_getElem?_getD, List.getElem?_eq_getElem h]
theorem rd1_at {l : List (List Int)} {i : Nat} (h : i < l.length) : l[i]? = some (rd_L1 l (i : Int)) := by
  simp [rd_L1, List.getD_eq_getElem?_getD, List.getElem?_eq_getElem h]
theorem ints_ev (l : List Int) (hn : l.length ≤ 4611686018427387904) : ∀ d i : Nat, i + d = l.length → Ev (fun k => fulcrumlaw25_ints.l0 k l (l.take i ++ List.replicate (l.length - i) 0) (i : Int)) l := by
  intro d
  induction d with
  | zero =>
    intro i h
    refine Ev.step (f := fun _ => some l) (fun k => ?_) (Ev.now _)
    simp only [fulcrumlaw25_ints.l0]
    rw [if_neg (by omega), List.take_of_length_le (by omega), show l.length - i = 0 by omega]
    simp
  | succ d ih =>
    intro i h
    have hlt : i < l.length := by omega
    refine Ev.step (fun k => ?_) (ih (i + 1) (by omega))
    simp only [fulcrumlaw25_ints.l0]
    rw [if_pos (by omega), if_pos (by omega), if_pos (by simp; omega), wrapS hlt hn, Int.toNat_natCast, set_copy l 0 hlt _ (rd_at hlt)]
theorem ints_all (l : List Int) (hn : l.length ≤ 4194304) : Ev (fun k => fulcrumlaw25_ints.f k l) l := by
  have h := ints_ev l (by omega) l.length 0 (by omega)
  simp only [List.take_zero, List.nil_append, Nat.sub_zero] at h
  refine Ev.congr (fun k => ?_) h
  unfold fulcrumlaw25_ints.f
  rw [if_pos (by omega), Int.toNat_natCast, if_pos (by omega)]
  rfl
theorem clauses_ev (l : List (List Int)) (hn : l.length ≤ 4611686018427387904) (hd : ∀ d ∈ l, d.length ≤ 4194304) : ∀ d i : Nat, i + d = l.length → Ev (fun k => fulcrumlaw25_clauses.l0 k l (l.take i ++ List.replicate (l.length - i) []) (i : Int)) l := by
  intro d
  induction d with
  | zero =>
    intro i h
    refine Ev.step (f := fun _ => some l) (fun k => ?_) (Ev.now _)
    simp only [fulcrumlaw25_clauses.l0]
    rw [if_neg (by omega), List.take_of_length_le (by omega), show l.length - i = 0 by omega]
    simp
  | succ d ih =>
    intro i h
    have hlt : i < l.length := by omega
    have hs := set_copy l [] hlt _ (rd1_at hlt)
    have := Ev.bind (ints_all _ (hd _ (rd1_mem hlt))) (f := fun k t => if (i : Int) < ((l.take i ++ List.replicate (l.length - i) ([] : List Int)).length : Int) then fulcrumlaw25_clauses.l0 k l ((l.take i ++ List.replicate (l.length - i) []).set i t) ((i + 1 : Nat) : Int) else none) (r := l) (by
      rw [hs]
      refine Ev.congr (fun k => ?_) (ih (i + 1) (by omega))
      rw [if_pos (by simp; omega)])
    refine Ev.step (fun k => ?_) this
    simp only [fulcrumlaw25_clauses.l0]
    rw [if_pos (by omega), if_pos (by omega), wrapS hlt hn, Int.toNat_natCast]
theorem clauses_all (l : List (List Int)) (hn : l.length ≤ 4194304) (hd : ∀ d ∈ l, d.length ≤ 4194304) : Ev (fun k => fulcrumlaw25_clauses.f k l) l := by
  have h := clauses_ev l (by omega) hd l.length 0 (by omega)
  simp only [List.take_zero, List.nil_append, Nat.sub_zero] at h
  refine Ev.congr (fun k => ?_) h
  unfold fulcrumlaw25_clauses.f
  rw [if_pos (by omega), Int.toNat_natCast, if_pos (by omega)]
  rfl
theorem lives_all : Ev (fun k => fulcrumlaw25_lives.f k) true := Ev.of fulcrumlaw25_lives.mono (k := 8) (by decide +kernel)

/-! ### Units, on both sides -/
/-- Clauses and a clause of a size that serves. -/
structure Fits (l : List (List Int)) (c : List Int) : Prop where
  n : l.length ≤ 4194304
  d : ∀ d ∈ l, d.length ≤ 4194304
  w : ∀ d ∈ l, wfL d = true
  cn : c.length ≤ 1048592
  cw : wfL c = true
  t : l.flatten.length ≤ 2097152
theorem Fits.left {l : List (List Int)} {c : List Int} (h : Fits l c) (s : List Int) : left l.flatten s ≤ 2097152 := by
  unfold Go.Proofs.Ytlbjhpbmmdboeaa.PC.left
  exact Nat.le_trans List.countP_le_length h.t
theorem any_prefix (c : List Int) : ∀ i, i ≤ c.length → anyL (c.take i) (startL (c.take i)) = true → anyL c (startL c) = true := by
  intro i hi h
  unfold anyL startL at *
  simp only [List.any_eq_true, decide_eq_true_eq, List.mem_reverse, List.mem_map] at *
  obtain ⟨x, hx, y, hy, e⟩ := h
  exact ⟨x, List.mem_of_mem_take hx, y, List.mem_of_mem_take hy, e⟩
theorem mem_startL {c : List Int} {x : Int} : x ∈ startL c ↔ (-x) ∈ c := by
  unfold startL
  simp only [List.mem_reverse, List.mem_map]
  constructor
  · rintro ⟨y, hy, rfl⟩; simpa using hy
  · intro h; exact ⟨-x, h, by omega⟩
theorem startL_succ {c : List Int} {i : Nat} (h : i < c.length) : (startL (c.take (i + 1))).reverse = (startL (c.take i)).reverse ++ [-(rd c (i : Int))] := by
  unfold startL
  rw [List.take_succ_eq_append_getElem h, List.map_append, List.reverse_append]
  simp [rd, List.getD_eq_getElem?_getD, List.getElem?_eq_getElem h, -List.map_take]
theorem ref_start (l : List (List Int)) (c : List Int) (hn : c.length ≤ 4194304) (hok : ∀ x ∈ c, okInt x) : ∀ d i : Nat, i + d = c.length →
    ((∃ j, i ≤ j ∧ j < c.length ∧ rd c (j : Int) ∈ startL (c.take j)) → Ev (fun k => fulcrumsums_Units.l0 k l c (startL (c.take i)).reverse (i : Int)) true) ∧
    ((∀ j, i ≤ j → j < c.length → rd c (j : Int) ∉ startL (c.take j)) → ∀ r, Ev (fun k => fulcrumsums_Units.l1 k l (startL c).reverse) r → Ev (fun k => fulcrumsums_Units.l0 k l c (startL (c.take i)).reverse (i : Int)) r) := by
  intro d
  induction d with
  | zero =>
    intro i h
    refine ⟨fun ⟨j, h1, h2, _⟩ => by omega, fun _ r hr => ?_⟩
    have hi : i = c.length := by omega
    subst hi
    rw [List.take_length]
    refine Ev.step (fun k => ?_) hr
    simp only [fulcrumsums_Units.l0]
    rw [if_neg (by omega)]
  | succ d ih =>
    intro i h
    have hlt : i < c.length := by omega
    have hneg : wrap64 (-(rd c (i : Int))) = -(rd c (i : Int)) := by
      have := hok _ (rd_mem hlt)
      unfold okInt at this
      unfold wrap64
      omega
    have hlen : (startL (c.take i)).reverse.length = i := by rw [List.length_reverse, startL_length, List.length_take]; omega
    have key : ∀ r, Ev (fun k => if rd c (i : Int) ∈ startL (c.take i) then some true else fulcrumsums_Units.l0 k l c (startL (c.take (i + 1))).reverse ((i + 1 : Nat) : Int)) r → Ev (fun k => fulcrumsums_Units.l0 k l c (startL (c.take i)).reverse (i : Int)) r := by
      intro r hr
      have hh := has_all (startL (c.take i)).reverse (rd c (i : Int)) (by omega)
      have := Ev.bind hh (f := fun k t => if t = true then some true else fulcrumsums_Units.l0 k l c (startL (c.take (i + 1))).reverse ((i + 1 : Nat) : Int)) (r := r) (by
        refine Ev.congr (fun k => ?_) hr
        simp only [List.mem_reverse, decide_eq_true_eq])
      refine Ev.step (fun k => ?_) this
      simp only [fulcrumsums_Units.l0]
      rw [if_pos (by omega), if_pos (by omega), wrapS hlt (by omega), hneg, ← startL_succ hlt]
      simp only [hlen, show i < 17592186044416 by omega, if_true]
    have ih1 := ih (i + 1) (by omega)
    by_cases hin : rd c (i : Int) ∈ startL (c.take i)
    · refine ⟨fun _ => key _ ?_, fun hno => absurd hin (hno i (Nat.le_refl _) hlt)⟩
      simp only [hin, if_true]
      exact Ev.now _
    · simp only [hin, if_false] at key
      refine ⟨fun ⟨j, h1, h2, h3⟩ => key _ (ih1.1 ⟨j, ?_, h2, h3⟩), fun hno r hr => key _ (ih1.2 (fun j h1 h2 => hno j (by omega) h2) r hr)⟩
      rcases Nat.lt_or_ge i j with h4 | h4
      · exact h4
      · have : j = i := by omega
        subst this
        exact absurd h3 hin
theorem any_iff (c : List Int) (hok : ∀ x ∈ c, okInt x) (hz : ∀ x ∈ c, x ≠ 0) : anyL c (startL c) = true ↔ ∃ j, 0 ≤ j ∧ j < c.length ∧ rd c (j : Int) ∈ startL (c.take j) := by
  constructor
  · intro h
    unfold anyL at h
    simp only [List.any_eq_true, decide_eq_true_eq, mem_startL] at h
    obtain ⟨x, hx, hx2⟩ := h
    obtain ⟨i, hi, rfl⟩ := List.mem_iff_getElem.1 hx
    obtain ⟨j, hj, he⟩ := List.mem_iff_getElem.1 hx2
    have hij : i ≠ j := by
      rintro rfl
      have := hz _ hx
      omega
    have rdi : ∀ n (h : n < c.length), rd c (n : Int) = c[n] := fun n h => by simp [rd, List.getD_eq_getElem?_getD, List.getElem?_eq_getElem h]
    rcases Nat.lt_or_ge i j with h1 | h1
    · refine ⟨j, by omega, hj, mem_startL.2 ?_⟩
      rw [rdi j hj, he, Int.neg_neg]
      exact List.mem_iff_getElem.2 ⟨i, by simp; omega, by simp⟩
    · refine ⟨i, by omega, hi, mem_startL.2 ?_⟩
      rw [rdi i hi, ← he]
      exact List.mem_iff_getElem.2 ⟨j, by simp; omega, by simp⟩
  · rintro ⟨j, _, h2, h3⟩
    unfold anyL
    simp only [List.any_eq_true, decide_eq_true_eq]
    rw [mem_startL] at h3
    exact ⟨_, rd_mem h2, mem_startL.2 (List.mem_of_mem_take h3)⟩

/-- Both sides come to one answer. -/
theorem units_both {l : List (List Int)} {c : List Int} (F : Fits l c) : ∃ r, Ev (fun k => checker_Units.f k l c) r ∧ Ev (fun k => fulcrumref25_Units.f k l c) r := by
  have hwl : l.all wfL = true := List.all_eq_true.2 F.w
  have hl := lits_all c (by have := F.cn; omega)
  by_cases hlit : litsB c = true
  · have hok := okInt_of F.cw hlit
    have hz : ∀ x ∈ c, x ≠ 0 := by
      intro x hx e
      subst e
      simp [litsB, hx] at hlit
    have h0 := ref_start l c (by have := F.cn; omega) hok c.length 0 (by omega)
    have toref : ∀ r, Ev (fun k => fulcrumsums_Units.l0 k l c [] 0) r → Ev (fun k => fulcrumref25_Units.f k l c) r := by
      intro r hr
      unfold fulcrumref25_Units.f
      refine Ev.bind (a := r) ?_ (Ev.now r)
      unfold fulcrumsums_Units.f
      refine Ev.bind hl ?_
      rw [hlit]
      simpa using hr
    by_cases hany : anyL c (startL c) = true
    · refine ⟨true, Ev.of (checker_Units.mono l c) (k := 0) ?_, toref _ (h0.1 ((any_iff c hok hz).1 hany))⟩
      unfold checker_Units.f
      rw [if_pos ⟨F.cw, hwl⟩, if_pos hlit, if_pos hany]
    · obtain ⟨k, r, h1, h2⟩ := rounds_all l F.n F.d F.w _ (startL c) (Nat.le_refl _) (by rw [startL_length]; have := F.cn; have := F.left (startL c); omega)
      refine ⟨r, Ev.of (checker_Units.mono l c) (k := k) ?_, toref _ (h0.2 (fun j h3 h4 h5 => hany ((any_iff c hok hz).2 ⟨j, h3, h4, h5⟩)) r h2)⟩
      unfold checker_Units.f
      rw [if_pos ⟨F.cw, hwl⟩, if_pos hlit, if_neg hany, h1]
  · refine ⟨false, Ev.of (checker_Units.mono l c) (k := 0) ?_, ?_⟩
    · unfold checker_Units.f
      rw [if_pos ⟨F.cw, hwl⟩, if_neg hlit]
    · unfold fulcrumref25_Units.f
      refine Ev.bind (a := false) ?_ (Ev.now false)
      unfold fulcrumsums_Units.f
      refine Ev.bind hl ?_
      rw [Bool.eq_false_iff.mpr hlit]
      exact Ev.now _
theorem sum_one {l : List Int} : (l.map (fun _ => 1)).sum = l.length := by
  induction l with
  | nil => rfl
  | cons x xs ih => simp; omega
theorem sum_two : ∀ {l : List (List Int)}, l.flatten.length + l.length = (l.map (fun l => (l.map (fun _ => 1)).sum + 1)).sum := by
  intro l
  induction l with
  | nil => rfl
  | cons x xs ih =>
    simp only [List.flatten_cons, List.length_append, List.length_cons, List.map_cons, List.sum_cons, sum_one] at *
    omega
theorem length_le_flatten {l : List (List Int)} {d : List Int} (h : d ∈ l) : d.length ≤ l.flatten.length := by
  induction l with
  | nil => cases h
  | cons x xs ih =>
    simp only [List.flatten_cons, List.length_append]
    rcases List.mem_cons.1 h with rfl | h
    · omega
    · have := ih h; omega
theorem fits_of {l : List (List Int)} {c : List Int} (hb : (l.map (fun l => (l.map (fun _ => 1)).sum + 1)).sum + (c.map (fun _ => 1)).sum ≤ 1048576)
    (h0 : ∀ x ∈ l, ∀ y ∈ x, (Lit.int .i64 y).wf = true) (h1 : ∀ y ∈ c, (Lit.int .i64 y).wf = true) : Fits l c := by
  rw [← sum_two, sum_one] at hb
  refine ⟨by omega, fun d hd => by have := length_le_flatten hd; omega, fun d hd => List.all_eq_true.2 (h0 d hd), by omega, List.all_eq_true.2 h1, by omega⟩
end Go.Proofs.Ytlbjhpbmmdboeaa.PC
