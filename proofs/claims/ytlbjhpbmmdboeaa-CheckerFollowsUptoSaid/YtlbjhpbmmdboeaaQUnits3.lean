/-
  What follows by units is true wherever the clauses are; what follows follows by more clauses, and of a longer clause.
-/
import Derived.Test.YtlbjhpbmmdboeaaQUnits2
namespace Go.Proofs.Ytlbjhpbmmdboeaa.PC
open Go.RowKit Go.Proofs.YtlbjhpbmmdboeaaW.PrintWords Go.Proofs.YtlbjhpbmmdboeaaW.PrintLast
set_option linter.unusedVariables false
set_option linter.unusedSimpArgs false

/-! ### truths -/
def truthL (T : List Int) (x : Int) : Bool := if (if x < 0 then wrap64 (-x) else x) ≤ 0 then false else decide ((if x < 0 then wrap64 (-x) else x) ∈ T) == decide (x > 0)
def clauseL (T c : List Int) : Bool := c.any (truthL T)
theorem truth_loop (T : List Int) (x a : Int) (hn : T.length ≤ 4611686018427387904) : ∀ d i : Nat, i + d = T.length → ∀ b : Bool, Ev (fun k => fulcrumlaw25_truth.l0 k T x a b (i : Int)) ((b || decide (a ∈ T.drop i)) == decide (x > 0)) := by
  intro d
  induction d with
  | zero =>
    intro i h b
    refine Ev.step (f := fun _ => some (b == decide (x > 0))) (fun k => ?_) ?_
    · simp only [fulcrumlaw25_truth.l0]; rw [if_neg (by omega)]
    · rw [List.drop_eq_nil_of_le (by omega)]; simpa using Ev.now _
  | succ d ih =>
    intro i h b
    have hlt : i < T.length := by omega
    rw [rd_drop hlt]
    cases b with
    | true =>
      refine Ev.step (f := fun k => fulcrumlaw25_truth.l0 k T x a true ((i + 1 : Nat) : Int)) (fun k => ?_) ?_
      · simp only [fulcrumlaw25_truth.l0]; rw [if_pos (by omega), if_pos trivial, wrapS hlt hn]
      · simpa using ih (i + 1) (by omega) true
    | false =>
      refine Ev.step (f := fun k => fulcrumlaw25_truth.l0 k T x a (rd T (i : Int) == a) ((i + 1 : Nat) : Int)) (fun k => ?_) ?_
      · simp only [fulcrumlaw25_truth.l0]; rw [if_pos (by omega), if_neg (by simp), if_pos (by omega), wrapS hlt hn]
      · have := ih (i + 1) (by omega) (rd T (i : Int) == a)
        have e : (false || decide (a ∈ rd T (i : Int) :: T.drop (i + 1))) = ((rd T (i : Int) == a) || decide (a ∈ T.drop (i + 1))) := by
          by_cases h1 : rd T (i : Int) = a
          · simp [h1]
          · simp [h1, Ne.symm h1]
        rw [e]
        exact this
theorem truth_all (T : List Int) (x : Int) (hn : T.length ≤ 4611686018427387904) : Ev (fun k => fulcrumlaw25_truth.f k T x) (truthL T x) := by
  have key : ∀ a : Int, Ev (fun k => fulcrumlaw25_truth.j0 k T x a) (if a ≤ 0 then false else decide (a ∈ T) == decide (x > 0)) := by
    intro a
    refine Ev.step (f := fun k => if a ≤ 0 then some false else fulcrumlaw25_truth.l0 k T x a false 0) (fun k => by simp only [fulcrumlaw25_truth.j0]) ?_
    by_cases h : a ≤ 0
    · simp only [h, if_true]; exact Ev.now _
    · simp only [h, if_false]
      have := truth_loop T x a hn T.length 0 (by omega) false
      simpa using this
  unfold truthL fulcrumlaw25_truth.f
  by_cases h : x < 0
  · simp only [h, if_true]; exact key _
  · simp only [h, if_false]; exact key _
theorem clause_ev (T c : List Int) (hn : T.length ≤ 4611686018427387904) (hc : c.length ≤ 4611686018427387904) : ∀ d i : Nat, i + d = c.length → Ev (fun k => fulcrumlaw25_clause.l0 k T c (i : Int)) (clauseL T (c.drop i)) := by
  intro d
  induction d with
  | zero =>
    intro i h
    refine Ev.step (f := fun _ => some false) (fun k => ?_) ?_
    · simp only [fulcrumlaw25_clause.l0]; rw [if_neg (by omega)]
    · rw [List.drop_eq_nil_of_le (by omega)]; exact Ev.now _
  | succ d ih =>
    intro i h
    have hlt : i < c.length := by omega
    rw [rd_drop hlt]
    refine Ev.step (f := fun k => (fulcrumlaw25_truth.f k T (rd c (i : Int))).bind fun t => if t = true then some true else fulcrumlaw25_clause.l0 k T c ((i + 1 : Nat) : Int)) (fun k => ?_) ?_
    · simp only [fulcrumlaw25_clause.l0]; rw [if_pos (by omega), if_pos (by omega), wrapS hlt hc]
    · refine Ev.bind (truth_all T _ hn) ?_
      unfold clauseL
      rw [List.any_cons]
      cases truthL T (rd c (i : Int)) with
      | true => simpa using Ev.now true
      | false => simpa [clauseL] using ih (i + 1) (by omega)
theorem clause_all (T c : List Int) (hn : T.length ≤ 4611686018427387904) (hc : c.length ≤ 4611686018427387904) : Ev (fun k => fulcrumlaw25_clause.f k T c) (clauseL T c) := by
  have := clause_ev T c hn hc c.length 0 (by omega)
  simpa [fulcrumlaw25_clause.f] using this

/-! ### soundness -/
theorem truth_neg {T : List Int} {x : Int} (h : okInt x) (h0 : x ≠ 0) : truthL T (-x) = !truthL T x := by
  unfold okInt at h
  unfold truthL
  have w1 : x < 0 → wrap64 (-x) = -x := fun _ => by unfold wrap64; omega
  have w2 : -x < 0 → wrap64 (-(-x)) = x := fun _ => by unfold wrap64; omega
  by_cases h1 : x < 0
  · rw [if_neg (show ¬ (-x < 0) by omega), if_pos h1, w1 h1, if_neg (by omega), if_neg (by omega)]
    by_cases h2 : (-x) ∈ T
    · simp [h2, show ¬ (0 < x) by omega, show x < 0 by omega]
    · simp [h2, show ¬ (0 < x) by omega, show x < 0 by omega]
  · rw [if_pos (show -x < 0 by omega), w2 (by omega), if_neg h1, if_neg (by omega), if_neg (by omega)]
    by_cases h2 : x ∈ T
    · simp [h2, show 0 < x by omega, show ¬ (x < 0) by omega]
    · simp [h2, show 0 < x by omega, show ¬ (x < 0) by omega]
/-- What look tells: but for the literal that it forces all are false. -/
theorem look_rest (s : List Int) : ∀ (xs : List Int) (lit op : Int), 0 ≤ op → (lookL s xs lit op).2 < 2 → (∀ x ∈ xs, (-x) ∈ s ∨ (x = (lookL s xs lit op).1 ∧ (lookL s xs lit op).2 = 1)) ∧ (op = 1 → (lookL s xs lit op) = (lit, 1)) ∧ (2 ≤ op → False) := by
  intro xs
  induction xs with
  | nil =>
    intro lit op h0 h
    simp only [lookL] at h ⊢
    refine ⟨by simp, fun e => by rw [e]; rfl, fun h2 => ?_⟩
    split at h <;> omega
  | cons x xs ih =>
    intro lit op h0 h
    simp only [lookL] at h ⊢
    by_cases h1 : x ∈ s
    · simp [h1] at h
    · simp only [h1, if_false] at h ⊢
      by_cases h2 : (-x) ∈ s ∨ (0 < op ∧ x = lit)
      · simp only [h2, if_true] at h ⊢
        obtain ⟨i1, i2, i3⟩ := ih lit op h0 h
        refine ⟨fun y hy => ?_, i2, i3⟩
        rcases List.mem_cons.1 hy with rfl | hy
        · rcases h2 with h2 | ⟨h2, h3⟩
          · exact .inl h2
          · have e1 : op = 1 := by
              rcases Int.lt_or_le op 2 with h4 | h4
              · omega
              · exact (i3 h4).elim
            rw [i2 e1]
            exact .inr ⟨h3, rfl⟩
        · exact i1 y hy
      · simp only [h2, if_false] at h ⊢
        obtain ⟨i1, i2, i3⟩ := ih x (op + 1) (by omega) h
        have e0 : op = 0 := by
          rcases Int.lt_or_le (op + 1) 2 with h4 | h4
          · omega
          · exact (i3 h4).elim
        subst e0
        have e1 := i2 (by omega)
        refine ⟨fun y hy => ?_, fun h => by omega, fun h => by omega⟩
        rcases List.mem_cons.1 hy with rfl | hy
        · rw [e1]; exact .inr ⟨rfl, rfl⟩
        · exact i1 y hy
theorem pass_sound (T : List Int) : ∀ (l : List (List Int)), (∀ d ∈ l, wfL d = true) → (∀ d ∈ l, clauseL T d = true) → ∀ (s : List Int) (m : Bool), (∀ x ∈ s, truthL T x = true) →
    ∃ y m', passL l s m = some (y, m') ∧ ∀ x ∈ y, truthL T x = true := by
  intro l
  induction l with
  | nil => intro _ _ s m hs; exact ⟨s, m, rfl, hs⟩
  | cons d ds ih =>
    intro hw hc s m hs
    have ih' := ih (fun e he => hw e (List.mem_cons_of_mem _ he)) (fun e he => hc e (List.mem_cons_of_mem _ he))
    rw [passL]
    by_cases hl : litsB d = true
    · rw [if_pos hl]
      have hok := okInt_of (hw d List.mem_cons_self) hl
      have hz : ∀ x ∈ d, x ≠ 0 := by
        intro x hx e
        subst e
        simp [litsB, hx] at hl
      obtain ⟨t, ht, htt⟩ := List.any_eq_true.1 (hc d List.mem_cons_self)
      have hno : ∀ x ∈ d, (-x) ∈ s → truthL T x = false := by
        intro x hx hxs
        have h1 := hs _ hxs
        rw [truth_neg (hok x hx) (hz x hx)] at h1
        simpa using h1
      by_cases h0 : (lookL s d 0 0).2 = 0
      · have := (look_rest s d 0 0 (by omega) (by omega)).1 t ht
        rcases this with h2 | h2
        · rw [hno t ht h2] at htt; cases htt
        · omega
      · rw [if_neg h0]
        by_cases h1 : (lookL s d 0 0).2 = 1
        · rw [if_pos h1]
          refine ih' _ _ (fun x hx => ?_)
          rcases List.mem_cons.1 hx with rfl | hx
          · have := (look_rest s d 0 0 (by omega) (by omega)).1 t ht
            rcases this with h2 | h2
            · rw [hno t ht h2] at htt; cases htt
            · rw [← h2.1]; exact htt
          · exact hs x hx
        · rw [if_neg h1]
          exact ih' _ _ hs
    · rw [if_neg hl]
      exact ih' _ _ hs
theorem rounds_sound (T : List Int) (l : List (List Int)) (hw : ∀ d ∈ l, wfL d = true) (hc : ∀ d ∈ l, clauseL T d = true) : ∀ (k : Nat) (s : List Int), (∀ x ∈ s, truthL T x = true) → roundsL k l s ≠ some true := by
  intro k
  induction k with
  | zero => intro s _ h; simp [roundsL] at h
  | succ k ih =>
    intro s hs h
    rw [roundsL] at h
    obtain ⟨y, m', hp, hy⟩ := pass_sound T l hw hc s false hs
    rw [hp] at h
    split at h
    · cases m' with
      | true => exact ih y hy h
      | false => simp at h
    · cases h
theorem units_sound (T : List Int) {l : List (List Int)} {c : List Int} (hc : ∀ d ∈ l, clauseL T d = true) {k : Nat} (h : checker_Units.f k l c = some true) : clauseL T c = true := by
  unfold checker_Units.f at h
  split at h
  · rename_i hw
    split at h
    · rename_i hl
      have hok := okInt_of hw.1 hl
      have hz : ∀ x ∈ c, x ≠ 0 := by
        intro x hx e
        subst e
        simp [litsB, hx] at hl
      rcases Bool.eq_false_or_eq_true (clauseL T c) with e | e
      · exact e
      · exfalso
        have hall : ∀ x ∈ c, truthL T x = false := by
          intro x hx
          rcases Bool.eq_false_or_eq_true (truthL T x) with e2 | e2
          · have : clauseL T c = true := List.any_eq_true.2 ⟨x, hx, e2⟩
            rw [e] at this; cases this
          · exact e2
        split at h
        · rename_i ha
          unfold anyL at ha
          obtain ⟨x, hx, h2⟩ := List.any_eq_true.1 ha
          have h3 := mem_startL.1 (of_decide_eq_true h2)
          have h4 := hall _ h3
          rw [truth_neg (hok x hx) (hz x hx), hall x hx] at h4
          cases h4
        · refine rounds_sound T l (List.all_eq_true.1 hw.2) hc k (startL c) (fun x hx => ?_) h
          have h3 := mem_startL.1 hx
          have h4 := truth_neg (T := T) (hok _ h3) (hz _ h3)
          rw [Int.neg_neg, hall _ h3] at h4
          simpa using h4
    · cases h
  · cases h

/-! ### more clauses, longer ones -/
theorem look_zero {s : List Int} : ∀ {xs : List Int} {lit : Int}, (∀ x ∈ xs, (-x) ∈ s ∧ x ∉ s) → lookL s xs lit 0 = (lit, 0) := by
  intro xs
  induction xs with
  | nil => intro lit _; rfl
  | cons x xs ih =>
    intro lit h
    have h1 := h x List.mem_cons_self
    rw [lookL, if_neg h1.2, if_pos (.inl h1.1)]
    exact ih (fun y hy => h y (List.mem_cons_of_mem _ hy))
theorem look_lit {s : List Int} {a : Int} (ha : a ∉ s) (ha2 : (-a) ∉ s) : ∀ {xs : List Int} {lit op : Int}, (∀ x ∈ xs, ((-x) ∈ s ∧ x ∉ s) ∨ x = a) → (op = 0 ∧ a ∈ xs) ∨ (op = 1 ∧ lit = a) → lookL s xs lit op = (a, 1) := by
  intro xs
  induction xs with
  | nil =>
    intro lit op _ h
    rcases h with ⟨_, h⟩ | ⟨rfl, rfl⟩
    · cases h
    · rfl
  | cons x xs ih =>
    intro lit op h h2
    have hr : ∀ x ∈ xs, ((-x) ∈ s ∧ x ∉ s) ∨ x = a := fun y hy => h y (List.mem_cons_of_mem _ hy)
    rcases h x List.mem_cons_self with h1 | rfl
    · rw [lookL, if_neg h1.2, if_pos (.inl h1.1)]
      refine ih hr ?_
      rcases h2 with ⟨e, h2⟩ | h2
      · rcases List.mem_cons.1 h2 with rfl | h2
        · exact absurd h1.1 ha2
        · exact .inl ⟨e, h2⟩
      · exact .inr h2
    · rw [lookL, if_neg ha]
      rcases h2 with ⟨rfl, h2⟩ | ⟨rfl, rfl⟩
      · rw [if_neg (by rintro (h3 | h3); exact ha2 h3; omega)]
        exact ih hr (.inr ⟨by omega, rfl⟩)
      · rw [if_pos (.inr ⟨by omega, rfl⟩)]
        exact ih hr (.inr ⟨rfl, rfl⟩)
/-- No literal and its opposite. -/
def Cons (s : List Int) : Prop := ∀ x ∈ s, (-x) ∉ s
/-- Nothing new, and nothing broken. -/
def Still (l : List (List Int)) (s : List Int) : Prop := ∀ d ∈ l, litsB d = true → (lookL s d 0 0).2 ≠ 0 ∧ (lookL s d 0 0).2 ≠ 1
theorem look_not (s : List Int) : ∀ (l : List Int) (lit op a : Int), 0 ≤ op → lookL s l lit op = (a, 1) → (a = lit ∧ op = 1) ∨ (-a) ∉ s := by
  intro l
  induction l with
  | nil =>
    intro lit op a h0 h
    rw [lookL] at h
    injection h with h1 h2
    split at h2
    · omega
    · exact .inl ⟨h1.symm, h2⟩
  | cons x xs ih =>
    intro lit op a h0 h
    rw [lookL] at h
    split at h
    · injection h with h1 h2
      omega
    · split at h
      · exact ih _ _ _ h0 h
      · rename_i h3
        rcases ih _ _ _ (by omega) h with h4 | h4
        · exact .inr (by rw [h4.1]; exact fun h5 => h3 (.inl h5))
        · exact .inr h4
theorem pass_still : ∀ (l : List (List Int)) (s : List Int) (m : Bool), Cons s → (∀ d ∈ l, litsB d = true → ∀ x ∈ d, x ≠ 0) → ∀ y m', passL l s m = some (y, m') → Cons y ∧ (∀ x ∈ s, x ∈ y) ∧ (m' = false → m = false ∧ y = s ∧ Still l s) := by
  intro l
  induction l with
  | nil =>
    intro s m hs _ y m' h
    simp only [passL, Option.some.injEq, Prod.mk.injEq] at h
    obtain ⟨rfl, rfl⟩ := h
    exact ⟨hs, fun x hx => hx, fun e => ⟨e, rfl, fun d hd => by cases hd⟩⟩
  | cons d ds ih =>
    intro s m hs hz y m' h
    have ih' := fun s m hs => ih s m hs (fun e he => hz e (List.mem_cons_of_mem _ he)) y m'
    rw [passL] at h
    split at h
    · rename_i hl
      split at h
      · cases h
      · rename_i h0
        split at h
        · rename_i h1
          have e : lookL s d 0 0 = ((lookL s d 0 0).1, 1) := by rw [← h1]
          have hn := (look_not s d 0 0 _ (by omega) e).elim (fun h => absurd h.2 (by omega)) id
          have hm := (lookL_new s d 0 0 _ (by omega) e).elim (fun h => absurd h.2 (by omega)) id
          have hne := hz d List.mem_cons_self hl _ hm.1
          obtain ⟨i1, i2, i3⟩ := ih' ((lookL s d 0 0).1 :: s) true (by
            intro x hx h5
            rcases List.mem_cons.1 hx with rfl | hx
            · rcases List.mem_cons.1 h5 with h6 | h6
              · omega
              · exact hn h6
            · rcases List.mem_cons.1 h5 with h6 | h6
              · rw [← h6, Int.neg_neg] at hn
                exact hn hx
              · exact hs x hx h6) h
          exact ⟨i1, fun x hx => i2 x (List.mem_cons_of_mem _ hx), fun e => by cases (i3 e).1⟩
        · rename_i h1
          obtain ⟨i1, i2, i3⟩ := ih' s m hs h
          refine ⟨i1, i2, fun e => ⟨(i3 e).1, (i3 e).2.1, fun b hb hlb => ?_⟩⟩
          rcases List.mem_cons.1 hb with rfl | hb
          · exact ⟨h0, h1⟩
          · exact (i3 e).2.2 b hb hlb
    · rename_i hl
      obtain ⟨i1, i2, i3⟩ := ih' s m hs h
      refine ⟨i1, i2, fun e => ⟨(i3 e).1, (i3 e).2.1, fun b hb hlb => ?_⟩⟩
      rcases List.mem_cons.1 hb with rfl | hb
      · exact absurd hlb hl
      · exact (i3 e).2.2 b hb hlb
theorem rounds_still (l : List (List Int)) (hz : ∀ d ∈ l, litsB d = true → ∀ x ∈ d, x ≠ 0) : ∀ (k : Nat) (s : List Int), Cons s → roundsL k l s = some false → ∃ y, Cons y ∧ (∀ x ∈ s, x ∈ y) ∧ Still l y := by
  intro k
  induction k with
  | zero => intro s _ h; simp [roundsL] at h
  | succ k ih =>
    intro s hs h
    rw [roundsL] at h
    split at h
    · cases hp : passL l s false with
      | none => rw [hp] at h; simp at h
      | some p =>
        obtain ⟨y, m'⟩ := p
        rw [hp] at h
        obtain ⟨i1, i2, i3⟩ := pass_still l s false hs hz y m' hp
        cases m' with
        | true =>
          obtain ⟨z, j1, j2, j3⟩ := ih y i1 h
          exact ⟨z, j1, fun x hx => j2 x (i2 x hx), j3⟩
        | false => exact ⟨y, i1, i2, by rw [(i3 rfl).2.1]; exact (i3 rfl).2.2⟩
    · cases h
/-- A run of fewer clauses from fewer literals stays inside. -/
theorem pass_inside {l : List (List Int)} {y : List Int} (hy : Cons y) (hst : Still l y) : ∀ (l' : List (List Int)), (∀ d ∈ l', d ∈ l) → ∀ (s : List Int) (m : Bool), (∀ x ∈ s, x ∈ y) → ∃ z m', passL l' s m = some (z, m') ∧ ∀ x ∈ z, x ∈ y := by
  intro l'
  induction l' with
  | nil => intro _ s m hs; exact ⟨s, m, rfl, hs⟩
  | cons d ds ih =>
    intro hsub s m hs
    have ih' := ih (fun e he => hsub e (List.mem_cons_of_mem _ he))
    rw [passL]
    by_cases hl : litsB d = true
    · rw [if_pos hl]
      obtain ⟨n0, n1⟩ := hst d (hsub d List.mem_cons_self) hl
      have inn : ∀ x, (-x) ∈ s → (-x) ∈ y ∧ x ∉ y := fun x hx => ⟨hs _ hx, fun h => hy x h (hs _ hx)⟩
      by_cases h0 : (lookL s d 0 0).2 = 0
      · exfalso
        have hr := (look_rest s d 0 0 (by omega) (by omega)).1
        apply n0
        rw [look_zero (s := y) (xs := d) (lit := 0) (fun x hx => inn x ((hr x hx).elim id (fun h => by omega)))]
      · rw [if_neg h0]
        by_cases h1 : (lookL s d 0 0).2 = 1
        · rw [if_pos h1]
          have e : lookL s d 0 0 = ((lookL s d 0 0).1, 1) := by rw [← h1]
          have hm := (lookL_new s d 0 0 _ (by omega) e).elim (fun h => absurd h.2 (by omega)) id
          have hr := (look_rest s d 0 0 (by omega) (by omega)).1
          have hin : (lookL s d 0 0).1 ∈ y := by
            apply Classical.byContradiction
            intro hno
            by_cases hneg : (-(lookL s d 0 0).1) ∈ y
            · apply n0
              rw [look_zero (s := y) (xs := d) (lit := 0) (fun x hx => (hr x hx).elim (inn x) (fun h => by rw [h.1]; exact ⟨hneg, hno⟩))]
            · apply n1
              rw [look_lit (s := y) (a := (lookL s d 0 0).1) hno hneg (xs := d) (lit := 0) (op := 0) (fun x hx => (hr x hx).elim (fun h => .inl (inn x h)) (fun h => .inr h.1)) (.inl ⟨rfl, hm.1⟩)]
          refine ih' _ _ (fun x hx => ?_)
          rcases List.mem_cons.1 hx with rfl | hx
          · exact hin
          · exact hs x hx
        · rw [if_neg h1]
          exact ih' _ _ hs
    · rw [if_neg hl]
      exact ih' _ _ hs
theorem rounds_inside {l : List (List Int)} {y : List Int} (hy : Cons y) (hst : Still l y) (l' : List (List Int)) (hsub : ∀ d ∈ l', d ∈ l) : ∀ (k : Nat) (s : List Int), (∀ x ∈ s, x ∈ y) → roundsL k l' s ≠ some true := by
  intro k
  induction k with
  | zero => intro s _ h; simp [roundsL] at h
  | succ k ih =>
    intro s hs h
    rw [roundsL] at h
    obtain ⟨z, m', hp, hz⟩ := pass_inside hy hst l' hsub s false hs
    rw [hp] at h
    split at h
    · cases m' with
      | true => exact ih z hz h
      | false => simp at h
    · cases h
theorem lits_ne {d : List Int} (h : litsB d = true) : ∀ x ∈ d, x ≠ 0 := by
  intro x hx e
  subst e
  simp [litsB, hx] at h
/-- More clauses, a longer clause: what followed follows. -/
theorem units_more {l l' : List (List Int)} {c c' : List Int} (F : Fits l c) (hl : litsB c = true) (hsub : ∀ d ∈ l', d ∈ l) (hsc : ∀ x ∈ c', x ∈ c) {k : Nat} (h : checker_Units.f k l' c' = some true) : Ev (fun k => checker_Units.f k l c) true := by
  obtain ⟨r, e1, _⟩ := units_both F
  cases r with
  | true => exact e1
  | false =>
    exfalso
    obtain ⟨k2, h2⟩ := Ev.rounds e1
    unfold checker_Units.f at h h2
    rw [if_pos ⟨F.cw, List.all_eq_true.2 F.w⟩, if_pos hl] at h2
    split at h2
    · cases h2
    · rename_i hany
      have hc0 : Cons (startL c) := by
        intro x hx h3
        rw [mem_startL] at hx h3
        rw [Int.neg_neg] at h3
        apply hany
        unfold anyL
        exact List.any_eq_true.2 ⟨x, h3, decide_eq_true (mem_startL.2 hx)⟩
      obtain ⟨y, y1, y2, y3⟩ := rounds_still l (fun d _ hld => lits_ne hld) k2 _ hc0 h2
      split at h
      · split at h
        · split at h
          · rename_i ha
            apply hany
            unfold anyL at ha ⊢
            obtain ⟨x, hx, h4⟩ := List.any_eq_true.1 ha
            exact List.any_eq_true.2 ⟨x, hsc x hx, decide_eq_true (mem_startL.2 (hsc _ (mem_startL.1 (of_decide_eq_true h4))))⟩
          · exact rounds_inside y1 y3 l' hsub k _ (fun x hx => y2 x (mem_startL.2 (hsc _ (mem_startL.1 hx)))) h
        · cases h
      · cases h
theorem units_lits {l : List (List Int)} {c : List Int} {k : Nat} (h : checker_Units.f k l c = some true) : litsB c = true := by
  unfold checker_Units.f at h
  split at h
  · split at h
    · assumption
    · cases h
  · cases h
end Go.Proofs.Ytlbjhpbmmdboeaa.PC
