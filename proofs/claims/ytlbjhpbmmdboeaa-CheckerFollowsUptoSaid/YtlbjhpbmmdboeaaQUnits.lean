/-
  What the program's Units and the document's Units come to: the same answer, of any clauses; and what follows by units is true wherever the clauses are.
-/
import Derived.Test.YtlbjhpbmmdboeaaPCx4
import Derived.Test.YtlbjhpbmmdboeaaHRow
namespace Go.Proofs.Ytlbjhpbmmdboeaa.PC
open Go.RowKit Go.Proofs.YtlbjhpbmmdboeaaW.PrintWords Go.Proofs.YtlbjhpbmmdboeaaW.PrintLast
set_option linter.unusedVariables false
set_option linter.unusedSimpArgs false

theorem wrapS {i n : Nat} (h : i < n) (hn : n ≤ 4611686018427387904) : wrap64 ((i : Int) + 1) = ((i + 1 : Nat) : Int) := by unfold wrap64; omega
theorem rd1_drop {l : List (List Int)} {i : Nat} (h : i < l.length) : l.drop i = rd_L1 l (i : Int) :: l.drop (i + 1) := by
  rw [List.drop_eq_getElem_cons h]
  simp [rd_L1, List.getD_eq_getElem?_getD, List.getElem?_eq_getElem h]
theorem rd1_mem {l : List (List Int)} {i : Nat} (h : i < l.length) : rd_L1 l (i : Int) ∈ l := by
  simp [rd_L1, List.getD_eq_getElem?_getD, List.getElem?_eq_getElem h]

/-! ### the document's words -/
theorem has_ev (l : List Int) (a : Int) (hn : l.length ≤ 4611686018427387904) : ∀ d i : Nat, i + d = l.length → Ev (fun k => fulcrumsums_has.l0 k l a (i : Int)) (decide (a ∈ l.drop i)) := by
  intro d
  induction d with
  | zero =>
    intro i h
    refine Ev.step (f := fun _ => some false) (fun k => ?_) ?_
    · simp only [fulcrumsums_has.l0]; rw [if_neg (by omega)]
    · rw [List.drop_eq_nil_of_le (by omega)]; exact Ev.now _
  | succ d ih =>
    intro i h
    have hlt : i < l.length := by omega
    rw [rd_drop hlt]
    by_cases he : rd l (i : Int) = a
    · refine Ev.step (f := fun _ => some true) (fun k => ?_) ?_
      · simp only [fulcrumsums_has.l0]; rw [if_pos (by omega), if_pos (by omega), if_pos he]
      · rw [he]; simpa using Ev.now true
    · refine Ev.step (f := fun k => fulcrumsums_has.l0 k l a ((i + 1 : Nat) : Int)) (fun k => ?_) ?_
      · simp only [fulcrumsums_has.l0]; rw [if_pos (by omega), if_pos (by omega), if_neg he, wrapS hlt hn]
      · have e : decide (a ∈ rd l (i : Int) :: l.drop (i + 1)) = decide (a ∈ l.drop (i + 1)) := by simp [Ne.symm he]
        rw [e]
        exact ih (i + 1) (by omega)
theorem has_all (l : List Int) (a : Int) (hn : l.length ≤ 4611686018427387904) : Ev (fun k => fulcrumsums_has.f k l a) (decide (a ∈ l)) := by
  have := has_ev l a hn l.length 0 (by omega)
  simpa [fulcrumsums_has.f] using this

theorem lits_ev (l : List Int) (hn : l.length ≤ 4611686018427387904) : ∀ d i : Nat, i + d = l.length → Ev (fun k => fulcrumsums_literals.l0 k l (i : Int)) (litsB (l.drop i)) := by
  intro d
  induction d with
  | zero =>
    intro i h
    refine Ev.step (f := fun _ => some true) (fun k => ?_) ?_
    · simp only [fulcrumsums_literals.l0]; rw [if_neg (by omega)]
    · rw [List.drop_eq_nil_of_le (by omega)]; exact Ev.now _
  | succ d ih =>
    intro i h
    have hlt : i < l.length := by omega
    rw [rd_drop hlt]
    by_cases he : rd l (i : Int) = 0
    · refine Ev.step (f := fun _ => some false) (fun k => ?_) ?_
      · simp only [fulcrumsums_literals.l0, fulcrumsums_literal.f]; rw [if_pos (by omega), if_pos (by omega), if_pos he]; rfl
      · rw [he]; simpa [litsB] using Ev.now false
    · by_cases h2 : rd l (i : Int) = -9223372036854775808
      · refine Ev.step (f := fun _ => some false) (fun k => ?_) ?_
        · simp only [fulcrumsums_literals.l0, fulcrumsums_literal.f]; rw [if_pos (by omega), if_pos (by omega), if_neg he, h2]; rfl
        · rw [h2]; simpa [litsB] using Ev.now false
      · refine Ev.step (f := fun k => fulcrumsums_literals.l0 k l ((i + 1 : Nat) : Int)) (fun k => ?_) ?_
        · simp only [fulcrumsums_literals.l0, fulcrumsums_literal.f]; rw [if_pos (by omega), if_pos (by omega), if_neg he, wrapS hlt hn]
          simp only [Option.bind_some]
          rw [if_pos (by simpa using h2)]
        · have e : litsB (rd l (i : Int) :: l.drop (i + 1)) = litsB (l.drop (i + 1)) := by simp [litsB, Ne.symm he, Ne.symm h2]
          rw [e]
          exact ih (i + 1) (by omega)
theorem lits_all (l : List Int) (hn : l.length ≤ 4611686018427387904) : Ev (fun k => fulcrumsums_literals.f k l) (litsB l) := by
  have := lits_ev l hn l.length 0 (by omega)
  simpa [fulcrumsums_literals.f] using this

def forcedL (yes : List Int) : List Int → Int → Int × Bool
  | [], lit => (lit, lit == 0)
  | x :: xs, lit => if x ∈ yes then (0, false) else if (-x) ∈ yes then forcedL yes xs lit else if lit = 0 then forcedL yes xs x else if lit = x then forcedL yes xs x else (0, false)
theorem forced_ev (c yes : List Int) (hn : c.length ≤ 4611686018427387904) (hy : yes.length ≤ 4611686018427387904) (hok : ∀ x ∈ c, okInt x) : ∀ d i : Nat, i + d = c.length → ∀ lit, Ev (fun k => fulcrumsums_forced.l0 k c yes lit (i : Int)) (forcedL yes (c.drop i) lit) := by
  intro d
  induction d with
  | zero =>
    intro i h lit
    refine Ev.step (f := fun _ => some (lit, lit == 0)) (fun k => ?_) ?_
    · simp only [fulcrumsums_forced.l0]; rw [if_neg (by omega)]
    · rw [List.drop_eq_nil_of_le (by omega)]; exact Ev.now _
  | succ d ih =>
    intro i h lit
    have hlt : i < c.length := by omega
    have hneg : wrap64 (-(rd c (i : Int))) = -(rd c (i : Int)) := by
      have := hok _ (rd_mem hlt)
      unfold okInt at this
      unfold wrap64
      omega
    rw [rd_drop hlt, forcedL]
    refine Ev.step (f := fun k => (fulcrumsums_has.f k yes (rd c (i : Int))).bind fun t139 => (if t139 = true then (some (0, false)) else ((fulcrumsums_has.f k yes (-(rd c (i : Int)))).bind fun t141 => (if t141 = true then (fulcrumsums_forced.l0 k c yes lit ((i + 1 : Nat) : Int)) else (if lit = 0 then (fulcrumsums_forced.l0 k c yes (rd c (i : Int)) ((i + 1 : Nat) : Int)) else (if lit = (rd c (i : Int)) then (fulcrumsums_forced.l0 k c yes (rd c (i : Int)) ((i + 1 : Nat) : Int)) else (some (0, false)))))))) (fun k => ?_) ?_
    · simp only [fulcrumsums_forced.l0]; rw [if_pos (by omega), if_pos (by omega), wrapS hlt hn, hneg]
    · refine Ev.bind (has_all yes _ hy) ?_
      by_cases h1 : rd c (i : Int) ∈ yes
      · simp only [h1, decide_true, if_true]; exact Ev.now _
      · simp only [h1, decide_false, if_false, Bool.false_eq_true]
        refine Ev.bind (has_all yes _ hy) ?_
        by_cases h2 : (-(rd c (i : Int))) ∈ yes
        · simp only [h2, decide_true, if_true]; exact ih (i + 1) (by omega) lit
        · simp only [h2, decide_false, if_false, Bool.false_eq_true]
          by_cases h3 : lit = 0
          · simp only [h3, if_true]; exact ih (i + 1) (by omega) _
          · simp only [h3, if_false]
            by_cases h4 : lit = rd c (i : Int)
            · simp only [h4, if_true]; exact ih (i + 1) (by omega) _
            · simp only [h4, if_false]; exact Ev.now _
theorem forced_all (c yes : List Int) (hn : c.length ≤ 4611686018427387904) (hy : yes.length ≤ 4611686018427387904) (hok : ∀ x ∈ c, okInt x) : Ev (fun k => fulcrumsums_forced.f k c yes) (forcedL yes c 0) := by
  have := forced_ev c yes hn hy hok c.length 0 (by omega) 0
  simpa [fulcrumsums_forced.f] using this
theorem forcedL_reverse (s : List Int) : ∀ (c : List Int) (lit : Int), forcedL s.reverse c lit = forcedL s c lit := by
  intro c
  induction c with
  | nil => intro lit; rfl
  | cons x xs ih => intro lit; simp only [forcedL, List.mem_reverse, ih]

/-! ### look and forced -/
theorem look_two (s : List Int) : ∀ (xs : List Int) (lit op : Int), 2 ≤ op → (lookL s xs lit op).2 = 2 := by
  intro xs
  induction xs with
  | nil => intro lit op h; simp only [lookL]; split <;> omega
  | cons x xs ih =>
    intro lit op h
    simp only [lookL]
    split
    · rfl
    · split
      · exact ih _ _ h
      · exact ih _ _ (by omega)
theorem look_one (s : List Int) : ∀ (xs : List Int) (lit : Int), lit ≠ 0 → ((lookL s xs lit 1) = (lit, 1) ∧ forcedL s xs lit = (lit, false)) ∨ ((lookL s xs lit 1).2 = 2 ∧ forcedL s xs lit = (0, false)) := by
  intro xs
  induction xs with
  | nil => intro lit h; left; simp [lookL, forcedL, h]
  | cons x xs ih =>
    intro lit h
    simp only [lookL, forcedL]
    by_cases h1 : x ∈ s
    · right; simp [h1]
    · simp only [h1, if_false]
      by_cases h2 : (-x) ∈ s
      · simp only [h2, true_or, if_true]; exact ih lit h
      · by_cases h3 : x = lit
        · subst h3
          simp only [h2, false_or, if_false, h, if_true]
          rw [if_pos (by simp)]
          exact ih x h
        · right
          simp only [h2, h3, false_or, and_false, if_false, h, Ne.symm h3]
          exact ⟨look_two s xs x _ (by omega), trivial⟩
theorem look_forced (s : List Int) : ∀ (xs : List Int) (lit0 : Int), (∀ x ∈ xs, x ≠ 0) → ((lookL s xs lit0 0).2 = 0 ∧ forcedL s xs 0 = (0, true)) ∨ ((lookL s xs lit0 0).2 = 1 ∧ (lookL s xs lit0 0).1 ≠ 0 ∧ forcedL s xs 0 = ((lookL s xs lit0 0).1, false)) ∨ ((lookL s xs lit0 0).2 = 2 ∧ forcedL s xs 0 = (0, false)) := by
  intro xs
  induction xs with
  | nil => intro lit0 _; left; simp [lookL, forcedL]
  | cons x xs ih =>
    intro lit0 hz
    have hx : x ≠ 0 := hz x List.mem_cons_self
    simp only [lookL, forcedL]
    by_cases h1 : x ∈ s
    · right; right; simp [h1]
    · simp only [h1, if_false]
      by_cases h2 : (-x) ∈ s
      · simp only [h2, true_or, if_true]; exact ih lit0 (fun y hy => hz y (List.mem_cons_of_mem _ hy))
      · simp only [h2, false_or, if_false, if_true]
        rw [if_neg (by omega)]
        rcases look_one s xs x hx with ⟨e1, e2⟩ | ⟨e1, e2⟩
        · right; left
          simp only [Int.zero_add, e1, e2]
          exact ⟨trivial, hx, trivial⟩
        · right; right
          simp only [Int.zero_add]
          exact ⟨e1, e2⟩
theorem lookL_new (s : List Int) : ∀ (l : List Int) (lit op a : Int), 0 ≤ op → lookL s l lit op = (a, 1) → (a = lit ∧ op = 1) ∨ (a ∈ l ∧ a ∉ s) := by
  intro l
  induction l with
  | nil =>
    intro lit op a h0 h
    rw [lookL] at h
    injection h with h1 h2
    split at h2
    · omega
    · exact .inl ⟨h1.symm, h2⟩
  | cons x xs ih =>
    intro lit op a h0 h
    rw [lookL] at h
    split at h
    · injection h with h1 h2
      omega
    · rename_i hxs
      split at h
      · rcases ih _ _ _ h0 h with h3 | h3
        · exact .inl h3
        · exact .inr ⟨List.mem_cons_of_mem _ h3.1, h3.2⟩
      · rcases ih _ _ _ (by omega) h with h3 | h3
        · exact .inr ⟨by rw [h3.1]; exact List.mem_cons_self, by rw [h3.1]; exact hxs⟩
        · exact .inr ⟨List.mem_cons_of_mem _ h3.1, h3.2⟩

/-! ### how far it can go -/
def left (L s : List Int) : Nat := L.countP (fun x => decide (x ∉ s))
theorem left_le (s : List Int) (a : Int) : ∀ L : List Int, left L (a :: s) ≤ left L s := by
  intro L
  unfold left
  induction L with
  | nil => simp
  | cons x xs ih =>
    simp only [List.countP_cons, List.mem_cons]
    by_cases h1 : x ∈ s <;> by_cases h2 : x = a <;> simp [h1, h2] at * <;> omega
theorem left_lt {s : List Int} {a : Int} (hs : a ∉ s) : ∀ {L : List Int}, a ∈ L → left L (a :: s) + 1 ≤ left L s := by
  intro L
  induction L with
  | nil => intro h; cases h
  | cons x xs ih =>
    intro h
    have h0 := left_le s a xs
    unfold left at h0 ih ⊢
    rw [List.countP_cons, List.countP_cons]
    by_cases h2 : x = a
    · subst h2
      rw [if_neg (by simp), if_pos (by simp [hs])]
      omega
    · have h3 : a ∈ xs := by
        rcases List.mem_cons.1 h with e | e
        · exact absurd e.symm h2
        · exact e
      have h4 := ih h3
      by_cases h1 : x ∈ s
      · rw [if_neg (by simp [h1]), if_neg (by simp [h1])]
        omega
      · rw [if_pos (by simp [h1, h2]), if_pos (by simp [h1])]
        omega
theorem passL_moved (L : List Int) : ∀ (l : List (List Int)), (∀ d ∈ l, ∀ x ∈ d, x ∈ L) → ∀ (s : List Int) (m : Bool) (y : List Int) (m' : Bool), passL l s m = some (y, m') → (m' = m ∧ y = s) ∨ (m' = true ∧ s.length < y.length ∧ left L y < left L s ∧ y.length + left L y ≤ s.length + left L s) := by
  intro l
  induction l with
  | nil =>
    intro _ s m y m' h
    simp only [passL, Option.some.injEq, Prod.mk.injEq] at h
    exact .inl ⟨h.2.symm, h.1.symm⟩
  | cons d ds ih =>
    intro hL s m y m' h
    have ih' := ih (fun e he => hL e (List.mem_cons_of_mem _ he))
    rw [passL] at h
    split at h
    · split at h
      · cases h
      · split at h
        · rename_i h1
          have hn := (lookL_new s d 0 0 (lookL s d 0 0).1 (by omega) (by rw [← h1])).elim (fun h => absurd h.2 (by omega)) id
          have hlt := left_lt hn.2 (hL d List.mem_cons_self _ hn.1)
          rcases ih' _ _ _ _ h with ⟨e1, e2⟩ | ⟨e1, e2, e3, e4⟩
          · subst e2
            exact .inr ⟨e1, by simp, by omega, by simp; omega⟩
          · simp at e2 e4
            exact .inr ⟨e1, by omega, by omega, by omega⟩
        · exact ih' _ _ _ _ h
    · exact ih' _ _ _ _ h

theorem l2_ev (l : List (List Int)) (was : Nat) (hn : l.length ≤ 4194304) (hd : ∀ d ∈ l, d.length ≤ 4194304) (hw : ∀ d ∈ l, wfL d = true) : ∀ (d i : Nat) (s : List Int) (m : Bool), i + d = l.length → s.length + d ≤ 8388608 →
    (passL (l.drop i) s m = none → Ev (fun k => fulcrumsums_Units.l2 k l s.reverse (was : Int) (i : Int)) true) ∧
    (∀ y m', passL (l.drop i) s m = some (y, m') → ∀ r, Ev (fun k => if (y.length : Int) = (was : Int) then some false else fulcrumsums_Units.l1 k l y.reverse) r → Ev (fun k => fulcrumsums_Units.l2 k l s.reverse (was : Int) (i : Int)) r) := by
  intro d
  induction d with
  | zero =>
    intro i s m h hs
    rw [List.drop_eq_nil_of_le (by omega)]
    refine ⟨fun h => by simp [passL] at h, fun y m' hp r hr => ?_⟩
    simp only [passL, Option.some.injEq, Prod.mk.injEq] at hp
    obtain ⟨rfl, rfl⟩ := hp
    refine Ev.step (fun k => ?_) hr
    simp only [fulcrumsums_Units.l2]
    rw [if_neg (by omega), List.length_reverse]
  | succ d ih =>
    intro i s m h hs
    have hlt : i < l.length := by omega
    have hm := rd1_mem hlt
    have hdl := hd _ hm
    rw [rd1_drop hlt]
    have step : ∀ k, fulcrumsums_Units.l2 (k + 1) l s.reverse (was : Int) (i : Int) = (fulcrumsums_literals.f k (rd_L1 l (i : Int))).bind fun t156 => (if t156 = true then ((fulcrumsums_forced.f k (rd_L1 l (i : Int)) s.reverse).bind fun bt158 => (if bt158.2 = true then (some true) else (if bt158.1 = 0 then (fulcrumsums_Units.l2 k l s.reverse (was : Int) ((i + 1 : Nat) : Int)) else (fulcrumsums_Units.l2 k l (s.reverse ++ [bt158.1]) (was : Int) ((i + 1 : Nat) : Int))))) else (fulcrumsums_Units.l2 k l s.reverse (was : Int) ((i + 1 : Nat) : Int))) := by
      intro k
      simp only [fulcrumsums_Units.l2]
      rw [if_pos (by omega), if_pos (by omega), wrapS hlt (by omega)]
      simp only [List.length_reverse, show s.length < 17592186044416 by omega, if_true]
    have hl := lits_all (rd_L1 l (i : Int)) (by omega)
    by_cases hlit : litsB (rd_L1 l (i : Int)) = true
    · have hok := okInt_of (hw _ hm) hlit
      have hf := forced_all (rd_L1 l (i : Int)) s.reverse (by omega) (by rw [List.length_reverse]; omega) hok
      rw [forcedL_reverse] at hf
      have hz : ∀ x ∈ rd_L1 l (i : Int), x ≠ 0 := by
        intro x hx e
        subst e
        simp [litsB, hx] at hlit
      have key : ∀ r, Ev (fun k => (if (forcedL s (rd_L1 l (i : Int)) 0).2 = true then (some true) else (if (forcedL s (rd_L1 l (i : Int)) 0).1 = 0 then (fulcrumsums_Units.l2 k l s.reverse (was : Int) ((i + 1 : Nat) : Int)) else (fulcrumsums_Units.l2 k l (s.reverse ++ [(forcedL s (rd_L1 l (i : Int)) 0).1]) (was : Int) ((i + 1 : Nat) : Int))))) r → Ev (fun k => fulcrumsums_Units.l2 k l s.reverse (was : Int) (i : Int)) r := by
        intro r hr
        refine Ev.step step (Ev.bind hl ?_)
        rw [hlit]
        simp only [if_true]
        exact Ev.bind hf hr
      simp only [passL, hlit, if_true]
      rcases look_forced s (rd_L1 l (i : Int)) 0 hz with ⟨e1, e2⟩ | ⟨e1, e3, e2⟩ | ⟨e1, e2⟩
      · simp only [e2, if_true] at key
        simp only [e1, if_true]
        exact ⟨fun _ => key _ (Ev.now _), fun y m' h => by cases h⟩
      · simp only [e2, if_false, e3, Bool.false_eq_true] at key
        rw [← List.reverse_cons] at key
        simp only [e1, show ¬ ((1 : Int) = 0) by omega, if_false, if_true]
        have ih1 := ih (i + 1) ((lookL s (rd_L1 l (i : Int)) 0 0).1 :: s) true (by omega) (by simp; omega)
        exact ⟨fun h => key _ (ih1.1 h), fun y m' h r hr => key _ (ih1.2 y m' h r hr)⟩
      · simp only [e2, if_true, if_false, Bool.false_eq_true] at key
        simp only [e1, show ¬ ((2 : Int) = 0) by omega, show ¬ ((2 : Int) = 1) by omega, if_false]
        have ih1 := ih (i + 1) s m (by omega) (by omega)
        exact ⟨fun h => key _ (ih1.1 h), fun y m' h r hr => key _ (ih1.2 y m' h r hr)⟩
    · have key : ∀ r, Ev (fun k => fulcrumsums_Units.l2 k l s.reverse (was : Int) ((i + 1 : Nat) : Int)) r → Ev (fun k => fulcrumsums_Units.l2 k l s.reverse (was : Int) (i : Int)) r := by
        intro r hr
        refine Ev.step step (Ev.bind hl ?_)
        simp only [hlit, if_false]
        exact hr
      simp only [passL, hlit, if_false]
      have ih1 := ih (i + 1) s m (by omega) (by omega)
      exact ⟨fun h => key _ (ih1.1 h), fun y m' h r hr => key _ (ih1.2 y m' h r hr)⟩

theorem rounds_all (l : List (List Int)) (hn : l.length ≤ 4194304) (hd : ∀ d ∈ l, d.length ≤ 4194304) (hw : ∀ d ∈ l, wfL d = true) : ∀ (n : Nat) (s : List Int), left l.flatten s ≤ n → s.length + left l.flatten s ≤ 4194304 →
    ∃ k r, roundsL k l s = some r ∧ Ev (fun k => fulcrumsums_Units.l1 k l s.reverse) r := by
  intro n
  induction n with
  | zero => 
    intro s h0 hs
    have hL : ∀ d ∈ l, ∀ x ∈ d, x ∈ l.flatten := fun d hd x hx => List.mem_flatten.2 ⟨d, hd, hx⟩
    have h2 := l2_ev l s.length hn hd hw l.length 0 s false (by omega) (by omega)
    rw [List.drop_zero] at h2
    have st : ∀ r, Ev (fun k => fulcrumsums_Units.l2 k l s.reverse (s.length : Int) ((0 : Nat) : Int)) r → Ev (fun k => fulcrumsums_Units.l1 k l s.reverse) r := fun r hr => Ev.step (fun k => by simp only [fulcrumsums_Units.l1, List.length_reverse]; rfl) hr
    cases hp : passL l s false with
    | none => exact ⟨1, true, by rw [roundsL, if_pos (by omega), hp], st _ (h2.1 hp)⟩
    | some p =>
      obtain ⟨y, m'⟩ := p
      rcases passL_moved l.flatten l hL s false y m' hp with ⟨rfl, rfl⟩ | ⟨rfl, e1, e2, e3⟩
      · exact ⟨1, false, by rw [roundsL, if_pos (by omega), hp], st _ (h2.2 _ _ hp _ (by simpa using Ev.now false))⟩
      · omega
  | succ n ih =>
    intro s h0 hs
    have hL : ∀ d ∈ l, ∀ x ∈ d, x ∈ l.flatten := fun d hd x hx => List.mem_flatten.2 ⟨d, hd, hx⟩
    have h2 := l2_ev l s.length hn hd hw l.length 0 s false (by omega) (by omega)
    rw [List.drop_zero] at h2
    have st : ∀ r, Ev (fun k => fulcrumsums_Units.l2 k l s.reverse (s.length : Int) ((0 : Nat) : Int)) r → Ev (fun k => fulcrumsums_Units.l1 k l s.reverse) r := fun r hr => Ev.step (fun k => by simp only [fulcrumsums_Units.l1, List.length_reverse]; rfl) hr
    cases hp : passL l s false with
    | none => exact ⟨1, true, by rw [roundsL, if_pos (by omega), hp], st _ (h2.1 hp)⟩
    | some p =>
      obtain ⟨y, m'⟩ := p
      rcases passL_moved l.flatten l hL s false y m' hp with ⟨rfl, rfl⟩ | ⟨rfl, e1, e2, e3⟩
      · exact ⟨1, false, by rw [roundsL, if_pos (by omega), hp], st _ (h2.2 _ _ hp _ (by simpa using Ev.now false))⟩
      · obtain ⟨k, r, hk, hr⟩ := ih y (by omega) (by omega)
        refine ⟨k + 1, r, by rw [roundsL, if_pos (by omega), hp]; exact hk, st _ (h2.2 _ _ hp _ ?_)⟩
        have hne : ¬ ((y.length : Int) = (s.length : Int)) := by omega
        simpa [hne] using hr
end Go.Proofs.Ytlbjhpbmmdboeaa.PC
