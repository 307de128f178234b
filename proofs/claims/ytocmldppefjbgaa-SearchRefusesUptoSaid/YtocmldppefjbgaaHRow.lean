/-
  From what an argument reads as (the row's words) to a Lean value of its kind (the print's words): types of whole numbers, bools, strings, slices and structs of them; with the value's size, and that each number is of its kind.
-/
import Derived.Test.YtocmldppefjbgaaRows
import Derived.Test.YtocmldppefjbgaaWWords
import Derived.Deep.Slices
import Derived.WalkKit
import Derived.ProofKit
import Derived.OpenShut
import Derived.ShutString
import Derived.JoinedCond
import Derived.Below
namespace Go.Proofs.Ytocmldppefjbgaa.HRow
open Go.ChangeShapes Go.WideShapes Go.ChangeAt Go.RowKit Go.Proofs.YtocmldppefjbgaaW.PrintWords

/-- A value of type t reads as some y of kind d, of size sz y at most the reading's bulk, its numbers well formed. -/
def Opens {α : Type} (P : Program) (t : TypeId) (d : Kd α) (sz : α → Nat) (wf : α → Prop) : Prop :=
  P.cellsOf t = d.sz ∧ ∀ (H : Type) (enc : TypeId × Value → H) (w : World) (fuel : Nat) (cs : List Value) (x : DataW H × List MemPlace),
    DataW.trod enc P w 0 (fun _ => true) true fuel t cs = some x → ∃ y, d.K w y cs ∧ sz y ≤ Rows.uptoBulk x.1 ∧ wf y

theorem opens_int {P : Program} {t : TypeId} {k : IntKind} (ht : P.underlying t = some (.int k)) (hc : P.cellsOf t = 1) : Opens P t (Kd.int k) (fun _ => 1) (fun x => (Lit.int k x).wf = true) := by
  refine ⟨hc, fun H enc w fuel cs x h => ?_⟩
  obtain ⟨n, rfl, rfl, hw⟩ := DataW.trod_int ht h
  exact ⟨n, rfl, by simp [Rows.uptoBulk], hw⟩
theorem opens_bool {P : Program} {t : TypeId} (ht : P.underlying t = some .bool) (hc : P.cellsOf t = 1) : Opens P t Kd.bool (fun _ => 1) (fun _ => True) := by
  refine ⟨hc, fun H enc w fuel cs x h => ?_⟩
  obtain ⟨n, rfl, rfl⟩ := DataW.trod_bool ht h
  exact ⟨n, rfl, by simp [Rows.uptoBulk], trivial⟩
theorem opens_string {P : Program} {t : TypeId} (ht : P.underlying t = some .string) (hc : P.cellsOf t = 1) : Opens P t Kd.string (fun s => s.size + 1) (fun _ => True) := by
  refine ⟨hc, fun H enc w fuel cs x h => ?_⟩
  obtain ⟨n, rfl, rfl, hm⟩ := DataW.trod_string ht h
  refine ⟨n, rfl, ?_, trivial⟩
  have e : n.data.toList.length = n.size := by rw [Array.length_toList]; rfl
  simp [Rows.uptoBulk, e]

theorem bulkAll_range {H α : Type} (l : List α) (sz : α → Nat) : ∀ D : Nat → DataW H, (∀ i y, l[i]? = some y → sz y ≤ Rows.uptoBulk (D i)) → (l.map sz).sum ≤ Rows.uptoBulkAll ((List.range l.length).map D) := by
  induction l with
  | nil => intro D h; simp
  | cons x r ih =>
    intro D h
    have h1 := h 0 x rfl
    have h2 := ih (fun i => D (i + 1)) (fun i y hy => h (i + 1) y (by simpa using hy))
    rw [List.length_cons, List.range_succ_eq_map]
    simp only [List.map_cons, List.sum_cons, Rows.uptoBulkAll, List.map_map]
    have e : (D ∘ Nat.succ) = fun i => D (i + 1) := rfl
    rw [e]
    omega

theorem opens_slice {α : Type} {P : Program} {t e : TypeId} {d : Kd α} {sz : α → Nat} {wf : α → Prop} (ht : P.underlying t = some (.slice e)) (hc : P.cellsOf t = 1) (h : Opens P e d sz wf) :
    Opens P t (Kd.slice e d) (fun l => (l.map sz).sum + 1) (fun l => ∀ x ∈ l, wf x) := by
  obtain ⟨hce, h⟩ := h
  refine ⟨hc, fun H enc w fuel cs x hx => ?_⟩
  rcases Deep.open_slice ht hx with ⟨rfl, rfl⟩ | ⟨a, len, cap, m, n, D, Pl, rfl, _, hl, hm, hmm, rfl, hel⟩
  · exact ⟨[], ⟨none, 0, rfl, Nat.le_refl _, Kd.C_nil d w⟩, by simp [Rows.uptoBulk], by simp⟩
  · rw [if_pos rfl] at hmm
    subst hmm
    have hone : ∀ i, i < len → ∃ y, (∃ cs', w.cells? 0 (a.add (i * P.cellsOf e)) (P.cellsOf e) = some cs' ∧ d.K w y cs') ∧ sz y ≤ Rows.uptoBulk (D i) ∧ wf y := by
      intro i hi
      obtain ⟨cs', h1, h2⟩ := hel i (by omega)
      obtain ⟨y, h3, h4, h5⟩ := h H enc w n cs' _ h2
      exact ⟨y, ⟨cs', h1, h3⟩, h4, h5⟩
    have hlist : ∃ l : List α, l.length = len ∧ ∀ i (y : α), l[i]? = some y → (∃ cs', w.cells? 0 (a.add (i * P.cellsOf e)) (P.cellsOf e) = some cs' ∧ d.K w y cs') ∧ sz y ≤ Rows.uptoBulk (D i) ∧ wf y := by
      clear hx hel hl hm
      induction len with
      | zero => exact ⟨[], rfl, fun i y h => by simp at h⟩
      | succ len ih =>
        obtain ⟨l, h1, h2⟩ := ih (fun i hi => hone i (by omega))
        obtain ⟨y, hy⟩ := hone len (by omega)
        refine ⟨l ++ [y], by simp [h1], fun i z hz => ?_⟩
        rcases Nat.lt_or_ge i len with hlt | hge
        · rw [List.getElem?_append_left (by omega)] at hz
          exact h2 i z hz
        · have hi : i = len := by
            have := (List.getElem?_eq_some_iff.1 hz).1
            simp at this
            omega
          subst hi
          rw [← h1] at hz
          simp at hz
          subst hz
          exact hy
    obtain ⟨l, hll, hl2⟩ := hlist
    refine ⟨l, ⟨some a, m, by rw [hll], by omega, ⟨rfl, by rw [hll]; unfold maxLen at hm; omega, fun _ => ⟨a, rfl, fun j p hj => ?_⟩⟩⟩, ?_, ?_⟩
    · obtain ⟨⟨cs', h1, h2⟩, _⟩ := hl2 j p hj
      refine ⟨cs', d.K_len h2, h2, fun i u hu => ?_⟩
      obtain ⟨_, hlen, hcell⟩ := World.cells?_some h1
      have hi : i < cs'.length := (List.getElem?_eq_some_iff.1 hu).1
      have := hcell i (by omega)
      rw [← hce, ← Deep.add_add, this]
      exact hu
    · have h3 := bulkAll_range l sz D (fun i y hy => (hl2 i y hy).2.1)
      rw [hll] at h3
      simp only [Rows.uptoBulk]
      omega
    · intro x hx
      obtain ⟨i, hi⟩ := List.mem_iff_getElem?.1 hx
      exact (hl2 i x hi).2.2

/-- An argument that is a slice. -/
theorem arg_slice {α : Type} {P : Program} {t e : TypeId} {d : Kd α} {sz : α → Nat} {wf : α → Prop} (ht : P.underlying t = some (.slice e)) (hc : P.cellsOf t = 1) (h : Opens P e d sz wf)
    {H : Type} {enc : TypeId × Value → H} {w : World} {v : Value} {dd : DataW H} {ps : List MemPlace} {r : Reach} {base : Nat} (hv : Value.okWide P w r base t v) (hT : DataW.Trod enc P w 0 (fun _ => true) true t v dd ps) :
    ∃ (A : Option Addr) (c : Nat) (xs : List α), v = .slice A xs.length c ∧ xs.length ≤ c ∧ d.C w A xs.length xs ∧ (xs.map sz).sum + 1 ≤ Rows.uptoBulk dd ∧ ∀ x ∈ xs, wf x := by
  obtain ⟨a, len, cap, rfl⟩ := okWide_slice ht hv
  obtain ⟨fuel, hf⟩ := hT
  obtain ⟨xs, ⟨A, c, hcs, hl, hC⟩, hs, hw⟩ := (opens_slice ht hc h).2 H enc w fuel _ _ hf
  simp [Value.cells] at hcs
  obtain ⟨rfl, rfl, rfl⟩ := hcs
  exact ⟨_, _, xs, rfl, hl, hC, hs, hw⟩

end Go.Proofs.Ytocmldppefjbgaa.HRow
