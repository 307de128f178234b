import Derived.Test.YtboalbiicmcljaaRows
import Derived.Test.YtboalbiicmcljaaZOWWords
import Derived.Deep.Slices
import Derived.WalkKit
import Derived.ProofKit
import Derived.OpenShut
import Derived.ShutString
import Derived.JoinedCond
import Derived.Below
namespace Go.Proofs.Ytboalbiicmcljaa.HRow
open Go.ChangeShapes Go.WideShapes Go.ChangeAt Go.RowKit Go.Proofs.YtboalbiicmcljaaW.PrintWords
def Opens {α : Type} (P : Program) (t : TypeId) (d : Kd α) (sz : α → Nat) (wf : α → Prop) : Prop :=
  P.cellsOf t = d.sz ∧ ∀ (H : Type) (enc : TypeId × Value → H) (w : World) (fuel : Nat) (cs : List Value) (x : DataW H × List MemPlace),
    DataW.trod enc P w 0 (fun _ => true) true fuel t cs = some x → ∃ y, d.K w y cs ∧ sz y ≤ Rows.uptoBulk x.1 ∧ wf y
theorem opens_int {P : Program} {t : TypeId} {k : IntKind} (ht : P.underlying t = some (.int k)) (hc : P.cellsOf t = 1) : Opens P t (Kd.int k) (fun _ => 1) (fun x => (Lit.int k x).wf = true) := by
  refine ⟨hc, fun H enc w fuel cs x h => ?_⟩
  obtain ⟨n, rfl, rfl, hw⟩ := DataW.trod_int ht h
  exact ⟨n, rfl, by simp [Rows.uptoBulk], hw⟩
theorem bulkAll_range {H α : Type} (l : List α) (sz : α → Nat) : ∀ D : Nat → DataW H, (∀ i y, l[i]? = some y → sz y ≤ Rows.uptoBulk (D i)) → (l.map sz).sum ≤ Rows.uptoBulkAll ((List.range l.length).map D) := by
  induction l with
  | nil => intro D h; simp
  | cons x r ih =>
    intro D h
    have h1 := h 0 x rfl
    have h2 := ih (fun i => D (i + 1)) (fun i y hy => h (i + 1) y (by simpa using hy))
    rw [List.length_cons, List.range_succ_eq_map]
    simp only [List.map_cons, List.sum_cons, Rows.uptoBulkAll, List.map_map]
    have e : (D ∘ Nat.succ) = fun i => D (i + 1) := rfl
    rw [e]
    omega
theorem opens_slice {α : Type} {P : Program} {t e : TypeId} {d : Kd α} {sz : α → Nat} {wf : α → Prop} (ht : P.underlying t = some (.slice e)) (hc : P.cellsOf t = 1) (h : Opens P e d sz wf) :
    Opens P t (Kd.slice e d) (fun l => (l.map sz).sum + 1) (fun l => ∀ x ∈ l, wf x) := by
  obtain ⟨hce, h⟩ := h
  refine ⟨hc, fun H enc w fuel cs x hx => ?_⟩
  rcases Deep.open_slice ht hx with ⟨rfl, rfl⟩ | ⟨a, len, cap, m, n, D, Pl, rfl, _, hl, hm, hmm, rfl, hel⟩
  · exact ⟨[], ⟨none, 0, rfl, Nat.le_refl _, Kd.C_nil d w⟩, by simp [Rows.uptoBulk], by simp⟩
  · rw [if_pos rfl] at hmm
    subst hmm
    have hone : ∀ i, i < len → ∃ y, (∃ cs', w.cells? 0 (a.add (i * P.cellsOf e)) (P.cellsOf e) = some cs' ∧ d.K w y cs') ∧ sz y ≤ Rows.uptoBulk (D i) ∧ wf y := by
      intro i hi
      obtain ⟨cs', h1, h2⟩ := hel i (by omega)
      obtain ⟨y, h3, h4, h5⟩ := h H enc w n cs' _ h2
      exact ⟨y, ⟨cs', h1, h3⟩, h4, h5⟩
    have hlist : ∃ l : List α, l.length = len ∧ ∀ i (y : α), l[i]? = some y → (∃ cs', w.cells? 0 (a.add (i * P.cellsOf e)) (P.cellsOf e) = some cs' ∧ d.K w y cs') ∧ sz y ≤ Rows.uptoBulk (D i) ∧ wf y := by
      clear hx hel hl hm
      induction len with
      | zero => exact ⟨[], rfl, fun i y h => by simp at h⟩
      | succ len ih =>
        obtain ⟨l, h1, h2⟩ := ih (fun i hi => hone i (by omega))
        obtain ⟨y, hy⟩ := hone len (by omega)
        refine ⟨l ++ [y], by simp [h1], fun i z hz => ?_⟩
        rcases Nat.lt_or_ge i len with hlt | hge
        · rw [List.getElem?_append_left (by omega)] at hz
          exact h2 i z hz
        · have hi : i = len := by
            have := (List.getElem?_eq_some_iff.1 hz).1
            simp at this
            omega
          subst hi
          rw [← h1] at hz
          simp at hz
          subst hz
          exact hy
    obtain ⟨l, hll, hl2⟩ := hlist
    refine ⟨l, ⟨some a, m, by rw [hll], by omega, ⟨rfl, by rw [hll]; unfold maxLen at hm; omega, fun _ => ⟨a, rfl, fun j p hj => ?_⟩⟩⟩, ?_, ?_⟩
    · obtain ⟨⟨cs', h1, h2⟩, _⟩ := hl2 j p hj
      refine ⟨cs', d.K_len h2, h2, fun i u hu => ?_⟩
      obtain ⟨_, hlen, hcell⟩ := World.cells?_some h1
      have hi : i < cs'.length := (List.getElem?_eq_some_iff.1 hu).1
      have := hcell i (by omega)
      rw [← hce, ← Deep.add_add, this]
      exact hu
    · have h3 := bulkAll_range l sz D (fun i y hy => (hl2 i y hy).2.1)
      rw [hll] at h3
      simp only [Rows.uptoBulk]
      omega
    · intro x hx
      obtain ⟨i, hi⟩ := List.mem_iff_getElem?.1 hx
      exact (hl2 i x hi).2.2
end Go.Proofs.Ytboalbiicmcljaa.HRow
