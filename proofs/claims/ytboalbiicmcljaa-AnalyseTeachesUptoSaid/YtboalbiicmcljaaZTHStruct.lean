import Derived.Test.YtboalbiicmcljaaRows
import Derived.Test.YtboalbiicmcljaaZTWWords
import Derived.Deep.Slices
import Derived.WalkKit
import Derived.ProofKit
import Derived.OpenShut
import Derived.ShutString
import Derived.JoinedCond
import Derived.Below
section --
namespace Go.Proofs.Ytboalbiicmcljaa.HRow
open Go.ChangeShapes Go.WideShapes Go.ChangeAt Go.RowKit Go.Proofs.YtboalbiicmcljaaW.PrintWords
def Opens {α : Type} (P : Program) (t : TypeId) (d : Kd α) (sz : α → Nat) (wf : α → Prop) : Prop :=
  P.cellsOf t = d.sz ∧ ∀ (H : Type) (enc : TypeId × Value → H) (w : World) (fuel : Nat) (cs : List Value) (x : DataW H × List MemPlace),
    DataW.trod enc P w 0 (fun _ => true) true fuel t cs = some x → ∃ y, d.K w y cs ∧ sz y ≤ Rows.uptoBulk x.1 ∧ wf y
theorem opens_int {P : Program} {t : TypeId} {k : IntKind} (ht : P.underlying t = some (.int k)) (hc : P.cellsOf t = 1) : Opens P t (Kd.int k) (fun _ => 1) (fun x => (Lit.int k x).wf = true) := by
  refine ⟨hc, fun H enc w fuel cs x h => ?_⟩
  obtain ⟨n, rfl, rfl, hw⟩ := DataW.trod_int ht h
  exact ⟨n, rfl, by simp [Rows.uptoBulk], hw⟩
theorem bulkAll_range {H α : Type} (l : List α) (sz : α → Nat) : ∀ D : Nat → DataW H, (∀ i y, l[i]? = some y → sz y ≤ Rows.uptoBulk (D i)) → (l.map sz).sum ≤ Rows.uptoBulkAll ((List.range l.length).map D) := by
  induction l with
  | nil => intro D h; simp
  | cons x r ih =>
    intro D h
    have h1 := h 0 x rfl
    have h2 := ih (fun i => D (i + 1)) (fun i y hy => h (i + 1) y (by simpa using hy))
    rw [List.length_cons, List.range_succ_eq_map]
    simp only [List.map_cons, List.sum_cons, Rows.uptoBulkAll, List.map_map]
    have e : (D ∘ Nat.succ) = fun i => D (i + 1) := rfl
    rw [e]
    omega
theorem opens_slice {α : Type} {P : Program} {t e : TypeId} {d : Kd α} {sz : α → Nat} {wf : α → Prop} (ht : P.underlying t = some (.slice e)) (hc : P.cellsOf t = 1) (h : Opens P e d sz wf) :
    Opens P t (Kd.slice e d) (fun l => (l.map sz).sum + 1) (fun l => ∀ x ∈ l, wf x) := by
  obtain ⟨hce, h⟩ := h
  refine ⟨hc, fun H enc w fuel cs x hx => ?_⟩
  rcases Deep.open_slice ht hx with ⟨rfl, rfl⟩ | ⟨a, len, cap, m, n, D, Pl, rfl, _, hl, hm, hmm, rfl, hel⟩
  · exact ⟨[], ⟨none, 0, rfl, Nat.le_refl _, Kd.C_nil d w⟩, by simp [Rows.uptoBulk], by simp⟩
  · rw [if_pos rfl] at hmm
    subst hmm
    have hone : ∀ i, i < len → ∃ y, (∃ cs', w.cells? 0 (a.add (i * P.cellsOf e)) (P.cellsOf e) = some cs' ∧ d.K w y cs') ∧ sz y ≤ Rows.uptoBulk (D i) ∧ wf y := by
      intro i hi
      obtain ⟨cs', h1, h2⟩ := hel i (by omega)
      obtain ⟨y, h3, h4, h5⟩ := h H enc w n cs' _ h2
      exact ⟨y, ⟨cs', h1, h3⟩, h4, h5⟩
    have hlist : ∃ l : List α, l.length = len ∧ ∀ i (y : α), l[i]? = some y → (∃ cs', w.cells? 0 (a.add (i * P.cellsOf e)) (P.cellsOf e) = some cs' ∧ d.K w y cs') ∧ sz y ≤ Rows.uptoBulk (D i) ∧ wf y := by
      clear hx hel hl hm
      induction len with
      | zero => exact ⟨[], rfl, fun i y h => by simp at h⟩
      | succ len ih =>
        obtain ⟨l, h1, h2⟩ := ih (fun i hi => hone i (by omega))
        obtain ⟨y, hy⟩ := hone len (by omega)
        refine ⟨l ++ [y], by simp [h1], fun i z hz => ?_⟩
        rcases Nat.lt_or_ge i len with hlt | hge
        · rw [List.getElem?_append_left (by omega)] at hz
          exact h2 i z hz
        · have hi : i = len := by
            have := (List.getElem?_eq_some_iff.1 hz).1
            simp at this
            omega
          subst hi
          rw [← h1] at hz
          simp at hz
          subst hz
          exact hy
    obtain ⟨l, hll, hl2⟩ := hlist
    refine ⟨l, ⟨some a, m, by rw [hll], by omega, ⟨rfl, by rw [hll]; unfold maxLen at hm; omega, fun _ => ⟨a, rfl, fun j p hj => ?_⟩⟩⟩, ?_, ?_⟩
    · obtain ⟨⟨cs', h1, h2⟩, _⟩ := hl2 j p hj
      refine ⟨cs', d.K_len h2, h2, fun i u hu => ?_⟩
      obtain ⟨_, hlen, hcell⟩ := World.cells?_some h1
      have hi : i < cs'.length := (List.getElem?_eq_some_iff.1 hu).1
      have := hcell i (by omega)
      rw [← hce, ← Deep.add_add, this]
      exact hu
    · have h3 := bulkAll_range l sz D (fun i y hy => (hl2 i y hy).2.1)
      rw [hll] at h3
      simp only [Rows.uptoBulk]
      omega
    · intro x hx
      obtain ⟨i, hi⟩ := List.mem_iff_getElem?.1 hx
      exact (hl2 i x hi).2.2
end Go.Proofs.Ytboalbiicmcljaa.HRow
end
section --
namespace Go.Proofs.Ytboalbiicmcljaa.HRow
open Go.ChangeShapes Go.WideShapes Go.ChangeAt Go.RowKit Go.Proofs.YtboalbiicmcljaaW.PrintWords
def OpensF {α : Type} (P : Program) (fs : List Field) (o : Nat) (d : Kd α) (sz : α → Nat) (wf : α → Prop) : Prop :=
  ∀ (H : Type) (enc : TypeId × Value → H) (w : World) (fuel : Nat) (cs : List Value) (xs : List (DataW H × List MemPlace)), cs.length = o + d.sz → xs.length = fs.length →
    (∀ (i : Nat) (f : Field), fs[i]? = some f → DataW.trod enc P w 0 (fun _ => true) true fuel f.type ((cs.drop f.offset).take (P.cellsOf f.type)) = xs[i]?) →
    ∃ y, d.K w y (cs.drop o) ∧ sz y ≤ Rows.uptoBulkAll (xs.map (·.1)) ∧ wf y
theorem opensF_last {α : Type} {P : Program} {f : Field} {d : Kd α} {sz : α → Nat} {wf : α → Prop} {o : Nat} (h : Opens P f.type d sz wf) (h0 : f.offset = o) : OpensF P [f] o d sz wf := by
  subst h0
  obtain ⟨hc, h⟩ := h
  intro H enc w fuel cs xs hl hx hf
  have h0 := hf 0 f rfl
  obtain ⟨x, rfl⟩ : ∃ x, xs = [x] := by
    match xs, hx with
    | [x], _ => exact ⟨x, rfl⟩
  have e : (cs.drop f.offset).take (P.cellsOf f.type) = cs.drop f.offset := by
    rw [hc]; apply List.take_of_length_le; rw [List.length_drop]; omega
  rw [e] at h0
  obtain ⟨y, h1, h2, h3⟩ := h H enc w fuel _ x h0
  exact ⟨y, h1, by simpa [Rows.uptoBulkAll] using h2, h3⟩
theorem opensF_cons {α β : Type} {P : Program} {f : Field} {fs : List Field} {o o0 : Nat} {d : Kd α} {d' : Kd β} {sz : α → Nat} {sz' : β → Nat} {wf : α → Prop} {wf' : β → Prop} (h : Opens P f.type d sz wf) (h0 : f.offset = o0) (ho : o = o0 + d.sz) (h' : OpensF P fs o d' sz' wf') :
    OpensF P (f :: fs) o0 (Kd.pair d d') (fun x => sz x.1 + sz' x.2) (fun x => wf x.1 ∧ wf' x.2) := by
  subst h0
  obtain ⟨hc, h⟩ := h
  intro H enc w fuel cs xs hl hx hf
  have hsz : (Kd.pair d d').sz = d.sz + d'.sz := rfl
  have h0 := hf 0 f rfl
  obtain ⟨x, xs, rfl⟩ : ∃ x r, xs = x :: r := by
    match xs, hx with
    | x :: r, _ => exact ⟨x, r, rfl⟩
  obtain ⟨y, h1, h2, h3⟩ := h H enc w fuel _ x h0
  obtain ⟨y', h1', h2', h3'⟩ := h' H enc w fuel cs xs (by omega) (by simpa using hx) (fun i g hg => hf (i + 1) g (by simpa using hg))
  refine ⟨(y, y'), ⟨_, _, ?_, h1, h1'⟩, ?_, h3, h3'⟩
  · rw [hc, ho, ← List.drop_drop, List.take_append_drop]
  · simp only [List.map_cons, Rows.uptoBulkAll]; omega
theorem opens_struct {α : Type} {P : Program} {t : TypeId} {fs : Array Field} {d : Kd α} {sz : α → Nat} {wf : α → Prop} (ht : P.underlying t = some (.struct fs)) (hc : P.cellsOf t = d.sz) (h : OpensF P fs.toList 0 d sz wf) :
    Opens P t d (fun x => sz x + 1) wf := by
  refine ⟨hc, fun H enc w fuel cs x hx => ?_⟩
  obtain ⟨xs, n, rfl, rfl, hl, hlen, hf⟩ := DataW.trod_struct ht hx
  obtain ⟨y, h1, h2, h3⟩ := h H enc w n cs xs (by omega) (by simpa using hlen) (fun i f hi => hf i f (by simpa using hi))
  exact ⟨y, by simpa using h1, by simp only [Rows.uptoBulk]; omega, h3⟩
theorem opens_iso {α β : Type} {P : Program} {t : TypeId} {d : Kd α} {sz : α → Nat} {wf : α → Prop} (f : β → α) (g : α → β) (hg : ∀ y, f (g y) = y) (h : Opens P t d sz wf) : Opens P t (Kd.iso d f) (fun x => sz (f x)) (fun x => wf (f x)) := by
  obtain ⟨hc, h⟩ := h
  refine ⟨hc, fun H enc w fuel cs x hx => ?_⟩
  obtain ⟨y, h1, h2, h3⟩ := h H enc w fuel cs x hx
  exact ⟨g y, by show d.K w (f (g y)) cs; rw [hg]; exact h1, by show sz (f (g y)) ≤ _; rw [hg]; exact h2, by show wf (f (g y)); rw [hg]; exact h3⟩
theorem le_sum {α : Type} {f : α → Nat} : ∀ {l : List α} {x : α}, x ∈ l → f x ≤ (l.map f).sum
  | y :: r, x, h => by
    rw [List.map_cons, List.sum_cons]
    rcases List.mem_cons.1 h with rfl | h
    · omega
    · have := le_sum (f := f) h; omega
theorem len_sum {α : Type} {f : α → Nat} (h : ∀ x, 1 ≤ f x) : ∀ l : List α, l.length ≤ (l.map f).sum
  | [] => by simp
  | x :: r => by
    have h1 := h x
    have := len_sum h r
    rw [List.map_cons, List.sum_cons, List.length_cons]
    omega
theorem ones_sum {α : Type} : ∀ l : List α, (l.map (fun _ => 1)).sum = l.length
  | [] => rfl
  | x :: r => by
    have := ones_sum r
    rw [List.map_cons, List.sum_cons, List.length_cons, this]
    omega
theorem arg_struct {α : Type} {P : Program} {t : TypeId} {fs : Array Field} {d : Kd α} {sz : α → Nat} {wf : α → Prop} (ht : P.underlying t = some (.struct fs)) (h : Opens P t d sz wf)
    {H : Type} {enc : TypeId × Value → H} {w : World} {v : Value} {dd : DataW H} {ps : List MemPlace} {r : Reach} {base : Nat} (hv : Value.okWide P w r base t v) (hT : DataW.Trod enc P w 0 (fun _ => true) true t v dd ps) :
    ∃ (cs : List Value) (y : α), v = .agg cs.toArray ∧ d.K w y cs ∧ sz y ≤ Rows.uptoBulk dd ∧ wf y := by
  obtain ⟨cs, rfl, hsz⟩ := okWide_struct ht hv
  obtain ⟨fuel, hf⟩ := hT
  obtain ⟨y, h1, h2, h3⟩ := h.2 H enc w fuel _ _ hf
  exact ⟨cs.toList, y, by simp, by simpa [Value.cells] using h1, h2, h3⟩
end Go.Proofs.Ytboalbiicmcljaa.HRow
end
