/-
  From what a struct reads as (the row's words) to a Lean value of its kind (the print's words): the fields one behind the other, as nested pairs.
-/
import Derived.Test.YtocmldppefjbgaaHRow
namespace Go.Proofs.Ytocmldppefjbgaa.HRow
open Go.ChangeShapes Go.WideShapes Go.ChangeAt Go.RowKit Go.Proofs.YtocmldppefjbgaaW.PrintWords

/-- Fields that lie from cell o on read as some y of kind d. -/
def OpensF {α : Type} (P : Program) (fs : List Field) (o : Nat) (d : Kd α) (sz : α → Nat) (wf : α → Prop) : Prop :=
  ∀ (H : Type) (enc : TypeId × Value → H) (w : World) (fuel : Nat) (cs : List Value) (xs : List (DataW H × List MemPlace)), cs.length = o + d.sz → xs.length = fs.length →
    (∀ (i : Nat) (f : Field), fs[i]? = some f → DataW.trod enc P w 0 (fun _ => true) true fuel f.type ((cs.drop f.offset).take (P.cellsOf f.type)) = xs[i]?) →
    ∃ y, d.K w y (cs.drop o) ∧ sz y ≤ Rows.uptoBulkAll (xs.map (·.1)) ∧ wf y

theorem opensF_last {α : Type} {P : Program} {f : Field} {d : Kd α} {sz : α → Nat} {wf : α → Prop} {o : Nat} (h : Opens P f.type d sz wf) (h0 : f.offset = o) : OpensF P [f] o d sz wf := by
  subst h0
  obtain ⟨hc, h⟩ := h
  intro H enc w fuel cs xs hl hx hf
  have h0 := hf 0 f rfl
  obtain ⟨x, rfl⟩ : ∃ x, xs = [x] := by
    match xs, hx with
    | [x], _ => exact ⟨x, rfl⟩
  have e : (cs.drop f.offset).take (P.cellsOf f.type) = cs.drop f.offset := by
    rw [hc]; apply List.take_of_length_le; rw [List.length_drop]; omega
  rw [e] at h0
  obtain ⟨y, h1, h2, h3⟩ := h H enc w fuel _ x h0
  exact ⟨y, h1, by simpa [Rows.uptoBulkAll] using h2, h3⟩

theorem opensF_cons {α β : Type} {P : Program} {f : Field} {fs : List Field} {o o0 : Nat} {d : Kd α} {d' : Kd β} {sz : α → Nat} {sz' : β → Nat} {wf : α → Prop} {wf' : β → Prop} (h : Opens P f.type d sz wf) (h0 : f.offset = o0) (ho : o = o0 + d.sz) (h' : OpensF P fs o d' sz' wf') :
    OpensF P (f :: fs) o0 (Kd.pair d d') (fun x => sz x.1 + sz' x.2) (fun x => wf x.1 ∧ wf' x.2) := by
  subst h0
  obtain ⟨hc, h⟩ := h
  intro H enc w fuel cs xs hl hx hf
  have hsz : (Kd.pair d d').sz = d.sz + d'.sz := rfl
  have h0 := hf 0 f rfl
  obtain ⟨x, xs, rfl⟩ : ∃ x r, xs = x :: r := by
    match xs, hx with
    | x :: r, _ => exact ⟨x, r, rfl⟩
  obtain ⟨y, h1, h2, h3⟩ := h H enc w fuel _ x h0
  obtain ⟨y', h1', h2', h3'⟩ := h' H enc w fuel cs xs (by omega) (by simpa using hx) (fun i g hg => hf (i + 1) g (by simpa using hg))
  refine ⟨(y, y'), ⟨_, _, ?_, h1, h1'⟩, ?_, h3, h3'⟩
  · rw [hc, ho, ← List.drop_drop, List.take_append_drop]
  · simp only [List.map_cons, Rows.uptoBulkAll]; omega

theorem opens_struct {α : Type} {P : Program} {t : TypeId} {fs : Array Field} {d : Kd α} {sz : α → Nat} {wf : α → Prop} (ht : P.underlying t = some (.struct fs)) (hc : P.cellsOf t = d.sz) (h : OpensF P fs.toList 0 d sz wf) :
    Opens P t d (fun x => sz x + 1) wf := by
  refine ⟨hc, fun H enc w fuel cs x hx => ?_⟩
  obtain ⟨xs, n, rfl, rfl, hl, hlen, hf⟩ := DataW.trod_struct ht hx
  obtain ⟨y, h1, h2, h3⟩ := h H enc w n cs xs (by omega) (by simpa using hlen) (fun i f hi => hf i f (by simpa using hi))
  exact ⟨y, by simpa using h1, by simp only [Rows.uptoBulk]; omega, h3⟩

theorem opens_iso {α β : Type} {P : Program} {t : TypeId} {d : Kd α} {sz : α → Nat} {wf : α → Prop} (f : β → α) (g : α → β) (hg : ∀ y, f (g y) = y) (h : Opens P t d sz wf) : Opens P t (Kd.iso d f) (fun x => sz (f x)) (fun x => wf (f x)) := by
  obtain ⟨hc, h⟩ := h
  refine ⟨hc, fun H enc w fuel cs x hx => ?_⟩
  obtain ⟨y, h1, h2, h3⟩ := h H enc w fuel cs x hx
  exact ⟨g y, by show d.K w (f (g y)) cs; rw [hg]; exact h1, by show sz (f (g y)) ≤ _; rw [hg]; exact h2, by show wf (f (g y)); rw [hg]; exact h3⟩

theorem le_sum {α : Type} {f : α → Nat} : ∀ {l : List α} {x : α}, x ∈ l → f x ≤ (l.map f).sum
  | y :: r, x, h => by
    rw [List.map_cons, List.sum_cons]
    rcases List.mem_cons.1 h with rfl | h
    · omega
    · have := le_sum (f := f) h; omega
theorem len_sum {α : Type} {f : α → Nat} (h : ∀ x, 1 ≤ f x) : ∀ l : List α, l.length ≤ (l.map f).sum
  | [] => by simp
  | x :: r => by
    have h1 := h x
    have := len_sum h r
    rw [List.map_cons, List.sum_cons, List.length_cons]
    omega
theorem ones_sum {α : Type} : ∀ l : List α, (l.map (fun _ => 1)).sum = l.length
  | [] => rfl
  | x :: r => by
    have := ones_sum r
    rw [List.map_cons, List.sum_cons, List.length_cons, this]
    omega

/-- An argument that is a struct. -/
theorem arg_struct {α : Type} {P : Program} {t : TypeId} {fs : Array Field} {d : Kd α} {sz : α → Nat} {wf : α → Prop} (ht : P.underlying t = some (.struct fs)) (h : Opens P t d sz wf)
    {H : Type} {enc : TypeId × Value → H} {w : World} {v : Value} {dd : DataW H} {ps : List MemPlace} {r : Reach} {base : Nat} (hv : Value.okWide P w r base t v) (hT : DataW.Trod enc P w 0 (fun _ => true) true t v dd ps) :
    ∃ (cs : List Value) (y : α), v = .agg cs.toArray ∧ d.K w y cs ∧ sz y ≤ Rows.uptoBulk dd ∧ wf y := by
  obtain ⟨cs, rfl, hsz⟩ := okWide_struct ht hv
  obtain ⟨fuel, hf⟩ := hT
  obtain ⟨y, h1, h2, h3⟩ := h.2 H enc w fuel _ _ hf
  exact ⟨cs.toList, y, by simp, by simpa [Value.cells] using h1, h2, h3⟩
end Go.Proofs.Ytocmldppefjbgaa.HRow
