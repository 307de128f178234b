/-
  A map[int]int that a call makes and uses as a set (each stored value is 1): what it reads as, the walk's laws for a look-up and a store of 1.
-/
import Derived.Maps.OwnOps
import Derived.Maps.OwnSet
import Derived.WalkKit
import Derived.Below
import Derived.OwnWalk
import Derived.Deep.Draws
namespace Go.Proofs.YtocmldppefjbgaaH
open Go.Maps Go.RowKit

/-- Block b is a map[int]int whose keys are the numbers of s, each with the value 1. -/
def IsSet (P : Program) (t : TypeId) (w : World) (b : Nat) (s : List Int) : Prop :=
  ∃ n, ∃ D : DataW Unit, w.ownsMap P t (plainElem P t) b n D ∧ n ≤ s.length ∧ IsMap D ∧ ∀ x, (Lit.int .i64 x).wf = true → D.atKey (.int .i64 x) (.lit (.int .i64 0)) = .lit (.int .i64 (if x ∈ s then 1 else 0))

theorem key_int (x : Int) : WideAt.IsKeyLit (.int .i64 x) := by simp [WideAt.IsKeyLit]

theorem isSet_made (P : Program) (t : TypeId) (w : World) : IsSet P t (w.alloc (.map #[] 0)) w.heap.size [] :=
  ⟨0, _, World.ownsMap_made w P t (plainElem P t), Nat.le_refl _, isMap_empty, fun x _ => by simp [DataW.atKey]⟩

theorem IsSet.kept {P : Program} {t : TypeId} {w w' : World} {b : Nat} {s : List Int} (h : IsSet P t w b s) {row : Option Nat} (hg : w.grownBy w' row) (hne : some b ≠ row) : IsSet P t w' b s := by
  obtain ⟨n, D, h1, h2⟩ := h
  exact ⟨n, D, h1.kept hg hne, h2⟩

theorem IsSet.below {P : Program} {t : TypeId} {w w' : World} {b : Nat} {s : List Int} (h : IsSet P t w b s) (hb : Below w.heap.size w w') : IsSet P t w' b s :=
  h.kept (row := none) ⟨hb.os, hb.tape, hb.output, hb.size, fun i hi _ => hb.block i hi⟩ (by simp)

theorem IsSet.drewN {P : Program} {t : TypeId} {w : World} {b : Nat} {s : List Int} (h : IsSet P t w b s) (n : Nat) : IsSet P t (w.drewN n) b s := h
theorem IsSet.alloc {P : Program} {t : TypeId} {w : World} {b : Nat} {s : List Int} (h : IsSet P t w b s) (o : Obj) : IsSet P t (w.alloc o) b s := by
  obtain ⟨n, D, h1, h2⟩ := h
  exact ⟨n, D, h1.alloc o, h2⟩
theorem IsSet.lt {P : Program} {t : TypeId} {w : World} {b : Nat} {s : List Int} (h : IsSet P t w b s) : b < w.heap.size := by
  obtain ⟨n, D, h1, h2⟩ := h
  exact h1.lt

section
variable {P : Program} (w : World) {ops : Array Oper} {rest : List Oper} {o : Oper} {a : Act} {Q : Exit → Act → World → Prop}

theorem wpList_look_set (hg : o.guard = none) (m x : Operand) (t : TypeId) (hop : o.op = Op.lookup t m x false)
    (e : TypeId) (ht : P.underlying t = some (.map e e)) (he : P.underlying e = some (.int .i64)) (hz : ∀ w : World, (zeroValue e).run P w = .ok (.int .i64 0) w) (b : Nat) (s : List Int)
    (hm : a.eval m = .map (some b)) (hs : IsSet P e w b s) (z : Int) (hx : a.eval x = .int .i64 z) (hwf : (Lit.int .i64 z).wf = true) (v : Int) (hv : (if z ∈ s then (1 : Int) else 0) = v)
    (hK : wpList P ops Q rest (a.put o.dst (.int .i64 v)) w) : wpList P ops Q (o :: rest) a w := by
  obtain ⟨n, D, h1, h2, _, h3⟩ := hs
  refine wpList_lookup_own_int w hg m x t hop e e .i64 (int_keyed he) ht he (hz w) b n D hm h1 _ _ hx (keyOf_int_mk he hwf) ?_
  intro c hc _
  rw [h3 z hwf, hv] at hc
  injection hc with hc
  injection hc with _ hc
  subst hc
  exact hK

theorem wpList_put_set (hg : o.guard = none) (m x y : Operand) (t : TypeId) (hop : o.op = Op.mapUpdate t m x y)
    (e : TypeId) (ht : P.underlying t = some (.map e e)) (he : P.underlying e = some (.int .i64)) (b : Nat) (s : List Int)
    (hm : a.eval m = .map (some b)) (hs : IsSet P e w b s) (hl : s.length < maxLen) (z : Int) (hx : a.eval x = .int .i64 z) (hy : a.eval y = .int .i64 1) (hwf : (Lit.int .i64 z).wf = true)
    (hK : ∀ w', IsSet P e w' b (z :: s) → w.grownBy w' (some b) → wpList P ops Q rest (a.put o.dst undef) w') : wpList P ops Q (o :: rest) a w := by
  obtain ⟨n, D, h1, h2, h4, h3⟩ := hs
  refine wpList_mapUpdate_own w hg m x y t hop e e (int_keyed he) ht _ b n D hm h1 (by omega) _ _ _ hx hy (keyOf_int_mk he hwf) (.lit (.int .i64 1)) [] (plainElem_int he (by decide)) ?_
  intro w' h5 h6
  refine hK w' ⟨n + 1, _, h5, by simp; omega, h4.put _ _, ?_⟩ h6
  intro q hq
  by_cases e0 : q = z
  · subst e0
    rw [atKey_put_same h4 (key_int _)]
    simp
  · rw [atKey_put_other (by intro e1; injection e1 with _ e1; exact e0 e1), h3 q hq]
    simp [e0]
end
end Go.Proofs.YtocmldppefjbgaaH
