/-
  Short words for the printed texts (a claim has at most 1,500,000 bytes): steps between two worlds that are found by themselves.
-/
import Derived.Test.YtocmldppefjbgaaWWords
import Derived.Test.YtocmldppefjbgaaWApart
namespace Go.Proofs.YtocmldppefjbgaaH
open Go.RowKit Go.Proofs.YtocmldppefjbgaaW.PrintWords
/-- A world that has grown by what is new, or drew. -/
inductive Grows : World → World → Prop
  | refl (w : World) : Grows w w
  | alloc {w W : World} (o : Obj) (h : Grows w W) : Grows w (W.alloc o)
  | drew {w W : World} (h : Grows w W) : Grows w W.drew
  | drewN {w W : World} (n : Nat) (h : Grows w W) : Grows w (W.drewN n)
theorem Grows.bel {w W : World} (h : Grows w W) : Below w.heap.size w W := by
  induction h with
  | refl => exact Below.refl _ _
  | alloc o _ ih => exact below_alloc ih o
  | drew _ ih => exact below_drew1 ih
  | drewN n _ ih => exact pw_below_drewN ih n
theorem blk_any {w W : World} {g : Nat} {o : Obj} (h : w.heap[g]? = some o) (s : Grows w W := by repeat (first | (with_reducible exact Grows.refl _) | (with_reducible apply Grows.alloc) | (with_reducible apply Grows.drewN) | (with_reducible apply Grows.drew) | exact Grows.refl _)) : W.heap[g]? = some o := (s.bel.block _ (blk_lt h)).trans h
theorem bel_any {w0 w W : World} (h : Below w0.heap.size w0 w) (s : Grows w W := by repeat (first | (with_reducible exact Grows.refl _) | (with_reducible apply Grows.alloc) | (with_reducible apply Grows.drewN) | (with_reducible apply Grows.drew) | exact Grows.refl _)) : Below w0.heap.size w0 W := below_step h s.bel
theorem R_any {α : Type} {d : Kd α} {e base : Nat} {ok : Nat → Prop} {w W : World} {v : Value} {xs : List α} (h : Kd.R d e w base ok v xs) (s : Grows w W := by repeat (first | (with_reducible exact Grows.refl _) | (with_reducible apply Grows.alloc) | (with_reducible apply Grows.drewN) | (with_reducible apply Grows.drew) | exact Grows.refl _)) : Kd.R d e W base ok v xs := Kd.R_below h s.bel
theorem S_any {α : Type} {d : Kd α} {e base : Nat} {ok : Nat → Prop} {w W : World} {v : Value} {xs : List α} (h : Kd.S d e w base ok v xs) (s : Grows w W := by repeat (first | (with_reducible exact Grows.refl _) | (with_reducible apply Grows.alloc) | (with_reducible apply Grows.drewN) | (with_reducible apply Grows.drew) | exact Grows.refl _)) : Kd.S d e W base ok v xs := Kd.S_below h s.bel
theorem odt {p : Prop} [Decidable p] (h : decide p = true := by first | (with_reducible assumption) | assumption) : p := of_decide_eq_true h
end Go.Proofs.YtocmldppefjbgaaH
