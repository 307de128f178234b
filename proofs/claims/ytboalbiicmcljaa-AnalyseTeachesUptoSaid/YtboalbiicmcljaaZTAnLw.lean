import Derived.Test.YtboalbiicmcljaaZTAnDe
import Derived.Deep.RegionHeld3
import Derived.Deep.QuietTactic
import Derived.BigQuiet
namespace Go.Proofs.Ytboalbiicmcljaa.PAN
open Go.RowKit Go.Proofs.YtboalbiicmcljaaW.PrintWords Go.Proofs.YtboalbiicmcljaaW.PrintLast Go.Proofs.YtboalbiicmcljaaW.PrintMore Go.Proofs.YtboalbiicmcljaaH
set_option linter.unusedVariables false
set_option linter.unusedSimpArgs false
structure LawL (w1 wx : World) (g : Nat) (v0 v2 : Value) (c : List Int) (b : Int) (ch : List Int) : Prop where
  bel : Below w1.heap.size w1 wx
  blk : wx.heap[g]? = some (.cells #[v0, .int .i64 b, v2] 30 (0, 0))
  ge : w1.heap.size ≤ g
  r0 : Kd.R (Kd.int .i64) 3 wx w1.heap.size (fun k => some k ≠ v2.ownBlock) v0 c
  r2 : Kd.R (Kd.int .i64) 3 wx w1.heap.size (fun k => some k ≠ v0.ownBlock) v2 ch
theorem LawL.below {w1 wx wy : World} {g : Nat} {v0 v2 : Value} {c : List Int} {b : Int} {ch : List Int} (h : LawL w1 wx g v0 v2 c b ch) (hb : Below wx.heap.size wx wy) : LawL w1 wy g v0 v2 c b ch :=
  ⟨below_step h.bel hb, (hb.block _ (blk_lt h.blk)).trans h.blk, h.ge, Kd.R_below h.r0 hb, Kd.R_below h.r2 hb⟩
theorem C_any {α : Type} {d : Kd α} {w W : World} {A : Option Addr} {n : Nat} {xs : List α} (h : Kd.C d w A n xs) (s : Grows w W := by repeat (first | (with_reducible exact Grows.refl _) | (with_reducible apply Grows.alloc) | (with_reducible apply Grows.drewN) | (with_reducible apply Grows.drew) | exact Grows.refl _)) : Kd.C d W A n xs := Kd.C_below h s.bel
theorem zero_new {W w2 : World} {o : Obj} (hb : Below (W.alloc o).heap.size (W.alloc o) w2) : w2.heap[W.heap.size]? = some o := (hb.block _ (by simp)).trans (heap_alloc_new W o)
theorem zero_step {w W w2 : World} {g : Nat} {o : Obj} (h : w.heap[g]? = some o) (hb : Below W.heap.size W w2) (s : Grows w W := by repeat (first | (with_reducible exact Grows.refl _) | (with_reducible apply Grows.alloc) | (with_reducible apply Grows.drewN) | (with_reducible apply Grows.drew) | exact Grows.refl _)) : w2.heap[g]? = some o :=
  have h1 := (s.bel.block _ (blk_lt h)).trans h
  (hb.block _ (blk_lt h1)).trans h1
theorem bel_then {w1 w W w2 : World} (h : Below w1.heap.size w1 w) (hb : Below W.heap.size W w2) (s : Grows w W := by repeat (first | (with_reducible exact Grows.refl _) | (with_reducible apply Grows.alloc) | (with_reducible apply Grows.drewN) | (with_reducible apply Grows.drew) | exact Grows.refl _)) : Below w1.heap.size w1 w2 := below_step (below_step h s.bel) hb
theorem LawL.last {w1 w W : World} {v0 v2 : Value} {c : List Int} {b : Int} {ch : List Int} (hb : Below w1.heap.size w1 w) (r0 : Kd.R (Kd.int .i64) 3 w w1.heap.size (fun k => some k ≠ v2.ownBlock) v0 c) (r2 : Kd.R (Kd.int .i64) 3 w w1.heap.size (fun k => some k ≠ v0.ownBlock) v2 ch)
    (s : Grows w W := by repeat (first | (with_reducible exact Grows.refl _) | (with_reducible apply Grows.alloc) | (with_reducible apply Grows.drewN) | (with_reducible apply Grows.drew) | exact Grows.refl _)) :
    LawL w1 (W.alloc (.cells #[v0, .int .i64 b, v2] 30)) W.heap.size v0 v2 c b ch :=
  have hb1 := below_step hb s.bel
  ⟨below_alloc hb1 _, heap_alloc_new _ _, hb1.size, Kd.R_alloc (Kd.R_below r0 s.bel) _, Kd.R_alloc (Kd.R_below r2 s.bel) _⟩
theorem LawL.ahead {w1 w W : World} {g : Nat} {u0 u1 u2 v0 v2 : Value} {c : List Int} {b : Int} {ch : List Int} (hb : Below w1.heap.size w1 w) (hz : w.heap[g]? = some (.cells #[u0, u1, u2] 30 (0, 0)) ∧ w1.heap.size ≤ g) (r0 : Kd.R (Kd.int .i64) 3 w w1.heap.size (fun k => some k ≠ v2.ownBlock) v0 c) (r2 : Kd.R (Kd.int .i64) 3 w w1.heap.size (fun k => some k ≠ v0.ownBlock) v2 ch)
    (s : Grows w W := by repeat (first | (with_reducible exact Grows.refl _) | (with_reducible apply Grows.alloc) | (with_reducible apply Grows.drewN) | (with_reducible apply Grows.drew) | exact Grows.refl _)) :
    LawL w1 (((W.setCell ⟨g, 0, none⟩ v0).setCell ⟨g, 1, none⟩ (.int .i64 b)).setCell ⟨g, 2, none⟩ v2) g v0 v2 c b ch := by
  have hzG := (s.bel.block g (blk_lt hz.1)).trans hz.1
  have hb0 := blk_set hzG 0 v0
  have hb1 := blk_set hb0 1 (.int .i64 b)
  have hb2 := blk_set hb1 2 v2
  have hn : ∀ q, q ∈ 3 :: (Kd.int .i64).E → q ≠ 30 := by simp [Kd.int, Kd.scalar]
  have q0 := Kd.R_below r0 s.bel
  have q2 := Kd.R_below r2 s.bel
  exact ⟨below_set (below_set (below_set (below_step hb s.bel) hz.2) hz.2) hz.2, by simpa using hb2, hz.2, Kd.R_set (Kd.R_set (Kd.R_set q0 hzG hn 0 _) hb0 hn 1 _) hb1 hn 2 _, Kd.R_set (Kd.R_set (Kd.R_set q2 hzG hn 0 _) hb0 hn 1 _) hb1 hn 2 _⟩
theorem drewN_hs (w : World) (n : Nat) : (w.drewN n).heap.size = w.heap.size := rfl
theorem drew_hs (w : World) : w.drew.heap.size = w.heap.size := rfl
theorem zero_newN {W w2 : World} {o : Obj} {n : Nat} (hb : Below ((W.alloc o).drewN n).heap.size ((W.alloc o).drewN n) w2) : w2.heap[W.heap.size]? = some o := (hb.block W.heap.size (by show W.heap.size < (W.alloc o).heap.size; simp)).trans (heap_alloc_new W o)
theorem zero_new1 {W w2 : World} {o : Obj} (hb : Below (W.alloc o).drew.heap.size (W.alloc o).drew w2) : w2.heap[W.heap.size]? = some o := (hb.block W.heap.size (by show W.heap.size < (W.alloc o).heap.size; simp)).trans (heap_alloc_new W o)
theorem keep_set {w1 w : World} {g : Nat} {P : Prop} {u0 u1 u2 : Value} (hb : Below w1.heap.size w1 w) (hz : P ∧ w1.heap.size ≤ g) : ∀ p : Addr, p.block < w1.heap.size → (((w.setCell ⟨g, 0, none⟩ u0).setCell ⟨g, 1, none⟩ u1).setCell ⟨g, 2, none⟩ u2).cell? p = w1.cell? p :=
  fun p hp => Below.cell (below_set (below_set (below_set hb hz.2) hz.2) hz.2) hp
theorem keep_any {w1 w W : World} (hb : Below w1.heap.size w1 w) (s : Grows w W := by repeat (first | (with_reducible exact Grows.refl _) | (with_reducible apply Grows.alloc) | (with_reducible apply Grows.drewN) | (with_reducible apply Grows.drew) | exact Grows.refl _)) : ∀ p : Addr, p.block < w1.heap.size → W.cell? p = w1.cell? p :=
  fun p hp => Below.cell (below_step hb s.bel) hp
theorem add_zero' (a : Addr) : a.add 0 = a := by cases a; simp [Addr.add]
end Go.Proofs.Ytboalbiicmcljaa.PAN
