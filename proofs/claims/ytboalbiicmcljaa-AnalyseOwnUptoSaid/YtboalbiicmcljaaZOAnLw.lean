import Derived.Test.YtboalbiicmcljaaZOAnDe
import Derived.Deep.RegionHeld3
import Derived.Deep.QuietTactic
import Derived.BigQuiet
namespace Go.Proofs.Ytboalbiicmcljaa.PAN
open Go.RowKit Go.Proofs.YtboalbiicmcljaaW.PrintWords Go.Proofs.YtboalbiicmcljaaW.PrintLast Go.Proofs.YtboalbiicmcljaaW.PrintMore Go.Proofs.YtboalbiicmcljaaH
set_option linter.unusedVariables false
set_option linter.unusedSimpArgs false
structure LawL (w1 wx : World) (g : Nat) (v0 v2 : Value) (c : List Int) (b : Int) (ch : List Int) : Prop where
  bel : Below w1.heap.size w1 wx
  blk : wx.heap[g]? = some (.cells #[v0, .int .i64 b, v2] 30 (0, 0))
  ge : w1.heap.size ≤ g
  r0 : Kd.R (Kd.int .i64) 3 wx w1.heap.size (fun k => some k ≠ v2.ownBlock) v0 c
  r2 : Kd.R (Kd.int .i64) 3 wx w1.heap.size (fun k => some k ≠ v0.ownBlock) v2 ch
theorem LawL.below {w1 wx wy : World} {g : Nat} {v0 v2 : Value} {c : List Int} {b : Int} {ch : List Int} (h : LawL w1 wx g v0 v2 c b ch) (hb : Below wx.heap.size wx wy) : LawL w1 wy g v0 v2 c b ch :=
  ⟨below_step h.bel hb, (hb.block _ (blk_lt h.blk)).trans h.blk, h.ge, Kd.R_below h.r0 hb, Kd.R_below h.r2 hb⟩
theorem C_any {α : Type} {d : Kd α} {w W : World} {A : Option Addr} {n : Nat} {xs : List α} (h : Kd.C d w A n xs) (s : Grows w W := by repeat (first | (with_reducible exact Grows.refl _) | (with_reducible apply Grows.alloc) | (with_reducible apply Grows.drewN) | (with_reducible apply Grows.drew) | exact Grows.refl _)) : Kd.C d W A n xs := Kd.C_below h s.bel
theorem LawL.ahead {w1 w W : World} {g : Nat} {u0 u1 u2 v0 v2 : Value} {c : List Int} {b : Int} {ch : List Int} (hb : Below w1.heap.size w1 w) (hz : w.heap[g]? = some (.cells #[u0, u1, u2] 30 (0, 0)) ∧ w1.heap.size ≤ g) (r0 : Kd.R (Kd.int .i64) 3 w w1.heap.size (fun k => some k ≠ v2.ownBlock) v0 c) (r2 : Kd.R (Kd.int .i64) 3 w w1.heap.size (fun k => some k ≠ v0.ownBlock) v2 ch)
    (s : Grows w W := by repeat (first | (with_reducible exact Grows.refl _) | (with_reducible apply Grows.alloc) | (with_reducible apply Grows.drewN) | (with_reducible apply Grows.drew) | exact Grows.refl _)) :
    LawL w1 (((W.setCell ⟨g, 0, none⟩ v0).setCell ⟨g, 1, none⟩ (.int .i64 b)).setCell ⟨g, 2, none⟩ v2) g v0 v2 c b ch := by
  have hzG := (s.bel.block g (blk_lt hz.1)).trans hz.1
  have hb0 := blk_set hzG 0 v0
  have hb1 := blk_set hb0 1 (.int .i64 b)
  have hb2 := blk_set hb1 2 v2
  have hn : ∀ q, q ∈ 3 :: (Kd.int .i64).E → q ≠ 30 := by simp [Kd.int, Kd.scalar]
  have q0 := Kd.R_below r0 s.bel
  have q2 := Kd.R_below r2 s.bel
  exact ⟨below_set (below_set (below_set (below_step hb s.bel) hz.2) hz.2) hz.2, by simpa using hb2, hz.2, Kd.R_set (Kd.R_set (Kd.R_set q0 hzG hn 0 _) hb0 hn 1 _) hb1 hn 2 _, Kd.R_set (Kd.R_set (Kd.R_set q2 hzG hn 0 _) hb0 hn 1 _) hb1 hn 2 _⟩
theorem add_zero' (a : Addr) : a.add 0 = a := by cases a; simp [Addr.add]
end Go.Proofs.Ytboalbiicmcljaa.PAN
