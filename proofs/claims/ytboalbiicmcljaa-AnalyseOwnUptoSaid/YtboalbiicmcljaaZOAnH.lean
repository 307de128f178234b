import Derived.Test.YtboalbiicmcljaaZOPANx0
import Derived.Test.YtboalbiicmcljaaZOAn8
import Derived.IntWalk
import Derived.StillTailTactics
import Derived.Maps.Own
import Derived.Maps.Keyed
section --
namespace Go.Proofs.Ytboalbiicmcljaa.PAN
open Go.Proofs.YtboalbiicmcljaaH
open Go.RowKit Go.Proofs.YtboalbiicmcljaaW.PrintWords Go.Proofs.YtboalbiicmcljaaW.PrintLast Go.Proofs.YtboalbiicmcljaaW.PrintMore
attribute [local go_sem] max2_int min2_int max_two min_two max_three min_three max_four min_four   -- for this text's walks alone
set_option linter.unusedVariables false
set_option linter.unusedSimpArgs false
def slices_Reverse_int_int.l0 : Nat → List Int → Int → Int → Option (List Int)
 | 0, _, _, _ => none
 | k + 1, x0, x2, x3 => if x2 < x3 then (if 0 ≤ x3 then (if x3 < (x0.length : Int) then (if 0 ≤ x2 then (if x2 < (x0.length : Int) then (slices_Reverse_int_int.l0 k ((x0.set (x2 : Int).toNat (rd x0 x3)).set (x3 : Int).toNat (rd x0 x2)) (wrap64 (x2 + 1)) (wrap64 (x3 - 1))) else (none)) else (none)) else (none)) else (none)) else (some x0)
end Go.Proofs.Ytboalbiicmcljaa.PAN
end
section --
namespace Go.Proofs.Ytboalbiicmcljaa.PAN
open Go.RowKit Go.Proofs.YtboalbiicmcljaaW.PrintWords Go.Proofs.YtboalbiicmcljaaW.PrintLast Go.Proofs.YtboalbiicmcljaaW.PrintMore Go.Proofs.YtboalbiicmcljaaH
set_option linter.unusedVariables false
set_option linter.unusedSimpArgs false
section
variable {P : Program} {t e : TypeId}
variable (w : World) {ops : Array Oper} {rest : List Oper} {o : Oper} {a : Act} {Q : Exit → Act → World → Prop}
end
theorem Tr.pl {w : World} {L tb : Nat} {cs : List (List Int)} {ms : List Mk} (h : Tr w L tb cs ms) : ∃ pb, pb < L ∧ ∀ W, Below L w W → Pl W tb pb ms := by
  obtain ⟨hl, A0, c0, A1, c1, pb, h1, h2, h3, h4, h5, h6, h7, h8, _⟩ := h
  exact ⟨pb, h2, fun W hb => ⟨blk_cell ((hb.block _ h1).trans h3) 2, h6.step (hb.block _ h2)⟩⟩
structure FinI (w2 : World) (N : Nat) (v : Value) (S out : List Int) (W : World) : Prop where
  b : Below w2.heap.size w2 W
  map : IsMapF Try.prog 3 W w2.heap.size S (fun _ => 1)
  rng : ∀ x ∈ S, 0 ≤ x ∧ x < (N : Int)
  rv : Kd.R (Kd.int .i64) 3 W w2.heap.size (fun k => k ≠ w2.heap.size) v out
theorem FinI.below {w2 : World} {N : Nat} {v : Value} {S out : List Int} {W W' : World} (h : FinI w2 N v S out W) (hb : Below W.heap.size W W') : FinI w2 N v S out W' :=
  ⟨below_step h.b hb, h.map.step (hb.block _ h.map.lt), h.rng, Kd.R_below h.rv hb⟩
theorem FinI.len {w2 : World} {N : Nat} {v : Value} {S out : List Int} {W : World} (h : FinI w2 N v S out W) : S.length ≤ N := by
  have h1 := len_le_sub (l := S) (s := (List.range N).map (fun n : Nat => (n : Int))) h.map.nodup (fun x hx => by
    obtain ⟨h0, h1⟩ := h.rng x hx
    exact List.mem_map.2 ⟨x.toNat, List.mem_range.2 (by omega), by omega⟩)
  simpa using h1
theorem FinI.put {w2 : World} {N : Nat} {v : Value} {S out : List Int} {W W' : World} (h : FinI w2 N v S out W) {z : Int} (hz : 0 ≤ z ∧ z < (N : Int)) (hm : IsMapF Try.prog 3 W' w2.heap.size (insK S z) (updF (fun _ => 1) z 1)) (hg : W.grownBy W' (some w2.heap.size)) : FinI w2 N v (insK S z) out W' :=
  ⟨pw_below_grown h.b _ h.b.size hg (fun k q => by injection q with q; omega), hm.congr (List.Perm.refl _) (fun y _ => by unfold updF; split <;> rfl), fun x hx => (mem_insK.1 hx).elim (h.rng x) (fun q => q ▸ hz), Kd.R_grown h.rv hg (fun k hk e => hk (by injection e))⟩
end Go.Proofs.Ytboalbiicmcljaa.PAN
end
