import Derived.Test.YtegaaobiedfjcaaStA
import Derived.Deep.RegionWith
import Derived.BigQuiet
import Derived.Deep.QuietTactic
namespace Go.Proofs.Ytegaaobiedfjcaa.PU
open Go.RowKit Go.Proofs.YtegaaobiedfjcaaW.PrintWords Go.Proofs.YtegaaobiedfjcaaW.PrintLast Go.Proofs.YtegaaobiedfjcaaW.PrintMore Go.Proofs.YtegaaobiedfjcaaH
set_option linter.unusedVariables false
set_option linter.unusedSimpArgs false
theorem quiet_add {P : Program} {f : FuncId} {args : Array Value} {w : World} {a n : Nat} {v : Value} (h : Calls P f args (w.drewN (a + n)) fun e w' => e = .returned v ∧ ∃ m, w' = (w.drewN (a + n)).drewN m) :
    Calls P f args (w.drewN (a + n)) fun e w'' => e = .returned v ∧ ∃ m, w'' = w.drewN (a + m) :=
  h.mono fun _ _ ⟨he, m, hm⟩ => ⟨he, n + m, by rw [hm, World.drewN_drewN, Nat.add_assoc]⟩
theorem blk_of_cell {w : World} {a : Addr} {v : Value} (h : w.cell? a = some v) : a.block < w.heap.size := World.block_lt_of_cell? _ _ h
theorem follow_start {n : Int} {l0 : List (List Int)} {ld : List Int} {ok : Nat → Prop} {g : Nat} {vals : List Int} {marks : List S48} {w : World} (hl : ∀ c ∈ l0, c.length ≤ 4194304) (hf : (vals, marks) = ld.foldl decU (List.replicate (n + 1).toNat 0, [])) (hst : St w ok g vals (addAll (List.replicate (n + 1).toNat 0) l0) marks) (hfit : Fit vals (addAll (List.replicate (n + 1).toNat 0) l0) marks) :
    ∃ N cs cls, (∀ c ∈ cs, ∀ x ∈ c, x ≠ 0 ∧ -((N : Nat) : Int) < x ∧ x < (N : Int)) ∧ (∀ c ∈ cs, c.length ≤ 4194304) ∧ PI (FInv N cs) cs ok g w w vals cls marks := by
  refine ⟨(n + 1).toNat, (addAll (List.replicate (n + 1).toNat 0) l0).map Prod.fst, _, ?_, ?_, ⟨hst, hfit, rfl, ?_, Rest.refl _ _⟩⟩
  · intro c hc x hx
    obtain ⟨y, hy, rfl⟩ := List.mem_map.1 hc
    obtain ⟨d, hd, rfl⟩ := List.mem_map.1 hy
    have h1 := (List.mem_filter.1 hd).2
    unfold litsOk at h1
    simp only [Bool.not_eq_true', List.any_eq_false] at h1
    have h2 := litB_iff.1 (by simpa using h1 x hx)
    omega
  · intro c hc
    obtain ⟨y, hy, rfl⟩ := List.mem_map.1 hc
    obtain ⟨d, hd, rfl⟩ := List.mem_map.1 hy
    exact hl d (List.mem_filter.1 hd).1
  · have := FInv.decides (N := (n + 1).toNat) (cs := (addAll (List.replicate (n + 1).toNat 0) l0).map Prod.fst) ld (List.replicate (n + 1).toNat 0, []) ⟨FInv.start _ _, fun m hm => by cases hm⟩
    rw [← hf] at this
    exact this

end Go.Proofs.Ytegaaobiedfjcaa.PU
