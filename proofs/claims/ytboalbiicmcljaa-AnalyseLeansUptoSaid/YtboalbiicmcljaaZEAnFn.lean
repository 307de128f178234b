import Derived.Test.YtboalbiicmcljaaZEAnB
import Derived.Test.YtboalbiicmcljaaZEAnH
import Derived.Test.YtboalbiicmcljaaZEPANx24
namespace Go.Proofs.Ytboalbiicmcljaa.PAN
open Go.RowKit Go.Proofs.YtboalbiicmcljaaW.PrintWords Go.Proofs.YtboalbiicmcljaaW.PrintLast Go.Proofs.YtboalbiicmcljaaW.PrintMore Go.Proofs.YtboalbiicmcljaaH
set_option linter.unusedVariables false
set_option linter.unusedSimpArgs false
def InvF (ms : List Mk) (S counts : List Int) : Prop := ∀ m : Nat, m < ms.length → ((m : Int) ∈ S ↔ (mkAt ms m).f0 ∈ counts)
theorem mkAt_get {ms : List Mk} {m : Nat} (h : m < ms.length) : ms[m]? = some (mkAt ms m) := rdm_get h
theorem place_mk {cs : List (List Int)} {ms : List Mk} (hv : VT cs ms) {m : Nat} (h : m < ms.length) : placeN ms (mkAt ms m).f0 = m := by
  have ho := okAt_iff.1 (hv m _ (mkAt_get h))
  have h1 := placeN_at (l := (mkAt ms m).f0) h ho.new.1 rfl
  have h2 : hasM ms (mkAt ms m).f0 = true := by
    rw [hasM_mem]
    exact List.mem_map.2 ⟨_, List.mem_of_getElem? (mkAt_get h), rfl⟩
  unfold placeI at h1
  rw [if_pos h2] at h1
  omega
theorem InvF.add {cs : List (List Int)} {ms : List Mk} (hv : VT cs ms) {S counts : List Int} (h : InvF ms S counts) {x : Int} (hx : hasM ms x = true) : InvF ms (insK S (placeN ms x : Nat)) (counts ++ [x]) := by
  intro m hm
  rw [mem_insK, h m hm, List.mem_append, List.mem_singleton]
  have : (m : Int) = (placeN ms x : Nat) ↔ (mkAt ms m).f0 = x := by
    constructor
    · intro e
      have e : m = placeN ms x := by omega
      obtain ⟨m', h1, h2⟩ := placeN_get hx
      rw [← e, mkAt_get hm] at h1
      injection h1 with h1
      rw [h1, h2]
    · intro e
      rw [← e, place_mk hv hm]
  rw [this]
theorem finL_len (cs : List (List Int)) (ms : List Mk) : ∀ (n : Nat) (S out : List Int), (finL cs ms n S out).length ≤ out.length + n
  | 0, S, out => by rw [finL_zero]; omega
  | n + 1, S, out => by
    rw [finL_succ]
    split
    · split
      · have := finL_len cs ms n S (out ++ [(mkAt ms n).f0]); simp at this; omega
      · have := finL_len cs ms n ((rdC cs (mkAt ms n).f2).foldl (addF ms (mkAt ms n).f0) S) out; omega
    · have := finL_len cs ms n S out; omega
theorem finalP_len {cs : List (List Int)} {ms : List Mk} (lit : Int) : (finalP cs ms lit).1.length ≤ ms.length + 1 := by
  unfold finalP
  split
  · split
    · rw [List.length_reverse]
      have h1 := finL_len cs ms (placeN ms lit + 1) [(placeN ms lit : Int)] []
      have := placeN_le ms lit
      simp at h1
      omega
    · simp
  · simp
end Go.Proofs.Ytboalbiicmcljaa.PAN
