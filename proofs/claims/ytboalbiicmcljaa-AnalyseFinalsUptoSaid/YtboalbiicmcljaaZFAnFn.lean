import Derived.Test.YtboalbiicmcljaaZFAnB
import Derived.Test.YtboalbiicmcljaaZFAnH
import Derived.Test.YtboalbiicmcljaaZFPANx24
namespace Go.Proofs.Ytboalbiicmcljaa.PAN
open Go.RowKit Go.Proofs.YtboalbiicmcljaaW.PrintWords Go.Proofs.YtboalbiicmcljaaW.PrintLast Go.Proofs.YtboalbiicmcljaaW.PrintMore Go.Proofs.YtboalbiicmcljaaH
set_option linter.unusedVariables false
set_option linter.unusedSimpArgs false
def InvF (ms : List Mk) (S counts : List Int) : Prop := ∀ m : Nat, m < ms.length → ((m : Int) ∈ S ↔ (mkAt ms m).f0 ∈ counts)
theorem mkAt_get {ms : List Mk} {m : Nat} (h : m < ms.length) : ms[m]? = some (mkAt ms m) := rdm_get h
theorem place_mk {cs : List (List Int)} {ms : List Mk} (hv : VT cs ms) {m : Nat} (h : m < ms.length) : placeN ms (mkAt ms m).f0 = m := by
  have ho := okAt_iff.1 (hv m _ (mkAt_get h))
  have h1 := placeN_at (l := (mkAt ms m).f0) h ho.new.1 rfl
  have h2 : hasM ms (mkAt ms m).f0 = true := by
    rw [hasM_mem]
    exact List.mem_map.2 ⟨_, List.mem_of_getElem? (mkAt_get h), rfl⟩
  unfold placeI at h1
  rw [if_pos h2] at h1
  omega
theorem InvF.add {cs : List (List Int)} {ms : List Mk} (hv : VT cs ms) {S counts : List Int} (h : InvF ms S counts) {x : Int} (hx : hasM ms x = true) : InvF ms (insK S (placeN ms x : Nat)) (counts ++ [x]) := by
  intro m hm
  rw [mem_insK, h m hm, List.mem_append, List.mem_singleton]
  have : (m : Int) = (placeN ms x : Nat) ↔ (mkAt ms m).f0 = x := by
    constructor
    · intro e
      have e : m = placeN ms x := by omega
      obtain ⟨m', h1, h2⟩ := placeN_get hx
      rw [← e, mkAt_get hm] at h1
      injection h1 with h1
      rw [h1, h2]
    · intro e
      rw [← e, place_mk hv hm]
  rw [this]
theorem fin2_ev (o : List Int) (ho : o.length ≤ 4194304) : ∀ d : Nat, d ≤ o.length → ∀ acc : List Int, acc.length + d ≤ 4194304 → Ev (fun k => fulcrumref21_Final.l2 k o acc ((d : Int) - 1)) (acc ++ (o.take d).reverse, 0) := by
  intro d
  induction d with
  | zero =>
    intro _ acc _
    refine Ev.step (f := fun _ => some (acc, 0)) (fun k => ?_) (by simpa using Ev.now (acc, (0 : Int)))
    simp only [fulcrumref21_Final.l2]; rw [if_neg (by omega)]
  | succ d ih =>
    intro hd acc hacc
    have h1 := ih (by omega) (acc ++ [rd o (d : Int)]) (by simp; omega)
    rw [take_rd (show d < o.length by omega), List.reverse_append]
    have e : acc ++ [rd o (d : Int)] ++ (o.take d).reverse = acc ++ ([rd o (d : Int)].reverse ++ (o.take d).reverse) := by simp
    rw [e] at h1
    refine Ev.step (fun k => ?_) h1
    have e1 : ((d + 1 : Nat) : Int) - 1 = (d : Int) := by omega
    have e2 : wrap64 ((d : Int) - 1) = (d : Int) - 1 := by unfold wrap64; omega
    simp only [fulcrumref21_Final.l2]
    rw [e1, if_pos (by omega), if_pos (by omega), if_pos (by omega), if_pos (by omega), e2]
theorem fin1_ev {cs : List (List Int)} {ms : List Mk} (hv : VT cs ms) {n : Nat} (hn : n < ms.length) (hlm : ms.length ≤ 4194304) (cl : List Int) (hcl : cl.length ≤ 4194304) (hw : ∀ x ∈ cl, w64 x) (hf : ∀ x ∈ cl, x ≠ (mkAt ms n).f0 → isFalseB ms x = true) (S out : List Int) (N : Nat) (hN : N + 4194304 ≤ 17592186044415) (r : List Int × Int)
    (hK : ∀ counts, counts.length ≤ N + cl.length → InvF ms (cl.foldl (addF ms (mkAt ms n).f0) S) counts → Ev (fun k => fulcrumref21_Final.l0 k cs ms counts out (wrap64 ((n : Int) - 1))) r) :
    ∀ d j : Nat, j + d = cl.length → ∀ counts : List Int, counts.length ≤ N + j → InvF ms ((cl.take j).foldl (addF ms (mkAt ms n).f0) S) counts → Ev (fun k => fulcrumref21_Final.l1 k cs ms counts out (n : Int) cl (j : Int)) r := by
  intro d
  induction d with
  | zero =>
    intro j hj counts hc hI
    rw [List.take_of_length_le (by omega)] at hI
    refine Ev.step (fun k => ?_) (hK counts (by omega) hI)
    simp only [fulcrumref21_Final.l1]; rw [if_neg (by omega)]
  | succ d ih =>
    intro j hj counts hc hI
    have hlt : j < cl.length := by omega
    have hwr := wrapI hlt (by omega)
    have hxm := rdm hlt
    have htk := take_rd hlt
    have ih := ih (j + 1) (by omega)
    rw [htk, List.foldl_append] at ih
    simp only [List.foldl_cons, List.foldl_nil] at ih
    obtain ⟨x, hx⟩ : ∃ x, x = rd cl (j : Int) := ⟨_, rfl⟩
    rw [← hx] at hxm ih
    have hme : (rd_T49 ms (n : Int)) = mkAt ms n := rfl
    by_cases he : x = (mkAt ms n).f0
    · have h1 := ih counts (by omega) (by unfold addF; rw [if_pos he]; exact hI)
      refine Ev.step (fun k => ?_) h1
      simp only [fulcrumref21_Final.l1]
      rw [if_pos (by omega), if_pos (by omega), if_pos (by omega), if_pos (by omega), ← hx, hme, if_pos he, hwr]
    · have hfx := fx (hf x hxm he)
      have hwn := wrapS (hw x hxm) hfx.1
      have h1 := ih (counts ++ [-x]) (by simp; omega) (by unfold addF; rw [if_neg he]; exact hI.add hv hfx.2)
      refine Ev.step (fun k => ?_) h1
      simp only [fulcrumref21_Final.l1]
      rw [if_pos (by omega), if_pos (by omega), if_pos (by omega), if_pos (by omega), ← hx, hme, if_neg he, if_pos (by omega), hwn, hwr]
theorem fin0_ev {cs : List (List Int)} {ms : List Mk} (hW : Wf cs ms) (hv : VT cs ms) : ∀ n : Nat, n ≤ ms.length → ∀ counts S out : List Int, counts.length + n * 4194304 ≤ 8796093022208 → out.length + n ≤ ms.length → InvF ms S counts → Ev (fun k => fulcrumref21_Final.l0 k cs ms counts out ((n : Int) - 1)) ((finL cs ms n S out).reverse, 0) := by
  have hlm := hW.lm
  intro n
  induction n with
  | zero =>
    intro _ counts S out _ ho _
    have h1 := fin2_ev out (by omega) out.length (Nat.le_refl _) [] (by simp; omega)
    rw [List.take_length, List.nil_append] at h1
    rw [finL_zero]
    refine Ev.step (fun k => ?_) h1
    have e : wrap64 ((out.length : Int) - 1) = (out.length : Int) - 1 := by unfold wrap64; omega
    simp only [fulcrumref21_Final.l0]
    rw [if_neg (by omega), e]
  | succ n ih =>
    intro hn counts S out hc ho hI
    have hlt : n < ms.length := by omega
    have hc2 : counts.length + n * 4194304 + 4194304 ≤ 8796093022208 := by rw [Nat.succ_mul] at hc; rw [Nat.add_assoc]; exact hc
    have hc1 : counts.length + n * 4194304 ≤ 8796093022208 := Nat.le_trans (Nat.le_add_right _ _) hc2
    have hc3 : counts.length ≤ 8796093022208 := Nat.le_trans (Nat.le_add_right _ _) hc1
    have e1 : ((n + 1 : Nat) : Int) - 1 = (n : Int) := by omega
    have e2 : wrap64 ((n : Int) - 1) = (n : Int) - 1 := by unfold wrap64; omega
    have hme : (rd_T49 ms (n : Int)) = mkAt ms n := rfl
    rw [e1, finL_succ]
    refine Ev.step (f := fun k => (fulcrumref21_has.f k counts (mkAt ms n).f0).bind fun t => if t = true then (if (mkAt ms n).f2 < 0 then (if out.length < 17592186044416 then fulcrumref21_Final.l0 k cs ms counts (out ++ [(mkAt ms n).f0]) ((n : Int) - 1) else none) else (if 0 ≤ (mkAt ms n).f2 then (if (mkAt ms n).f2 < (cs.length : Int) then fulcrumref21_Final.l1 k cs ms counts out (n : Int) (rd_L1 cs (mkAt ms n).f2) 0 else none) else none)) else fulcrumref21_Final.l0 k cs ms counts out ((n : Int) - 1)) (fun k => ?_) (Ev.bind (has_all counts _ (by omega)) ?_)
    · simp only [fulcrumref21_Final.l0]
      rw [if_pos (by omega), if_pos (by omega), if_pos (by omega), hme, e2]
    · have hin := hI n hlt
      by_cases hS : (n : Int) ∈ S
      · rw [if_pos hS, decide_eq_true (hin.1 hS)]
        simp only [if_true]
        have ho2 := (okAt_iff.1 (hv n _ (mkAt_get hlt))).how
        by_cases hr : (mkAt ms n).f2 < 0
        · simp only [hr, if_true]
          refine Ev.congr (fun k => if_pos (by omega)) ?_
          exact ih (by omega) counts S (out ++ [(mkAt ms n).f0]) hc1 (by simp; omega) hI
        · simp only [hr, if_false]
          obtain ⟨h0, h1, h2⟩ : 0 ≤ (mkAt ms n).f2 ∧ (mkAt ms n).f2 < cs.length ∧ forcesB (ms.take n) (rdC cs (mkAt ms n).f2) (mkAt ms n).f0 = true := by
            rcases ho2 with ⟨q, _⟩ | ⟨_, q1, q2, q3, _⟩
            · omega
            · exact ⟨q1, q2, q3⟩
          refine Ev.congr (fun k => (if_pos h0).trans (if_pos h1)) ?_
          have hcl := hW.lcl _ (rdC_mem h0 h1)
          have hcw := hW.c _ (rdC_mem h0 h1)
          refine fin1_ev hv hlt hlm (rdC cs (mkAt ms n).f2) hcl hcw (fun x hx hne => ?_) S out counts.length (by omega) _ (fun counts' hc' hI' => ?_) (rdC cs (mkAt ms n).f2).length 0 (by omega) counts (by omega) (by simpa using hI)
          · unfold forcesB at h2
            rw [Bool.and_eq_true] at h2
            have h3 := List.all_eq_true.1 h2.2 x hx
            have hb : (x == (mkAt ms n).f0) = false := by simpa using hne
            rw [hb, Bool.false_or] at h3
            unfold isFalseB at h3 ⊢
            rw [Bool.and_eq_true] at h3 ⊢
            exact ⟨h3.1, (placeN_take h3.2).1⟩
          · rw [e2]
            exact ih (by omega) counts' _ out (by clear hc hc1; generalize n * 4194304 = z at hc2 ⊢; omega) (by omega) hI'
      · rw [if_neg hS, decide_eq_false (fun q => hS (hin.2 q))]
        simp only [Bool.false_eq_true, if_false]
        exact ih (by omega) counts S out hc1 (by omega) hI
theorem fin_skip {cs : List (List Int)} {ms : List Mk} (p : Nat) (out : List Int) : ∀ d : Nat, finL cs ms (p + 1 + d) [(p : Int)] out = finL cs ms (p + 1) [(p : Int)] out
  | 0 => rfl
  | d + 1 => by
    rw [show p + 1 + (d + 1) = (p + 1 + d) + 1 by omega, finL_succ, if_neg (by simp; omega)]
    exact fin_skip p out d
theorem Final_all {cs : List (List Int)} {ms : List Mk} (hW : Wf cs ms) (hm : ms.length ≤ 524288) (lit : Int) : Ev (fun k => fulcrumref21_Final.f k cs ms lit) (finalP cs ms lit) := by
  unfold finalP fulcrumref21_Final.f
  refine Ev.bind (Check_all cs ms hW) ?_
  cases hv : validB cs [] ms with
  | false => simpa using Ev.now (([] : List Int), (200 : Int))
  | true =>
    have hV := VT.of hv
    simp only [if_true]
    refine Ev.bind (place_all ms lit (by omega)) ?_
    cases hh : hasM ms lit with
    | false =>
      have := placeI_neg.2 hh
      simp only [this, if_true, Bool.false_eq_true, if_false]
      exact Ev.now _
    | true =>
      have h0 : ¬ placeI ms lit < 0 := fun q => by rw [placeI_neg.1 q] at hh; cases hh
      simp only [h0, if_true, if_false]
      have hp := placeN_lt.2 hh
      have e : wrap64 ((ms.length : Int) - 1) = (ms.length : Int) - 1 := by unfold wrap64; omega
      rw [e]
      have h1 := fin0_ev hW hV ms.length (Nat.le_refl _) [lit] [(placeN ms lit : Int)] [] (by simp; omega) (by simp) (fun m hm => by
        rw [List.mem_singleton, List.mem_singleton]
        constructor
        · intro q
          have q : m = placeN ms lit := by omega
          obtain ⟨m', h1, h2⟩ := placeN_get hh
          rw [← q, mkAt_get hm] at h1
          injection h1 with h1
          rw [h1, h2]
        · intro q; rw [← q, place_mk hV hm])
      have h2 := fin_skip (cs := cs) (ms := ms) (placeN ms lit) [] (ms.length - (placeN ms lit + 1))
      rw [show placeN ms lit + 1 + (ms.length - (placeN ms lit + 1)) = ms.length by omega] at h2
      rw [h2] at h1
      exact h1
theorem finL_len (cs : List (List Int)) (ms : List Mk) : ∀ (n : Nat) (S out : List Int), (finL cs ms n S out).length ≤ out.length + n
  | 0, S, out => by rw [finL_zero]; omega
  | n + 1, S, out => by
    rw [finL_succ]
    split
    · split
      · have := finL_len cs ms n S (out ++ [(mkAt ms n).f0]); simp at this; omega
      · have := finL_len cs ms n ((rdC cs (mkAt ms n).f2).foldl (addF ms (mkAt ms n).f0) S) out; omega
    · have := finL_len cs ms n S out; omega
theorem finalP_len {cs : List (List Int)} {ms : List Mk} (lit : Int) : (finalP cs ms lit).1.length ≤ ms.length + 1 := by
  unfold finalP
  split
  · split
    · rw [List.length_reverse]
      have h1 := finL_len cs ms (placeN ms lit + 1) [(placeN ms lit : Int)] []
      have := placeN_le ms lit
      simp at h1
      omega
    · simp
  · simp
end Go.Proofs.Ytboalbiicmcljaa.PAN
