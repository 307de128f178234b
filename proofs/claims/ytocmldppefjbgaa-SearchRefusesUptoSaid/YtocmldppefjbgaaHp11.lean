import Derived.Test.YtocmldppefjbgaaHp10
import Derived.BigQuiet
import Derived.Deep.QuietTactic
namespace Go.Proofs.Ytocmldppefjbgaa.PHP
open Go.RowKit Go.Proofs.YtocmldppefjbgaaW.PrintWords Go.Proofs.YtocmldppefjbgaaW.PrintLast Go.Proofs.YtocmldppefjbgaaW.PrintMore Go.Proofs.YtocmldppefjbgaaH
set_option linter.unusedVariables false
set_option linter.unusedSimpArgs false
theorem clone_l {w : World} {ok : Nat → Prop} {v : Value} {l : List Int} (h : Kd.R (Kd.int .i64) 3 w 0 ok v l) (hl : l.length ≤ 1048576) :
    Calls Try.prog 44 #[v] w fun e w' => ∃ v', e = .returned v' ∧ Kd.R (Kd.int .i64) 3 w' w.heap.size (fun k => w.heap.size ≤ k) v' l ∧ Below w.heap.size w w' := by
  by_cases h0 : l = []
  · subst h0
    obtain ⟨A, c, rfl⟩ := Kd.R_slice h
    cases A with
    | none =>
      refine (Go.Proofs.Try.slices_Clone_int_nil 0 c w).mono ?_
      rintro e w' ⟨rfl, rfl⟩
      exact ⟨_, rfl, Kd.R_nil _ _ _ _ _, Below.refl _ _⟩
    | some a =>
      refine (Go.Proofs.Try.slices_Clone_int_zero a c w).mono ?_
      rintro e w' ⟨v', rfl, ho, _, hb⟩
      exact ⟨v', rfl, Kd.R_of_own ho (fun k hk => by
        rcases ho.2 with ⟨q, _⟩ | ⟨gl, c', cur, q, hge, _⟩
        · rw [q] at hk; cases hk
        · rw [q] at hk; injection hk with hk; subst hk; exact hge), hb⟩
  · have hpos : 0 < l.length := List.length_pos_iff.2 h0
    obtain ⟨k, cap, rfl, hg1, hg2, cells, hg3⟩ := Kd.R_form h hpos
    have ho := Kd.own_of_R h
    refine (Go.Proofs.Try.slices_Clone_int k 0 l.length cap l w (Nat.le_refl _) (by omega) (fun j hj => ?_)).mono ?_
    · have := ho.cells (g := k) rfl j (.int .i64 (gI l j)) (by simp [encs, gI_some hj])
      rw [show ((⟨k, 0, none⟩ : Addr).add j) = ⟨k, 0 + j, none⟩ by unfold Addr.add; split <;> simp_all] at this
      rw [this]
      have e2 := gI_of (List.getElem?_eq_getElem hj)
      simp [e2, hj]
    · rintro e w' ⟨v', rfl, ho', _, hb⟩
      rw [List.take_length] at ho'
      exact ⟨v', rfl, Kd.R_of_own ho' (fun j hj => by
        rcases ho'.2 with ⟨q, _⟩ | ⟨gl, c', cur, q, hge, _⟩
        · rw [q] at hj; cases hj
        · rw [q] at hj; injection hj with hj; subst hj; exact hge), hb⟩
section
variable {w : World} {ok : Nat → Prop} {g n : Nat} {l : List Int} {sc : List Nat} {st : Nat}
set_option maxRecDepth 100000 in
set_option maxHeartbeats 4000000 in
theorem hs_Order (h : HS w ok g n l sc st) : Calls Try.prog 20 #[.pointer (some ⟨g, 0, none⟩)] w fun e w' => ∃ (A : Option Addr) (c : Nat) (o : List Int), e = .returned (.slice A o.length c) ∧ Kd.R (Kd.int .i64) 3 w' w.heap.size (fun _ => True) (.slice A o.length c) o ∧ o.Pairwise (fun x y => ah sc x y = true) ∧ (∀ x, x ∈ o ↔ x ∈ l) ∧ Below w.heap.size w w' := by
  have H := Aside0.mk h
  obtain ⟨hb, gs, gp, vl, pl, h1, h2⟩ := h.bound.ex
  obtain ⟨A, c, rfl⟩ := h1.sl
  have hle := h.le
  have hcap := h.cap
  have HL : Aside0 (l.length ≤ 1048576) := ⟨by omega⟩
  obtain ⟨w1, hw1⟩ : ∃ w', w' = w.alloc (.cells #[.pointer (some ⟨g, 0, none⟩)] 36) := ⟨_, rfl⟩
  have hb1 : Below w.heap.size w w1 := by rw [hw1]; exact below_alloc (Below.refl _ _) _
  have hx1 : w1.heap[w.heap.size]? = some (.cells #[.pointer (some ⟨g, 0, none⟩)] 36 (0, 0)) := by rw [hw1]; exact heap_alloc_new _ _
  have hs1 : w1.heap.size = w.heap.size + 1 := by rw [hw1]; simp
  have HW1 := Aside0.mk hw1
  have hm1 := h1.below hb1
  have c0 := hm1.c 0
  have b0 := blk_cell hx1 0
  have HM1 := Aside0.mk (And.intro hm1 h2)
  have HX1 := Aside0.mk (And.intro hx1 (And.intro hb1 hs1))
  clear h h1 h2 hle hcap hw1 hb1 hx1 hs1 hm1
  go_enter Try.func20, Try.ntmps20
  go_upto_region 1 with fail
  rw [← HW1.out]
  clear HW1
  go_upto_region 2 with (go_at_call 44; go_loud (refine (clone_l HM1.out.1.rl HL.out).mono ?_; rintro e w2 ⟨v2, rfl, hv2, hb2⟩; have HV2 := Aside0.mk (And.intro hv2 hb2); have hm2 := HM1.out.1.below hb2; have hx2 := (hb2.block _ (blk_lt HX1.out.1)).trans HX1.out.1; have HM2 := Aside0.mk (And.intro hm2 hx2); clear hv2 hb2 hm2 hx2 b0 c0))
  go_upto_region 3 with (go_at_call 45; go_loud (refine (hs_sort HM2.out.1 HM1.out.2 HM2.out.2 H.out.fin HV2.out.1 (fun k q => by have := HX1.out.2.2; omega) (by have := HX1.out.2.2; omega) HL.out).mono ?_; rintro e w3 ⟨rfl, o, hv3, hol, hpw, hmem, hgr⟩; have H3 := Aside0.mk (And.intro hv3 (And.intro hol (And.intro hpw (And.intro hmem hgr)))); clear hv3 hol hpw hmem hgr))
  have hb3 : Below w.heap.size w w3 := by
    have hb2 := below_step HX1.out.2.1 HV2.out.2
    have hgr := H3.out.2.2.2.2
    exact ⟨hgr.os.trans hb2.os, hgr.tape.trans hb2.tape, hgr.output.trans hb2.output, Nat.le_trans hb2.size hgr.size, fun k hk => (hgr.block k (Nat.lt_of_lt_of_le hk hb2.size) (fun e => by have := Kd.R_base HV2.out.1 k e.symm; have := HX1.out.2.2; omega)).trans (hb2.block k hk)⟩
  have HB3 := Aside0.mk (And.intro hb3 hb3.size)
  obtain ⟨A2, c2, rfl⟩ := Kd.R_slice H3.out.1
  have HC3 := Aside0.mk (Kd.R_reads' H3.out.1)
  clear hb3
  go_wp2_with (at_builtin; go_loud (refine Kd.R_append_rows (Kd.int .i64) (Rr := (Kd.int .i64).K w3) (w0 := w) w.heap.size rfl (.const (.slice none 0 0)) (.tmp 13) 22 3 (.int .i64 0) 8 rfl Try.underlying22 info_int rfl (by decide) (by omega) (.slice none 0 0) ([] : List Int) o A2 o.length c2 (fun _ => True) (fun _ => False) rfl rfl (Kd.R_nil _ _ _ _ _) HC3.out.2.2 (fun _ _ h => h) (fun _ h => h.elim) (fun _ _ => trivial) HB3.out.1 HB3.out.2 ?aL ?_; (case aL => have := H3.out.2.1; have := HL.out; simp only [List.length_nil]; omega); intro v4 w4 ho hb4 hg hat; obtain ⟨A4, c4, rfl⟩ := Kd.R_slice ho; have HO4 := Aside0.mk (And.intro ho hb4); clear ho hb4 hg hat))
  go_ret
  refine ⟨A4, c4, o, ?_, ?_, H3.out.2.2.1, H3.out.2.2.2.1, HO4.out.2⟩
  · simp
  · have := HO4.out.1
    simpa using this
end

end Go.Proofs.Ytocmldppefjbgaa.PHP
