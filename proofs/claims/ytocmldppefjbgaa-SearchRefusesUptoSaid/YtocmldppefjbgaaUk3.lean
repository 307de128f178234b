import Derived.Test.YtocmldppefjbgaaUk2
import Derived.IntWalk
import Derived.Deep.RegionLaw
import Derived.Deep.QuietTactic
import Derived.BigQuiet
namespace Go.Proofs.Ytocmldppefjbgaa.PHU
open Go.RowKit Go.Proofs.YtocmldppefjbgaaW.PrintWords Go.Proofs.YtocmldppefjbgaaW.PrintLast Go.Proofs.YtocmldppefjbgaaW.PrintMore Go.Proofs.YtocmldppefjbgaaH
set_option linter.unusedVariables false
set_option linter.unusedSimpArgs false
open Go.Proofs.Ytocmldppefjbgaa.PHP (S92 k92 z92 rd_T92)
/-! ### search.New -/
theorem info_step : (Try.prog.info? 72).map (fun i => (i.zero, i.size, i.bytes)) = some (some (.agg #[.int .i64 0, .slice none 0 0, .slice none 0 0, .slice none 0 0]), 4, 80) := by kernel_rfl
/-- A solver at block s: its store at gs, its rows (phases, steps, places) in blocks of three colours of their own. -/
structure SV (w : World) (ok : Nat → Prop) (c : Nat → Nat) (s gs : Nat) (vals : List Int) (cls : List (List Int × Int × Int)) (ph pl : List Int) (sp : List (List Value)) (added : Int) (v3 vph vst vpl v7 v9 v10 : Value) : Prop where
  os : ok s
  cs : c s = 4
  blk : w.heap[s]? = some (.cells #[.bool true, .nilIface, .pointer (some ⟨gs, 0, none⟩), v3, vph, vst, vpl, v7, .int .i64 added, v9, v10] 63 (0, 0))
  st : St w (fun k => ok k ∧ c k = 0) gs vals cls []
  rph : Kd.R (Kd.int .i64) 3 w 0 (fun k => ok k ∧ c k = 1) vph ph
  rst : Kd.R (Kd.raw 4) 72 w 0 (fun k => ok k ∧ c k = 2) vst sp
  rpl : Kd.R (Kd.int .i64) 3 w 0 (fun k => ok k ∧ c k = 3) vpl pl
section
variable {w : World} {ok : Nat → Prop} {c : Nat → Nat} {s gs : Nat} {vals : List Int} {cls : List (List Int × Int × Int)} {ph pl : List Int} {sp : List (List Value)} {added : Int} {v3 vph vst vpl v7 v9 v10 : Value}
theorem SV.svx (h : SV w ok c s gs vals cls ph pl sp added v3 vph vst vpl v7 v9 v10) : SVX w s vals := ⟨_, gs, cls, blk_cell h.blk 0, blk_cell h.blk 2, h.st⟩
theorem SV.step {w1 : World} (h : SV w ok c s gs vals cls ph pl sp added v3 vph vst vpl v7 v9 v10) (hm : ∀ k, ok k → k < w.heap.size → w1.heap[k]? = w.heap[k]?) : SV w1 ok c s gs vals cls ph pl sp added v3 vph vst vpl v7 v9 v10 :=
  ⟨h.os, h.cs, (hm s h.os (blk_lt h.blk)).trans h.blk, h.st.step (fun k q => hm k q.1), Kd.R_step h.rph (fun k q => hm k q.1), Kd.R_step h.rst (fun k q => hm k q.1), Kd.R_step h.rpl (fun k q => hm k q.1)⟩
end
set_option maxRecDepth 100000 in
set_option maxHeartbeats 4000000 in
theorem sv_New (m : Nat) (w : World) (hm : m ≤ 262144) : Calls Try.prog 8 #[.int .i64 (m : Int), .nilIface] w fun e w' => ∃ s, e = .returned (.tuple #[.pointer (some ⟨s, 0, none⟩), .int .i64 0]) ∧ (∃ c gs vph vst vpl v3 v7 v9 v10, SV w' (fun k => w.heap.size ≤ k) c s gs (List.replicate (m + 1) 0) [] (List.replicate (m + 1) 0) [] [] 0 v3 vph vst vpl v7 v9 v10) ∧ Below w.heap.size w w' := by
  have HN := Aside0.mk hm
  have hw1 : wrap64 ((m : Int) + 1) = (m : Int) + 1 := by unfold wrap64; omega
  have m1 := print_make_int (P := Try.prog) 22 3 (.int .i64 0) 8 Try.underlying22 info_int rfl (by decide) ((m : Int) + 1) (by omega) (by omega)
  rw [show ((m : Int) + 1).toNat = m + 1 by omega] at m1
  have hmm := @run_makeMap Try.prog
  rw [PHP.made_il] at m1
  clear hm
  go_enter Try.func8, Try.ntmps8
  go_upto_region 5 with (go_at_call 27; go_loud (refine (st_New (m : Int) w (by omega) (by have := HN.out; omega)).mono ?_; rintro e w2 ⟨gs, rfl, hst, hb⟩; have H2 := Aside0.mk (And.intro hst hb); clear hst hb))
  obtain ⟨wa, hwa⟩ : ∃ w', w' = w2.alloc (.map #[] 0) := ⟨_, rfl⟩
  have hsa : wa.heap.size = w2.heap.size + 1 := by rw [hwa]; simp
  have hba : Below w2.heap.size w2 wa := by rw [hwa]; exact below_alloc (Below.refl _ _) _
  rw [← hwa]
  rw [show w2.heap.size + 1 = wa.heap.size from hsa.symm]
  obtain ⟨wb, hwb⟩ : ∃ w', w' = wa.alloc (.cells (PHP.il (List.replicate (m + 1) 0)) 3) := ⟨_, rfl⟩
  have hsb : wb.heap.size = wa.heap.size + 1 := by rw [hwb]; simp
  have hbb : Below wa.heap.size wa wb := by rw [hwb]; exact below_alloc (Below.refl _ _) _
  have hrb : Kd.R (Kd.int .i64) 3 wb 0 (fun k => k = wa.heap.size) (.slice (some ⟨wa.heap.size, 0, none⟩) (m + 1) (m + 1)) (List.replicate (m + 1) 0) := by
    have h := World.ownsRow_lit (base := 0) (e := 3) (size := 1) wa (PHP.il (List.replicate (m + 1) 0)) (m + 1) (Nat.zero_le _) (by have := HN.out; simp only [maxLen]; omega) (by simp [PHP.il])
    have hl : (PHP.il (List.replicate (m + 1) 0)).toList = encs (Value.int .i64) (List.replicate (m + 1) 0) := by simp [PHP.il, encs]
    rw [hl, ← hwb] at h
    exact Kd.R_of_own (ok := fun k => k = wa.heap.size) (by rw [List.length_replicate]; exact h) (fun k hk => by injection hk with hk; exact hk.symm)
  rw [← hwb]
  rw [show wa.heap.size + 1 = wb.heap.size from hsb.symm]
  obtain ⟨wc, hwc⟩ : ∃ w', w' = wb.alloc (.cells #[.bool true, .nilIface, .pointer (some ⟨gs, 0, none⟩), .pointer none, .slice (some ⟨wa.heap.size, 0, none⟩) (m + 1) (m + 1), .slice none 0 0, .slice none 0 0, .map (some w2.heap.size), .int .i64 0, .int .i64 0, .int .i64 0] 63) := ⟨_, rfl⟩
  have hbc : Below wb.heap.size wb wc := by rw [hwc]; exact below_alloc (Below.refl _ _) _
  have hxc : wc.heap[wb.heap.size]? = some (.cells #[.bool true, .nilIface, .pointer (some ⟨gs, 0, none⟩), .pointer none, .slice (some ⟨wa.heap.size, 0, none⟩) (m + 1) (m + 1), .slice none 0 0, .slice none 0 0, .map (some w2.heap.size), .int .i64 0, .int .i64 0, .int .i64 0] 63 (0, 0)) := by rw [hwc]; exact heap_alloc_new _ _
  have HSZ : Aside0 (w.heap.size ≤ w2.heap.size ∧ wa.heap.size = w2.heap.size + 1 ∧ wb.heap.size = wa.heap.size + 1) := ⟨H2.out.2.size, hsa, hsb⟩
  have hbw : Below w2.heap.size w2 wc := below_step (below_step hba hbb) hbc
  have HST : Aside0 (St wc (fun k => w.heap.size ≤ k ∧ k < w2.heap.size) gs (List.replicate (m + 1) 0) [] []) := ⟨by
    have h := H2.out.1.bound.below hbw
    rwa [show ((m : Int) + 1).toNat = m + 1 by omega] at h⟩
  have HC := Aside0.mk (And.intro hxc (And.intro (below_step H2.out.2 hbw) (Kd.R_below (Kd.R_bound hrb) hbc)))
  rw [← hwc]
  clear hwa hsa hba hwb hsb hbb hrb hwc hbc hxc hbw m1 hmm
  go_upto_region 6 with (go_at_call 28; go_loud (refine (sv_fill wb.heap.size gs m (List.replicate (m + 1) 0) [] _ _ wc HC.out.1 rfl ⟨_, rfl⟩ HST.out (fun q => by have := HSZ.out; have := q.2; omega) (List.length_replicate ..) HN.out).mono ?_; rintro e w6 ⟨rfl, g2, hx6, hr6⟩; have H6 := Aside0.mk (And.intro hx6 hr6); clear hx6 hr6))
  go_wp2
  go_ret2
  refine ⟨_, rfl, ⟨fun k => if k < w2.heap.size then 0 else if k = wa.heap.size then 1 else 4, gs, _, _, _, _, _, _, _, ⟨by have := HSZ.out; omega, ?_, H6.out.1, ?_, ?_, Kd.R_nil _ _ _ _ _, Kd.R_nil _ _ _ _ _⟩⟩, ?_⟩
  · have := HSZ.out
    rw [if_neg (by omega), if_neg (by omega)]
  · have hz := HSZ.out
    exact (HST.out.step (fun k q hk => H6.out.2.block k hk (by omega))).mono (fun k q => ⟨q.1, by rw [if_pos q.2]⟩)
  · have hz := HSZ.out
    refine Kd.R_mono (Kd.R_step HC.out.2.2 (fun k q hk => H6.out.2.block k hk (by have := q.1; omega))) (fun k q => ⟨by have := q.1; omega, ?_⟩)
    have hk := q.1
    rw [if_neg (by omega), if_pos hk]
  · have hz := HSZ.out
    exact ⟨H6.out.2.os.trans HC.out.2.1.os, H6.out.2.tape.trans HC.out.2.1.tape, H6.out.2.output.trans HC.out.2.1.output, Nat.le_trans HC.out.2.1.size H6.out.2.size, fun k hk => (H6.out.2.block k (Nat.lt_of_lt_of_le hk HC.out.2.1.size) (by omega)).trans (HC.out.2.1.block k hk)⟩

end Go.Proofs.Ytocmldppefjbgaa.PHU
