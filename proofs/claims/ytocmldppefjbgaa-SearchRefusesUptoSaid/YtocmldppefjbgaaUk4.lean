import Derived.Test.YtocmldppefjbgaaUk3
import Derived.IntWalk
import Derived.Deep.RegionLaw
import Derived.Deep.QuietTactic
import Derived.BigQuiet
namespace Go.Proofs.Ytocmldppefjbgaa.PHU
open Go.RowKit Go.Proofs.YtocmldppefjbgaaW.PrintWords Go.Proofs.YtocmldppefjbgaaW.PrintLast Go.Proofs.YtocmldppefjbgaaW.PrintMore Go.Proofs.YtocmldppefjbgaaH
set_option linter.unusedVariables false
set_option linter.unusedSimpArgs false
open Go.Proofs.Ytocmldppefjbgaa.PHP (S92 k92 z92 rd_T92)
/-! ### search.Grow -/
section
variable {w : World} {ok : Nat → Prop} {c : Nat → Nat} {s gs : Nat} {vals : List Int} {cls : List (List Int × Int × Int)} {ph pl : List Int} {sp : List (List Value)} {added : Int} {v3 vph vst vpl v7 v9 v10 : Value}
/-- new blocks: up to b of colour x, from there on of colour y -/
def newC (c : Nat → Nat) (a b x y : Nat) (k : Nat) : Nat := if k < a then c k else if k < b then x else y
theorem newC_old {c : Nat → Nat} {a b x y k : Nat} (h : k < a) : newC c a b x y k = c k := by unfold newC; rw [if_pos h]
set_option maxRecDepth 100000 in
set_option maxHeartbeats 4000000 in
theorem sv_Grow_full (h : SV w ok c s gs vals cls ph pl sp added v3 vph vst vpl v7 v9 v10) (hv : (vals.length : Int) - 1 = 262144) : Calls Try.prog 13 #[.pointer (some ⟨s, 0, none⟩)] w fun e w' => e = .returned (.tuple #[.int .i64 0, .int .i64 2]) ∧ w = w' := by
  have H := Aside0.mk h
  have HV := Aside0.mk hv
  have c2 := blk_cell h.blk 2
  clear h hv
  go_enter Try.func13, Try.ntmps13
  go_wp2_with (first
    | (go_at_call 30; go_loud (refine (sv_is s vals w H.out.svx).mono ?_; rintro e w' ⟨rfl, rfl⟩))
    | (go_at_call 38; go_loud (refine (st_Grow_full _ gs vals cls [] w H.out.st HV.out).mono ?_; rintro e w' ⟨rfl, rfl⟩)))
  go_ret2
  exact ⟨rfl, rfl⟩
set_option maxRecDepth 100000 in
set_option maxHeartbeats 4000000 in
theorem sv_Grow (m : Nat) (h : SV w ok c s gs vals cls ph pl sp added v3 vph vst vpl v7 v9 v10) (hv : vals.length = m + 1) (hm : m < 262144) (hp : ph.length ≤ 1048576) : Calls Try.prog 13 #[.pointer (some ⟨s, 0, none⟩)] w fun e w' => e = .returned (.tuple #[.int .i64 (vals.length : Int), .int .i64 0]) ∧ (∃ c' v3' vph', SV w' (fun k => ok k ∨ w.heap.size ≤ k) c' s gs (vals ++ [0]) cls (ph ++ [0]) pl sp added v3' vph' vst vpl v7 v9 v10) ∧ Rest w w' ok := by
  obtain ⟨Ap, cp, rfl⟩ := Kd.R_slice h.rph
  have H := Aside0.mk h
  have HV := Aside0.mk (And.intro hv (And.intro hm hp))
  have c2 := blk_cell h.blk 2
  clear h hv hm hp
  go_enter Try.func13, Try.ntmps13
  go_upto_region 5 with (first
    | (go_at_call 30; go_loud (refine (sv_is s vals w H.out.svx).mono ?_; rintro e w' ⟨rfl, rfl⟩))
    | (go_at_call 38; go_loud (refine (st_Grow _ gs vals cls [] w H.out.st (by have := HV.out; omega) (by have := HV.out; omega)).mono ?_; rintro e w2 ⟨rfl, hst, hr⟩; have H2 := Aside0.mk (And.intro hst hr); clear hst hr c2)))
  have hne : ∀ k, k < w.heap.size → c k ≠ 0 → w2.heap[k]? = w.heap[k]? := fun k hk hc => H2.out.2.block k hk (fun q => hc q.2)
  have hb2 := (hne s (blk_lt H.out.blk) (by rw [H.out.cs]; decide)).trans H.out.blk
  have hph2 : Kd.R (Kd.int .i64) 3 w2 0 (fun k => (ok k ∨ w.heap.size ≤ k) ∧ newC c w.heap.size w2.heap.size 0 1 k = 1) (.slice Ap ph.length cp) ph := Kd.R_mono (Kd.R_step (Kd.R_bound H.out.rph) (fun k q hk => hne k hk (by have := q.1.2; omega))) (fun k q => ⟨.inl q.1.1, by rw [newC_old q.2.2.1]; exact q.1.2⟩)
  have c4 := blk_cell hb2 4
  have c4a : ∀ o : Obj, (w2.alloc o).cell? ⟨s, 4, none⟩ = some (.slice Ap ph.length cp) := fun o => ((below_alloc (Below.refl w2.heap.size w2) o).cell (blk_lt hb2)).trans c4
  have HB2 := Aside0.mk hb2
  have HPH2 := Aside0.mk hph2
  have HSZ := Aside0.mk H2.out.2.size
  clear hne hb2 hph2
  go_upto_region 6 with (at_builtin; go_loud (refine Kd.R_append (Kd.int .i64) (w0 := w2) 0 rfl (.tmp 23) (.tmp 24) 22 3 (.int .i64 0) 8 rfl Try.underlying22 info_int rfl (by decide) (by omega) (.slice Ap ph.length cp) ph 0 [.int .i64 0] (fun k => (ok k ∨ w.heap.size ≤ k) ∧ newC c w.heap.size w2.heap.size 0 1 k = 1) (fun _ => False) rfl rfl ?aP (fun _ hk => hk.elim) ?aF HPH2.out ⟨rfl, rfl, rfl, Nat.le_refl _, fun _ h => by omega⟩ (Nat.zero_le _) ?aL ?_; (case aP => exact rfl); (case aF => exact fun k hk => by have := HSZ.out; exact ⟨.inr (by omega), by unfold newC; rw [if_neg (by omega), if_neg (by omega)]⟩); (case aL => have := HV.out; omega); intro v1 w3 ho hb0 hg hat; obtain ⟨A1, c1, rfl⟩ := Kd.R_slice ho; have hb3 := (hg.block s (blk_lt HB2.out) (fun e => by have h8 := (HPH2.out.1 s e.symm).2; rw [newC_old (blk_lt H.out.blk), H.out.cs] at h8; omega)).trans HB2.out; have k4 := blk_cell hb3 4; have k4f := blk_frozen hb3 4; have H3 := Aside0.mk (And.intro ho (And.intro hg hb3)); clear ho hb0 hg hat hb3))
  obtain ⟨w4, hw4⟩ : ∃ w', w' = w3.setCell ⟨s, 4, none⟩ (.slice A1 (ph.length + 1) c1) := ⟨_, rfl⟩
  have hsl := blk_lt H.out.blk
  have hsz := HSZ.out
  have hb4 : w4.heap[s]? = some (.cells #[.bool true, .nilIface, .pointer (some ⟨gs, 0, none⟩), v3, .slice A1 (ph.length + 1) c1, vst, vpl, v7, .int .i64 added, v9, v10] 63 (0, 0)) := by rw [hw4]; exact blk_set H3.out.2.2 4 _
  have hset : ∀ k, k ≠ s → w4.heap[k]? = w3.heap[k]? := fun k hk => by rw [hw4]; exact Below.heap_setCell w3 ⟨s, 4, none⟩ _ k hk
  have hgr : ∀ k, k < w2.heap.size → newC c w.heap.size w2.heap.size 0 1 k ≠ 1 → w3.heap[k]? = w2.heap[k]? := fun k hk hc => H3.out.2.1.block k hk (fun e => hc (HPH2.out.1 k e.symm).2)
  have hst4 : St w4 (fun k => ((ok k ∧ c k = 0) ∨ w.heap.size ≤ k) ∧ k < w2.heap.size) gs (vals ++ [0]) cls [] := H2.out.1.bound.step (fun k q hk => by
    have h1 : newC c w.heap.size w2.heap.size 0 1 k = 0 := by
      unfold newC
      by_cases hkw : k < w.heap.size
      · rw [if_pos hkw]; exact q.1.elim (fun z => z.2) (fun z => by omega)
      · rw [if_neg hkw, if_pos q.2]
    refine (hset k (fun e => ?_)).trans (hgr k q.2 (by rw [h1]; decide))
    rw [e, newC_old hsl, H.out.cs] at h1
    omega)
  have hsz4 : w3.heap.size = w4.heap.size := by rw [hw4]; simp [World.setCell]
  have HR4 : Aside0 (Rest w w4 ok) := ⟨by
    rw [hw4]
    exact (Rest.grown (H2.out.2.mono (fun k _ q => q.1)) H3.out.2.1 (fun k e hk => by have h8 := (HPH2.out.1 k e).1; rcases h8 with q | q; exact q; omega)).set (p := ⟨s, 4, none⟩) H.out.os _⟩
  have H4 := Aside0.mk (And.intro hb4 (And.intro hset (And.intro hgr (And.intro hst4 hsz4))))
  have HLV : Aside0 ((vals ++ [0]).length = (m + 1) + 1) := ⟨by simp [HV.out.1]⟩
  have HNS : Aside0 (¬ (((ok s ∧ c s = 0) ∨ w.heap.size ≤ s) ∧ s < w2.heap.size)) := ⟨fun q => by rcases q.1 with q | q; have := q.2; rw [H.out.cs] at this; omega; omega⟩
  rw [← hw4]
  clear hw4 hb4 hset hgr hst4 hsz4 c4 c4a k4 k4f hsl hsz
  go_upto_region 7 with (go_at_call 28; go_loud (refine (sv_fill s gs (m + 1) (vals ++ [0]) cls _ _ w4 H4.out.1 rfl ⟨_, rfl⟩ H4.out.2.2.2.1 HNS.out HLV.out (by have := HV.out; omega)).mono ?_; rintro e w6 ⟨rfl, g2, hx6, hr6⟩; have H6 := Aside0.mk (And.intro hx6 hr6); clear hx6 hr6))
  go_wp2
  go_ret2
  have hsl := blk_lt H.out.blk
  have hsz := HSZ.out
  have hsz4 := H4.out.2.2.2.2
  have hsz3 := H3.out.2.1.size
  have old : ∀ k, k < w.heap.size → c k ≠ 0 → c k ≠ 1 → k ≠ s → w6.heap[k]? = w.heap[k]? := fun k hk h0 h1 hs =>
    (H6.out.2.block k (by omega) hs).trans ((H4.out.2.1 k hs).trans ((H4.out.2.2.1 k (by omega) (by rw [newC_old hk]; exact h1)).trans (H2.out.2.block k hk (fun q => h0 q.2))))
  refine ⟨rfl, ⟨newC c w.heap.size w2.heap.size 0 1, _, _, ⟨.inl H.out.os, by rw [newC_old hsl]; exact H.out.cs, H6.out.1, ?_, ?_, ?_, ?_⟩⟩, ?_⟩
  · refine (H4.out.2.2.2.1.step (fun k q hk => H6.out.2.block k hk (fun e => HNS.out (e ▸ q)))).mono (fun k q => ⟨q.1.imp (fun z => z.1) id, ?_⟩)
    unfold newC
    by_cases hkw : k < w.heap.size
    · rw [if_pos hkw]; exact q.1.elim (fun z => z.2) (fun z => by omega)
    · rw [if_neg hkw, if_pos q.2]
  · have ho3 := H3.out.1
    rw [List.length_append, List.length_singleton] at ho3
    refine Kd.R_step (Kd.R_step ho3 (w1 := w4) (fun k q _ => H4.out.2.1 k (fun e => ?_))) (fun k q hk => H6.out.2.block k hk (fun e => ?_))
    · have := q.2; rw [e, newC_old hsl, H.out.cs] at this; omega
    · have := q.2; rw [e, newC_old hsl, H.out.cs] at this; omega
  · exact Kd.R_mono (Kd.R_step (Kd.R_bound H.out.rst) (fun k q hk => old k hk (by have := q.1.2; omega) (by have := q.1.2; omega) (fun e => by have := q.1.2; rw [e, H.out.cs] at this; omega))) (fun k q => ⟨.inl q.1.1, by rw [newC_old q.2.2.1]; exact q.1.2⟩)
  · exact Kd.R_mono (Kd.R_step (Kd.R_bound H.out.rpl) (fun k q hk => old k hk (by have := q.1.2; omega) (by have := q.1.2; omega) (fun e => by have := q.1.2; rw [e, H.out.cs] at this; omega))) (fun k q => ⟨.inl q.1.1, by rw [newC_old q.2.2.1]; exact q.1.2⟩)
  · exact HR4.out.trans H6.out.2 (fun k _ e => e ▸ H.out.os)
end

end Go.Proofs.Ytocmldppefjbgaa.PHU
