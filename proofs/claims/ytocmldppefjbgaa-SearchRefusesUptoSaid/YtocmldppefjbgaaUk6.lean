import Derived.Test.YtocmldppefjbgaaUk5
import Derived.StillTailTactics
import Derived.IntWalk
import Derived.Deep.RegionLaw
import Derived.Deep.QuietTactic
import Derived.BigQuiet
import Derived.Deep.RegionHeld3
namespace Go.Proofs.Ytocmldppefjbgaa.PHU
open Go.RowKit Go.Proofs.YtocmldppefjbgaaW.PrintWords Go.Proofs.YtocmldppefjbgaaW.PrintLast Go.Proofs.YtocmldppefjbgaaW.PrintMore Go.Proofs.YtocmldppefjbgaaH
set_option linter.unusedVariables false
set_option linter.unusedSimpArgs false
open Go.Proofs.Ytocmldppefjbgaa.PHP (S92 k92 z92 rd_T92)
/-! ### search.Add -/
section
variable {w : World} {ok : Nat → Prop} {c : Nat → Nat} {s gs : Nat} {vals : List Int} {cls : List (List Int × Int × Int)} {ph pl : List Int} {sp : List (List Value)} {added : Int} {v3 vph vst vpl v7 v9 v10 : Value}
theorem SV.bound (h : SV w ok c s gs vals cls ph pl sp added v3 vph vst vpl v7 v9 v10) : SV w (fun k => ok k ∧ k < w.heap.size) c s gs vals cls ph pl sp added v3 vph vst vpl v7 v9 v10 :=
  ⟨⟨h.os, blk_lt h.blk⟩, h.cs, h.blk, h.st.bound.mono (fun k q => ⟨⟨q.1.1, q.2⟩, q.1.2⟩), Kd.R_mono (Kd.R_bound h.rph) (fun k q => ⟨⟨q.1.1, q.2.2.1⟩, q.1.2⟩), Kd.R_mono (Kd.R_bound h.rst) (fun k q => ⟨⟨q.1.1, q.2.2.1⟩, q.1.2⟩), Kd.R_mono (Kd.R_bound h.rpl) (fun k q => ⟨⟨q.1.1, q.2.2.1⟩, q.1.2⟩)⟩
theorem SV.below {w1 : World} (h : SV w ok c s gs vals cls ph pl sp added v3 vph vst vpl v7 v9 v10) (hb : Below w.heap.size w w1) : SV w1 ok c s gs vals cls ph pl sp added v3 vph vst vpl v7 v9 v10 := h.step (fun k _ hk => hb.block k hk)
theorem SV.more (h : SV w ok c s gs vals cls ph pl sp added v3 vph vst vpl v7 v9 v10) (x : Int) : SV (w.setCell ⟨s, 8, none⟩ (.int .i64 x)) ok c s gs vals cls ph pl sp x v3 vph vst vpl v7 v9 v10 := by
  have hset : ∀ k, k ≠ s → (w.setCell ⟨s, 8, none⟩ (.int .i64 x)).heap[k]? = w.heap[k]? := fun k hk => Below.heap_setCell w ⟨s, 8, none⟩ _ k hk
  have hn : ∀ k, c k ≠ 4 → k ≠ s := fun k => h.nbox
  exact ⟨h.os, h.cs, by have := blk_set h.blk 8 (.int .i64 x); simpa using this, h.st.step (fun k q _ => hset k (hn k (by have := q.2; omega))), Kd.R_step h.rph (fun k q _ => hset k (hn k (by have := q.2; omega))), Kd.R_step h.rst (fun k q _ => hset k (hn k (by have := q.2; omega))), Kd.R_step h.rpl (fun k q _ => hset k (hn k (by have := q.2; omega)))⟩
set_option maxRecDepth 100000 in
set_option maxHeartbeats 4000000 in
theorem sv_Add_bad (A0 : Option Addr) (c0 : Nat) (l0 : List Int) (hr0 : Kd.C (Kd.int .i64) w A0 l0.length l0) (h : SV w ok c s gs vals cls ph pl sp added v3 vph vst vpl v7 v9 v10) (hv : Vals vals) (hb : litsOk vals l0 = false) :
    Calls Try.prog 11 #[.pointer (some ⟨s, 0, none⟩), .slice A0 l0.length c0] w fun e w' => e = .returned (.int .i64 180) ∧ Below w.heap.size w w' := by
  have hA := fun (o : Obj) => below_alloc (Below.refl w.heap.size w) o
  have H := Aside0.mk (fun o => (h.below (hA o)).svx)
  have HR := Aside0.mk (fun o => Kd.C_below hr0 (hA o))
  have HV := Aside0.mk hv
  have HBD : Aside0 (l0.any (fun l => !(litB ((vals.length : Int) - 1) l)) = true) := ⟨by unfold litsOk at hb; simpa using hb⟩
  clear h hr0 hv hb hA
  go_enter Try.func11, Try.ntmps11
  go_wp2_with (first | (go_at_call 30; go_loud (refine (sv_is s vals _ (H.out _)).mono ?_; rintro e w' ⟨rfl, rfl⟩)) | (go_at_call 32; go_loud (refine (sv_ContainsF s w.heap.size vals A0 c0 l0 _ (HR.out _) (H.out _) HV.out (by simp [go_sem])).mono ?_; rw [HBD.out]; rintro e w' ⟨rfl, rfl⟩)))
  go_ret
  exact ⟨rfl, below_alloc (Below.refl _ _) _⟩
set_option maxRecDepth 100000 in
set_option maxHeartbeats 8000000 in
theorem sv_Add (A0 : Option Addr) (c0 : Nat) (l0 : List Int) (hr0 : ∀ w1, Rest w w1 ok → Kd.C (Kd.int .i64) w1 A0 l0.length l0) (h : SV w ok c s gs vals cls ph pl sp added v3 vph vst vpl v7 v9 v10) (hv : Vals vals) (hb : litsOk vals l0 = true) (hn : cls.length < 1048576) (hl0 : l0.length ≤ 4194304) (hpl : pl.length ≤ 4194304) (hsp : sp.length ≤ 4194304) (ha : added < 1048576) (ha0 : 0 ≤ added) :
    Calls Try.prog 11 #[.pointer (some ⟨s, 0, none⟩), .slice A0 l0.length c0] w fun e w' => e = .returned (.int .i64 0) ∧ (∃ c' pl' sp' vst' vpl', SV w' (fun k => ok k ∨ w.heap.size ≤ k) c' s gs vals (cls ++ [(l0, 0, 0)]) ph pl' sp' (added + 1) v3 vph vst' vpl' v7 v9 v10 ∧ pl'.length = pl.length + 1 ∧ sp'.length = sp.length + 1) ∧ Rest w w' ok := by
  have hA := fun (o : Obj) => below_alloc (Below.refl w.heap.size w) o
  have H := Aside0.mk (fun o => (h.below (hA o)).svx)
  have HR := Aside0.mk (fun o => hr0 _ (Rest.of_below (hA o) ok))
  have HR0 := Aside0.mk hr0
  have HB := Aside0.mk h
  have c8 := fun o => blk_cell (h.below (hA o)).blk 8
  have f8 := fun o => blk_frozen (h.below (hA o)).blk 8
  have HN := Aside0.mk (And.intro hv (And.intro hb (And.intro hn (And.intro hl0 (And.intro hpl (And.intro hsp (And.intro ha ha0)))))))
  have HBD : Aside0 (l0.any (fun l => !(litB ((vals.length : Int) - 1) l)) = false) := ⟨by unfold litsOk at hb; simpa using hb⟩
  have hne : (added == 1048576) = false := by rw [beq_eq_false_iff_ne]; omega
  have hbx : ∀ p : Value, (w.alloc (.cells #[p] 24)).cell? ⟨w.heap.size, 0, none⟩ = some p := fun p => by simp [go_sem]
  have b0 := hbx (.pointer (some ⟨s, 0, none⟩))
  clear h hr0 hv hb hA hn hl0 hpl hsp ha ha0 hbx
  go_enter Try.func11, Try.ntmps11
  go_upto_region 8 with (first | (go_at_call 30; go_loud (refine (sv_is s vals _ (H.out _)).mono ?_; rintro e w' ⟨rfl, rfl⟩)) | (go_at_call 32; go_loud (refine (sv_ContainsF s w.heap.size vals A0 c0 l0 _ (HR.out _) (H.out _) HN.out.1 (by simp [go_sem])).mono ?_; rw [HBD.out]; rintro e w' ⟨rfl, rfl⟩)))
  have hwr : wrap64 (added + 1) = added + 1 := by unfold wrap64; have := HN.out; omega
  rw [hwr]
  obtain ⟨wx, hwx⟩ : ∃ w', w' = w.alloc (.cells #[.pointer (some ⟨s, 0, none⟩)] 24) := ⟨_, rfl⟩
  have hbx : Below w.heap.size w wx := by rw [hwx]; exact below_alloc (Below.refl _ _) _
  have hsz : wx.heap.size = w.heap.size + 1 := by rw [hwx]; simp
  have hcx : Kd.C (Kd.int .i64) wx A0 l0.length l0 := by rw [hwx]; exact HR.out _
  rw [← hwx] at b0 ⊢
  obtain ⟨w2, hw2⟩ : ∃ w', w' = wx.setCell ⟨s, 8, none⟩ (.int .i64 (added + 1)) := ⟨_, rfl⟩
  have hsl := blk_lt HB.out.blk
  have b2 : w2.cell? ⟨w.heap.size, 0, none⟩ = some (.pointer (some ⟨s, 0, none⟩)) := by
    rw [hw2]
    exact (World.cell?_of_block (a := ⟨w.heap.size, 0, none⟩) (Below.heap_setCell wx ⟨s, 8, none⟩ _ w.heap.size (by dsimp only; omega))).trans b0
  have hs2 : SV w2 (fun k => ok k ∧ k < w.heap.size) c s gs vals cls ph pl sp (added + 1) v3 vph vst vpl v7 v9 v10 := by rw [hw2]; exact (HB.out.bound.below hbx).more _
  have hr2 : Rest w w2 (fun k => ok k ∧ k < w.heap.size) := by rw [hw2]; exact (Rest.of_below hbx _).set (p := ⟨s, 8, none⟩) ⟨HB.out.os, hsl⟩ _
  have hs2z : w2.heap.size = w.heap.size + 1 := by rw [hw2]; simp [World.setCell, hsz]
  have hc2 : Kd.C (Kd.int .i64) w2 A0 l0.length l0 := HR0.out w2 (hr2.mono (fun k _ q => q.1))
  have H2 := Aside0.mk (And.intro hs2 (And.intro hr2 (And.intro hs2z hc2)))
  have hb2l : w.heap.size < w2.heap.size := by omega
  rw [← hw2]
  clear hw2 hwx hbx hsz hcx hsl hs2 hr2 hs2z hc2 b0 c8 f8 hwr hne
  go_region_law (first
    | (go_simp; go_at_call 36; refine (clone_ints A0 c0 l0 _ (by first | exact H2.out.2.2.2 | exact Kd.C_drew H2.out.2.2.2) HN.out.2.2.2.1).mono ?_; rintro e wc ⟨v0, rfl, hr, hb⟩; obtain ⟨A1, cc1, rfl⟩ := Kd.R_slice hr; have hb' : Below w2.heap.size w2 wc := ⟨hb.os, hb.tape, hb.output, hb.size, hb.block⟩; have HC := Aside0.mk (And.intro (Kd.R_reads' hr).2.2 hb'); have b1 := (hb'.cell hb2l).trans b2; clear hr hb hb')
    | (go_simp; go_at_call 35; refine (sv_put A1 cc1 l0 ((H2.out.1.below HC.out.2).step (fun _ _ _ => rfl)) (by first | exact HC.out.1 | exact Kd.C_drew HC.out.1) HN.out.1 HN.out.2.1 HN.out.2.2.1 HN.out.2.2.2.1 HN.out.2.2.2.2.1 HN.out.2.2.2.2.2.1).mono ?_; rintro e w9 ⟨rfl, h9, hr9⟩; have H9 := Aside0.mk (And.intro h9 hr9); clear h9 hr9))
  all_goals
    go_wp2
    go_ret
    obtain ⟨⟨c', vst', vpl', h9⟩, hr9⟩ := H9.out
    have hz := H2.out.2.2.1
    have hz2 := HC.out.2.size
    refine ⟨rfl, ⟨c', _, _, vst', vpl', (h9.mono (fun k q => q.imp (fun z => z.1) (fun z => by omega))).step (fun _ _ _ => rfl), by simp, by simp⟩, ?_⟩
    have hf : Rest w w9 ok := ((H2.out.2.1.trans (Rest.of_below HC.out.2 _) (fun k _ q => q)).trans hr9 (fun k _ q => q)).mono (fun k _ q => q.1)
    exact ⟨hf.os, hf.tape, hf.output, hf.size, hf.block⟩
end

end Go.Proofs.Ytocmldppefjbgaa.PHU
