import Derived.Test.YtegaaobiedfjcaaSt2
import Derived.Test.YtegaaobiedfjcaaHStep
namespace Go.Proofs.Ytegaaobiedfjcaa.PU
open Go.RowKit Go.Proofs.YtegaaobiedfjcaaW.PrintWords Go.Proofs.YtegaaobiedfjcaaW.PrintLast Go.Proofs.YtegaaobiedfjcaaW.PrintMore Go.Proofs.YtegaaobiedfjcaaH
set_option linter.unusedVariables false
set_option linter.unusedSimpArgs false
/-- A store's field is written: marks. -/
theorem Parts.put3 {w w1 : World} {ok ok' : Nat → Prop} {g : Nat} {vv vc vm v1 : Value} {vals : List Int} {cls : List (List Int × Int × Int)} {marks marks' : List S48} (h : Parts w ok g vv vc vm vals cls marks)
    (hok : ∀ k, ok k → ok' k) (hv : Kd.R k48 48 w1 0 (fun k => (ok' k ∧ k ≠ g) ∧ some k ≠ vv.ownBlock) v1 marks') (hg : w.grownBy w1 vm.ownBlock) :
    Parts (w1.setCell ⟨g, 3, none⟩ v1) ok' g vv vc v1 vals cls marks' := by
  have hgv : some g ≠ vm.ownBlock := fun e => (h.rm.1 g e.symm).1.2 rfl
  have hgl := blk_lt h.blk
  have hb1 : w1.heap[g]? = some (.cells #[.bool true, vv, vc, vm] 55 (0, 0)) := (hg.block g hgl hgv).trans h.blk
  have e1 : Kd.R (Kd.int .i64) 3 w1 0 (fun k => ok k ∧ k ≠ g) vv vals := Kd.R_over h.rv h.rm (by decide) hg
  have e2 : Kd.R kW 80 w1 0 (fun k => (ok k ∧ k ≠ g) ∧ some k ≠ vv.ownBlock) vc cls := Kd.R_over h.rc h.rm (by simp [kW, Kd.pair, Kd.slice, Kd.int, Kd.scalar]) hg
  exact ⟨hok g h.og, by have := blk_set hb1 3 v1; simpa using this, Kd.R_far (Kd.R_mono e1 (fun k hk => ⟨hok k hk.1, hk.2⟩)) (fun k hk => hk.2) _, Kd.R_far (Kd.R_mono e2 (fun k hk => ⟨⟨hok k hk.1.1, hk.1.2⟩, hk.2⟩)) (fun k hk => hk.1.2) _, Kd.R_far hv (fun k hk => hk.1.2) _⟩
/-- An element of values is written. -/
theorem Parts.putv {w : World} {ok : Nat → Prop} {g gv cv : Nat} {vc vm : Value} {vals : List Int} {cls : List (List Int × Int × Int)} {marks : List S48} (h : Parts w ok g (.slice (some ⟨gv, 0, none⟩) vals.length cv) vc vm vals cls marks) (i x : Int) :
    Parts (w.setCell ⟨gv, i.toNat, none⟩ (.int .i64 x)) ok g (.slice (some ⟨gv, 0, none⟩) vals.length cv) vc vm (vals.set i.toNat x) cls marks := by
  have hp := Kd.R_putg h.rv i x
  have hgv : gv ≠ g := (h.rv.1 gv rfl).2
  refine ⟨h.og, blk_far h.blk (fun e => hgv e.symm) _, hp.1, Kd.R_far h.rc (fun k hk e => hk.2 ?_) _, Kd.R_far h.rm (fun k hk e => hk.2 ?_) _⟩
  · rw [e]; rfl
  · rw [e]; rfl
theorem Rest.set' {w w1 : World} {ok : Nat → Prop} (h : Rest w w1 ok) {p : Addr} {q : Prop} (_ : True → q) (hp : p.block < w.heap.size → ok p.block) (u : Value) : Rest w (w1.setCell p u) ok :=
  ⟨h.os, h.tape, h.output, by simpa [World.setCell] using h.size, fun k hk hn => (Below.heap_setCell w1 p u k (fun e => hn (by rw [e]; exact hp (e ▸ hk)))).trans (h.block k hk hn)⟩
theorem box_kept {w1 w2 : World} {g B : Nat} {row : Option Nat} (hg : w1.drew.grownBy w2 row) (hB : B < w1.heap.size) (hne : some B ≠ row) (hgB : B ≠ g) (i j : Nat) (v : Value) : (w2.setCell ⟨g, i, none⟩ v).cell? ⟨B, j, none⟩ = w1.cell? ⟨B, j, none⟩ :=
  World.cell?_of_block (((Below.heap_setCell w2 ⟨g, i, none⟩ v B hgB)).trans (hg.block B hB hne))
def markV (vals : List Int) (l : Int) : List Int := if l < 0 then vals.set (-l).toNat (-1) else vals.set l.toNat 1
set_option maxHeartbeats 4000000 in
set_option maxRecDepth 100000 in
theorem st_mark (ok : Nat → Prop) (g : Nat) (vals : List Int) (cls : List (List Int × Int × Int)) (marks : List S48) (m : S48) (w : World) (h : St w ok g vals cls marks) (h1 : -(vals.length : Int) < m.f0) (h2 : m.f0 < (vals.length : Int)) (hl : marks.length ≤ 4194304) (hvl : vals.length ≤ 262145) :
    Calls Try.prog 37 #[.pointer (some ⟨g, 0, none⟩), .agg #[.int .i64 m.f0, .int .i64 m.f1, .int .i64 m.f2]] w fun e w' => e = .returned (.tuple #[]) ∧ St w' (fun k => ok k ∨ w.heap.size ≤ k) g (markV vals m.f0) cls (marks ++ [m]) ∧ Rest w w' ok := by
  obtain ⟨vv, vc, vm, h⟩ := h
  obtain ⟨a, b, c⟩ := m
  obtain ⟨Am, cm, rfl, hlm, hCm⟩ := Kd.R_reads h.rm
  have HP := Aside0.mk h
  clear hCm
  simp only at h1 h2
  go_enter Try.func37, Try.ntmps37
  go_wp2
  have hp1 := h.step (w1 := w.alloc (.cells #[.int .i64 a, .int .i64 b, .int .i64 c] 48)) (fun k _ hk => (below_alloc (Below.refl w.heap.size w) _).block k hk)
  have c3 := hp1.c3
  have f3 := hp1.f 3
  obtain ⟨w1, hw1⟩ : ∃ w1, w1 = w.alloc (.cells #[.int .i64 a, .int .i64 b, .int .i64 c] 48) := ⟨_, rfl⟩
  have b0 : w1.cell? ⟨w.heap.size, 0, none⟩ = some (.int .i64 a) := by rw [hw1]; simp [go_sem]
  have b1 : w1.cell? ⟨w.heap.size, 1, none⟩ = some (.int .i64 b) := by rw [hw1]; simp [go_sem]
  have b2 : w1.cell? ⟨w.heap.size, 2, none⟩ = some (.int .i64 c) := by rw [hw1]; simp [go_sem]
  rw [← hw1] at hp1 c3 f3 ⊢
  have HW := Aside0.mk hw1
  have HP1 := Aside0.mk hp1
  clear h hp1 hw1
  have HF : Aside0 (∀ k, w.heap.size ≤ k → ((ok k ∨ w.heap.size ≤ k) ∧ k ≠ g) ∧ some k ≠ vv.ownBlock) := ⟨fun k hk => ⟨⟨.inr hk, fun e => by have := blk_lt HP.out.blk; omega⟩, fun e => by have := Kd.R_lt HP.out.rv k e.symm; omega⟩⟩
  have HO : Aside0 (Kd.R k48 48 w1 0 (fun k => ((ok k ∨ w.heap.size ≤ k) ∧ k ≠ g) ∧ some k ≠ vv.ownBlock) (.slice Am marks.length cm) marks) := ⟨Kd.R_mono HP1.out.rm (fun k hk => ⟨⟨.inl hk.1.1, hk.1.2⟩, hk.2⟩)⟩
  have hws : w.heap.size ≤ w1.heap.size := by rw [HW.out]; simp
  have HWS := Aside0.mk hws
  have HL := Aside0.mk hl
  clear hws hl
  have c3a : ∀ o : Obj, (w1.alloc o).cell? ⟨g, 3, none⟩ = some (.slice Am marks.length cm) := fun o => ((below_alloc (Below.refl w1.heap.size w1) o).cell (World.block_lt_of_cell? _ _ c3)).trans c3
  go_region_law (refine R_append_drew k48 (w0 := w1) 0 rfl (.tmp 8) (.tmp 10) 38 48 (.agg #[(.int .i64 0), (.int .i64 0), (.int .i64 0)]) 24 rfl Try.underlying38 info_mark rfl (by decide) (by omega) (.slice Am marks.length cm) marks (⟨a, b, c⟩ : S48) [.int .i64 a, .int .i64 b, .int .i64 c] (fun k => ((ok k ∨ w.heap.size ≤ k) ∧ k ≠ g) ∧ some k ≠ vv.ownBlock) (fun _ => False) (by simp [Act.eval, Act.put]) (by simp [Act.eval, Act.put]) ?aP (fun _ hk => hk.elim) ?aF ?aO ?aB ?aS ?aL ?_; (case aP => exact k48_mkM _ _ _ (⟨a, b, c⟩ : S48)); (case aF => exact fun k hk => HF.out k (Nat.le_trans HWS.out hk)); (case aO => exact Kd.R_drew HO.out); (case aB => exact ⟨rfl, rfl, rfl, Nat.le_refl _, fun _ h => by omega⟩); (case aS => exact Nat.zero_le _); (case aL => have := HL.out; omega); intro v1 w2 ho hb hg hat; obtain ⟨A1, cc1, rfl⟩ := Kd.R_slice ho; rw [show (marks ++ [(⟨a, b, c⟩ : S48)]).length = marks.length + 1 from by simp] at ho hat; have hb1 := (hg.block g (blk_lt HP1.out.blk) (fun e => (HP1.out.rm.1 g e.symm).1.2 rfl)).trans HP1.out.blk; have k3 : w2.cell? ⟨g, 3, none⟩ = some (.slice Am marks.length cm) := blk_cell hb1 3; have k3f := blk_frozen hb1 3; have HO1 := Aside0.mk ho; have HG1 := Aside0.mk hg; clear ho hb hg hat hb1)
  all_goals
    have hg0 : w1.grownBy w2 (Value.slice Am marks.length cm).ownBlock := ⟨HG1.out.os, HG1.out.tape, HG1.out.output, HG1.out.size, HG1.out.block⟩
    have hp3 := HP1.out.put3 (ok' := fun k => ok k ∨ w.heap.size ≤ k) (fun k h => .inl h) HO1.out hg0
    have hB : w.heap.size < w1.heap.size := World.block_lt_of_cell? _ _ b0
    have hBv : some w.heap.size ≠ (Value.slice Am marks.length cm).ownBlock := fun e => Nat.lt_irrefl _ (Kd.R_lt HP.out.rm _ e.symm)
    have hBg : w.heap.size ≠ g := fun e => Nat.lt_irrefl _ (e ▸ blk_lt HP.out.blk)
    have d0 := (box_kept HG1.out hB hBv hBg 3 0 (.slice A1 (marks.length + 1) cc1)).trans b0
    have hr3 : Rest w (w2.setCell ⟨g, 3, none⟩ (.slice A1 (marks.length + 1) cc1)) ok := by
      refine Rest.set (p := ⟨g, 3, none⟩) (Rest.grown (w1 := w1) ?_ hg0 (fun k e _ => (HP.out.rm.1 k e).1.1)) HP.out.og _
      rw [HW.out]
      exact (Rest.refl w ok).alloc _
    clear b0 b1 b2 c3 f3 k3 k3f c3a HO HO1 HG1
    obtain ⟨w3, hw3⟩ : ∃ w3, w3 = w2.setCell ⟨g, 3, none⟩ (.slice A1 (marks.length + 1) cc1) := ⟨_, rfl⟩
    rw [← hw3] at hp3 d0 hr3 ⊢
    have HP3 := Aside0.mk hp3
    have HR3 := Aside0.mk hr3
    have c1 := hp3.c1
    obtain ⟨Av, cv, rfl, _, _⟩ := Kd.R_reads hp3.rv
    have hpos : 0 < vals.length := by omega
    obtain ⟨gv, cv', e1, _, _, _⟩ := Kd.R_form hp3.rv hpos
    injection e1 with e1 e2 e3
    subst e1 e3
    clear hp3 hr3 hw3 hB hBv hBg hg0 e2
    by_cases ha : a < 0
    · have hi0 : 0 ≤ -a := by omega
      have hi1 : -a < (vals.length : Int) := by omega
      obtain ⟨x0, hcell, hfro⟩ : ∃ u, w3.cell? ⟨gv, (-a).toNat, none⟩ = some u ∧ w3.frozen? ⟨gv, (-a).toNat, none⟩ = false := ⟨_, Kd.R_celln 0 HP3.out.rv (-a) hi0 hi1⟩
      have hw : IntKind.i64.wrap (-a) = -a := IntWalk.i64_in _ (by omega)
      go_wp2
      go_region
      all_goals
        go_end0
        have hM : markV vals a = vals.set (-a).toNat (-1) := if_pos ha
        exact ⟨rfl, ⟨_, _, _, by rw [hM]; exact (HP3.out.putv (-a) (-1)).step (fun _ _ _ => rfl)⟩, (HR3.out.set' (p := ⟨gv, (-a).toNat, none⟩) (fun _ => (HP3.out.rv.1 gv rfl).1) (fun h => (HP.out.rv.1 gv rfl).1) _).drewN 1⟩
    · have hi0 : 0 ≤ a := by omega
      have hi1 : a < (vals.length : Int) := by omega
      obtain ⟨x0, hcell, hfro⟩ : ∃ u, w3.cell? ⟨gv, a.toNat, none⟩ = some u ∧ w3.frozen? ⟨gv, a.toNat, none⟩ = false := ⟨_, Kd.R_celln 0 HP3.out.rv a hi0 hi1⟩
      go_wp2
      go_region
      all_goals
        go_end0
        have hM : markV vals a = vals.set a.toNat 1 := if_neg (by omega)
        exact ⟨rfl, ⟨_, _, _, by rw [hM]; exact (HP3.out.putv a 1).step (fun _ _ _ => rfl)⟩, (HR3.out.set' (p := ⟨gv, a.toNat, none⟩) (fun _ => (HP3.out.rv.1 gv rfl).1) (fun h => (HP.out.rv.1 gv rfl).1) _).drewN 1⟩

end Go.Proofs.Ytegaaobiedfjcaa.PU
