import Derived.Test.YtegaaobiedfjcaaStP
import Derived.Deep.RegionHeld3
import Derived.Deep.RegionWith
import Derived.BigQuiet
import Derived.Deep.QuietTactic
import Derived.Test.YtegaaobiedfjcaaHStep
namespace Go.Proofs.Ytegaaobiedfjcaa.PU
open Go.RowKit Go.Proofs.YtegaaobiedfjcaaW.PrintWords Go.Proofs.YtegaaobiedfjcaaW.PrintLast Go.Proofs.YtegaaobiedfjcaaW.PrintMore Go.Proofs.YtegaaobiedfjcaaH
set_option linter.unusedVariables false
set_option linter.unusedSimpArgs false
set_option maxHeartbeats 16000000 in
set_option maxRecDepth 100000 in
theorem play_Decide_ok (w0 : World) (ok P : Nat → Prop) (g : Nat) (vals : List Int) (cls : List (List Int × Int × Int)) (marks : List S48) (Al : Option Addr) (cl : Nat) (cs : List (List Int)) (Am : Option Addr) (cm : Nat) (n : Int) (Ac : Option Addr) (cc : Nat) (c : List Int) (lit N : Int) (w : World) (ho0 : ∀ k, ok k → w0.heap.size ≤ k) (hb : litB n lit = true) (hvl : valL vals lit = 0) (h : St w ok g vals cls marks) (hi : SInv n vals cls marks cs) (hM : Mod w0 w P (.slice Al cs.length cl) (.slice Am marks.length cm) cs marks) (hd : ∀ k, ok k → ¬ P k) (hb0 : Below w0.heap.size w0 w) (hrc : Kd.C (Kd.int .i64) w Ac c.length c) (hcc : c.length ≤ cc) (hcl : c.length ≤ 4194304) (hcsl : cs.length < 1048576) :
    Calls Try.prog 30 #[.pointer (some ⟨g, 0, none⟩), .agg #[.int .i64 n, .slice Al cs.length cl, .slice Am marks.length cm], .agg #[.int .i64 2, .slice Ac c.length cc, .int .i64 lit, .int .i64 N]] w fun e w' => ∃ n' vl' vm', e = .returned (.tuple #[.agg #[.int .i64 n', vl', vm'], .bool true]) ∧ PlayPost w0 w w' ok P g n' vl' vm' cs.length cc := by
  have H := Aside0.mk h
  have HI := Aside0.mk hi
  have HM := Aside0.mk hM
  have HD := Aside0.mk hd
  have HB0 := Aside0.mk hb0
  have HRC := Aside0.mk (And.intro hcc hrc)
  have hcll := hcl
  have hcsll := hcsl
  obtain ⟨hl1, hl2, hl3, hl4⟩ := hi.len
  have hn0 := hi.n0
  have HL1 := Aside0.mk hl1
  have HO0 := Aside0.mk ho0
  clear ho0
  have HIR := Aside0.mk (show inR lit by have := litB_iff.1 hb; unfold inR; omega)
  have HVL := Aside0.mk hvl
  obtain ⟨ko, hko⟩ := (open_all marks lit (by omega) HIR.out).rounds
  have HKO : Aside0 (fulcrumref20_Open.f ko marks lit = some true) := ⟨by rw [hko, openB_val hi (litB_iff.1 hb).1, decide_eq_true hvl]⟩
  clear hko hvl
  have HLW := Aside0.mk hi.may.lvl
  have hwr : IntKind.i64.wrap (lvl marks + 1) = lvl marks + 1 := IntWalk.i64_in _ (by have := hi.may.lvl; omega)
  have HB := Aside0.mk (show litB ((vals.length : Int) - 1) lit = true by rw [hi.litE]; exact hb)
  have HLF := Aside0.mk ((Lit_f lit n hi.n0 (by omega)).trans (congrArg some hb))
  have HLB := Aside0.mk hb
  clear hb
  clear h hi hM hd hb0 hrc hcc hl1
  go_enter Try.func30, Try.ntmps30
  go_wp2_with fail
  obtain ⟨w1, hw1⟩ : ∃ w1, w1 = (((w.alloc (.cells #[.int .i64 n, .slice Al cs.length cl, .slice Am marks.length cm] 65)).alloc (.cells #[.int .i64 2, .slice Ac c.length cc, .int .i64 lit, .int .i64 N] 52)).alloc (.cells #[.int .i64 0, .slice none 0 0, .slice none 0 0] 65)) := ⟨_, rfl⟩
  have HS : Aside0 (PStart w0 w w1 ok P #[.int .i64 n, .slice Al cs.length cl, .slice Am marks.length cm] #[.int .i64 2, .slice Ac c.length cc, .int .i64 lit, .int .i64 N] #[.int .i64 0, .slice none 0 0, .slice none 0 0]) := ⟨by rw [hw1]; exact pstart w0 w ok P _ _ _⟩
  rw [← hw1]
  clear hw1
  have H1 : Aside0 (St w1 (fun k => ok k ∧ k < w.heap.size) g vals cls marks) := ⟨H.out.bound.below HS.out.bel⟩
  refine (st_Decide _ g vals cls marks lit w1 H1.out HI.out.fit.v HB.out HVL.out (by omega) ⟨HLW.out.1, by have := HLW.out.2.1; omega⟩).mono ?_
  rintro e w3 ⟨rfl, hS3, hr3⟩
  have HS3 := Aside0.mk hS3
  have HR13 := Aside0.mk hr3
  have hsz3 := hr3.size
  have hbx := HS.out.box.step (fun k q1 q2 hk => hr3.block k hk (fun q => by omega))
  have HBX := Aside0.mk hbx
  have HM3 : Aside0 (Mod w0 w3 (fun k => P k ∧ k < w.heap.size) (.slice Al cs.length cl) (.slice Am marks.length cm) cs marks) := ⟨(HM.out.bound.below HS.out.bel).step (fun k q hk => hr3.block k hk (fun z => HD.out k z.1 q.1))⟩
  have HR3 : Aside0 (Rest w w3 (fun k => ok k ∨ P k)) := ⟨(Rest.of_below HS.out.bel _).trans hr3 (fun k hk q => .inl q.1)⟩
  have HB03 := Aside0.mk (hr3.below (below_step HB0.out HS.out.bel) (fun k q => HO0.out k q.1))
  have HCL3 := Aside0.mk (C_kC HB03.out (Kd.R_reads' HM3.out.rl).2.2)
  have HCM3 := Aside0.mk (Kd.R_reads' HM3.out.rm).2.2
  have HCLC := Aside0.mk (And.intro (Kd.R_reads' HM3.out.rl).2.1 (Kd.R_reads' HM3.out.rm).2.1)
  have HSZ := Aside0.mk (And.intro HS.out.sz hsz3)
  clear hS3 hr3 hsz3 hbx
  have m0 : w3.cell? ⟨w.heap.size, 0, none⟩ = some (.int .i64 n) := by rw [blk_cell HBX.out.m]; rfl
  have m1 : w3.cell? ⟨w.heap.size, 1, none⟩ = some (.slice Al cs.length cl) := by rw [blk_cell HBX.out.m]; rfl
  have m2 : w3.cell? ⟨w.heap.size, 2, none⟩ = some (.slice Am marks.length cm) := by rw [blk_cell HBX.out.m]; rfl
  have o0 : w3.cell? ⟨w.heap.size + 1, 0, none⟩ = some (.int .i64 2) := by rw [blk_cell HBX.out.o]; rfl
  have o1 : w3.cell? ⟨w.heap.size + 1, 1, none⟩ = some (.slice Ac c.length cc) := by rw [blk_cell HBX.out.o]; rfl
  have o2 : w3.cell? ⟨w.heap.size + 1, 2, none⟩ = some (.int .i64 lit) := by rw [blk_cell HBX.out.o]; rfl
  have o3 : w3.cell? ⟨w.heap.size + 1, 3, none⟩ = some (.int .i64 N) := by rw [blk_cell HBX.out.o]; rfl
  have r0 : w3.cell? ⟨w.heap.size + 1 + 1, 0, none⟩ = some (.int .i64 0) := by rw [blk_cell HBX.out.r]; rfl
  have r1 : w3.cell? ⟨w.heap.size + 1 + 1, 1, none⟩ = some (.slice none 0 0) := by rw [blk_cell HBX.out.r]; rfl
  have r2 : w3.cell? ⟨w.heap.size + 1 + 1, 2, none⟩ = some (.slice none 0 0) := by rw [blk_cell HBX.out.r]; rfl
  have fm0 := blk_frozen HBX.out.m 0
  have fm1 := blk_frozen HBX.out.m 1
  have fm2 := blk_frozen HBX.out.m 2
  have fr0 := blk_frozen HBX.out.r 0
  have fr1 := blk_frozen HBX.out.r 1
  have fr2 := blk_frozen HBX.out.r 2
  go_wp2_with fail
  refine (fulcrumref20_Lit.calls lit n true _ HLF.out).mono ?_
  rintro e w4 ⟨rfl, ⟨nd1, rfl⟩⟩
  go_wp2_with fail
  refine (fulcrumref20_Open.calls ko Am cm marks lit true _ (by repeat (first | exact HCM3.out | refine Kd.C_drewN ?_ _)) HCLC.out.2 HKO.out).mono ?_
  rintro e w5 ⟨rfl, ⟨nd2, rfl⟩⟩
  go_wp2_with fail
  have HFP : Aside0 (∀ W, Below w3.heap.size w3 W → Kd.R k48 48 W 0 (fun k => (P k ∧ k < w.heap.size) ∨ w3.heap.size ≤ k) (.slice Am marks.length cm) marks) := ⟨fun W hW => Kd.R_mono (Kd.R_below HM3.out.rm hW) (fun k q => .inl q)⟩
  have HLE : Aside0 (∀ W, Below w3.heap.size w3 W → Calls Try.prog 52 #[.slice Am marks.length cm] W (fun e w' => e = .returned (.int .i64 (lvl marks)) ∧ Drawn0 W w')) := ⟨fun W hW => fulcrumref20_Level.calls Am cm marks (lvl marks) W (Kd.C_below HCM3.out hW) HCLC.out.2 (Level_f marks (by omega))⟩
  have hML := Aside0.mk (show marks.length ≤ 262145 by omega)
  have ka : ∀ (k : Nat) (o : Obj), ((w3.drewN k).alloc o).cell? ⟨w.heap.size, 2, none⟩ = some (.slice Am marks.length cm) := fun k o => by
    have q := below_alloc (pw_below_drewN (Below.refl w3.heap.size w3) k) o
    exact (q.cell (p := ⟨w.heap.size, 2, none⟩) (blk_lt HBX.out.m)).trans m2
  have HNA : Aside0 (∀ k, w.heap.size ≤ k → some k ≠ (Value.slice Am marks.length cm).ownBlock) := ⟨fun k q e => by have := HM3.out.rm.1 k e.symm; omega⟩
  refine wp_region_noPanic ?_
  refine region_swapN (n := 12) (fun w' => w'.cell? ⟨w.heap.size, 2, none⟩ = some (.slice Am marks.length cm) ∧ w'.cell? ⟨w.heap.size + 1, 2, none⟩ = some (.int .i64 lit)) (by kernel_rfl) rfl rfl rfl rfl (by kernel_rfl) (by kernel_rfl) ?_
  have hHeld0 : (fun w' => w'.cell? ⟨w.heap.size, 2, none⟩ = some (.slice Am marks.length cm) ∧ w'.cell? ⟨w.heap.size + 1, 2, none⟩ = some (.int .i64 lit)) (w3.drewN (nd1 + nd2)).drew := by (try dsimp only); go_keep
  simp only [List.setIfInBounds_toArray, List.set_cons_succ, List.set_cons_zero, nopOf]
  refine wpAnyH_take (i := 0) (oi := _) (v := ?_) rfl (by kernel_rfl) (by kernel_rfl) (by kernel_rfl) (fun _ _ _ h => h) (Or.inl ⟨by rfl, ?_⟩) (by assumption) ?_
  rotate_left
  · intro w hSw
    (try dsimp only at hSw)
    first | (go_simp; done) | (go_simp; with_reducible rfl)
  (try simp only [Act.put, List.setIfInBounds_toArray, List.set_cons_zero, List.set_cons_succ])
  refine wpAnyH_take (i := 1) (oi := _) (v := ?_) rfl (by kernel_rfl) (by kernel_rfl) (by kernel_rfl) (fun _ _ _ h => h) (Or.inl ⟨by rfl, ?_⟩) (by assumption) ?_
  rotate_left
  · intro w hSw
    (try dsimp only at hSw)
    first | (go_simp; done) | (go_simp; with_reducible rfl)
  (try simp only [Act.put, List.setIfInBounds_toArray, List.set_cons_zero, List.set_cons_succ])
  refine wpAnyH_take (i := 2) (oi := _) (v := ?_) rfl (by kernel_rfl) (by kernel_rfl) (by kernel_rfl) (fun _ _ _ h => h) (Or.inl ⟨by rfl, ?_⟩) (by assumption) ?_
  rotate_left
  · intro w hSw
    (try dsimp only at hSw)
    first | (go_simp; done) | (go_simp; with_reducible rfl)
  (try simp only [Act.put, List.setIfInBounds_toArray, List.set_cons_zero, List.set_cons_succ])
  refine wpAnyH_take (i := 3) (oi := _) (v := ?_) rfl (by kernel_rfl) (by kernel_rfl) (by kernel_rfl) (fun _ _ _ h => h) (Or.inl ⟨by rfl, ?_⟩) (by assumption) ?_
  rotate_left
  · intro w hSw
    (try dsimp only at hSw)
    first | (go_simp; done) | (go_simp; with_reducible rfl)
  (try simp only [Act.put, List.setIfInBounds_toArray, List.set_cons_zero, List.set_cons_succ])
  refine wpAnyH_take (i := 4) (oi := _) (v := ?_) rfl (by kernel_rfl) (by kernel_rfl) (by kernel_rfl) (fun _ _ _ h => h) (Or.inl ⟨by rfl, ?_⟩) (by assumption) ?_
  rotate_left
  · intro w hSw
    (try dsimp only at hSw)
    first | (go_simp; done) | (go_simp; with_reducible rfl)
  (try simp only [Act.put, List.setIfInBounds_toArray, List.set_cons_zero, List.set_cons_succ])
  refine wpAnyH_take (i := 5) (oi := _) (v := ?_) rfl (by kernel_rfl) (by kernel_rfl) (by kernel_rfl) (fun _ _ _ h => h) (Or.inl ⟨by rfl, ?_⟩) (by assumption) ?_
  rotate_left
  · intro w hSw
    (try dsimp only at hSw)
    first | (go_simp; done) | (go_simp; with_reducible rfl)
  (try simp only [Act.put, List.setIfInBounds_toArray, List.set_cons_zero, List.set_cons_succ])
  refine wpAnyH_ready (rs := [6]) (by kernel_rfl) (by simp) ?_
  refine AllReadyH.cons (o := _) rfl (fun K hK => ?_) AllReadyH.nil
  go_simp
  go_at_call 52
  refine (HLE.out _ (by repeat (first | exact Below.refl _ _ | apply below_drew1 | apply pw_below_drewN | apply below_alloc))).mono ?_
  rintro e w6 ⟨rfl, ⟨nl, rfl⟩⟩
  try go_wp2_with fail
  refine hK.out _ _ ?_ (fun hHeld => ?_)
  · (try dsimp only)
    go_keep
  clear hK K
  (try simp only [Act.put, List.setIfInBounds_toArray, List.set_cons_zero, List.set_cons_succ])
  refine wpAnyH_take (i := 7) (oi := _) (v := ?_) rfl (by kernel_rfl) (by kernel_rfl) (by kernel_rfl) (fun _ _ _ h => h) (Or.inl ⟨by rfl, ?_⟩) (by assumption) ?_
  rotate_left
  · intro w hSw
    (try dsimp only at hSw)
    first | (go_simp; done) | (go_simp; with_reducible rfl)
  (try simp only [Act.put, List.setIfInBounds_toArray, List.set_cons_zero, List.set_cons_succ])
  refine wpAnyH_take (i := 8) (oi := _) (v := ?_) rfl (by kernel_rfl) (by kernel_rfl) (by kernel_rfl) (fun _ _ _ h => h) (Or.inl ⟨by rfl, ?_⟩) (by assumption) ?_
  rotate_left
  · intro w hSw
    (try dsimp only at hSw)
    first | (go_simp; done) | (go_simp; with_reducible rfl)
  (try simp only [Act.put, List.setIfInBounds_toArray, List.set_cons_zero, List.set_cons_succ])
  refine wpAnyH_ready (rs := [9]) (by kernel_rfl) (by simp) ?_
  refine AllReadyH.cons (o := _) rfl (fun K hK => ?_) AllReadyH.nil
  go_simp
  refine hK.out _ _ ?_ (fun hHeld => ?_)
  · (try dsimp only)
    go_keep
  clear hK K
  (try simp only [Act.put, List.setIfInBounds_toArray, List.set_cons_zero, List.set_cons_succ])
  refine wpAnyH_ready (rs := [10]) (by kernel_rfl) (by simp) ?_
  refine AllReadyH.cons (o := _) rfl (fun K hK => ?_) AllReadyH.nil
  refine R_append_law k48 (w0 := w3) 0 rfl (.tmp 129) (.tmp 137) 38 48 (.agg #[(.int .i64 0), (.int .i64 0), (.int .i64 0)]) 24 rfl Try.underlying38 info_mark rfl (by decide) (by omega) (.slice Am marks.length cm) marks (⟨lit, lvl marks + 1, -1⟩ : S48) [.int .i64 lit, .int .i64 (lvl marks + 1), .int .i64 (-1)] (fun k => (P k ∧ k < w.heap.size) ∨ w3.heap.size ≤ k) (fun _ => False) (by simp [Act.eval, Act.put]) (by simp [Act.eval, Act.put]) ?aP (fun _ hk => hk.elim) ?aF ?aO ?aB ?aS ?aL ?_; (case aP => exact k48_mkM _ _ _ (⟨lit, lvl marks + 1, -1⟩ : S48)); (case aF => exact fun k hk => .inr hk); (case aO => exact HFP.out _ (by repeat (first | exact Below.refl _ _ | apply below_drew1 | apply pw_below_drewN | apply below_alloc))); (case aB => have hbb : Below w3.heap.size w3 _ := (by repeat (first | exact Below.refl _ _ | apply below_drew1 | apply pw_below_drewN | apply below_alloc)); exact ⟨hbb.os, hbb.tape, hbb.output, hbb.size, fun _ h => by omega⟩); (case aS => exact Nat.zero_le _); (case aL => have := hML.out; omega); intro v1 w2 ho hb hg hat; obtain ⟨A1, cc1, rfl⟩ := Kd.R_slice ho; rw [show (marks ++ [(⟨lit, lvl marks + 1, -1⟩ : S48)]).length = marks.length + 1 from by simp] at ho hat; have HBX2 := Aside0.mk ((HBX.out.below (by repeat (first | exact Below.refl _ _ | apply below_drew1 | apply pw_below_drewN | apply below_alloc))).step (w' := w2) (fun k q1 q2 hk => hg.block k hk (HNA.out k q1))); have k2 : w2.cell? ⟨w.heap.size, 2, none⟩ = some (.slice Am marks.length cm) := blk_cell HBX2.out.m 2; have kf2 := blk_frozen HBX2.out.m 2; have k3 : w2.cell? ⟨w.heap.size + 1, 2, none⟩ = some (.int .i64 lit) := blk_cell HBX2.out.o 2; have k4 : w2.cell? ⟨w.heap.size + 1, 3, none⟩ = some (.int .i64 N) := blk_cell HBX2.out.o 3; have HO2 := Aside0.mk ho; have HG2 := Aside0.mk (show w3.grownBy w2 (Value.slice Am marks.length cm).ownBlock from ⟨hg.os, hg.tape, hg.output, hg.size, hg.block⟩); have HAT := Aside0.mk (show (Value.slice A1 (marks.length + 1) cc1).ownBlock = (Value.slice Am marks.length cm).ownBlock ∨ ∃ b, (Value.slice A1 (marks.length + 1) cc1).ownBlock = some b ∧ w3.heap.size ≤ b from hat); clear ho hb hg hat
  refine hK.out _ _ ?_ (fun hHeld => ?_)
  · (try dsimp only)
    go_keep
  clear hK K
  (try simp only [Act.put, List.setIfInBounds_toArray, List.set_cons_zero, List.set_cons_succ])
  refine wpAnyH_take (i := 11) (oi := _) (v := ?_) rfl (by kernel_rfl) (by kernel_rfl) (by kernel_rfl) (fun _ _ _ h => h) (Or.inl ⟨by rfl, ?_⟩) (by assumption) ?_
  rotate_left
  · intro w hSw
    (try dsimp only at hSw)
    first | (go_simp; done) | (go_simp; with_reducible rfl)
  (try simp only [Act.put, List.setIfInBounds_toArray, List.set_cons_zero, List.set_cons_succ])
  refine wpAnyH_ready (rs := [12]) (by kernel_rfl) (by simp) ?_
  refine AllReadyH.cons (o := _) rfl (fun K hK => ?_) AllReadyH.nil
  go_simp
  refine hK.out _ _ ?_ (fun hHeld => ?_)
  · (try dsimp only)
    go_keep
  clear hK K
  (try simp only [Act.put, List.setIfInBounds_toArray, List.set_cons_zero, List.set_cons_succ])
  refine wpAnyH_done (by kernel_rfl) ?_ _
  show Oper.wp Try.prog _ _ _ _ _
  go_simp
  refine NoPanic.normal ?_
  all_goals
    obtain ⟨w4, hw4⟩ : ∃ w4, w4 = w2.setCell ⟨w.heap.size, 2, none⟩ (.slice A1 (marks.length + 1) cc1) := ⟨_, rfl⟩
    have HBX4 : Aside0 (Boxes w.heap.size w4 _ _ _) := ⟨by rw [hw4]; exact HBX2.out.setm 2 (.slice A1 (marks.length + 1) cc1)⟩
    have HS4 : Aside0 (St w4 (fun k => ((ok k ∧ k < w.heap.size) ∨ w1.heap.size ≤ k) ∧ k < w3.heap.size) _ _ _ _) := ⟨HS3.out.bound.step (w1 := w4) (fun k q hk => by
      have h2 := HS.out.sz
      rw [hw4, Below.heap_setCell w2 ⟨w.heap.size, 2, none⟩ (.slice A1 (marks.length + 1) cc1) k (fun e => by dsimp only at e; omega)]
      exact HG2.out.block k hk (fun e => by
        have h1 := HM3.out.rm.1 k e.symm
        rcases q.1 with q | q
        · exact HD.out k q.1 h1.1
        · omega))⟩
    have HM4 : Aside0 (Mod w0 w4 (fun k => (P k ∧ k < w.heap.size) ∨ w3.heap.size ≤ k) (.slice Al cs.length cl) (.slice A1 (marks.length + 1) cc1) cs _) := ⟨by rw [hw4]; exact Mod.push HM3.out HG2.out HAT.out HO2.out (fun k q => .inl q) (p := ⟨w.heap.size, 2, none⟩) (fun q => by have := HSZ.out; dsimp only at q; omega) (.slice A1 (marks.length + 1) cc1)⟩
    have HR4 : Aside0 (Rest w w4 (fun k => ok k ∨ P k)) := ⟨by rw [hw4]; exact Rest.set' (Rest.grown HR3.out HG2.out (fun k e _ => .inr (HM3.out.rm.1 k e).1)) (fun _ => trivial) (p := ⟨w.heap.size, 2, none⟩) (fun q => absurd q (Nat.lt_irrefl _)) (.slice A1 (marks.length + 1) cc1)⟩
    rw [← hw4]
    clear hw4 k2 kf2 k3 k4 ka
    clear m0 m1 m2 o0 o1 o2 o3 r0 r1 r2 fm0 fm1 fm2 fr0 fr1 fr2
    have m0 : w4.cell? ⟨w.heap.size, 0, none⟩ = some (.int .i64 n) := by rw [blk_cell HBX4.out.m]; rfl
    have m1 : w4.cell? ⟨w.heap.size, 1, none⟩ = some (.slice Al cs.length cl) := by rw [blk_cell HBX4.out.m]; rfl
    have m2 : w4.cell? ⟨w.heap.size, 2, none⟩ = some (.slice A1 (marks.length + 1) cc1) := by rw [blk_cell HBX4.out.m]; rfl
    have o0 : w4.cell? ⟨w.heap.size + 1, 0, none⟩ = some (.int .i64 2) := by rw [blk_cell HBX4.out.o]; rfl
    have o1 : w4.cell? ⟨w.heap.size + 1, 1, none⟩ = some (.slice Ac c.length cc) := by rw [blk_cell HBX4.out.o]; rfl
    have o2 : w4.cell? ⟨w.heap.size + 1, 2, none⟩ = some (.int .i64 lit) := by rw [blk_cell HBX4.out.o]; rfl
    have o3 : w4.cell? ⟨w.heap.size + 1, 3, none⟩ = some (.int .i64 N) := by rw [blk_cell HBX4.out.o]; rfl
    have r0 : w4.cell? ⟨w.heap.size + 1 + 1, 0, none⟩ = some (.int .i64 0) := by rw [blk_cell HBX4.out.r]; rfl
    have r1 : w4.cell? ⟨w.heap.size + 1 + 1, 1, none⟩ = some (.slice none 0 0) := by rw [blk_cell HBX4.out.r]; rfl
    have r2 : w4.cell? ⟨w.heap.size + 1 + 1, 2, none⟩ = some (.slice none 0 0) := by rw [blk_cell HBX4.out.r]; rfl
    have fm0 := blk_frozen HBX4.out.m 0
    have fm1 := blk_frozen HBX4.out.m 1
    have fm2 := blk_frozen HBX4.out.m 2
    have fr0 := blk_frozen HBX4.out.r 0
    have fr1 := blk_frozen HBX4.out.r 1
    have fr2 := blk_frozen HBX4.out.r 2
    go_wp2
    obtain ⟨W, hW⟩ : ∃ W, W = (((w4.setCell ⟨w.heap.size + 2, 0, none⟩ (.int .i64 n)).setCell ⟨w.heap.size + 2, 1, none⟩ (.slice Al cs.length cl)).setCell ⟨w.heap.size + 2, 2, none⟩ (.slice A1 (marks.length + 1) cc1)) := ⟨_, rfl⟩
    have hbW := ((HBX4.out.setr 0 (.int .i64 n)).setr 1 (.slice Al cs.length cl)).setr 2 (.slice A1 (marks.length + 1) cc1)
    rw [← hW] at hbW
    have hRW : Rest w4 W (fun k => k = w.heap.size ∨ k = w.heap.size + 2) := by rw [hW]; exact Rest.set (p := ⟨w.heap.size + 2, 2, none⟩) (Rest.set (p := ⟨w.heap.size + 2, 1, none⟩) (Rest.set (p := ⟨w.heap.size + 2, 0, none⟩) (Rest.refl _ _) (.inr rfl) _) (.inr rfl) _) (.inr rfl) _
    have HEND := Aside0.mk (play_end (w0 := w0) (cc := cc) HS.out.sz (HI.out.dec HLB.out HVL.out) (Nat.le_succ _) HS4.out HM4.out (fun k q1 q2 => by have := HSZ.out; rcases q2 with q2 | q2; rcases q1.1 with q1 | q1; exact HD.out k q1.1 q2.1; omega; omega) (fun k q => q.1) (fun k q => q.imp id (fun q => Nat.le_trans HSZ.out.2 q)) HR4.out hRW)
    clear m0 m1 m2 o0 o1 o2 o3 r0 r1 r2 fm0 fm1 fm2 fr0 fr1 fr2
    have s0 : W.cell? ⟨w.heap.size + 1 + 1, 0, none⟩ = some (.int .i64 n) := by rw [show (⟨w.heap.size + 1 + 1, 0, none⟩ : Addr) = ⟨w.heap.size + 2, 0, none⟩ from rfl, blk_cell hbW.r]; rfl
    have s1 : W.cell? ⟨w.heap.size + 1 + 1, 1, none⟩ = some (.slice Al cs.length cl) := by rw [show (⟨w.heap.size + 1 + 1, 1, none⟩ : Addr) = ⟨w.heap.size + 2, 1, none⟩ from rfl, blk_cell hbW.r]; rfl
    have s2 : W.cell? ⟨w.heap.size + 1 + 1, 2, none⟩ = some (.slice A1 (marks.length + 1) cc1) := by rw [show (⟨w.heap.size + 1 + 1, 2, none⟩ : Addr) = ⟨w.heap.size + 2, 2, none⟩ from rfl, blk_cell hbW.r]; rfl
    rw [show (⟨w.heap.size + 2, 0, none⟩ : Addr) = ⟨w.heap.size + 1 + 1, 0, none⟩ from rfl, show (⟨w.heap.size + 2, 1, none⟩ : Addr) = ⟨w.heap.size + 1 + 1, 1, none⟩ from rfl, show (⟨w.heap.size + 2, 2, none⟩ : Addr) = ⟨w.heap.size + 1 + 1, 2, none⟩ from rfl] at hW
    rw [← hW]
    clear hW hRW hbW
    refine bodyPost_ret (v := .tuple #[.agg #[.int .i64 n, .slice Al cs.length cl, .slice A1 (marks.length + 1) cc1], .bool true]) ?_ rfl ⟨_, _, _, rfl, HEND.out⟩
    simp [results, Try.results30, go_sem, s0, s1, s2]

end Go.Proofs.Ytegaaobiedfjcaa.PU
