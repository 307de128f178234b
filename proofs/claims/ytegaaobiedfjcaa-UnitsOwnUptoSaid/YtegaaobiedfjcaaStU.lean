import Derived.Test.YtegaaobiedfjcaaStP
import Derived.Deep.RegionHeld3
import Derived.Deep.RegionWith
import Derived.BigQuiet
import Derived.Deep.QuietTactic
import Derived.Test.YtegaaobiedfjcaaHStep
namespace Go.Proofs.Ytegaaobiedfjcaa.PU
open Go.RowKit Go.Proofs.YtegaaobiedfjcaaW.PrintWords Go.Proofs.YtegaaobiedfjcaaW.PrintLast Go.Proofs.YtegaaobiedfjcaaW.PrintMore Go.Proofs.YtegaaobiedfjcaaH
set_option linter.unusedVariables false
set_option linter.unusedSimpArgs false
set_option maxHeartbeats 16000000 in
set_option maxRecDepth 100000 in
theorem play_Add_ok (w0 : World) (ok P : Nat → Prop) (g : Nat) (vals : List Int) (cls : List (List Int × Int × Int)) (marks : List S48) (Al : Option Addr) (cl : Nat) (cs : List (List Int)) (Am : Option Addr) (cm : Nat) (n : Int) (Ac : Option Addr) (cc : Nat) (c : List Int) (lit N : Int) (w : World) (ho0 : ∀ k, ok k → w0.heap.size ≤ k) (hb : litsOk vals c = true) (hrc0 : ∀ W : World, Rest w W (fun k => ok k ∨ P k) → Kd.C (Kd.int .i64) W Ac c.length c) (h : St w ok g vals cls marks) (hi : SInv n vals cls marks cs) (hM : Mod w0 w P (.slice Al cs.length cl) (.slice Am marks.length cm) cs marks) (hd : ∀ k, ok k → ¬ P k) (hb0 : Below w0.heap.size w0 w) (hrc : Kd.C (Kd.int .i64) w Ac c.length c) (hcc : c.length ≤ cc) (hcl : c.length ≤ 4194304) (hcsl : cs.length < 1048576) :
    Calls Try.prog 30 #[.pointer (some ⟨g, 0, none⟩), .agg #[.int .i64 n, .slice Al cs.length cl, .slice Am marks.length cm], .agg #[.int .i64 0, .slice Ac c.length cc, .int .i64 lit, .int .i64 N]] w fun e w' => ∃ n' vl' vm', e = .returned (.tuple #[.agg #[.int .i64 n', vl', vm'], .bool true]) ∧ PlayPost w0 w w' ok P g n' vl' vm' cs.length cc := by
  have H := Aside0.mk h
  have HI := Aside0.mk hi
  have HM := Aside0.mk hM
  have HD := Aside0.mk hd
  have HB0 := Aside0.mk hb0
  have HRC := Aside0.mk (And.intro hcc hrc)
  have hcll := hcl
  have hcsll := hcsl
  obtain ⟨hl1, hl2, hl3, hl4⟩ := hi.len
  have hn0 := hi.n0
  have HL1 := Aside0.mk hl1
  have HO0 := Aside0.mk ho0
  clear ho0
  obtain ⟨kc, hkc⟩ := Clause_all hi c hcl
  rw [hb] at hkc
  have HKC := Aside0.mk hkc
  have HBF := Aside0.mk hb
  have HRC0 := Aside0.mk hrc0
  have hcc2 : cls.length = cs.length := by rw [← hi.ecs, List.length_map]
  have HCC2 := Aside0.mk hcc2
  have HLC := Aside0.mk hcl
  have HCSL := Aside0.mk hcsl
  have dn : decide ((1048576 : Int) ≤ (cs.length : Int)) = false := decide_eq_false (by omega)
  have hwr : IntKind.i64.wrap ((cs.length : Int) + 1 - 1) = (cs.length : Int) := by rw [IntWalk.i64_in _ (by omega)]; omega
  have hwr2 : IntKind.i64.wrap (((cs.length + 1 : Nat) : Int) - 1) = (cs.length : Int) := by rw [IntWalk.i64_in _ (by omega)]; omega
  have dq : ((cs.length : Int) == (cs.length : Int)) = true := beq_self_eq_true _
  clear hkc hb hrc0 hcc2
  clear h hi hM hd hb0 hrc hcc hl1
  go_enter Try.func30, Try.ntmps30
  go_wp2_with fail
  obtain ⟨w1, hw1⟩ : ∃ w1, w1 = (((w.alloc (.cells #[.int .i64 n, .slice Al cs.length cl, .slice Am marks.length cm] 65)).alloc (.cells #[.int .i64 0, .slice Ac c.length cc, .int .i64 lit, .int .i64 N] 52)).alloc (.cells #[.int .i64 0, .slice none 0 0, .slice none 0 0] 65)) := ⟨_, rfl⟩
  have HS : Aside0 (PStart w0 w w1 ok P #[.int .i64 n, .slice Al cs.length cl, .slice Am marks.length cm] #[.int .i64 0, .slice Ac c.length cc, .int .i64 lit, .int .i64 N] #[.int .i64 0, .slice none 0 0, .slice none 0 0]) := ⟨by rw [hw1]; exact pstart w0 w ok P _ _ _⟩
  rw [← hw1]
  clear hw1
  have H1 : Aside0 (St w1 (fun k => ok k ∧ k < w.heap.size) g vals cls marks) := ⟨H.out.bound.below HS.out.bel⟩
  have hcon := st_Add _ g vals cls marks Ac cc c w1 (Kd.C_below HRC.out.2 HS.out.bel) H1.out HI.out.fit.v HBF.out (by have := HCC2.out; omega) hcl
  rw [HCC2.out] at hcon
  refine hcon.mono ?_
  clear hcon
  rintro e w3 ⟨rfl, hS3, hr3⟩
  have HS3 := Aside0.mk hS3
  have HR13 := Aside0.mk hr3
  have hsz3 := hr3.size
  have hbx := HS.out.box.step (fun k q1 q2 hk => hr3.block k hk (fun q => by omega))
  have HBX := Aside0.mk hbx
  have HM3 : Aside0 (Mod w0 w3 (fun k => P k ∧ k < w.heap.size) (.slice Al cs.length cl) (.slice Am marks.length cm) cs marks) := ⟨(HM.out.bound.below HS.out.bel).step (fun k q hk => hr3.block k hk (fun z => HD.out k z.1 q.1))⟩
  have HR3 : Aside0 (Rest w w3 (fun k => ok k ∨ P k)) := ⟨(Rest.of_below HS.out.bel _).trans hr3 (fun k hk q => .inl q.1)⟩
  have HB03 := Aside0.mk (hr3.below (below_step HB0.out HS.out.bel) (fun k q => HO0.out k q.1))
  have HCL3 := Aside0.mk (C_kC HB03.out (Kd.R_reads' HM3.out.rl).2.2)
  have HCM3 := Aside0.mk (Kd.R_reads' HM3.out.rm).2.2
  have HCLC := Aside0.mk (And.intro (Kd.R_reads' HM3.out.rl).2.1 (Kd.R_reads' HM3.out.rm).2.1)
  have HSZ := Aside0.mk (And.intro HS.out.sz hsz3)
  clear hS3 hr3 hsz3 hbx
  have m0 : w3.cell? ⟨w.heap.size, 0, none⟩ = some (.int .i64 n) := by rw [blk_cell HBX.out.m]; rfl
  have m1 : w3.cell? ⟨w.heap.size, 1, none⟩ = some (.slice Al cs.length cl) := by rw [blk_cell HBX.out.m]; rfl
  have m2 : w3.cell? ⟨w.heap.size, 2, none⟩ = some (.slice Am marks.length cm) := by rw [blk_cell HBX.out.m]; rfl
  have o0 : w3.cell? ⟨w.heap.size + 1, 0, none⟩ = some (.int .i64 0) := by rw [blk_cell HBX.out.o]; rfl
  have o1 : w3.cell? ⟨w.heap.size + 1, 1, none⟩ = some (.slice Ac c.length cc) := by rw [blk_cell HBX.out.o]; rfl
  have o2 : w3.cell? ⟨w.heap.size + 1, 2, none⟩ = some (.int .i64 lit) := by rw [blk_cell HBX.out.o]; rfl
  have o3 : w3.cell? ⟨w.heap.size + 1, 3, none⟩ = some (.int .i64 N) := by rw [blk_cell HBX.out.o]; rfl
  have r0 : w3.cell? ⟨w.heap.size + 1 + 1, 0, none⟩ = some (.int .i64 0) := by rw [blk_cell HBX.out.r]; rfl
  have r1 : w3.cell? ⟨w.heap.size + 1 + 1, 1, none⟩ = some (.slice none 0 0) := by rw [blk_cell HBX.out.r]; rfl
  have r2 : w3.cell? ⟨w.heap.size + 1 + 1, 2, none⟩ = some (.slice none 0 0) := by rw [blk_cell HBX.out.r]; rfl
  have fm0 := blk_frozen HBX.out.m 0
  have fm1 := blk_frozen HBX.out.m 1
  have fm2 := blk_frozen HBX.out.m 2
  have fr0 := blk_frozen HBX.out.r 0
  have fr1 := blk_frozen HBX.out.r 1
  have fr2 := blk_frozen HBX.out.r 2
  have HC3 := Aside0.mk (HRC0.out w3 HR3.out)
  have HNL : Aside0 (∀ k, w3.heap.size ≤ k → some k ≠ (Value.slice Al cs.length cl).ownBlock) := ⟨fun k q e => by have h1 := HM3.out.rl.1 k e.symm; have h2 := HSZ.out; omega⟩
  have HNL2 : Aside0 (∀ k, w.heap.size ≤ k → some k ≠ (Value.slice Al cs.length cl).ownBlock) := ⟨fun k q e => by have h1 := HM3.out.rl.1 k e.symm; omega⟩
  go_wp2_with fail
  refine (fulcrumref20_Clause.calls kc Ac cc c n true _ HC3.out HRC.out.1 HKC.out).mono ?_
  rintro e w4 ⟨rfl, ⟨nd, rfl⟩⟩
  go_wp2_with (first | (at_builtin; refine Kd.R_append_rows (Kd.int .i64) (Rr := (Kd.int .i64).K w3) (w0 := w3) 0 rfl (.tmp 53) (.tmp 55) 34 3 (.int .i64 0) 8 rfl Try.underlying34 info_int rfl Nat.one_pos (by omega) (.slice none 0 0) ([] : List Int) c Ac c.length cc (fun k => w3.heap.size ≤ k) (fun _ => False) rfl rfl (Kd.R_nil _ _ _ _ _) ?aR (fun _ _ h => h) (fun _ h => h.elim) ?aF ?aB (Nat.zero_le _) ?aL ?_; (case aR => exact Kd.C_drewN HC3.out nd); (case aF => exact fun k hk => hk); (case aB => exact ⟨rfl, rfl, rfl, Nat.le_refl _, fun _ h => by omega⟩); (case aL => have := HLC.out; simp only [List.length_nil]; omega); intro v1 w5 ho hb hg hat; obtain ⟨A1, cc1, rfl⟩ := Kd.R_slice ho; rw [List.nil_append] at ho; have hb5 : Below w3.heap.size w3 w5 := ⟨hg.os, hg.tape, hg.output, hg.size, fun k hk => hg.block k hk (fun e => by cases e)⟩; have HB5 := Aside0.mk hb5; have HO5 := Aside0.mk ho; have HBX5 := Aside0.mk (HBX.out.below hb5); have p1 : w5.cell? ⟨w.heap.size, 1, none⟩ = some (.slice Al cs.length cl) := blk_cell HBX5.out.m 1; clear ho hb hg hat hb5) | (at_builtin; refine Kd.R_append (kC w0) (w0 := w3) 0 rfl (.tmp 58) (.tmp 60) 31 34 (.slice none 0 0) 24 rfl Try.underlying31 info_clause rfl Nat.one_pos (by omega) (.slice Al cs.length cl) cs c [.slice A1 c.length cc1] (fun k => ((P k ∧ k < w.heap.size) ∧ some k ≠ (Value.slice Am marks.length cm).ownBlock) ∨ w3.heap.size ≤ k) (fun k => w3.heap.size ≤ k) rfl rfl ?aP ?aK ?aF ?aO ?aB (Nat.zero_le _) ?aL ?_; (case aP => exact Kd.mix_made HO5.out); (case aK => exact fun k hk => ⟨.inr hk, HNL.out k hk⟩); (case aF => exact fun k hk => .inr (Nat.le_trans HB5.out.size hk)); (case aO => exact Kd.R_mono (Kd.R_below HM3.out.rl HB5.out) (fun k q => .inl q)); (case aB => exact ⟨HB5.out.os, HB5.out.tape, HB5.out.output, HB5.out.size, fun _ h => by omega⟩); (case aL => have := HCSL.out; omega); intro v2 w6 ho hb hg hat; obtain ⟨A2, cc2, rfl⟩ := Kd.R_slice ho; rw [show (cs ++ [c]).length = cs.length + 1 from by simp] at ho; have HO6 := Aside0.mk ho; have HG6 := Aside0.mk hg; have hbx6 := HBX5.out.step (w' := w6) (fun k q1 q2 hk => hg.block k hk (HNL2.out k q1)); have HBX6 := Aside0.mk hbx6; have q0 : w6.cell? ⟨w.heap.size, 0, none⟩ = some (.int .i64 n) := blk_cell hbx6.m 0; have q1 : w6.cell? ⟨w.heap.size, 1, none⟩ = some (.slice Al cs.length cl) := blk_cell hbx6.m 1; have q2 : w6.cell? ⟨w.heap.size, 2, none⟩ = some (.slice Am marks.length cm) := blk_cell hbx6.m 2; have q3 := blk_frozen hbx6.m 1; have q4 : w6.cell? ⟨w.heap.size + 1 + 1, 0, none⟩ = some (.int .i64 0) := blk_cell hbx6.r 0; have q5 : w6.cell? ⟨w.heap.size + 1 + 1, 1, none⟩ = some (.slice none 0 0) := blk_cell hbx6.r 1; have q6 : w6.cell? ⟨w.heap.size + 1 + 1, 2, none⟩ = some (.slice none 0 0) := blk_cell hbx6.r 2; have q7 := blk_frozen hbx6.r 0; have q8 := blk_frozen hbx6.r 1; have q9 := blk_frozen hbx6.r 2; clear ho hb hg hat hbx6))
  have HNB : Aside0 (∀ k, (ok k ∧ k < w.heap.size) ∨ w1.heap.size ≤ k → k < w3.heap.size → some k ≠ (Value.slice Al cs.length cl).ownBlock) := ⟨fun k q _ e => by
    have h1 := HM3.out.rl.1 k e.symm
    have h2 := HS.out.sz
    rcases q with q | q
    · exact HD.out k q.1 h1.1.1
    · omega⟩
  have HS4 : Aside0 (St (w6.setCell ⟨w.heap.size, 1, none⟩ (.slice A2 (cs.length + 1) cc2)) (fun k => ((ok k ∧ k < w.heap.size) ∨ w1.heap.size ≤ k) ∧ k < w3.heap.size) _ _ _ _) := ⟨HS3.out.bound.step (w1 := (w6.setCell ⟨w.heap.size, 1, none⟩ (.slice A2 (cs.length + 1) cc2))) (fun k q hk => by
      have h2 := HS.out.sz
      rw [Below.heap_setCell w6 ⟨w.heap.size, 1, none⟩ (.slice A2 (cs.length + 1) cc2) k (fun e => by dsimp only at e; omega), HG6.out.block k (Nat.lt_of_lt_of_le hk HB5.out.size) (HNB.out k q.1 hk)]
      exact HB5.out.block k hk)⟩
  have HM4 : Aside0 (Mod w0 (w6.setCell ⟨w.heap.size, 1, none⟩ (.slice A2 (cs.length + 1) cc2)) (fun k => (P k ∧ k < w.heap.size) ∨ w3.heap.size ≤ k) (.slice A2 (cs.length + 1) cc2) (.slice Am marks.length cm) (cs ++ [c]) marks) := ⟨Mod.pushL HM3.out HB5.out HG6.out (Kd.R_mono HO6.out (fun k q => by
      rcases q with q | q
      · exact ⟨.inl q.1, q.2⟩
      · exact ⟨.inr q, fun e => by have h1 := HM3.out.rm.1 k e.symm; have h2 := HSZ.out; omega⟩)) (fun k q => .inl q) (p := ⟨w.heap.size, 1, none⟩) (fun q => by have := HSZ.out; dsimp only at q; omega) _⟩
  have HR4 : Aside0 (Rest w (w6.setCell ⟨w.heap.size, 1, none⟩ (.slice A2 (cs.length + 1) cc2)) (fun k => ok k ∨ P k)) := ⟨Rest.set' (Rest.grown (HR3.out.trans (Rest.of_below HB5.out (fun _ => False)) (fun _ _ q => q.elim)) HG6.out (fun k e _ => .inr (HM3.out.rl.1 k e).1.1)) (fun _ => trivial) (p := ⟨w.heap.size, 1, none⟩) (fun q => absurd q (Nat.lt_irrefl _)) _⟩
  obtain ⟨W, hW⟩ : ∃ W, W = ((((w6.setCell ⟨w.heap.size, 1, none⟩ (.slice A2 (cs.length + 1) cc2)).setCell ⟨w.heap.size + 2, 0, none⟩ (.int .i64 n)).setCell ⟨w.heap.size + 2, 1, none⟩ (.slice A2 (cs.length + 1) cc2)).setCell ⟨w.heap.size + 2, 2, none⟩ (.slice Am marks.length cm)) := ⟨_, rfl⟩
  have hbW := (((HBX6.out.setm 1 (.slice A2 (cs.length + 1) cc2)).setr 0 (.int .i64 n)).setr 1 (.slice A2 (cs.length + 1) cc2)).setr 2 (.slice Am marks.length cm)
  rw [← hW] at hbW
  have hRW : Rest (w6.setCell ⟨w.heap.size, 1, none⟩ (.slice A2 (cs.length + 1) cc2)) W (fun k => k = w.heap.size ∨ k = w.heap.size + 2) := by rw [hW]; exact Rest.set (p := ⟨w.heap.size + 2, 2, none⟩) (Rest.set (p := ⟨w.heap.size + 2, 1, none⟩) (Rest.set (p := ⟨w.heap.size + 2, 0, none⟩) (Rest.refl _ _) (.inr rfl) _) (.inr rfl) _) (.inr rfl) _
  have HEND := Aside0.mk (play_end (w0 := w0) (cc := cc) HS.out.sz (HI.out.add HBF.out hcl hcsl) (show (cs ++ [c]).length ≤ cs.length + 1 by simp) HS4.out HM4.out (fun k q1 q2 => by have := HSZ.out; rcases q2 with q2 | q2; rcases q1.1 with q1 | q1; exact HD.out k q1.1 q2.1; omega; omega) (fun k q => q.1) (fun k q => q.imp id (fun q => Nat.le_trans HSZ.out.2 q)) HR4.out hRW)
  clear m0 m1 m2 o0 o1 o2 o3 r0 r1 r2 fm0 fm1 fm2 fr0 fr1 fr2 q0 q1 q2 q3 q4 q5 q6 q7 q8 q9 p1
  have s0 : W.cell? ⟨w.heap.size + 1 + 1, 0, none⟩ = some (.int .i64 n) := by rw [show (⟨w.heap.size + 1 + 1, 0, none⟩ : Addr) = ⟨w.heap.size + 2, 0, none⟩ from rfl, blk_cell hbW.r]; rfl
  have s1 : W.cell? ⟨w.heap.size + 1 + 1, 1, none⟩ = some (.slice A2 (cs.length + 1) cc2) := by rw [show (⟨w.heap.size + 1 + 1, 1, none⟩ : Addr) = ⟨w.heap.size + 2, 1, none⟩ from rfl, blk_cell hbW.r]; rfl
  have s2 : W.cell? ⟨w.heap.size + 1 + 1, 2, none⟩ = some (.slice Am marks.length cm) := by rw [show (⟨w.heap.size + 1 + 1, 2, none⟩ : Addr) = ⟨w.heap.size + 2, 2, none⟩ from rfl, blk_cell hbW.r]; rfl
  rw [show (⟨w.heap.size + 2, 0, none⟩ : Addr) = ⟨w.heap.size + 1 + 1, 0, none⟩ from rfl, show (⟨w.heap.size + 2, 1, none⟩ : Addr) = ⟨w.heap.size + 1 + 1, 1, none⟩ from rfl, show (⟨w.heap.size + 2, 2, none⟩ : Addr) = ⟨w.heap.size + 1 + 1, 2, none⟩ from rfl] at hW
  rw [← hW]
  clear hW hRW hbW
  refine bodyPost_ret (v := .tuple #[.agg #[.int .i64 n, .slice A2 (cs.length + 1) cc2, .slice Am marks.length cm], .bool true]) ?_ rfl ⟨_, _, _, rfl, HEND.out⟩
  simp [results, Try.results30, go_sem, s0, s1, s2]

set_option maxHeartbeats 16000000 in
set_option maxRecDepth 100000 in
theorem play_Grow_ok (w0 : World) (ok P : Nat → Prop) (g : Nat) (vals : List Int) (cls : List (List Int × Int × Int)) (marks : List S48) (Al : Option Addr) (cl : Nat) (cs : List (List Int)) (Am : Option Addr) (cm : Nat) (n : Int) (Ac : Option Addr) (cc : Nat) (c : List Int) (lit N : Int) (w : World) (ho0 : ∀ k, ok k → w0.heap.size ≤ k) (hb : n < 262144) (h : St w ok g vals cls marks) (hi : SInv n vals cls marks cs) (hM : Mod w0 w P (.slice Al cs.length cl) (.slice Am marks.length cm) cs marks) (hd : ∀ k, ok k → ¬ P k) (hb0 : Below w0.heap.size w0 w) (hrc : Kd.C (Kd.int .i64) w Ac c.length c) (hcc : c.length ≤ cc) (hcl : c.length ≤ 4194304) (hcsl : cs.length < 1048576) :
    Calls Try.prog 30 #[.pointer (some ⟨g, 0, none⟩), .agg #[.int .i64 n, .slice Al cs.length cl, .slice Am marks.length cm], .agg #[.int .i64 1, .slice Ac c.length cc, .int .i64 lit, .int .i64 N]] w fun e w' => ∃ n' vl' vm', e = .returned (.tuple #[.agg #[.int .i64 n', vl', vm'], .bool true]) ∧ PlayPost w0 w w' ok P g n' vl' vm' cs.length cc := by
  have H := Aside0.mk h
  have HI := Aside0.mk hi
  have HM := Aside0.mk hM
  have HD := Aside0.mk hd
  have HB0 := Aside0.mk hb0
  have HRC := Aside0.mk (And.intro hcc hrc)
  have hcll := hcl
  have hcsll := hcsl
  obtain ⟨hl1, hl2, hl3, hl4⟩ := hi.len
  have hn0 := hi.n0
  have HL1 := Aside0.mk hl1
  have HO0 := Aside0.mk ho0
  clear ho0
  have HN := Aside0.mk hb
  have dn : decide (262144 ≤ n) = false := decide_eq_false (by omega)
  have dq : (n + 1 == n + 1) = true := beq_self_eq_true _
  have hwr : wrap64 (n + 1) = n + 1 := by unfold wrap64; omega
  clear hb
  clear h hi hM hd hb0 hrc hcc hl1
  go_enter Try.func30, Try.ntmps30
  go_wp2_with fail
  obtain ⟨w1, hw1⟩ : ∃ w1, w1 = (((w.alloc (.cells #[.int .i64 n, .slice Al cs.length cl, .slice Am marks.length cm] 65)).alloc (.cells #[.int .i64 1, .slice Ac c.length cc, .int .i64 lit, .int .i64 N] 52)).alloc (.cells #[.int .i64 0, .slice none 0 0, .slice none 0 0] 65)) := ⟨_, rfl⟩
  have HS : Aside0 (PStart w0 w w1 ok P #[.int .i64 n, .slice Al cs.length cl, .slice Am marks.length cm] #[.int .i64 1, .slice Ac c.length cc, .int .i64 lit, .int .i64 N] #[.int .i64 0, .slice none 0 0, .slice none 0 0]) := ⟨by rw [hw1]; exact pstart w0 w ok P _ _ _⟩
  rw [← hw1]
  clear hw1
  have H1 : Aside0 (St w1 (fun k => ok k ∧ k < w.heap.size) g vals cls marks) := ⟨H.out.bound.below HS.out.bel⟩
  have hcon := st_Grow _ g vals cls marks w1 H1.out (by have := HL1.out; have := HN.out; omega) HI.out.fit.v.pos
  rw [HL1.out] at hcon
  refine hcon.mono ?_
  clear hcon
  rintro e w3 ⟨rfl, hS3, hr3⟩
  have HS3 := Aside0.mk hS3
  have HR13 := Aside0.mk hr3
  have hsz3 := hr3.size
  have hbx := HS.out.box.step (fun k q1 q2 hk => hr3.block k hk (fun q => by omega))
  have HBX := Aside0.mk hbx
  have HM3 : Aside0 (Mod w0 w3 (fun k => P k ∧ k < w.heap.size) (.slice Al cs.length cl) (.slice Am marks.length cm) cs marks) := ⟨(HM.out.bound.below HS.out.bel).step (fun k q hk => hr3.block k hk (fun z => HD.out k z.1 q.1))⟩
  have HR3 : Aside0 (Rest w w3 (fun k => ok k ∨ P k)) := ⟨(Rest.of_below HS.out.bel _).trans hr3 (fun k hk q => .inl q.1)⟩
  have HB03 := Aside0.mk (hr3.below (below_step HB0.out HS.out.bel) (fun k q => HO0.out k q.1))
  have HCL3 := Aside0.mk (C_kC HB03.out (Kd.R_reads' HM3.out.rl).2.2)
  have HCM3 := Aside0.mk (Kd.R_reads' HM3.out.rm).2.2
  have HCLC := Aside0.mk (And.intro (Kd.R_reads' HM3.out.rl).2.1 (Kd.R_reads' HM3.out.rm).2.1)
  have HSZ := Aside0.mk (And.intro HS.out.sz hsz3)
  clear hS3 hr3 hsz3 hbx
  have m0 : w3.cell? ⟨w.heap.size, 0, none⟩ = some (.int .i64 n) := by rw [blk_cell HBX.out.m]; rfl
  have m1 : w3.cell? ⟨w.heap.size, 1, none⟩ = some (.slice Al cs.length cl) := by rw [blk_cell HBX.out.m]; rfl
  have m2 : w3.cell? ⟨w.heap.size, 2, none⟩ = some (.slice Am marks.length cm) := by rw [blk_cell HBX.out.m]; rfl
  have o0 : w3.cell? ⟨w.heap.size + 1, 0, none⟩ = some (.int .i64 1) := by rw [blk_cell HBX.out.o]; rfl
  have o1 : w3.cell? ⟨w.heap.size + 1, 1, none⟩ = some (.slice Ac c.length cc) := by rw [blk_cell HBX.out.o]; rfl
  have o2 : w3.cell? ⟨w.heap.size + 1, 2, none⟩ = some (.int .i64 lit) := by rw [blk_cell HBX.out.o]; rfl
  have o3 : w3.cell? ⟨w.heap.size + 1, 3, none⟩ = some (.int .i64 N) := by rw [blk_cell HBX.out.o]; rfl
  have r0 : w3.cell? ⟨w.heap.size + 1 + 1, 0, none⟩ = some (.int .i64 0) := by rw [blk_cell HBX.out.r]; rfl
  have r1 : w3.cell? ⟨w.heap.size + 1 + 1, 1, none⟩ = some (.slice none 0 0) := by rw [blk_cell HBX.out.r]; rfl
  have r2 : w3.cell? ⟨w.heap.size + 1 + 1, 2, none⟩ = some (.slice none 0 0) := by rw [blk_cell HBX.out.r]; rfl
  have fm0 := blk_frozen HBX.out.m 0
  have fm1 := blk_frozen HBX.out.m 1
  have fm2 := blk_frozen HBX.out.m 2
  have fr0 := blk_frozen HBX.out.r 0
  have fr1 := blk_frozen HBX.out.r 1
  have fr2 := blk_frozen HBX.out.r 2
  go_wp2
  obtain ⟨W, hW⟩ : ∃ W, W = ((((w3.setCell ⟨w.heap.size, 0, none⟩ (.int .i64 (n + 1))).setCell ⟨w.heap.size + 2, 0, none⟩ (.int .i64 (n + 1))).setCell ⟨w.heap.size + 2, 1, none⟩ (.slice Al cs.length cl)).setCell ⟨w.heap.size + 2, 2, none⟩ (.slice Am marks.length cm)) := ⟨_, rfl⟩
  have hbW := (((HBX.out.setm 0 (.int .i64 (n + 1))).setr 0 (.int .i64 (n + 1))).setr 1 (.slice Al cs.length cl)).setr 2 (.slice Am marks.length cm)
  rw [← hW] at hbW
  have hRW : Rest w3 W (fun k => k = w.heap.size ∨ k = w.heap.size + 2) := by rw [hW]; exact Rest.set (p := ⟨w.heap.size + 2, 2, none⟩) (Rest.set (p := ⟨w.heap.size + 2, 1, none⟩) (Rest.set (p := ⟨w.heap.size + 2, 0, none⟩) (Rest.set (p := ⟨w.heap.size, 0, none⟩) (Rest.refl _ _) (.inl rfl) _) (.inr rfl) _) (.inr rfl) _) (.inr rfl) _
  have HEND := Aside0.mk (play_end (w0 := w0) (cc := cc) HS.out.sz (HI.out.grow HN.out) (Nat.le_succ _) HS3.out HM3.out (fun k q1 q2 => by have := HS.out.sz; rcases q1 with q1 | q1; exact HD.out k q1.1 q2.1; omega) (fun k q => q) (fun k q => .inl q) HR3.out hRW)
  clear m0 m1 m2 o0 o1 o2 o3 r0 r1 r2 fm0 fm1 fm2 fr0 fr1 fr2
  have s0 : W.cell? ⟨w.heap.size + 1 + 1, 0, none⟩ = some (.int .i64 (n + 1)) := by rw [show (⟨w.heap.size + 1 + 1, 0, none⟩ : Addr) = ⟨w.heap.size + 2, 0, none⟩ from rfl, blk_cell hbW.r]; rfl
  have s1 : W.cell? ⟨w.heap.size + 1 + 1, 1, none⟩ = some (.slice Al cs.length cl) := by rw [show (⟨w.heap.size + 1 + 1, 1, none⟩ : Addr) = ⟨w.heap.size + 2, 1, none⟩ from rfl, blk_cell hbW.r]; rfl
  have s2 : W.cell? ⟨w.heap.size + 1 + 1, 2, none⟩ = some (.slice Am marks.length cm) := by rw [show (⟨w.heap.size + 1 + 1, 2, none⟩ : Addr) = ⟨w.heap.size + 2, 2, none⟩ from rfl, blk_cell hbW.r]; rfl
  rw [show (⟨w.heap.size + 2, 0, none⟩ : Addr) = ⟨w.heap.size + 1 + 1, 0, none⟩ from rfl, show (⟨w.heap.size + 2, 1, none⟩ : Addr) = ⟨w.heap.size + 1 + 1, 1, none⟩ from rfl, show (⟨w.heap.size + 2, 2, none⟩ : Addr) = ⟨w.heap.size + 1 + 1, 2, none⟩ from rfl] at hW
  rw [← hW]
  clear hW hRW hbW
  refine bodyPost_ret (v := .tuple #[.agg #[.int .i64 (n + 1), .slice Al cs.length cl, .slice Am marks.length cm], .bool true]) ?_ rfl ⟨_, _, _, rfl, HEND.out⟩
  simp [results, Try.results30, go_sem, s0, s1, s2]

set_option maxHeartbeats 16000000 in
set_option maxRecDepth 100000 in
theorem play_Back_ok (w0 : World) (ok P : Nat → Prop) (g : Nat) (vals : List Int) (cls : List (List Int × Int × Int)) (marks : List S48) (Al : Option Addr) (cl : Nat) (cs : List (List Int)) (Am : Option Addr) (cm : Nat) (n : Int) (Ac : Option Addr) (cc : Nat) (c : List Int) (lit N : Int) (w : World) (ho0 : ∀ k, ok k → w0.heap.size ≤ k) (hN : 0 ≤ N) (hN2 : N ≤ lvl marks) (h : St w ok g vals cls marks) (hi : SInv n vals cls marks cs) (hM : Mod w0 w P (.slice Al cs.length cl) (.slice Am marks.length cm) cs marks) (hd : ∀ k, ok k → ¬ P k) (hb0 : Below w0.heap.size w0 w) (hrc : Kd.C (Kd.int .i64) w Ac c.length c) (hcc : c.length ≤ cc) (hcl : c.length ≤ 4194304) (hcsl : cs.length < 1048576) :
    Calls Try.prog 30 #[.pointer (some ⟨g, 0, none⟩), .agg #[.int .i64 n, .slice Al cs.length cl, .slice Am marks.length cm], .agg #[.int .i64 5, .slice Ac c.length cc, .int .i64 lit, .int .i64 N]] w fun e w' => ∃ n' vl' vm', e = .returned (.tuple #[.agg #[.int .i64 n', vl', vm'], .bool true]) ∧ PlayPost w0 w w' ok P g n' vl' vm' cs.length cc := by
  have H := Aside0.mk h
  have HI := Aside0.mk hi
  have HM := Aside0.mk hM
  have HD := Aside0.mk hd
  have HB0 := Aside0.mk hb0
  have HRC := Aside0.mk (And.intro hcc hrc)
  have hcll := hcl
  have hcsll := hcsl
  obtain ⟨hl1, hl2, hl3, hl4⟩ := hi.len
  have hn0 := hi.n0
  have HL1 := Aside0.mk hl1
  have HO0 := Aside0.mk ho0
  clear ho0
  have dN : decide (N < 0) = false := decide_eq_false (by omega)
  have dN2 : decide (lvl marks < N) = false := decide_eq_false (by omega)
  have HN := Aside0.mk (And.intro hN hN2)
  obtain ⟨hbe, hbi⟩ := hi.back hN
  obtain ⟨mb, hmb⟩ : ∃ mb, mb = marks.filter (fun m => decide (m.f1 ≤ N)) := ⟨_, rfl⟩
  obtain ⟨kb, hkb⟩ := (Back_all marks N (by omega)).rounds
  rw [← hmb] at hbe hkb
  rw [hbe] at hbi
  have HBE := Aside0.mk hbe
  have HBI := Aside0.mk hbi
  have HKB := Aside0.mk hkb
  have HRG := Aside0.mk hi.t
  clear hN hN2 hbe hbi hmb hkb
  clear h hi hM hd hb0 hrc hcc hl1
  go_enter Try.func30, Try.ntmps30
  go_wp2_with fail
  obtain ⟨w1, hw1⟩ : ∃ w1, w1 = (((w.alloc (.cells #[.int .i64 n, .slice Al cs.length cl, .slice Am marks.length cm] 65)).alloc (.cells #[.int .i64 5, .slice Ac c.length cc, .int .i64 lit, .int .i64 N] 52)).alloc (.cells #[.int .i64 0, .slice none 0 0, .slice none 0 0] 65)) := ⟨_, rfl⟩
  have HS : Aside0 (PStart w0 w w1 ok P #[.int .i64 n, .slice Al cs.length cl, .slice Am marks.length cm] #[.int .i64 5, .slice Ac c.length cc, .int .i64 lit, .int .i64 N] #[.int .i64 0, .slice none 0 0, .slice none 0 0]) := ⟨by rw [hw1]; exact pstart w0 w ok P _ _ _⟩
  rw [← hw1]
  clear hw1
  have H1 : Aside0 (St w1 (fun k => ok k ∧ k < w.heap.size) g vals cls marks) := ⟨H.out.bound.below HS.out.bel⟩
  have hcon := st_Back _ g vals cls marks N w1 H1.out HI.out.fit.v.max (by omega) (fun m hm => by have h1 := HRG.out.rng m hm; have h2 := HL1.out; omega) HN.out.1 HN.out.2
  rw [HBE.out] at hcon
  refine hcon.mono ?_
  clear hcon
  rintro e w3 ⟨rfl, hS3, hr3⟩
  have HS3 := Aside0.mk hS3
  have HR13 := Aside0.mk hr3
  have hsz3 := hr3.size
  have hbx := HS.out.box.step (fun k q1 q2 hk => hr3.block k hk (fun q => by omega))
  have HBX := Aside0.mk hbx
  have HM3 : Aside0 (Mod w0 w3 (fun k => P k ∧ k < w.heap.size) (.slice Al cs.length cl) (.slice Am marks.length cm) cs marks) := ⟨(HM.out.bound.below HS.out.bel).step (fun k q hk => hr3.block k hk (fun z => HD.out k z.1 q.1))⟩
  have HR3 : Aside0 (Rest w w3 (fun k => ok k ∨ P k)) := ⟨(Rest.of_below HS.out.bel _).trans hr3 (fun k hk q => .inl q.1)⟩
  have HB03 := Aside0.mk (hr3.below (below_step HB0.out HS.out.bel) (fun k q => HO0.out k q.1))
  have HCL3 := Aside0.mk (C_kC HB03.out (Kd.R_reads' HM3.out.rl).2.2)
  have HCM3 := Aside0.mk (Kd.R_reads' HM3.out.rm).2.2
  have HCLC := Aside0.mk (And.intro (Kd.R_reads' HM3.out.rl).2.1 (Kd.R_reads' HM3.out.rm).2.1)
  have HSZ := Aside0.mk (And.intro HS.out.sz hsz3)
  clear hS3 hr3 hsz3 hbx
  have m0 : w3.cell? ⟨w.heap.size, 0, none⟩ = some (.int .i64 n) := by rw [blk_cell HBX.out.m]; rfl
  have m1 : w3.cell? ⟨w.heap.size, 1, none⟩ = some (.slice Al cs.length cl) := by rw [blk_cell HBX.out.m]; rfl
  have m2 : w3.cell? ⟨w.heap.size, 2, none⟩ = some (.slice Am marks.length cm) := by rw [blk_cell HBX.out.m]; rfl
  have o0 : w3.cell? ⟨w.heap.size + 1, 0, none⟩ = some (.int .i64 5) := by rw [blk_cell HBX.out.o]; rfl
  have o1 : w3.cell? ⟨w.heap.size + 1, 1, none⟩ = some (.slice Ac c.length cc) := by rw [blk_cell HBX.out.o]; rfl
  have o2 : w3.cell? ⟨w.heap.size + 1, 2, none⟩ = some (.int .i64 lit) := by rw [blk_cell HBX.out.o]; rfl
  have o3 : w3.cell? ⟨w.heap.size + 1, 3, none⟩ = some (.int .i64 N) := by rw [blk_cell HBX.out.o]; rfl
  have r0 : w3.cell? ⟨w.heap.size + 1 + 1, 0, none⟩ = some (.int .i64 0) := by rw [blk_cell HBX.out.r]; rfl
  have r1 : w3.cell? ⟨w.heap.size + 1 + 1, 1, none⟩ = some (.slice none 0 0) := by rw [blk_cell HBX.out.r]; rfl
  have r2 : w3.cell? ⟨w.heap.size + 1 + 1, 2, none⟩ = some (.slice none 0 0) := by rw [blk_cell HBX.out.r]; rfl
  have fm0 := blk_frozen HBX.out.m 0
  have fm1 := blk_frozen HBX.out.m 1
  have fm2 := blk_frozen HBX.out.m 2
  have fr0 := blk_frozen HBX.out.r 0
  have fr1 := blk_frozen HBX.out.r 1
  have fr2 := blk_frozen HBX.out.r 2
  go_wp2_with fail
  go_quiet ((go_at_call 52; refine Calls.quiet_of (Calls.mono (fulcrumref20_Level.calls Am cm marks (lvl marks) _ (by repeat (first | exact HCM3.out | refine Kd.C_drewN ?_ _ | refine Kd.C_drew ?_)) HCLC.out.2 (Level_f marks (by omega))) (fun _ _ h => ⟨h.1, h.2.out⟩))))
  go_wp2_with fail
  refine (fulcrumref20_Back.calls kb Am cm marks N mb _ (by repeat (first | exact HCM3.out | refine Kd.C_drewN ?_ _ | refine Kd.C_drew ?_)) HCLC.out.2 HKB.out).mono ?_
  rintro e w5 ⟨v5, rfl, hv5, hb5⟩
  obtain ⟨A5, c5, rfl⟩ := Kd.R_slice hv5
  have hb35 : Below w3.heap.size w3 w5 := below_step (pw_below_drewN (Below.refl _ _) nq) hb5
  have hv5' : Kd.R k48 48 w5 0 (fun k => w3.heap.size ≤ k) (.slice A5 mb.length c5) mb := Kd.R_mono (Kd.R_lower (Kd.R_bound hv5) (Nat.zero_le _)) (fun k q => q.2.1)
  have HB35 := Aside0.mk hb35
  have HV5 := Aside0.mk hv5'
  have HBX5 := Aside0.mk (HBX.out.below hb35)
  have hx : ∀ k, k ≠ w.heap.size → (w5.setCell ⟨w.heap.size, 2, none⟩ (.slice A5 mb.length c5)).heap[k]? = w5.heap[k]? := fun k q => Below.heap_setCell w5 ⟨w.heap.size, 2, none⟩ (.slice A5 mb.length c5) k (fun e => q e)
  have HX := Aside0.mk hx
  have HS4 : Aside0 (St (w5.setCell ⟨w.heap.size, 2, none⟩ (.slice A5 mb.length c5)) (fun k => ok k ∧ k < w.heap.size) _ _ _ _) := ⟨HS3.out.step (w1 := (w5.setCell ⟨w.heap.size, 2, none⟩ (.slice A5 mb.length c5))) (fun k q hk => by
      rw [HX.out k (fun e => Nat.lt_irrefl _ (e ▸ q.2))]
      exact hb35.block k hk)⟩
  have HM4 : Aside0 (Mod w0 (w5.setCell ⟨w.heap.size, 2, none⟩ (.slice A5 mb.length c5)) (fun k => (P k ∧ k < w.heap.size) ∨ w3.heap.size ≤ k) (.slice Al cs.length cl) (.slice A5 mb.length c5) cs mb) := ⟨Mod.putM HM3.out (fun k q hk => by rw [HX.out k (fun e => Nat.lt_irrefl _ (e ▸ q.2))]; exact hb35.block k hk) (Kd.R_mono (Kd.R_step hv5' (fun k q hk => HX.out k (fun e => by have := HSZ.out; omega))) (fun k q => .inr q)) (fun k q => .inl q) (fun k e q hk => by have := hv5'.1 k e; omega)⟩
  have HR4 : Aside0 (Rest w (w5.setCell ⟨w.heap.size, 2, none⟩ (.slice A5 mb.length c5)) (fun k => ok k ∨ P k)) := ⟨Rest.set' (HR3.out.trans (Rest.of_below hb35 (fun _ => False)) (fun _ _ q => q.elim)) (fun _ => trivial) (p := ⟨w.heap.size, 2, none⟩) (fun q => absurd q (Nat.lt_irrefl _)) _⟩
  clear hv5 hb5 hb35 hv5' hx
  clear m0 m1 m2 o0 o1 o2 o3 r0 r1 r2 fm0 fm1 fm2 fr0 fr1 fr2
  have m0 : w5.cell? ⟨w.heap.size, 0, none⟩ = some (.int .i64 n) := by rw [blk_cell HBX5.out.m]; rfl
  have m1 : w5.cell? ⟨w.heap.size, 1, none⟩ = some (.slice Al cs.length cl) := by rw [blk_cell HBX5.out.m]; rfl
  have m2 : w5.cell? ⟨w.heap.size, 2, none⟩ = some (.slice Am marks.length cm) := by rw [blk_cell HBX5.out.m]; rfl
  have o0 : w5.cell? ⟨w.heap.size + 1, 0, none⟩ = some (.int .i64 5) := by rw [blk_cell HBX5.out.o]; rfl
  have o1 : w5.cell? ⟨w.heap.size + 1, 1, none⟩ = some (.slice Ac c.length cc) := by rw [blk_cell HBX5.out.o]; rfl
  have o2 : w5.cell? ⟨w.heap.size + 1, 2, none⟩ = some (.int .i64 lit) := by rw [blk_cell HBX5.out.o]; rfl
  have o3 : w5.cell? ⟨w.heap.size + 1, 3, none⟩ = some (.int .i64 N) := by rw [blk_cell HBX5.out.o]; rfl
  have r0 : w5.cell? ⟨w.heap.size + 1 + 1, 0, none⟩ = some (.int .i64 0) := by rw [blk_cell HBX5.out.r]; rfl
  have r1 : w5.cell? ⟨w.heap.size + 1 + 1, 1, none⟩ = some (.slice none 0 0) := by rw [blk_cell HBX5.out.r]; rfl
  have r2 : w5.cell? ⟨w.heap.size + 1 + 1, 2, none⟩ = some (.slice none 0 0) := by rw [blk_cell HBX5.out.r]; rfl
  have fm0 := blk_frozen HBX5.out.m 0
  have fm1 := blk_frozen HBX5.out.m 1
  have fm2 := blk_frozen HBX5.out.m 2
  have fr0 := blk_frozen HBX5.out.r 0
  have fr1 := blk_frozen HBX5.out.r 1
  have fr2 := blk_frozen HBX5.out.r 2
  go_wp2
  obtain ⟨W, hW⟩ : ∃ W, W = ((((w5.setCell ⟨w.heap.size, 2, none⟩ (.slice A5 mb.length c5)).setCell ⟨w.heap.size + 2, 0, none⟩ (.int .i64 n)).setCell ⟨w.heap.size + 2, 1, none⟩ (.slice Al cs.length cl)).setCell ⟨w.heap.size + 2, 2, none⟩ (.slice A5 mb.length c5)) := ⟨_, rfl⟩
  have hbW := (((HBX5.out.setm 2 (.slice A5 mb.length c5)).setr 0 (.int .i64 n)).setr 1 (.slice Al cs.length cl)).setr 2 (.slice A5 mb.length c5)
  rw [← hW] at hbW
  have hRW : Rest (w5.setCell ⟨w.heap.size, 2, none⟩ (.slice A5 mb.length c5)) W (fun k => k = w.heap.size ∨ k = w.heap.size + 2) := by rw [hW]; exact Rest.set (p := ⟨w.heap.size + 2, 2, none⟩) (Rest.set (p := ⟨w.heap.size + 2, 1, none⟩) (Rest.set (p := ⟨w.heap.size + 2, 0, none⟩) (Rest.refl _ _) (.inr rfl) _) (.inr rfl) _) (.inr rfl) _
  have HEND := Aside0.mk (play_end (w0 := w0) (cc := cc) HS.out.sz HBI.out (Nat.le_succ _) HS4.out HM4.out (fun k q1 q2 => by have := HSZ.out; rcases q2 with q2 | q2; exact HD.out k q1.1 q2.1; omega) (fun k q => .inl q) (fun k q => q.imp id (fun q => Nat.le_trans HSZ.out.2 q)) HR4.out hRW)
  clear m0 m1 m2 o0 o1 o2 o3 r0 r1 r2 fm0 fm1 fm2 fr0 fr1 fr2
  have s0 : W.cell? ⟨w.heap.size + 1 + 1, 0, none⟩ = some (.int .i64 n) := by rw [show (⟨w.heap.size + 1 + 1, 0, none⟩ : Addr) = ⟨w.heap.size + 2, 0, none⟩ from rfl, blk_cell hbW.r]; rfl
  have s1 : W.cell? ⟨w.heap.size + 1 + 1, 1, none⟩ = some (.slice Al cs.length cl) := by rw [show (⟨w.heap.size + 1 + 1, 1, none⟩ : Addr) = ⟨w.heap.size + 2, 1, none⟩ from rfl, blk_cell hbW.r]; rfl
  have s2 : W.cell? ⟨w.heap.size + 1 + 1, 2, none⟩ = some (.slice A5 mb.length c5) := by rw [show (⟨w.heap.size + 1 + 1, 2, none⟩ : Addr) = ⟨w.heap.size + 2, 2, none⟩ from rfl, blk_cell hbW.r]; rfl
  rw [show (⟨w.heap.size + 2, 0, none⟩ : Addr) = ⟨w.heap.size + 1 + 1, 0, none⟩ from rfl, show (⟨w.heap.size + 2, 1, none⟩ : Addr) = ⟨w.heap.size + 1 + 1, 1, none⟩ from rfl, show (⟨w.heap.size + 2, 2, none⟩ : Addr) = ⟨w.heap.size + 1 + 1, 2, none⟩ from rfl] at hW
  rw [← hW]
  clear hW hRW hbW
  refine bodyPost_ret (v := .tuple #[.agg #[.int .i64 n, .slice Al cs.length cl, .slice A5 mb.length c5], .bool true]) ?_ rfl ⟨_, _, _, rfl, HEND.out⟩
  simp [results, Try.results30, go_sem, s0, s1, s2]

set_option maxHeartbeats 16000000 in
set_option maxRecDepth 100000 in
theorem play_Propagate (w0 : World) (ok P : Nat → Prop) (g : Nat) (vals : List Int) (cls : List (List Int × Int × Int)) (marks : List S48) (Al : Option Addr) (cl : Nat) (cs : List (List Int)) (Am : Option Addr) (cm : Nat) (n : Int) (Ac : Option Addr) (cc : Nat) (c : List Int) (lit N : Int) (w : World) (ho0 : ∀ k, ok k → w0.heap.size ≤ k) (h : St w ok g vals cls marks) (hi : SInv n vals cls marks cs) (hM : Mod w0 w P (.slice Al cs.length cl) (.slice Am marks.length cm) cs marks) (hd : ∀ k, ok k → ¬ P k) (hb0 : Below w0.heap.size w0 w) (hrc : Kd.C (Kd.int .i64) w Ac c.length c) (hcc : c.length ≤ cc) (hcl : c.length ≤ 4194304) (hcsl : cs.length < 1048576) :
    Calls Try.prog 30 #[.pointer (some ⟨g, 0, none⟩), .agg #[.int .i64 n, .slice Al cs.length cl, .slice Am marks.length cm], .agg #[.int .i64 4, .slice Ac c.length cc, .int .i64 lit, .int .i64 N]] w fun e w' => ∃ n' vl' vm', e = .returned (.tuple #[.agg #[.int .i64 n', vl', vm'], .bool true]) ∧ PlayPost w0 w w' ok P g n' vl' vm' cs.length cc := by
  have H := Aside0.mk h
  have HI := Aside0.mk hi
  have HM := Aside0.mk hM
  have HD := Aside0.mk hd
  have HB0 := Aside0.mk hb0
  have HRC := Aside0.mk (And.intro hcc hrc)
  have hcll := hcl
  have hcsll := hcsl
  obtain ⟨hl1, hl2, hl3, hl4⟩ := hi.len
  have hn0 := hi.n0
  have HL1 := Aside0.mk hl1
  have HO0 := Aside0.mk ho0
  clear ho0
  have hlr := hi.len
  clear h hi hM hd hb0 hrc hcc hl1
  go_enter Try.func30, Try.ntmps30
  go_wp2_with fail
  obtain ⟨w1, hw1⟩ : ∃ w1, w1 = (((w.alloc (.cells #[.int .i64 n, .slice Al cs.length cl, .slice Am marks.length cm] 65)).alloc (.cells #[.int .i64 4, .slice Ac c.length cc, .int .i64 lit, .int .i64 N] 52)).alloc (.cells #[.int .i64 0, .slice none 0 0, .slice none 0 0] 65)) := ⟨_, rfl⟩
  have HS : Aside0 (PStart w0 w w1 ok P #[.int .i64 n, .slice Al cs.length cl, .slice Am marks.length cm] #[.int .i64 4, .slice Ac c.length cc, .int .i64 lit, .int .i64 N] #[.int .i64 0, .slice none 0 0, .slice none 0 0]) := ⟨by rw [hw1]; exact pstart w0 w ok P _ _ _⟩
  rw [← hw1]
  clear hw1
  have H1 : Aside0 (St w1 (fun k => ok k ∧ k < w.heap.size) g vals cls marks) := ⟨H.out.bound.below HS.out.bel⟩
  have HM1 : Aside0 (Mod w0 w1 (fun k => P k ∧ k < w.heap.size) (.slice Al cs.length cl) (.slice Am marks.length cm) cs marks) := ⟨HM.out.bound.below HS.out.bel⟩
  have HB01 := Aside0.mk (below_step HB0.out HS.out.bel)
  have HKM : Aside0 (∀ w', Rest w1 w' (fun k => ok k ∧ k < w.heap.size) → Mod w0 w' (fun k => P k ∧ k < w.heap.size) (.slice Al cs.length cl) (.slice Am marks.length cm) cs marks) := ⟨fun w' hw' => HM1.out.step (fun k q hk => hw'.block k hk (fun z => HD.out k z.1 q.1))⟩
  have m0 : w1.cell? ⟨w.heap.size, 0, none⟩ = some (.int .i64 n) := by rw [blk_cell HS.out.box.m]; rfl
  have m1 : w1.cell? ⟨w.heap.size, 1, none⟩ = some (.slice Al cs.length cl) := by rw [blk_cell HS.out.box.m]; rfl
  have m2 : w1.cell? ⟨w.heap.size, 2, none⟩ = some (.slice Am marks.length cm) := by rw [blk_cell HS.out.box.m]; rfl
  have o0 : w1.cell? ⟨w.heap.size + 1, 0, none⟩ = some (.int .i64 4) := by rw [blk_cell HS.out.box.o]; rfl
  have o1 : w1.cell? ⟨w.heap.size + 1, 1, none⟩ = some (.slice Ac c.length cc) := by rw [blk_cell HS.out.box.o]; rfl
  have o2 : w1.cell? ⟨w.heap.size + 1, 2, none⟩ = some (.int .i64 lit) := by rw [blk_cell HS.out.box.o]; rfl
  have o3 : w1.cell? ⟨w.heap.size + 1, 3, none⟩ = some (.int .i64 N) := by rw [blk_cell HS.out.box.o]; rfl
  have r0 : w1.cell? ⟨w.heap.size + 1 + 1, 0, none⟩ = some (.int .i64 0) := by rw [blk_cell HS.out.box.r]; rfl
  have r1 : w1.cell? ⟨w.heap.size + 1 + 1, 1, none⟩ = some (.slice none 0 0) := by rw [blk_cell HS.out.box.r]; rfl
  have r2 : w1.cell? ⟨w.heap.size + 1 + 1, 2, none⟩ = some (.slice none 0 0) := by rw [blk_cell HS.out.box.r]; rfl
  have fm0 := blk_frozen HS.out.box.m 0
  have fm1 := blk_frozen HS.out.box.m 1
  have fm2 := blk_frozen HS.out.box.m 2
  have fr0 := blk_frozen HS.out.box.r 0
  have fr1 := blk_frozen HS.out.box.r 1
  have fr2 := blk_frozen HS.out.box.r 2
  go_wp2_with fail
  refine (propagate_walk w0 (fun k => ok k ∧ k < w.heap.size) g vals cls marks Al cl cs Am cm w1 n H1.out HI.out (C_kC HB01.out (Kd.R_reads' HM1.out.rl).2.2) (Kd.R_reads' HM1.out.rl).2.1 (Kd.R_reads' HM1.out.rm).2.2 (Kd.R_reads' HM1.out.rm).2.1 (fun w' hw' => C_kC (hw'.below HB01.out (fun k q => HO0.out k q.1)) (Kd.R_reads' (HKM.out w' hw').rl).2.2) (fun w' hw' => (Kd.R_reads' (HKM.out w' hw').rm).2.2)).mono ?_
  rintro e w3 ⟨vals', cls', marks', A3, c3, rfl, hpp⟩
  obtain ⟨oS, oM, z1, z2, z3, z4, z5⟩ := hpp.ok
  have hr3 := hpp.rest
  have hsz3 := hr3.size
  have HPI := Aside0.mk hpp.inv
  have hbx := HS.out.box.step (fun k q1 q2 hk => hr3.block k hk (fun q => by omega))
  have HBX := Aside0.mk hbx
  have HSZ := Aside0.mk (And.intro HS.out.sz hsz3)
  have HZ := Aside0.mk (And.intro z1 (And.intro z2 z3))
  have HS4 := Aside0.mk z4
  have HM4 : Aside0 (Mod w0 w3 (fun k => (P k ∧ k < w.heap.size) ∨ oM k) (.slice Al cs.length cl) (.slice A3 marks'.length c3) cs marks') := ⟨Mod.putM HM1.out (fun k q hk => hr3.block k hk (fun z => HD.out k z.1 q.1)) (Kd.R_mono z5 (fun k q => .inr q)) (fun k q => .inl q) (fun k e q hk => by have h1 := z3 k (z5.1 k e); have h2 := HS.out.sz; omega)⟩
  have HR4 : Aside0 (Rest w w3 (fun k => ok k ∨ P k)) := ⟨(Rest.of_below HS.out.bel _).trans hr3 (fun k hk q => .inl q.1)⟩
  clear hpp z1 z2 z3 z4 z5 hr3 hsz3 hbx
  clear m0 m1 m2 o0 o1 o2 o3 r0 r1 r2 fm0 fm1 fm2 fr0 fr1 fr2
  have m0 : w3.cell? ⟨w.heap.size, 0, none⟩ = some (.int .i64 n) := by rw [blk_cell HBX.out.m]; rfl
  have m1 : w3.cell? ⟨w.heap.size, 1, none⟩ = some (.slice Al cs.length cl) := by rw [blk_cell HBX.out.m]; rfl
  have m2 : w3.cell? ⟨w.heap.size, 2, none⟩ = some (.slice Am marks.length cm) := by rw [blk_cell HBX.out.m]; rfl
  have o0 : w3.cell? ⟨w.heap.size + 1, 0, none⟩ = some (.int .i64 4) := by rw [blk_cell HBX.out.o]; rfl
  have o1 : w3.cell? ⟨w.heap.size + 1, 1, none⟩ = some (.slice Ac c.length cc) := by rw [blk_cell HBX.out.o]; rfl
  have o2 : w3.cell? ⟨w.heap.size + 1, 2, none⟩ = some (.int .i64 lit) := by rw [blk_cell HBX.out.o]; rfl
  have o3 : w3.cell? ⟨w.heap.size + 1, 3, none⟩ = some (.int .i64 N) := by rw [blk_cell HBX.out.o]; rfl
  have r0 : w3.cell? ⟨w.heap.size + 1 + 1, 0, none⟩ = some (.int .i64 0) := by rw [blk_cell HBX.out.r]; rfl
  have r1 : w3.cell? ⟨w.heap.size + 1 + 1, 1, none⟩ = some (.slice none 0 0) := by rw [blk_cell HBX.out.r]; rfl
  have r2 : w3.cell? ⟨w.heap.size + 1 + 1, 2, none⟩ = some (.slice none 0 0) := by rw [blk_cell HBX.out.r]; rfl
  have fm0 := blk_frozen HBX.out.m 0
  have fm1 := blk_frozen HBX.out.m 1
  have fm2 := blk_frozen HBX.out.m 2
  have fr0 := blk_frozen HBX.out.r 0
  have fr1 := blk_frozen HBX.out.r 1
  have fr2 := blk_frozen HBX.out.r 2
  go_wp2
  obtain ⟨W, hW⟩ : ∃ W, W = (((w3.setCell ⟨w.heap.size + 2, 0, none⟩ (.int .i64 n)).setCell ⟨w.heap.size + 2, 1, none⟩ (.slice Al cs.length cl)).setCell ⟨w.heap.size + 2, 2, none⟩ (.slice A3 marks'.length c3)) := ⟨_, rfl⟩
  have hbW := ((HBX.out.setr 0 (.int .i64 n)).setr 1 (.slice Al cs.length cl)).setr 2 (.slice A3 marks'.length c3)
  rw [← hW] at hbW
  have hRW : Rest w3 W (fun k => k = w.heap.size ∨ k = w.heap.size + 2) := by rw [hW]; exact Rest.set (p := ⟨w.heap.size + 2, 2, none⟩) (Rest.set (p := ⟨w.heap.size + 2, 1, none⟩) (Rest.set (p := ⟨w.heap.size + 2, 0, none⟩) (Rest.refl _ _) (.inr rfl) _) (.inr rfl) _) (.inr rfl) _
  have HEND := Aside0.mk (play_end (w0 := w0) (cc := cc) HS.out.sz HPI.out (Nat.le_succ _) HS4.out HM4.out (fun k q1 q2 => by have h2 := HS.out.sz; rcases q2 with q2 | q2; rcases HZ.out.2.1 k q1 with q1 | q1; exact HD.out k q1.1 q2.1; omega; exact HZ.out.1 k q1 q2) HZ.out.2.1 (fun k q => q.imp id (fun q => HZ.out.2.2 k q)) HR4.out hRW)
  clear m0 m1 m2 o0 o1 o2 o3 r0 r1 r2 fm0 fm1 fm2 fr0 fr1 fr2
  have s0 : W.cell? ⟨w.heap.size + 1 + 1, 0, none⟩ = some (.int .i64 n) := by rw [show (⟨w.heap.size + 1 + 1, 0, none⟩ : Addr) = ⟨w.heap.size + 2, 0, none⟩ from rfl, blk_cell hbW.r]; rfl
  have s1 : W.cell? ⟨w.heap.size + 1 + 1, 1, none⟩ = some (.slice Al cs.length cl) := by rw [show (⟨w.heap.size + 1 + 1, 1, none⟩ : Addr) = ⟨w.heap.size + 2, 1, none⟩ from rfl, blk_cell hbW.r]; rfl
  have s2 : W.cell? ⟨w.heap.size + 1 + 1, 2, none⟩ = some (.slice A3 marks'.length c3) := by rw [show (⟨w.heap.size + 1 + 1, 2, none⟩ : Addr) = ⟨w.heap.size + 2, 2, none⟩ from rfl, blk_cell hbW.r]; rfl
  rw [show (⟨w.heap.size + 2, 0, none⟩ : Addr) = ⟨w.heap.size + 1 + 1, 0, none⟩ from rfl, show (⟨w.heap.size + 2, 1, none⟩ : Addr) = ⟨w.heap.size + 1 + 1, 1, none⟩ from rfl, show (⟨w.heap.size + 2, 2, none⟩ : Addr) = ⟨w.heap.size + 1 + 1, 2, none⟩ from rfl] at hW
  rw [← hW]
  clear hW hRW hbW
  refine bodyPost_ret (v := .tuple #[.agg #[.int .i64 n, .slice Al cs.length cl, .slice A3 marks'.length c3], .bool true]) ?_ rfl ⟨_, _, _, rfl, HEND.out⟩
  simp [results, Try.results30, go_sem, s0, s1, s2]

end Go.Proofs.Ytegaaobiedfjcaa.PU
