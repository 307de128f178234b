import Derived.Test.YtegaaobiedfjcaaStP
import Derived.Deep.RegionHeld3
import Derived.Deep.RegionWith
import Derived.BigQuiet
import Derived.Deep.QuietTactic
import Derived.Test.YtegaaobiedfjcaaHStep
namespace Go.Proofs.Ytegaaobiedfjcaa.PU
open Go.RowKit Go.Proofs.YtegaaobiedfjcaaW.PrintWords Go.Proofs.YtegaaobiedfjcaaW.PrintLast Go.Proofs.YtegaaobiedfjcaaW.PrintMore Go.Proofs.YtegaaobiedfjcaaH
set_option linter.unusedVariables false
set_option linter.unusedSimpArgs false
set_option maxHeartbeats 16000000 in
set_option maxRecDepth 100000 in
theorem play_Add_bad (w0 : World) (ok P : Nat → Prop) (g : Nat) (vals : List Int) (cls : List (List Int × Int × Int)) (marks : List S48) (Al : Option Addr) (cl : Nat) (cs : List (List Int)) (Am : Option Addr) (cm : Nat) (n : Int) (Ac : Option Addr) (cc : Nat) (c : List Int) (lit N : Int) (w : World) (hb : litsOk vals c = false) (h : St w ok g vals cls marks) (hi : SInv n vals cls marks cs) (hM : Mod w0 w P (.slice Al cs.length cl) (.slice Am marks.length cm) cs marks) (hd : ∀ k, ok k → ¬ P k) (hb0 : Below w0.heap.size w0 w) (hrc : Kd.C (Kd.int .i64) w Ac c.length c) (hcc : c.length ≤ cc) (hcl : c.length ≤ 4194304) (hcsl : cs.length < 1048576) :
    Calls Try.prog 30 #[.pointer (some ⟨g, 0, none⟩), .agg #[.int .i64 n, .slice Al cs.length cl, .slice Am marks.length cm], .agg #[.int .i64 0, .slice Ac c.length cc, .int .i64 lit, .int .i64 N]] w fun e w' => ∃ n' vl' vm', e = .returned (.tuple #[.agg #[.int .i64 n', vl', vm'], .bool true]) ∧ PlayPost w0 w w' ok P g n' vl' vm' cs.length cc := by
  have H := Aside0.mk h
  have HI := Aside0.mk hi
  have HM := Aside0.mk hM
  have HD := Aside0.mk hd
  have HB0 := Aside0.mk hb0
  have HRC := Aside0.mk (And.intro hcc hrc)
  have hcll := hcl
  have hcsll := hcsl
  obtain ⟨hl1, hl2, hl3, hl4⟩ := hi.len
  have hn0 := hi.n0
  have HL1 := Aside0.mk hl1
  obtain ⟨kc, hkc⟩ := Clause_all hi c hcl
  rw [hb] at hkc
  have HKC := Aside0.mk hkc
  have HBF := Aside0.mk hb
  clear hkc hb
  clear h hi hM hd hb0 hrc hcc hl1
  go_enter Try.func30, Try.ntmps30
  go_wp2_with fail
  obtain ⟨w1, hw1⟩ : ∃ w1, w1 = (((w.alloc (.cells #[.int .i64 n, .slice Al cs.length cl, .slice Am marks.length cm] 65)).alloc (.cells #[.int .i64 0, .slice Ac c.length cc, .int .i64 lit, .int .i64 N] 52)).alloc (.cells #[.int .i64 0, .slice none 0 0, .slice none 0 0] 65)) := ⟨_, rfl⟩
  have HS : Aside0 (PStart w0 w w1 ok P #[.int .i64 n, .slice Al cs.length cl, .slice Am marks.length cm] #[.int .i64 0, .slice Ac c.length cc, .int .i64 lit, .int .i64 N] #[.int .i64 0, .slice none 0 0, .slice none 0 0]) := ⟨by rw [hw1]; exact pstart w0 w ok P _ _ _⟩
  rw [← hw1]
  clear hw1
  have H1 : Aside0 (St w1 (fun k => ok k ∧ k < w.heap.size) g vals cls marks) := ⟨H.out.bound.below HS.out.bel⟩
  refine (st_Add_bad _ g vals cls marks Ac cc c w1 (Kd.C_below HRC.out.2 HS.out.bel) H1.out HI.out.fit.v HBF.out).mono ?_
  rintro e w3 ⟨rfl, hb3⟩
  have hb13 : Below w1.heap.size w1 w3 := hb3
  have HB13 := Aside0.mk hb13
  have HBX := Aside0.mk (HS.out.box.below hb13)
  have HM3 : Aside0 (Mod w0 w3 (fun k => P k ∧ k < w.heap.size) (.slice Al cs.length cl) (.slice Am marks.length cm) cs marks) := ⟨(HM.out.bound.below HS.out.bel).below hb13⟩
  have HR3 : Aside0 (Rest w w3 (fun k => ok k ∨ P k)) := ⟨Rest.of_below (below_step HS.out.bel hb13) _⟩
  have HC3 := Aside0.mk (Kd.C_below HRC.out.2 (below_step HS.out.bel hb13))
  have HB03 := Aside0.mk (below_step HB0.out (below_step HS.out.bel hb13))
  have HCL3 := Aside0.mk (C_kC HB03.out (Kd.R_reads' HM3.out.rl).2.2)
  have HCM3 := Aside0.mk (Kd.R_reads' HM3.out.rm).2.2
  have HCLC := Aside0.mk (And.intro (Kd.R_reads' HM3.out.rl).2.1 (Kd.R_reads' HM3.out.rm).2.1)
  clear hb13
  have m0 : w3.cell? ⟨w.heap.size, 0, none⟩ = some (.int .i64 n) := by rw [blk_cell HBX.out.m]; rfl
  have m1 : w3.cell? ⟨w.heap.size, 1, none⟩ = some (.slice Al cs.length cl) := by rw [blk_cell HBX.out.m]; rfl
  have m2 : w3.cell? ⟨w.heap.size, 2, none⟩ = some (.slice Am marks.length cm) := by rw [blk_cell HBX.out.m]; rfl
  have o0 : w3.cell? ⟨w.heap.size + 1, 0, none⟩ = some (.int .i64 0) := by rw [blk_cell HBX.out.o]; rfl
  have o1 : w3.cell? ⟨w.heap.size + 1, 1, none⟩ = some (.slice Ac c.length cc) := by rw [blk_cell HBX.out.o]; rfl
  have o2 : w3.cell? ⟨w.heap.size + 1, 2, none⟩ = some (.int .i64 lit) := by rw [blk_cell HBX.out.o]; rfl
  have o3 : w3.cell? ⟨w.heap.size + 1, 3, none⟩ = some (.int .i64 N) := by rw [blk_cell HBX.out.o]; rfl
  have r0 : w3.cell? ⟨w.heap.size + 1 + 1, 0, none⟩ = some (.int .i64 0) := by rw [blk_cell HBX.out.r]; rfl
  have r1 : w3.cell? ⟨w.heap.size + 1 + 1, 1, none⟩ = some (.slice none 0 0) := by rw [blk_cell HBX.out.r]; rfl
  have r2 : w3.cell? ⟨w.heap.size + 1 + 1, 2, none⟩ = some (.slice none 0 0) := by rw [blk_cell HBX.out.r]; rfl
  have fm0 := blk_frozen HBX.out.m 0
  have fm1 := blk_frozen HBX.out.m 1
  have fm2 := blk_frozen HBX.out.m 2
  have fr0 := blk_frozen HBX.out.r 0
  have fr1 := blk_frozen HBX.out.r 1
  have fr2 := blk_frozen HBX.out.r 2
  go_wp2_with fail
  refine (fulcrumref20_Clause.calls kc Ac cc c n false _ HC3.out HRC.out.1 HKC.out).mono ?_
  rintro e w4 ⟨rfl, ⟨nd, rfl⟩⟩
  go_wp2
  obtain ⟨W, hW⟩ : ∃ W, W = ((((w3.drewN nd).setCell ⟨w.heap.size + 2, 0, none⟩ (.int .i64 n)).setCell ⟨w.heap.size + 2, 1, none⟩ (.slice Al cs.length cl)).setCell ⟨w.heap.size + 2, 2, none⟩ (.slice Am marks.length cm)) := ⟨_, rfl⟩
  have hbW := (((HBX.out.below (pw_below_drewN (Below.refl _ _) nd)).setr 0 (.int .i64 n)).setr 1 (.slice Al cs.length cl)).setr 2 (.slice Am marks.length cm)
  rw [← hW] at hbW
  have hRW : Rest w3 W (fun k => k = w.heap.size ∨ k = w.heap.size + 2) := by rw [hW]; exact Rest.set (p := ⟨w.heap.size + 2, 2, none⟩) (Rest.set (p := ⟨w.heap.size + 2, 1, none⟩) (Rest.set (p := ⟨w.heap.size + 2, 0, none⟩) ((Rest.refl _ _).drewN nd) (.inr rfl) _) (.inr rfl) _) (.inr rfl) _
  have HEND := Aside0.mk (play_end (w0 := w0) (cc := cc) HS.out.sz HI.out (Nat.le_succ _) (H1.out.below HB13.out) HM3.out (fun k q1 q2 => HD.out k q1.1 q2.1) (fun k q => .inl q) (fun k q => .inl q) HR3.out hRW)
  clear m0 m1 m2 o0 o1 o2 o3 r0 r1 r2 fm0 fm1 fm2 fr0 fr1 fr2
  have s0 : W.cell? ⟨w.heap.size + 1 + 1, 0, none⟩ = some (.int .i64 n) := by rw [show (⟨w.heap.size + 1 + 1, 0, none⟩ : Addr) = ⟨w.heap.size + 2, 0, none⟩ from rfl, blk_cell hbW.r]; rfl
  have s1 : W.cell? ⟨w.heap.size + 1 + 1, 1, none⟩ = some (.slice Al cs.length cl) := by rw [show (⟨w.heap.size + 1 + 1, 1, none⟩ : Addr) = ⟨w.heap.size + 2, 1, none⟩ from rfl, blk_cell hbW.r]; rfl
  have s2 : W.cell? ⟨w.heap.size + 1 + 1, 2, none⟩ = some (.slice Am marks.length cm) := by rw [show (⟨w.heap.size + 1 + 1, 2, none⟩ : Addr) = ⟨w.heap.size + 2, 2, none⟩ from rfl, blk_cell hbW.r]; rfl
  rw [show (⟨w.heap.size + 2, 0, none⟩ : Addr) = ⟨w.heap.size + 1 + 1, 0, none⟩ from rfl, show (⟨w.heap.size + 2, 1, none⟩ : Addr) = ⟨w.heap.size + 1 + 1, 1, none⟩ from rfl, show (⟨w.heap.size + 2, 2, none⟩ : Addr) = ⟨w.heap.size + 1 + 1, 2, none⟩ from rfl] at hW
  rw [← hW]
  clear hW hRW hbW
  refine bodyPost_ret (v := .tuple #[.agg #[.int .i64 n, .slice Al cs.length cl, .slice Am marks.length cm], .bool true]) ?_ rfl ⟨_, _, _, rfl, HEND.out⟩
  simp [results, Try.results30, go_sem, s0, s1, s2]

set_option maxHeartbeats 16000000 in
set_option maxRecDepth 100000 in
theorem play_Grow_full (w0 : World) (ok P : Nat → Prop) (g : Nat) (vals : List Int) (cls : List (List Int × Int × Int)) (marks : List S48) (Al : Option Addr) (cl : Nat) (cs : List (List Int)) (Am : Option Addr) (cm : Nat) (n : Int) (Ac : Option Addr) (cc : Nat) (c : List Int) (lit N : Int) (w : World) (hb : n = 262144) (h : St w ok g vals cls marks) (hi : SInv n vals cls marks cs) (hM : Mod w0 w P (.slice Al cs.length cl) (.slice Am marks.length cm) cs marks) (hd : ∀ k, ok k → ¬ P k) (hb0 : Below w0.heap.size w0 w) (hrc : Kd.C (Kd.int .i64) w Ac c.length c) (hcc : c.length ≤ cc) (hcl : c.length ≤ 4194304) (hcsl : cs.length < 1048576) :
    Calls Try.prog 30 #[.pointer (some ⟨g, 0, none⟩), .agg #[.int .i64 n, .slice Al cs.length cl, .slice Am marks.length cm], .agg #[.int .i64 1, .slice Ac c.length cc, .int .i64 lit, .int .i64 N]] w fun e w' => ∃ n' vl' vm', e = .returned (.tuple #[.agg #[.int .i64 n', vl', vm'], .bool true]) ∧ PlayPost w0 w w' ok P g n' vl' vm' cs.length cc := by
  have H := Aside0.mk h
  have HI := Aside0.mk hi
  have HM := Aside0.mk hM
  have HD := Aside0.mk hd
  have HB0 := Aside0.mk hb0
  have HRC := Aside0.mk (And.intro hcc hrc)
  have hcll := hcl
  have hcsll := hcsl
  obtain ⟨hl1, hl2, hl3, hl4⟩ := hi.len
  have hn0 := hi.n0
  have HL1 := Aside0.mk hl1
  have HB := Aside0.mk (show (vals.length : Int) - 1 = 262144 by have := hi.len.1; omega)
  have dn : decide (262144 ≤ n) = true := decide_eq_true (by omega)
  clear hb
  clear h hi hM hd hb0 hrc hcc hl1
  go_enter Try.func30, Try.ntmps30
  go_wp2_with fail
  obtain ⟨w1, hw1⟩ : ∃ w1, w1 = (((w.alloc (.cells #[.int .i64 n, .slice Al cs.length cl, .slice Am marks.length cm] 65)).alloc (.cells #[.int .i64 1, .slice Ac c.length cc, .int .i64 lit, .int .i64 N] 52)).alloc (.cells #[.int .i64 0, .slice none 0 0, .slice none 0 0] 65)) := ⟨_, rfl⟩
  have HS : Aside0 (PStart w0 w w1 ok P #[.int .i64 n, .slice Al cs.length cl, .slice Am marks.length cm] #[.int .i64 1, .slice Ac c.length cc, .int .i64 lit, .int .i64 N] #[.int .i64 0, .slice none 0 0, .slice none 0 0]) := ⟨by rw [hw1]; exact pstart w0 w ok P _ _ _⟩
  rw [← hw1]
  clear hw1
  have H1 : Aside0 (St w1 (fun k => ok k ∧ k < w.heap.size) g vals cls marks) := ⟨H.out.bound.below HS.out.bel⟩
  refine (st_Grow_full _ g vals cls marks w1 H1.out HB.out).mono ?_
  rintro e w3 ⟨rfl, hw3⟩
  have hb13 : Below w1.heap.size w1 w3 := hw3 ▸ Below.refl _ _
  have HB13 := Aside0.mk hb13
  have HBX := Aside0.mk (HS.out.box.below hb13)
  have HM3 : Aside0 (Mod w0 w3 (fun k => P k ∧ k < w.heap.size) (.slice Al cs.length cl) (.slice Am marks.length cm) cs marks) := ⟨(HM.out.bound.below HS.out.bel).below hb13⟩
  have HR3 : Aside0 (Rest w w3 (fun k => ok k ∨ P k)) := ⟨Rest.of_below (below_step HS.out.bel hb13) _⟩
  have HC3 := Aside0.mk (Kd.C_below HRC.out.2 (below_step HS.out.bel hb13))
  have HB03 := Aside0.mk (below_step HB0.out (below_step HS.out.bel hb13))
  have HCL3 := Aside0.mk (C_kC HB03.out (Kd.R_reads' HM3.out.rl).2.2)
  have HCM3 := Aside0.mk (Kd.R_reads' HM3.out.rm).2.2
  have HCLC := Aside0.mk (And.intro (Kd.R_reads' HM3.out.rl).2.1 (Kd.R_reads' HM3.out.rm).2.1)
  clear hb13
  have m0 : w3.cell? ⟨w.heap.size, 0, none⟩ = some (.int .i64 n) := by rw [blk_cell HBX.out.m]; rfl
  have m1 : w3.cell? ⟨w.heap.size, 1, none⟩ = some (.slice Al cs.length cl) := by rw [blk_cell HBX.out.m]; rfl
  have m2 : w3.cell? ⟨w.heap.size, 2, none⟩ = some (.slice Am marks.length cm) := by rw [blk_cell HBX.out.m]; rfl
  have o0 : w3.cell? ⟨w.heap.size + 1, 0, none⟩ = some (.int .i64 1) := by rw [blk_cell HBX.out.o]; rfl
  have o1 : w3.cell? ⟨w.heap.size + 1, 1, none⟩ = some (.slice Ac c.length cc) := by rw [blk_cell HBX.out.o]; rfl
  have o2 : w3.cell? ⟨w.heap.size + 1, 2, none⟩ = some (.int .i64 lit) := by rw [blk_cell HBX.out.o]; rfl
  have o3 : w3.cell? ⟨w.heap.size + 1, 3, none⟩ = some (.int .i64 N) := by rw [blk_cell HBX.out.o]; rfl
  have r0 : w3.cell? ⟨w.heap.size + 1 + 1, 0, none⟩ = some (.int .i64 0) := by rw [blk_cell HBX.out.r]; rfl
  have r1 : w3.cell? ⟨w.heap.size + 1 + 1, 1, none⟩ = some (.slice none 0 0) := by rw [blk_cell HBX.out.r]; rfl
  have r2 : w3.cell? ⟨w.heap.size + 1 + 1, 2, none⟩ = some (.slice none 0 0) := by rw [blk_cell HBX.out.r]; rfl
  have fm0 := blk_frozen HBX.out.m 0
  have fm1 := blk_frozen HBX.out.m 1
  have fm2 := blk_frozen HBX.out.m 2
  have fr0 := blk_frozen HBX.out.r 0
  have fr1 := blk_frozen HBX.out.r 1
  have fr2 := blk_frozen HBX.out.r 2
  go_wp2
  obtain ⟨W, hW⟩ : ∃ W, W = (((w3.setCell ⟨w.heap.size + 2, 0, none⟩ (.int .i64 n)).setCell ⟨w.heap.size + 2, 1, none⟩ (.slice Al cs.length cl)).setCell ⟨w.heap.size + 2, 2, none⟩ (.slice Am marks.length cm)) := ⟨_, rfl⟩
  have hbW := ((HBX.out.setr 0 (.int .i64 n)).setr 1 (.slice Al cs.length cl)).setr 2 (.slice Am marks.length cm)
  rw [← hW] at hbW
  have hRW : Rest w3 W (fun k => k = w.heap.size ∨ k = w.heap.size + 2) := by rw [hW]; exact Rest.set (p := ⟨w.heap.size + 2, 2, none⟩) (Rest.set (p := ⟨w.heap.size + 2, 1, none⟩) (Rest.set (p := ⟨w.heap.size + 2, 0, none⟩) (Rest.refl _ _) (.inr rfl) _) (.inr rfl) _) (.inr rfl) _
  have HEND := Aside0.mk (play_end (w0 := w0) (cc := cc) HS.out.sz HI.out (Nat.le_succ _) (H1.out.below HB13.out) HM3.out (fun k q1 q2 => HD.out k q1.1 q2.1) (fun k q => .inl q) (fun k q => .inl q) HR3.out hRW)
  clear m0 m1 m2 o0 o1 o2 o3 r0 r1 r2 fm0 fm1 fm2 fr0 fr1 fr2
  have s0 : W.cell? ⟨w.heap.size + 1 + 1, 0, none⟩ = some (.int .i64 n) := by rw [show (⟨w.heap.size + 1 + 1, 0, none⟩ : Addr) = ⟨w.heap.size + 2, 0, none⟩ from rfl, blk_cell hbW.r]; rfl
  have s1 : W.cell? ⟨w.heap.size + 1 + 1, 1, none⟩ = some (.slice Al cs.length cl) := by rw [show (⟨w.heap.size + 1 + 1, 1, none⟩ : Addr) = ⟨w.heap.size + 2, 1, none⟩ from rfl, blk_cell hbW.r]; rfl
  have s2 : W.cell? ⟨w.heap.size + 1 + 1, 2, none⟩ = some (.slice Am marks.length cm) := by rw [show (⟨w.heap.size + 1 + 1, 2, none⟩ : Addr) = ⟨w.heap.size + 2, 2, none⟩ from rfl, blk_cell hbW.r]; rfl
  rw [show (⟨w.heap.size + 2, 0, none⟩ : Addr) = ⟨w.heap.size + 1 + 1, 0, none⟩ from rfl, show (⟨w.heap.size + 2, 1, none⟩ : Addr) = ⟨w.heap.size + 1 + 1, 1, none⟩ from rfl, show (⟨w.heap.size + 2, 2, none⟩ : Addr) = ⟨w.heap.size + 1 + 1, 2, none⟩ from rfl] at hW
  rw [← hW]
  clear hW hRW hbW
  refine bodyPost_ret (v := .tuple #[.agg #[.int .i64 n, .slice Al cs.length cl, .slice Am marks.length cm], .bool true]) ?_ rfl ⟨_, _, _, rfl, HEND.out⟩
  simp [results, Try.results30, go_sem, s0, s1, s2]

set_option maxHeartbeats 16000000 in
set_option maxRecDepth 100000 in
theorem play_Decide_arg (w0 : World) (ok P : Nat → Prop) (g : Nat) (vals : List Int) (cls : List (List Int × Int × Int)) (marks : List S48) (Al : Option Addr) (cl : Nat) (cs : List (List Int)) (Am : Option Addr) (cm : Nat) (n : Int) (Ac : Option Addr) (cc : Nat) (c : List Int) (lit N : Int) (w : World) (hb : litB n lit = false) (h : St w ok g vals cls marks) (hi : SInv n vals cls marks cs) (hM : Mod w0 w P (.slice Al cs.length cl) (.slice Am marks.length cm) cs marks) (hd : ∀ k, ok k → ¬ P k) (hb0 : Below w0.heap.size w0 w) (hrc : Kd.C (Kd.int .i64) w Ac c.length c) (hcc : c.length ≤ cc) (hcl : c.length ≤ 4194304) (hcsl : cs.length < 1048576) :
    Calls Try.prog 30 #[.pointer (some ⟨g, 0, none⟩), .agg #[.int .i64 n, .slice Al cs.length cl, .slice Am marks.length cm], .agg #[.int .i64 2, .slice Ac c.length cc, .int .i64 lit, .int .i64 N]] w fun e w' => ∃ n' vl' vm', e = .returned (.tuple #[.agg #[.int .i64 n', vl', vm'], .bool true]) ∧ PlayPost w0 w w' ok P g n' vl' vm' cs.length cc := by
  have H := Aside0.mk h
  have HI := Aside0.mk hi
  have HM := Aside0.mk hM
  have HD := Aside0.mk hd
  have HB0 := Aside0.mk hb0
  have HRC := Aside0.mk (And.intro hcc hrc)
  have hcll := hcl
  have hcsll := hcsl
  obtain ⟨hl1, hl2, hl3, hl4⟩ := hi.len
  have hn0 := hi.n0
  have HL1 := Aside0.mk hl1
  have HB := Aside0.mk (show litB ((vals.length : Int) - 1) lit = false by rw [hi.litE]; exact hb)
  have HLF := Aside0.mk ((Lit_f lit n hi.n0 (by omega)).trans (congrArg some hb))
  have HLB := Aside0.mk hb
  clear hb
  clear h hi hM hd hb0 hrc hcc hl1
  go_enter Try.func30, Try.ntmps30
  go_wp2_with fail
  obtain ⟨w1, hw1⟩ : ∃ w1, w1 = (((w.alloc (.cells #[.int .i64 n, .slice Al cs.length cl, .slice Am marks.length cm] 65)).alloc (.cells #[.int .i64 2, .slice Ac c.length cc, .int .i64 lit, .int .i64 N] 52)).alloc (.cells #[.int .i64 0, .slice none 0 0, .slice none 0 0] 65)) := ⟨_, rfl⟩
  have HS : Aside0 (PStart w0 w w1 ok P #[.int .i64 n, .slice Al cs.length cl, .slice Am marks.length cm] #[.int .i64 2, .slice Ac c.length cc, .int .i64 lit, .int .i64 N] #[.int .i64 0, .slice none 0 0, .slice none 0 0]) := ⟨by rw [hw1]; exact pstart w0 w ok P _ _ _⟩
  rw [← hw1]
  clear hw1
  have H1 : Aside0 (St w1 (fun k => ok k ∧ k < w.heap.size) g vals cls marks) := ⟨H.out.bound.below HS.out.bel⟩
  refine (st_Decide_arg _ g vals cls marks lit w1 H1.out HI.out.fit.v HB.out).mono ?_
  rintro e w3 ⟨rfl, hw3⟩
  have hb13 : Below w1.heap.size w1 w3 := hw3 ▸ Below.refl _ _
  have HB13 := Aside0.mk hb13
  have HBX := Aside0.mk (HS.out.box.below hb13)
  have HM3 : Aside0 (Mod w0 w3 (fun k => P k ∧ k < w.heap.size) (.slice Al cs.length cl) (.slice Am marks.length cm) cs marks) := ⟨(HM.out.bound.below HS.out.bel).below hb13⟩
  have HR3 : Aside0 (Rest w w3 (fun k => ok k ∨ P k)) := ⟨Rest.of_below (below_step HS.out.bel hb13) _⟩
  have HC3 := Aside0.mk (Kd.C_below HRC.out.2 (below_step HS.out.bel hb13))
  have HB03 := Aside0.mk (below_step HB0.out (below_step HS.out.bel hb13))
  have HCL3 := Aside0.mk (C_kC HB03.out (Kd.R_reads' HM3.out.rl).2.2)
  have HCM3 := Aside0.mk (Kd.R_reads' HM3.out.rm).2.2
  have HCLC := Aside0.mk (And.intro (Kd.R_reads' HM3.out.rl).2.1 (Kd.R_reads' HM3.out.rm).2.1)
  clear hb13
  have m0 : w3.cell? ⟨w.heap.size, 0, none⟩ = some (.int .i64 n) := by rw [blk_cell HBX.out.m]; rfl
  have m1 : w3.cell? ⟨w.heap.size, 1, none⟩ = some (.slice Al cs.length cl) := by rw [blk_cell HBX.out.m]; rfl
  have m2 : w3.cell? ⟨w.heap.size, 2, none⟩ = some (.slice Am marks.length cm) := by rw [blk_cell HBX.out.m]; rfl
  have o0 : w3.cell? ⟨w.heap.size + 1, 0, none⟩ = some (.int .i64 2) := by rw [blk_cell HBX.out.o]; rfl
  have o1 : w3.cell? ⟨w.heap.size + 1, 1, none⟩ = some (.slice Ac c.length cc) := by rw [blk_cell HBX.out.o]; rfl
  have o2 : w3.cell? ⟨w.heap.size + 1, 2, none⟩ = some (.int .i64 lit) := by rw [blk_cell HBX.out.o]; rfl
  have o3 : w3.cell? ⟨w.heap.size + 1, 3, none⟩ = some (.int .i64 N) := by rw [blk_cell HBX.out.o]; rfl
  have r0 : w3.cell? ⟨w.heap.size + 1 + 1, 0, none⟩ = some (.int .i64 0) := by rw [blk_cell HBX.out.r]; rfl
  have r1 : w3.cell? ⟨w.heap.size + 1 + 1, 1, none⟩ = some (.slice none 0 0) := by rw [blk_cell HBX.out.r]; rfl
  have r2 : w3.cell? ⟨w.heap.size + 1 + 1, 2, none⟩ = some (.slice none 0 0) := by rw [blk_cell HBX.out.r]; rfl
  have fm0 := blk_frozen HBX.out.m 0
  have fm1 := blk_frozen HBX.out.m 1
  have fm2 := blk_frozen HBX.out.m 2
  have fr0 := blk_frozen HBX.out.r 0
  have fr1 := blk_frozen HBX.out.r 1
  have fr2 := blk_frozen HBX.out.r 2
  go_wp2_with fail
  refine (fulcrumref20_Lit.calls lit n false _ HLF.out).mono ?_
  rintro e w4 ⟨rfl, ⟨nd1, rfl⟩⟩
  go_wp2
  obtain ⟨W, hW⟩ : ∃ W, W = ((((w3.drewN nd1).setCell ⟨w.heap.size + 2, 0, none⟩ (.int .i64 n)).setCell ⟨w.heap.size + 2, 1, none⟩ (.slice Al cs.length cl)).setCell ⟨w.heap.size + 2, 2, none⟩ (.slice Am marks.length cm)) := ⟨_, rfl⟩
  have hbW := (((HBX.out.below (pw_below_drewN (Below.refl _ _) nd1)).setr 0 (.int .i64 n)).setr 1 (.slice Al cs.length cl)).setr 2 (.slice Am marks.length cm)
  rw [← hW] at hbW
  have hRW : Rest w3 W (fun k => k = w.heap.size ∨ k = w.heap.size + 2) := by rw [hW]; exact Rest.set (p := ⟨w.heap.size + 2, 2, none⟩) (Rest.set (p := ⟨w.heap.size + 2, 1, none⟩) (Rest.set (p := ⟨w.heap.size + 2, 0, none⟩) ((Rest.refl _ _).drewN nd1) (.inr rfl) _) (.inr rfl) _) (.inr rfl) _
  have HEND := Aside0.mk (play_end (w0 := w0) (cc := cc) HS.out.sz HI.out (Nat.le_succ _) (H1.out.below HB13.out) HM3.out (fun k q1 q2 => HD.out k q1.1 q2.1) (fun k q => .inl q) (fun k q => .inl q) HR3.out hRW)
  clear m0 m1 m2 o0 o1 o2 o3 r0 r1 r2 fm0 fm1 fm2 fr0 fr1 fr2
  have s0 : W.cell? ⟨w.heap.size + 1 + 1, 0, none⟩ = some (.int .i64 n) := by rw [show (⟨w.heap.size + 1 + 1, 0, none⟩ : Addr) = ⟨w.heap.size + 2, 0, none⟩ from rfl, blk_cell hbW.r]; rfl
  have s1 : W.cell? ⟨w.heap.size + 1 + 1, 1, none⟩ = some (.slice Al cs.length cl) := by rw [show (⟨w.heap.size + 1 + 1, 1, none⟩ : Addr) = ⟨w.heap.size + 2, 1, none⟩ from rfl, blk_cell hbW.r]; rfl
  have s2 : W.cell? ⟨w.heap.size + 1 + 1, 2, none⟩ = some (.slice Am marks.length cm) := by rw [show (⟨w.heap.size + 1 + 1, 2, none⟩ : Addr) = ⟨w.heap.size + 2, 2, none⟩ from rfl, blk_cell hbW.r]; rfl
  rw [show (⟨w.heap.size + 2, 0, none⟩ : Addr) = ⟨w.heap.size + 1 + 1, 0, none⟩ from rfl, show (⟨w.heap.size + 2, 1, none⟩ : Addr) = ⟨w.heap.size + 1 + 1, 1, none⟩ from rfl, show (⟨w.heap.size + 2, 2, none⟩ : Addr) = ⟨w.heap.size + 1 + 1, 2, none⟩ from rfl] at hW
  rw [← hW]
  clear hW hRW hbW
  refine bodyPost_ret (v := .tuple #[.agg #[.int .i64 n, .slice Al cs.length cl, .slice Am marks.length cm], .bool true]) ?_ rfl ⟨_, _, _, rfl, HEND.out⟩
  simp [results, Try.results30, go_sem, s0, s1, s2]

set_option maxHeartbeats 16000000 in
set_option maxRecDepth 100000 in
theorem play_Decide_trail (w0 : World) (ok P : Nat → Prop) (g : Nat) (vals : List Int) (cls : List (List Int × Int × Int)) (marks : List S48) (Al : Option Addr) (cl : Nat) (cs : List (List Int)) (Am : Option Addr) (cm : Nat) (n : Int) (Ac : Option Addr) (cc : Nat) (c : List Int) (lit N : Int) (w : World) (hb : litB n lit = true) (hvl : ¬ valL vals lit = 0) (h : St w ok g vals cls marks) (hi : SInv n vals cls marks cs) (hM : Mod w0 w P (.slice Al cs.length cl) (.slice Am marks.length cm) cs marks) (hd : ∀ k, ok k → ¬ P k) (hb0 : Below w0.heap.size w0 w) (hrc : Kd.C (Kd.int .i64) w Ac c.length c) (hcc : c.length ≤ cc) (hcl : c.length ≤ 4194304) (hcsl : cs.length < 1048576) :
    Calls Try.prog 30 #[.pointer (some ⟨g, 0, none⟩), .agg #[.int .i64 n, .slice Al cs.length cl, .slice Am marks.length cm], .agg #[.int .i64 2, .slice Ac c.length cc, .int .i64 lit, .int .i64 N]] w fun e w' => ∃ n' vl' vm', e = .returned (.tuple #[.agg #[.int .i64 n', vl', vm'], .bool true]) ∧ PlayPost w0 w w' ok P g n' vl' vm' cs.length cc := by
  have H := Aside0.mk h
  have HI := Aside0.mk hi
  have HM := Aside0.mk hM
  have HD := Aside0.mk hd
  have HB0 := Aside0.mk hb0
  have HRC := Aside0.mk (And.intro hcc hrc)
  have hcll := hcl
  have hcsll := hcsl
  obtain ⟨hl1, hl2, hl3, hl4⟩ := hi.len
  have hn0 := hi.n0
  have HL1 := Aside0.mk hl1
  have HIR := Aside0.mk (show inR lit by have := litB_iff.1 hb; unfold inR; omega)
  have HVL := Aside0.mk hvl
  obtain ⟨ko, hko⟩ := (open_all marks lit (by omega) HIR.out).rounds
  have HKO : Aside0 (fulcrumref20_Open.f ko marks lit = some false) := ⟨by rw [hko, openB_val hi (litB_iff.1 hb).1, decide_eq_false hvl]⟩
  clear hko hvl
  have HB := Aside0.mk (show litB ((vals.length : Int) - 1) lit = true by rw [hi.litE]; exact hb)
  have HLF := Aside0.mk ((Lit_f lit n hi.n0 (by omega)).trans (congrArg some hb))
  have HLB := Aside0.mk hb
  clear hb
  clear h hi hM hd hb0 hrc hcc hl1
  go_enter Try.func30, Try.ntmps30
  go_wp2_with fail
  obtain ⟨w1, hw1⟩ : ∃ w1, w1 = (((w.alloc (.cells #[.int .i64 n, .slice Al cs.length cl, .slice Am marks.length cm] 65)).alloc (.cells #[.int .i64 2, .slice Ac c.length cc, .int .i64 lit, .int .i64 N] 52)).alloc (.cells #[.int .i64 0, .slice none 0 0, .slice none 0 0] 65)) := ⟨_, rfl⟩
  have HS : Aside0 (PStart w0 w w1 ok P #[.int .i64 n, .slice Al cs.length cl, .slice Am marks.length cm] #[.int .i64 2, .slice Ac c.length cc, .int .i64 lit, .int .i64 N] #[.int .i64 0, .slice none 0 0, .slice none 0 0]) := ⟨by rw [hw1]; exact pstart w0 w ok P _ _ _⟩
  rw [← hw1]
  clear hw1
  have H1 : Aside0 (St w1 (fun k => ok k ∧ k < w.heap.size) g vals cls marks) := ⟨H.out.bound.below HS.out.bel⟩
  refine (st_Decide_trail _ g vals cls marks lit w1 H1.out HI.out.fit.v HB.out HVL.out).mono ?_
  rintro e w3 ⟨rfl, hw3⟩
  have hb13 : Below w1.heap.size w1 w3 := hw3 ▸ Below.refl _ _
  have HB13 := Aside0.mk hb13
  have HBX := Aside0.mk (HS.out.box.below hb13)
  have HM3 : Aside0 (Mod w0 w3 (fun k => P k ∧ k < w.heap.size) (.slice Al cs.length cl) (.slice Am marks.length cm) cs marks) := ⟨(HM.out.bound.below HS.out.bel).below hb13⟩
  have HR3 : Aside0 (Rest w w3 (fun k => ok k ∨ P k)) := ⟨Rest.of_below (below_step HS.out.bel hb13) _⟩
  have HC3 := Aside0.mk (Kd.C_below HRC.out.2 (below_step HS.out.bel hb13))
  have HB03 := Aside0.mk (below_step HB0.out (below_step HS.out.bel hb13))
  have HCL3 := Aside0.mk (C_kC HB03.out (Kd.R_reads' HM3.out.rl).2.2)
  have HCM3 := Aside0.mk (Kd.R_reads' HM3.out.rm).2.2
  have HCLC := Aside0.mk (And.intro (Kd.R_reads' HM3.out.rl).2.1 (Kd.R_reads' HM3.out.rm).2.1)
  clear hb13
  have m0 : w3.cell? ⟨w.heap.size, 0, none⟩ = some (.int .i64 n) := by rw [blk_cell HBX.out.m]; rfl
  have m1 : w3.cell? ⟨w.heap.size, 1, none⟩ = some (.slice Al cs.length cl) := by rw [blk_cell HBX.out.m]; rfl
  have m2 : w3.cell? ⟨w.heap.size, 2, none⟩ = some (.slice Am marks.length cm) := by rw [blk_cell HBX.out.m]; rfl
  have o0 : w3.cell? ⟨w.heap.size + 1, 0, none⟩ = some (.int .i64 2) := by rw [blk_cell HBX.out.o]; rfl
  have o1 : w3.cell? ⟨w.heap.size + 1, 1, none⟩ = some (.slice Ac c.length cc) := by rw [blk_cell HBX.out.o]; rfl
  have o2 : w3.cell? ⟨w.heap.size + 1, 2, none⟩ = some (.int .i64 lit) := by rw [blk_cell HBX.out.o]; rfl
  have o3 : w3.cell? ⟨w.heap.size + 1, 3, none⟩ = some (.int .i64 N) := by rw [blk_cell HBX.out.o]; rfl
  have r0 : w3.cell? ⟨w.heap.size + 1 + 1, 0, none⟩ = some (.int .i64 0) := by rw [blk_cell HBX.out.r]; rfl
  have r1 : w3.cell? ⟨w.heap.size + 1 + 1, 1, none⟩ = some (.slice none 0 0) := by rw [blk_cell HBX.out.r]; rfl
  have r2 : w3.cell? ⟨w.heap.size + 1 + 1, 2, none⟩ = some (.slice none 0 0) := by rw [blk_cell HBX.out.r]; rfl
  have fm0 := blk_frozen HBX.out.m 0
  have fm1 := blk_frozen HBX.out.m 1
  have fm2 := blk_frozen HBX.out.m 2
  have fr0 := blk_frozen HBX.out.r 0
  have fr1 := blk_frozen HBX.out.r 1
  have fr2 := blk_frozen HBX.out.r 2
  go_wp2_with fail
  refine (fulcrumref20_Lit.calls lit n true _ HLF.out).mono ?_
  rintro e w4 ⟨rfl, ⟨nd1, rfl⟩⟩
  go_wp2_with fail
  refine (fulcrumref20_Open.calls ko Am cm marks lit false _ (by repeat (first | exact HCM3.out | refine Kd.C_drewN ?_ _)) HCLC.out.2 HKO.out).mono ?_
  rintro e w5 ⟨rfl, ⟨nd2, rfl⟩⟩
  go_wp2
  obtain ⟨W, hW⟩ : ∃ W, W = ((((w3.drewN (nd1 + nd2)).setCell ⟨w.heap.size + 2, 0, none⟩ (.int .i64 n)).setCell ⟨w.heap.size + 2, 1, none⟩ (.slice Al cs.length cl)).setCell ⟨w.heap.size + 2, 2, none⟩ (.slice Am marks.length cm)) := ⟨_, rfl⟩
  have hbW := (((HBX.out.below (pw_below_drewN (Below.refl _ _) (nd1 + nd2))).setr 0 (.int .i64 n)).setr 1 (.slice Al cs.length cl)).setr 2 (.slice Am marks.length cm)
  rw [← hW] at hbW
  have hRW : Rest w3 W (fun k => k = w.heap.size ∨ k = w.heap.size + 2) := by rw [hW]; exact Rest.set (p := ⟨w.heap.size + 2, 2, none⟩) (Rest.set (p := ⟨w.heap.size + 2, 1, none⟩) (Rest.set (p := ⟨w.heap.size + 2, 0, none⟩) ((Rest.refl _ _).drewN (nd1 + nd2)) (.inr rfl) _) (.inr rfl) _) (.inr rfl) _
  have HEND := Aside0.mk (play_end (w0 := w0) (cc := cc) HS.out.sz HI.out (Nat.le_succ _) (H1.out.below HB13.out) HM3.out (fun k q1 q2 => HD.out k q1.1 q2.1) (fun k q => .inl q) (fun k q => .inl q) HR3.out hRW)
  clear m0 m1 m2 o0 o1 o2 o3 r0 r1 r2 fm0 fm1 fm2 fr0 fr1 fr2
  have s0 : W.cell? ⟨w.heap.size + 1 + 1, 0, none⟩ = some (.int .i64 n) := by rw [show (⟨w.heap.size + 1 + 1, 0, none⟩ : Addr) = ⟨w.heap.size + 2, 0, none⟩ from rfl, blk_cell hbW.r]; rfl
  have s1 : W.cell? ⟨w.heap.size + 1 + 1, 1, none⟩ = some (.slice Al cs.length cl) := by rw [show (⟨w.heap.size + 1 + 1, 1, none⟩ : Addr) = ⟨w.heap.size + 2, 1, none⟩ from rfl, blk_cell hbW.r]; rfl
  have s2 : W.cell? ⟨w.heap.size + 1 + 1, 2, none⟩ = some (.slice Am marks.length cm) := by rw [show (⟨w.heap.size + 1 + 1, 2, none⟩ : Addr) = ⟨w.heap.size + 2, 2, none⟩ from rfl, blk_cell hbW.r]; rfl
  rw [show (⟨w.heap.size + 2, 0, none⟩ : Addr) = ⟨w.heap.size + 1 + 1, 0, none⟩ from rfl, show (⟨w.heap.size + 2, 1, none⟩ : Addr) = ⟨w.heap.size + 1 + 1, 1, none⟩ from rfl, show (⟨w.heap.size + 2, 2, none⟩ : Addr) = ⟨w.heap.size + 1 + 1, 2, none⟩ from rfl] at hW
  rw [← hW]
  clear hW hRW hbW
  refine bodyPost_ret (v := .tuple #[.agg #[.int .i64 n, .slice Al cs.length cl, .slice Am marks.length cm], .bool true]) ?_ rfl ⟨_, _, _, rfl, HEND.out⟩
  simp [results, Try.results30, go_sem, s0, s1, s2]

set_option maxHeartbeats 16000000 in
set_option maxRecDepth 100000 in
theorem play_none (w0 : World) (ok P : Nat → Prop) (g : Nat) (vals : List Int) (cls : List (List Int × Int × Int)) (marks : List S48) (Al : Option Addr) (cl : Nat) (cs : List (List Int)) (Am : Option Addr) (cm : Nat) (n : Int) (Ac : Option Addr) (cc : Nat) (c : List Int) (lit N D : Int) (w : World) (hD : ∀ k : Int, 0 ≤ k → k ≤ 5 → D ≠ k) (h : St w ok g vals cls marks) (hi : SInv n vals cls marks cs) (hM : Mod w0 w P (.slice Al cs.length cl) (.slice Am marks.length cm) cs marks) (hd : ∀ k, ok k → ¬ P k) (hb0 : Below w0.heap.size w0 w) (hrc : Kd.C (Kd.int .i64) w Ac c.length c) (hcc : c.length ≤ cc) (hcl : c.length ≤ 4194304) (hcsl : cs.length < 1048576) :
    Calls Try.prog 30 #[.pointer (some ⟨g, 0, none⟩), .agg #[.int .i64 n, .slice Al cs.length cl, .slice Am marks.length cm], .agg #[.int .i64 D, .slice Ac c.length cc, .int .i64 lit, .int .i64 N]] w fun e w' => ∃ n' vl' vm', e = .returned (.tuple #[.agg #[.int .i64 n', vl', vm'], .bool true]) ∧ PlayPost w0 w w' ok P g n' vl' vm' cs.length cc := by
  have H := Aside0.mk h
  have HI := Aside0.mk hi
  have HM := Aside0.mk hM
  have HD := Aside0.mk hd
  have HB0 := Aside0.mk hb0
  have HRC := Aside0.mk (And.intro hcc hrc)
  have hcll := hcl
  have hcsll := hcsl
  obtain ⟨hl1, hl2, hl3, hl4⟩ := hi.len
  have hn0 := hi.n0
  have HL1 := Aside0.mk hl1
  have e0 : (D == 0) = false := beq_eq_false_iff_ne.2 (hD 0 (by decide) (by decide))
  have e1 : (D == 1) = false := beq_eq_false_iff_ne.2 (hD 1 (by decide) (by decide))
  have e2 : (D == 2) = false := beq_eq_false_iff_ne.2 (hD 2 (by decide) (by decide))
  have e3 : (D == 3) = false := beq_eq_false_iff_ne.2 (hD 3 (by decide) (by decide))
  have e4 : (D == 4) = false := beq_eq_false_iff_ne.2 (hD 4 (by decide) (by decide))
  have e5 : (D == 5) = false := beq_eq_false_iff_ne.2 (hD 5 (by decide) (by decide))
  clear hD
  clear h hi hM hd hb0 hrc hcc hl1
  go_enter Try.func30, Try.ntmps30
  go_wp2
  obtain ⟨w1, hw1⟩ : ∃ w1, w1 = (((w.alloc (.cells #[.int .i64 n, .slice Al cs.length cl, .slice Am marks.length cm] 65)).alloc (.cells #[.int .i64 D, .slice Ac c.length cc, .int .i64 lit, .int .i64 N] 52)).alloc (.cells #[.int .i64 n, .slice Al cs.length cl, .slice Am marks.length cm] 65)) := ⟨_, rfl⟩
  have HS : Aside0 (PStart w0 w w1 ok P #[.int .i64 n, .slice Al cs.length cl, .slice Am marks.length cm] #[.int .i64 D, .slice Ac c.length cc, .int .i64 lit, .int .i64 N] #[.int .i64 n, .slice Al cs.length cl, .slice Am marks.length cm]) := ⟨by rw [hw1]; exact pstart w0 w ok P _ _ _⟩
  rw [← hw1]
  clear hw1
  have H1 : Aside0 (St w1 (fun k => ok k ∧ k < w.heap.size) g vals cls marks) := ⟨H.out.bound.below HS.out.bel⟩
  have HM3 : Aside0 (Mod w0 w1 (fun k => P k ∧ k < w.heap.size) (.slice Al cs.length cl) (.slice Am marks.length cm) cs marks) := ⟨HM.out.bound.below HS.out.bel⟩
  have HEND := Aside0.mk (play_end (w0 := w0) (cc := cc) HS.out.sz HI.out (Nat.le_succ _) H1.out HM3.out (fun k q1 q2 => HD.out k q1.1 q2.1) (fun k q => .inl q) (fun k q => .inl q) (Rest.of_below HS.out.bel _) (Rest.refl _ _))
  have s0 : w1.cell? ⟨w.heap.size + 1 + 1, 0, none⟩ = some (.int .i64 n) := by rw [show (⟨w.heap.size + 1 + 1, 0, none⟩ : Addr) = ⟨w.heap.size + 2, 0, none⟩ from rfl, blk_cell HS.out.box.r]; rfl
  have s1 : w1.cell? ⟨w.heap.size + 1 + 1, 1, none⟩ = some (.slice Al cs.length cl) := by rw [show (⟨w.heap.size + 1 + 1, 1, none⟩ : Addr) = ⟨w.heap.size + 2, 1, none⟩ from rfl, blk_cell HS.out.box.r]; rfl
  have s2 : w1.cell? ⟨w.heap.size + 1 + 1, 2, none⟩ = some (.slice Am marks.length cm) := by rw [show (⟨w.heap.size + 1 + 1, 2, none⟩ : Addr) = ⟨w.heap.size + 2, 2, none⟩ from rfl, blk_cell HS.out.box.r]; rfl
  refine bodyPost_ret (v := .tuple #[.agg #[.int .i64 n, .slice Al cs.length cl, .slice Am marks.length cm], .bool true]) ?_ rfl ⟨_, _, _, rfl, HEND.out⟩
  simp [results, Try.results30, go_sem, s0, s1, s2]

set_option maxHeartbeats 16000000 in
set_option maxRecDepth 100000 in
theorem play_Force_arg (w0 : World) (ok P : Nat → Prop) (g : Nat) (vals : List Int) (cls : List (List Int × Int × Int)) (marks : List S48) (Al : Option Addr) (cl : Nat) (cs : List (List Int)) (Am : Option Addr) (cm : Nat) (n : Int) (Ac : Option Addr) (cc : Nat) (c : List Int) (lit N : Int) (w : World) (hb : litB n lit = false) (h : St w ok g vals cls marks) (hi : SInv n vals cls marks cs) (hM : Mod w0 w P (.slice Al cs.length cl) (.slice Am marks.length cm) cs marks) (hd : ∀ k, ok k → ¬ P k) (hb0 : Below w0.heap.size w0 w) (hrc : Kd.C (Kd.int .i64) w Ac c.length c) (hcc : c.length ≤ cc) (hcl : c.length ≤ 4194304) (hcsl : cs.length < 1048576) :
    Calls Try.prog 30 #[.pointer (some ⟨g, 0, none⟩), .agg #[.int .i64 n, .slice Al cs.length cl, .slice Am marks.length cm], .agg #[.int .i64 3, .slice Ac c.length cc, .int .i64 lit, .int .i64 N]] w fun e w' => ∃ n' vl' vm', e = .returned (.tuple #[.agg #[.int .i64 n', vl', vm'], .bool true]) ∧ PlayPost w0 w w' ok P g n' vl' vm' cs.length cc := by
  have H := Aside0.mk h
  have HI := Aside0.mk hi
  have HM := Aside0.mk hM
  have HD := Aside0.mk hd
  have HB0 := Aside0.mk hb0
  have HRC := Aside0.mk (And.intro hcc hrc)
  have hcll := hcl
  have hcsll := hcsl
  obtain ⟨hl1, hl2, hl3, hl4⟩ := hi.len
  have hn0 := hi.n0
  have HL1 := Aside0.mk hl1
  have HB := Aside0.mk (show litB ((vals.length : Int) - 1) lit = false by rw [hi.litE]; exact hb)
  have HLF := Aside0.mk ((Lit_f lit n hi.n0 (by omega)).trans (congrArg some hb))
  have HLB := Aside0.mk hb
  clear hb
  clear h hi hM hd hb0 hrc hcc hl1
  go_enter Try.func30, Try.ntmps30
  go_wp2_with fail
  obtain ⟨w1, hw1⟩ : ∃ w1, w1 = (((w.alloc (.cells #[.int .i64 n, .slice Al cs.length cl, .slice Am marks.length cm] 65)).alloc (.cells #[.int .i64 3, .slice Ac c.length cc, .int .i64 lit, .int .i64 N] 52)).alloc (.cells #[.int .i64 0, .slice none 0 0, .slice none 0 0] 65)) := ⟨_, rfl⟩
  have HS : Aside0 (PStart w0 w w1 ok P #[.int .i64 n, .slice Al cs.length cl, .slice Am marks.length cm] #[.int .i64 3, .slice Ac c.length cc, .int .i64 lit, .int .i64 N] #[.int .i64 0, .slice none 0 0, .slice none 0 0]) := ⟨by rw [hw1]; exact pstart w0 w ok P _ _ _⟩
  rw [← hw1]
  clear hw1
  have H1 : Aside0 (St w1 (fun k => ok k ∧ k < w.heap.size) g vals cls marks) := ⟨H.out.bound.below HS.out.bel⟩
  refine (st_Force_arg _ g vals cls marks lit N w1 H1.out HI.out.fok HB.out).mono ?_
  rintro e w3 ⟨rfl, hw3⟩
  have hb13 : Below w1.heap.size w1 w3 := hw3 ▸ Below.refl _ _
  have HB13 := Aside0.mk hb13
  have HBX := Aside0.mk (HS.out.box.below hb13)
  have HM3 : Aside0 (Mod w0 w3 (fun k => P k ∧ k < w.heap.size) (.slice Al cs.length cl) (.slice Am marks.length cm) cs marks) := ⟨(HM.out.bound.below HS.out.bel).below hb13⟩
  have HR3 : Aside0 (Rest w w3 (fun k => ok k ∨ P k)) := ⟨Rest.of_below (below_step HS.out.bel hb13) _⟩
  have HC3 := Aside0.mk (Kd.C_below HRC.out.2 (below_step HS.out.bel hb13))
  have HB03 := Aside0.mk (below_step HB0.out (below_step HS.out.bel hb13))
  have HCL3 := Aside0.mk (C_kC HB03.out (Kd.R_reads' HM3.out.rl).2.2)
  have HCM3 := Aside0.mk (Kd.R_reads' HM3.out.rm).2.2
  have HCLC := Aside0.mk (And.intro (Kd.R_reads' HM3.out.rl).2.1 (Kd.R_reads' HM3.out.rm).2.1)
  clear hb13
  have m0 : w3.cell? ⟨w.heap.size, 0, none⟩ = some (.int .i64 n) := by rw [blk_cell HBX.out.m]; rfl
  have m1 : w3.cell? ⟨w.heap.size, 1, none⟩ = some (.slice Al cs.length cl) := by rw [blk_cell HBX.out.m]; rfl
  have m2 : w3.cell? ⟨w.heap.size, 2, none⟩ = some (.slice Am marks.length cm) := by rw [blk_cell HBX.out.m]; rfl
  have o0 : w3.cell? ⟨w.heap.size + 1, 0, none⟩ = some (.int .i64 3) := by rw [blk_cell HBX.out.o]; rfl
  have o1 : w3.cell? ⟨w.heap.size + 1, 1, none⟩ = some (.slice Ac c.length cc) := by rw [blk_cell HBX.out.o]; rfl
  have o2 : w3.cell? ⟨w.heap.size + 1, 2, none⟩ = some (.int .i64 lit) := by rw [blk_cell HBX.out.o]; rfl
  have o3 : w3.cell? ⟨w.heap.size + 1, 3, none⟩ = some (.int .i64 N) := by rw [blk_cell HBX.out.o]; rfl
  have r0 : w3.cell? ⟨w.heap.size + 1 + 1, 0, none⟩ = some (.int .i64 0) := by rw [blk_cell HBX.out.r]; rfl
  have r1 : w3.cell? ⟨w.heap.size + 1 + 1, 1, none⟩ = some (.slice none 0 0) := by rw [blk_cell HBX.out.r]; rfl
  have r2 : w3.cell? ⟨w.heap.size + 1 + 1, 2, none⟩ = some (.slice none 0 0) := by rw [blk_cell HBX.out.r]; rfl
  have fm0 := blk_frozen HBX.out.m 0
  have fm1 := blk_frozen HBX.out.m 1
  have fm2 := blk_frozen HBX.out.m 2
  have fr0 := blk_frozen HBX.out.r 0
  have fr1 := blk_frozen HBX.out.r 1
  have fr2 := blk_frozen HBX.out.r 2
  go_wp2_with fail
  refine (fulcrumref20_Lit.calls lit n false _ HLF.out).mono ?_
  rintro e w4 ⟨rfl, ⟨nd1, rfl⟩⟩
  go_wp2
  obtain ⟨W, hW⟩ : ∃ W, W = ((((w3.drewN nd1).setCell ⟨w.heap.size + 2, 0, none⟩ (.int .i64 n)).setCell ⟨w.heap.size + 2, 1, none⟩ (.slice Al cs.length cl)).setCell ⟨w.heap.size + 2, 2, none⟩ (.slice Am marks.length cm)) := ⟨_, rfl⟩
  have hbW := (((HBX.out.below (pw_below_drewN (Below.refl _ _) nd1)).setr 0 (.int .i64 n)).setr 1 (.slice Al cs.length cl)).setr 2 (.slice Am marks.length cm)
  rw [← hW] at hbW
  have hRW : Rest w3 W (fun k => k = w.heap.size ∨ k = w.heap.size + 2) := by rw [hW]; exact Rest.set (p := ⟨w.heap.size + 2, 2, none⟩) (Rest.set (p := ⟨w.heap.size + 2, 1, none⟩) (Rest.set (p := ⟨w.heap.size + 2, 0, none⟩) ((Rest.refl _ _).drewN nd1) (.inr rfl) _) (.inr rfl) _) (.inr rfl) _
  have HEND := Aside0.mk (play_end (w0 := w0) (cc := cc) HS.out.sz HI.out (Nat.le_succ _) (H1.out.below HB13.out) HM3.out (fun k q1 q2 => HD.out k q1.1 q2.1) (fun k q => .inl q) (fun k q => .inl q) HR3.out hRW)
  clear m0 m1 m2 o0 o1 o2 o3 r0 r1 r2 fm0 fm1 fm2 fr0 fr1 fr2
  have s0 : W.cell? ⟨w.heap.size + 1 + 1, 0, none⟩ = some (.int .i64 n) := by rw [show (⟨w.heap.size + 1 + 1, 0, none⟩ : Addr) = ⟨w.heap.size + 2, 0, none⟩ from rfl, blk_cell hbW.r]; rfl
  have s1 : W.cell? ⟨w.heap.size + 1 + 1, 1, none⟩ = some (.slice Al cs.length cl) := by rw [show (⟨w.heap.size + 1 + 1, 1, none⟩ : Addr) = ⟨w.heap.size + 2, 1, none⟩ from rfl, blk_cell hbW.r]; rfl
  have s2 : W.cell? ⟨w.heap.size + 1 + 1, 2, none⟩ = some (.slice Am marks.length cm) := by rw [show (⟨w.heap.size + 1 + 1, 2, none⟩ : Addr) = ⟨w.heap.size + 2, 2, none⟩ from rfl, blk_cell hbW.r]; rfl
  rw [show (⟨w.heap.size + 2, 0, none⟩ : Addr) = ⟨w.heap.size + 1 + 1, 0, none⟩ from rfl, show (⟨w.heap.size + 2, 1, none⟩ : Addr) = ⟨w.heap.size + 1 + 1, 1, none⟩ from rfl, show (⟨w.heap.size + 2, 2, none⟩ : Addr) = ⟨w.heap.size + 1 + 1, 2, none⟩ from rfl] at hW
  rw [← hW]
  clear hW hRW hbW
  refine bodyPost_ret (v := .tuple #[.agg #[.int .i64 n, .slice Al cs.length cl, .slice Am marks.length cm], .bool true]) ?_ rfl ⟨_, _, _, rfl, HEND.out⟩
  simp [results, Try.results30, go_sem, s0, s1, s2]

set_option maxHeartbeats 16000000 in
set_option maxRecDepth 100000 in
theorem play_Force_neg (w0 : World) (ok P : Nat → Prop) (g : Nat) (vals : List Int) (cls : List (List Int × Int × Int)) (marks : List S48) (Al : Option Addr) (cl : Nat) (cs : List (List Int)) (Am : Option Addr) (cm : Nat) (n : Int) (Ac : Option Addr) (cc : Nat) (c : List Int) (lit N : Int) (w : World) (hb : litB n lit = true) (hN : N < 0) (h : St w ok g vals cls marks) (hi : SInv n vals cls marks cs) (hM : Mod w0 w P (.slice Al cs.length cl) (.slice Am marks.length cm) cs marks) (hd : ∀ k, ok k → ¬ P k) (hb0 : Below w0.heap.size w0 w) (hrc : Kd.C (Kd.int .i64) w Ac c.length c) (hcc : c.length ≤ cc) (hcl : c.length ≤ 4194304) (hcsl : cs.length < 1048576) :
    Calls Try.prog 30 #[.pointer (some ⟨g, 0, none⟩), .agg #[.int .i64 n, .slice Al cs.length cl, .slice Am marks.length cm], .agg #[.int .i64 3, .slice Ac c.length cc, .int .i64 lit, .int .i64 N]] w fun e w' => ∃ n' vl' vm', e = .returned (.tuple #[.agg #[.int .i64 n', vl', vm'], .bool true]) ∧ PlayPost w0 w w' ok P g n' vl' vm' cs.length cc := by
  have H := Aside0.mk h
  have HI := Aside0.mk hi
  have HM := Aside0.mk hM
  have HD := Aside0.mk hd
  have HB0 := Aside0.mk hb0
  have HRC := Aside0.mk (And.intro hcc hrc)
  have hcll := hcl
  have hcsll := hcsl
  obtain ⟨hl1, hl2, hl3, hl4⟩ := hi.len
  have hn0 := hi.n0
  have HL1 := Aside0.mk hl1
  have dN : decide (N < 0) = true := decide_eq_true hN
  have HN := Aside0.mk hN
  clear hN
  have HB := Aside0.mk (show litB ((vals.length : Int) - 1) lit = true by rw [hi.litE]; exact hb)
  have HLF := Aside0.mk ((Lit_f lit n hi.n0 (by omega)).trans (congrArg some hb))
  have HLB := Aside0.mk hb
  clear hb
  clear h hi hM hd hb0 hrc hcc hl1
  go_enter Try.func30, Try.ntmps30
  go_wp2_with fail
  obtain ⟨w1, hw1⟩ : ∃ w1, w1 = (((w.alloc (.cells #[.int .i64 n, .slice Al cs.length cl, .slice Am marks.length cm] 65)).alloc (.cells #[.int .i64 3, .slice Ac c.length cc, .int .i64 lit, .int .i64 N] 52)).alloc (.cells #[.int .i64 0, .slice none 0 0, .slice none 0 0] 65)) := ⟨_, rfl⟩
  have HS : Aside0 (PStart w0 w w1 ok P #[.int .i64 n, .slice Al cs.length cl, .slice Am marks.length cm] #[.int .i64 3, .slice Ac c.length cc, .int .i64 lit, .int .i64 N] #[.int .i64 0, .slice none 0 0, .slice none 0 0]) := ⟨by rw [hw1]; exact pstart w0 w ok P _ _ _⟩
  rw [← hw1]
  clear hw1
  have H1 : Aside0 (St w1 (fun k => ok k ∧ k < w.heap.size) g vals cls marks) := ⟨H.out.bound.below HS.out.bel⟩
  refine (st_Force_clause _ g vals cls marks lit N w1 H1.out HI.out.fok HB.out (.inl HN.out)).mono ?_
  rintro e w3 ⟨rfl, hd3⟩
  have hb13 : Below w1.heap.size w1 w3 := hd3.below
  have HB13 := Aside0.mk hb13
  have HBX := Aside0.mk (HS.out.box.below hb13)
  have HM3 : Aside0 (Mod w0 w3 (fun k => P k ∧ k < w.heap.size) (.slice Al cs.length cl) (.slice Am marks.length cm) cs marks) := ⟨(HM.out.bound.below HS.out.bel).below hb13⟩
  have HR3 : Aside0 (Rest w w3 (fun k => ok k ∨ P k)) := ⟨Rest.of_below (below_step HS.out.bel hb13) _⟩
  have HC3 := Aside0.mk (Kd.C_below HRC.out.2 (below_step HS.out.bel hb13))
  have HB03 := Aside0.mk (below_step HB0.out (below_step HS.out.bel hb13))
  have HCL3 := Aside0.mk (C_kC HB03.out (Kd.R_reads' HM3.out.rl).2.2)
  have HCM3 := Aside0.mk (Kd.R_reads' HM3.out.rm).2.2
  have HCLC := Aside0.mk (And.intro (Kd.R_reads' HM3.out.rl).2.1 (Kd.R_reads' HM3.out.rm).2.1)
  clear hb13
  have m0 : w3.cell? ⟨w.heap.size, 0, none⟩ = some (.int .i64 n) := by rw [blk_cell HBX.out.m]; rfl
  have m1 : w3.cell? ⟨w.heap.size, 1, none⟩ = some (.slice Al cs.length cl) := by rw [blk_cell HBX.out.m]; rfl
  have m2 : w3.cell? ⟨w.heap.size, 2, none⟩ = some (.slice Am marks.length cm) := by rw [blk_cell HBX.out.m]; rfl
  have o0 : w3.cell? ⟨w.heap.size + 1, 0, none⟩ = some (.int .i64 3) := by rw [blk_cell HBX.out.o]; rfl
  have o1 : w3.cell? ⟨w.heap.size + 1, 1, none⟩ = some (.slice Ac c.length cc) := by rw [blk_cell HBX.out.o]; rfl
  have o2 : w3.cell? ⟨w.heap.size + 1, 2, none⟩ = some (.int .i64 lit) := by rw [blk_cell HBX.out.o]; rfl
  have o3 : w3.cell? ⟨w.heap.size + 1, 3, none⟩ = some (.int .i64 N) := by rw [blk_cell HBX.out.o]; rfl
  have r0 : w3.cell? ⟨w.heap.size + 1 + 1, 0, none⟩ = some (.int .i64 0) := by rw [blk_cell HBX.out.r]; rfl
  have r1 : w3.cell? ⟨w.heap.size + 1 + 1, 1, none⟩ = some (.slice none 0 0) := by rw [blk_cell HBX.out.r]; rfl
  have r2 : w3.cell? ⟨w.heap.size + 1 + 1, 2, none⟩ = some (.slice none 0 0) := by rw [blk_cell HBX.out.r]; rfl
  have fm0 := blk_frozen HBX.out.m 0
  have fm1 := blk_frozen HBX.out.m 1
  have fm2 := blk_frozen HBX.out.m 2
  have fr0 := blk_frozen HBX.out.r 0
  have fr1 := blk_frozen HBX.out.r 1
  have fr2 := blk_frozen HBX.out.r 2
  go_wp2_with fail
  refine (fulcrumref20_Lit.calls lit n true _ HLF.out).mono ?_
  rintro e w4 ⟨rfl, ⟨nd1, rfl⟩⟩
  go_wp2
  obtain ⟨W, hW⟩ : ∃ W, W = ((((w3.drewN nd1).setCell ⟨w.heap.size + 2, 0, none⟩ (.int .i64 n)).setCell ⟨w.heap.size + 2, 1, none⟩ (.slice Al cs.length cl)).setCell ⟨w.heap.size + 2, 2, none⟩ (.slice Am marks.length cm)) := ⟨_, rfl⟩
  have hbW := (((HBX.out.below (pw_below_drewN (Below.refl _ _) nd1)).setr 0 (.int .i64 n)).setr 1 (.slice Al cs.length cl)).setr 2 (.slice Am marks.length cm)
  rw [← hW] at hbW
  have hRW : Rest w3 W (fun k => k = w.heap.size ∨ k = w.heap.size + 2) := by rw [hW]; exact Rest.set (p := ⟨w.heap.size + 2, 2, none⟩) (Rest.set (p := ⟨w.heap.size + 2, 1, none⟩) (Rest.set (p := ⟨w.heap.size + 2, 0, none⟩) ((Rest.refl _ _).drewN nd1) (.inr rfl) _) (.inr rfl) _) (.inr rfl) _
  have HEND := Aside0.mk (play_end (w0 := w0) (cc := cc) HS.out.sz HI.out (Nat.le_succ _) (H1.out.below HB13.out) HM3.out (fun k q1 q2 => HD.out k q1.1 q2.1) (fun k q => .inl q) (fun k q => .inl q) HR3.out hRW)
  clear m0 m1 m2 o0 o1 o2 o3 r0 r1 r2 fm0 fm1 fm2 fr0 fr1 fr2
  have s0 : W.cell? ⟨w.heap.size + 1 + 1, 0, none⟩ = some (.int .i64 n) := by rw [show (⟨w.heap.size + 1 + 1, 0, none⟩ : Addr) = ⟨w.heap.size + 2, 0, none⟩ from rfl, blk_cell hbW.r]; rfl
  have s1 : W.cell? ⟨w.heap.size + 1 + 1, 1, none⟩ = some (.slice Al cs.length cl) := by rw [show (⟨w.heap.size + 1 + 1, 1, none⟩ : Addr) = ⟨w.heap.size + 2, 1, none⟩ from rfl, blk_cell hbW.r]; rfl
  have s2 : W.cell? ⟨w.heap.size + 1 + 1, 2, none⟩ = some (.slice Am marks.length cm) := by rw [show (⟨w.heap.size + 1 + 1, 2, none⟩ : Addr) = ⟨w.heap.size + 2, 2, none⟩ from rfl, blk_cell hbW.r]; rfl
  rw [show (⟨w.heap.size + 2, 0, none⟩ : Addr) = ⟨w.heap.size + 1 + 1, 0, none⟩ from rfl, show (⟨w.heap.size + 2, 1, none⟩ : Addr) = ⟨w.heap.size + 1 + 1, 1, none⟩ from rfl, show (⟨w.heap.size + 2, 2, none⟩ : Addr) = ⟨w.heap.size + 1 + 1, 2, none⟩ from rfl] at hW
  rw [← hW]
  clear hW hRW hbW
  refine bodyPost_ret (v := .tuple #[.agg #[.int .i64 n, .slice Al cs.length cl, .slice Am marks.length cm], .bool true]) ?_ rfl ⟨_, _, _, rfl, HEND.out⟩
  simp [results, Try.results30, go_sem, s0, s1, s2]

set_option maxHeartbeats 16000000 in
set_option maxRecDepth 100000 in
theorem play_Force_high (w0 : World) (ok P : Nat → Prop) (g : Nat) (vals : List Int) (cls : List (List Int × Int × Int)) (marks : List S48) (Al : Option Addr) (cl : Nat) (cs : List (List Int)) (Am : Option Addr) (cm : Nat) (n : Int) (Ac : Option Addr) (cc : Nat) (c : List Int) (lit N : Int) (w : World) (hb : litB n lit = true) (hN : ¬ N < 0) (hN2 : (cs.length : Int) ≤ N) (h : St w ok g vals cls marks) (hi : SInv n vals cls marks cs) (hM : Mod w0 w P (.slice Al cs.length cl) (.slice Am marks.length cm) cs marks) (hd : ∀ k, ok k → ¬ P k) (hb0 : Below w0.heap.size w0 w) (hrc : Kd.C (Kd.int .i64) w Ac c.length c) (hcc : c.length ≤ cc) (hcl : c.length ≤ 4194304) (hcsl : cs.length < 1048576) :
    Calls Try.prog 30 #[.pointer (some ⟨g, 0, none⟩), .agg #[.int .i64 n, .slice Al cs.length cl, .slice Am marks.length cm], .agg #[.int .i64 3, .slice Ac c.length cc, .int .i64 lit, .int .i64 N]] w fun e w' => ∃ n' vl' vm', e = .returned (.tuple #[.agg #[.int .i64 n', vl', vm'], .bool true]) ∧ PlayPost w0 w w' ok P g n' vl' vm' cs.length cc := by
  have H := Aside0.mk h
  have HI := Aside0.mk hi
  have HM := Aside0.mk hM
  have HD := Aside0.mk hd
  have HB0 := Aside0.mk hb0
  have HRC := Aside0.mk (And.intro hcc hrc)
  have hcll := hcl
  have hcsll := hcsl
  obtain ⟨hl1, hl2, hl3, hl4⟩ := hi.len
  have hn0 := hi.n0
  have HL1 := Aside0.mk hl1
  have dN : decide (N < 0) = false := decide_eq_false hN
  have dN2 : decide ((cs.length : Int) ≤ N) = true := decide_eq_true hN2
  have hcc2 : cs.length = cls.length := by rw [← hi.ecs, List.length_map]
  have HN := Aside0.mk (show (cls.length : Int) ≤ N by omega)
  clear hN hN2 hcc2
  have HB := Aside0.mk (show litB ((vals.length : Int) - 1) lit = true by rw [hi.litE]; exact hb)
  have HLF := Aside0.mk ((Lit_f lit n hi.n0 (by omega)).trans (congrArg some hb))
  have HLB := Aside0.mk hb
  clear hb
  clear h hi hM hd hb0 hrc hcc hl1
  go_enter Try.func30, Try.ntmps30
  go_wp2_with fail
  obtain ⟨w1, hw1⟩ : ∃ w1, w1 = (((w.alloc (.cells #[.int .i64 n, .slice Al cs.length cl, .slice Am marks.length cm] 65)).alloc (.cells #[.int .i64 3, .slice Ac c.length cc, .int .i64 lit, .int .i64 N] 52)).alloc (.cells #[.int .i64 0, .slice none 0 0, .slice none 0 0] 65)) := ⟨_, rfl⟩
  have HS : Aside0 (PStart w0 w w1 ok P #[.int .i64 n, .slice Al cs.length cl, .slice Am marks.length cm] #[.int .i64 3, .slice Ac c.length cc, .int .i64 lit, .int .i64 N] #[.int .i64 0, .slice none 0 0, .slice none 0 0]) := ⟨by rw [hw1]; exact pstart w0 w ok P _ _ _⟩
  rw [← hw1]
  clear hw1
  have H1 : Aside0 (St w1 (fun k => ok k ∧ k < w.heap.size) g vals cls marks) := ⟨H.out.bound.below HS.out.bel⟩
  refine (st_Force_clause _ g vals cls marks lit N w1 H1.out HI.out.fok HB.out (.inr HN.out)).mono ?_
  rintro e w3 ⟨rfl, hd3⟩
  have hb13 : Below w1.heap.size w1 w3 := hd3.below
  have HB13 := Aside0.mk hb13
  have HBX := Aside0.mk (HS.out.box.below hb13)
  have HM3 : Aside0 (Mod w0 w3 (fun k => P k ∧ k < w.heap.size) (.slice Al cs.length cl) (.slice Am marks.length cm) cs marks) := ⟨(HM.out.bound.below HS.out.bel).below hb13⟩
  have HR3 : Aside0 (Rest w w3 (fun k => ok k ∨ P k)) := ⟨Rest.of_below (below_step HS.out.bel hb13) _⟩
  have HC3 := Aside0.mk (Kd.C_below HRC.out.2 (below_step HS.out.bel hb13))
  have HB03 := Aside0.mk (below_step HB0.out (below_step HS.out.bel hb13))
  have HCL3 := Aside0.mk (C_kC HB03.out (Kd.R_reads' HM3.out.rl).2.2)
  have HCM3 := Aside0.mk (Kd.R_reads' HM3.out.rm).2.2
  have HCLC := Aside0.mk (And.intro (Kd.R_reads' HM3.out.rl).2.1 (Kd.R_reads' HM3.out.rm).2.1)
  clear hb13
  have m0 : w3.cell? ⟨w.heap.size, 0, none⟩ = some (.int .i64 n) := by rw [blk_cell HBX.out.m]; rfl
  have m1 : w3.cell? ⟨w.heap.size, 1, none⟩ = some (.slice Al cs.length cl) := by rw [blk_cell HBX.out.m]; rfl
  have m2 : w3.cell? ⟨w.heap.size, 2, none⟩ = some (.slice Am marks.length cm) := by rw [blk_cell HBX.out.m]; rfl
  have o0 : w3.cell? ⟨w.heap.size + 1, 0, none⟩ = some (.int .i64 3) := by rw [blk_cell HBX.out.o]; rfl
  have o1 : w3.cell? ⟨w.heap.size + 1, 1, none⟩ = some (.slice Ac c.length cc) := by rw [blk_cell HBX.out.o]; rfl
  have o2 : w3.cell? ⟨w.heap.size + 1, 2, none⟩ = some (.int .i64 lit) := by rw [blk_cell HBX.out.o]; rfl
  have o3 : w3.cell? ⟨w.heap.size + 1, 3, none⟩ = some (.int .i64 N) := by rw [blk_cell HBX.out.o]; rfl
  have r0 : w3.cell? ⟨w.heap.size + 1 + 1, 0, none⟩ = some (.int .i64 0) := by rw [blk_cell HBX.out.r]; rfl
  have r1 : w3.cell? ⟨w.heap.size + 1 + 1, 1, none⟩ = some (.slice none 0 0) := by rw [blk_cell HBX.out.r]; rfl
  have r2 : w3.cell? ⟨w.heap.size + 1 + 1, 2, none⟩ = some (.slice none 0 0) := by rw [blk_cell HBX.out.r]; rfl
  have fm0 := blk_frozen HBX.out.m 0
  have fm1 := blk_frozen HBX.out.m 1
  have fm2 := blk_frozen HBX.out.m 2
  have fr0 := blk_frozen HBX.out.r 0
  have fr1 := blk_frozen HBX.out.r 1
  have fr2 := blk_frozen HBX.out.r 2
  go_wp2_with fail
  refine (fulcrumref20_Lit.calls lit n true _ HLF.out).mono ?_
  rintro e w4 ⟨rfl, ⟨nd1, rfl⟩⟩
  go_wp2
  obtain ⟨W, hW⟩ : ∃ W, W = ((((w3.drewN nd1).setCell ⟨w.heap.size + 2, 0, none⟩ (.int .i64 n)).setCell ⟨w.heap.size + 2, 1, none⟩ (.slice Al cs.length cl)).setCell ⟨w.heap.size + 2, 2, none⟩ (.slice Am marks.length cm)) := ⟨_, rfl⟩
  have hbW := (((HBX.out.below (pw_below_drewN (Below.refl _ _) nd1)).setr 0 (.int .i64 n)).setr 1 (.slice Al cs.length cl)).setr 2 (.slice Am marks.length cm)
  rw [← hW] at hbW
  have hRW : Rest w3 W (fun k => k = w.heap.size ∨ k = w.heap.size + 2) := by rw [hW]; exact Rest.set (p := ⟨w.heap.size + 2, 2, none⟩) (Rest.set (p := ⟨w.heap.size + 2, 1, none⟩) (Rest.set (p := ⟨w.heap.size + 2, 0, none⟩) ((Rest.refl _ _).drewN nd1) (.inr rfl) _) (.inr rfl) _) (.inr rfl) _
  have HEND := Aside0.mk (play_end (w0 := w0) (cc := cc) HS.out.sz HI.out (Nat.le_succ _) (H1.out.below HB13.out) HM3.out (fun k q1 q2 => HD.out k q1.1 q2.1) (fun k q => .inl q) (fun k q => .inl q) HR3.out hRW)
  clear m0 m1 m2 o0 o1 o2 o3 r0 r1 r2 fm0 fm1 fm2 fr0 fr1 fr2
  have s0 : W.cell? ⟨w.heap.size + 1 + 1, 0, none⟩ = some (.int .i64 n) := by rw [show (⟨w.heap.size + 1 + 1, 0, none⟩ : Addr) = ⟨w.heap.size + 2, 0, none⟩ from rfl, blk_cell hbW.r]; rfl
  have s1 : W.cell? ⟨w.heap.size + 1 + 1, 1, none⟩ = some (.slice Al cs.length cl) := by rw [show (⟨w.heap.size + 1 + 1, 1, none⟩ : Addr) = ⟨w.heap.size + 2, 1, none⟩ from rfl, blk_cell hbW.r]; rfl
  have s2 : W.cell? ⟨w.heap.size + 1 + 1, 2, none⟩ = some (.slice Am marks.length cm) := by rw [show (⟨w.heap.size + 1 + 1, 2, none⟩ : Addr) = ⟨w.heap.size + 2, 2, none⟩ from rfl, blk_cell hbW.r]; rfl
  rw [show (⟨w.heap.size + 2, 0, none⟩ : Addr) = ⟨w.heap.size + 1 + 1, 0, none⟩ from rfl, show (⟨w.heap.size + 2, 1, none⟩ : Addr) = ⟨w.heap.size + 1 + 1, 1, none⟩ from rfl, show (⟨w.heap.size + 2, 2, none⟩ : Addr) = ⟨w.heap.size + 1 + 1, 2, none⟩ from rfl] at hW
  rw [← hW]
  clear hW hRW hbW
  refine bodyPost_ret (v := .tuple #[.agg #[.int .i64 n, .slice Al cs.length cl, .slice Am marks.length cm], .bool true]) ?_ rfl ⟨_, _, _, rfl, HEND.out⟩
  simp [results, Try.results30, go_sem, s0, s1, s2]

set_option maxHeartbeats 16000000 in
set_option maxRecDepth 100000 in
theorem play_Force_trail (w0 : World) (ok P : Nat → Prop) (g : Nat) (vals : List Int) (cls : List (List Int × Int × Int)) (marks : List S48) (Al : Option Addr) (cl : Nat) (cs : List (List Int)) (Am : Option Addr) (cm : Nat) (n : Int) (Ac : Option Addr) (cc : Nat) (c : List Int) (lit : Int) (w : World) (i : Nat) (c' : List Int) (hb : litB n lit = true) (hci : cs[i]? = some c') (hfv : forcesV vals c' lit = false) (h : St w ok g vals cls marks) (hi : SInv n vals cls marks cs) (hM : Mod w0 w P (.slice Al cs.length cl) (.slice Am marks.length cm) cs marks) (hd : ∀ k, ok k → ¬ P k) (hb0 : Below w0.heap.size w0 w) (hrc : Kd.C (Kd.int .i64) w Ac c.length c) (hcc : c.length ≤ cc) (hcl : c.length ≤ 4194304) (hcsl : cs.length < 1048576) :
    Calls Try.prog 30 #[.pointer (some ⟨g, 0, none⟩), .agg #[.int .i64 n, .slice Al cs.length cl, .slice Am marks.length cm], .agg #[.int .i64 3, .slice Ac c.length cc, .int .i64 lit, .int .i64 (i : Int)]] w fun e w' => ∃ n' vl' vm', e = .returned (.tuple #[.agg #[.int .i64 n', vl', vm'], .bool true]) ∧ PlayPost w0 w w' ok P g n' vl' vm' cs.length cc := by
  have H := Aside0.mk h
  have HI := Aside0.mk hi
  have HM := Aside0.mk hM
  have HD := Aside0.mk hd
  have HB0 := Aside0.mk hb0
  have HRC := Aside0.mk (And.intro hcc hrc)
  have hcll := hcl
  have hcsll := hcsl
  obtain ⟨hl1, hl2, hl3, hl4⟩ := hi.len
  have hn0 := hi.n0
  have HL1 := Aside0.mk hl1
  have HIR := Aside0.mk (show inR lit by have := litB_iff.1 hb; unfold inR; omega)
  obtain ⟨kf, hkf⟩ := (Forces_all c' marks lit HIR.out (by omega) (by have := hi.cl c' (List.mem_of_getElem? hci); omega) (fun x hx => by have h1 := hi.lits c' (List.mem_of_getElem? hci) x hx; have h2 := hi.len; have h3 := hi.n0; unfold inR; omega)).rounds
  have HKF : Aside0 (fulcrumref20_Forces.f kf c' marks lit = some false) := ⟨by rw [hkf, ← forcesV_B hi (List.mem_of_getElem? hci) (litB_iff.1 hb).1, hfv]⟩
  have HFV := Aside0.mk hfv
  obtain ⟨q1, q2, hcq⟩ := hi.clsAt hci
  have HCQ := Aside0.mk hcq
  have hil : i < cs.length := (List.getElem?_eq_some_iff.1 hci).1
  have dN : decide ((i : Int) < 0) = false := decide_eq_false (by omega)
  have dN2 : decide ((cs.length : Int) ≤ (i : Int)) = false := decide_eq_false (by omega)
  have hrd : rd_L2 cs (i : Int) = c' := Option.some.inj ((rdl_get hil).symm.trans hci)
  obtain ⟨ad, Ac', cc', e, hcell, hle, hC'⟩ := at_L2 (C_kC hb0 (Kd.R_reads' hM.rl).2.2) (i : Int) (by omega) (by omega)
  subst e
  rw [hrd] at hcell hle hC'
  rw [Int.toNat_natCast] at hcell
  have HCELL := Aside0.mk (And.intro hcell (And.intro hle hC'))
  have hadlt := Aside0.mk (World.block_lt_of_cell? _ _ hcell)
  clear hkf hfv hcq hrd hcell hle hC' hci
  have HB := Aside0.mk (show litB ((vals.length : Int) - 1) lit = true by rw [hi.litE]; exact hb)
  have HLF := Aside0.mk ((Lit_f lit n hi.n0 (by omega)).trans (congrArg some hb))
  have HLB := Aside0.mk hb
  clear hb
  clear h hi hM hd hb0 hrc hcc hl1
  go_enter Try.func30, Try.ntmps30
  go_wp2_with fail
  obtain ⟨w1, hw1⟩ : ∃ w1, w1 = (((w.alloc (.cells #[.int .i64 n, .slice (some ad) cs.length cl, .slice Am marks.length cm] 65)).alloc (.cells #[.int .i64 3, .slice Ac c.length cc, .int .i64 lit, .int .i64 (i : Int)] 52)).alloc (.cells #[.int .i64 0, .slice none 0 0, .slice none 0 0] 65)) := ⟨_, rfl⟩
  have HS : Aside0 (PStart w0 w w1 ok P #[.int .i64 n, .slice (some ad) cs.length cl, .slice Am marks.length cm] #[.int .i64 3, .slice Ac c.length cc, .int .i64 lit, .int .i64 (i : Int)] #[.int .i64 0, .slice none 0 0, .slice none 0 0]) := ⟨by rw [hw1]; exact pstart w0 w ok P _ _ _⟩
  rw [← hw1]
  clear hw1
  have H1 : Aside0 (St w1 (fun k => ok k ∧ k < w.heap.size) g vals cls marks) := ⟨H.out.bound.below HS.out.bel⟩
  refine (st_Force_trail _ g vals cls marks lit i c' q1 q2 w1 H1.out HI.out.fok HB.out HCQ.out HFV.out).mono ?_
  rintro e w3 ⟨rfl, hd3⟩
  have hb13 : Below w1.heap.size w1 w3 := hd3.below
  have HB13 := Aside0.mk hb13
  have HBX := Aside0.mk (HS.out.box.below hb13)
  have HM3 : Aside0 (Mod w0 w3 (fun k => P k ∧ k < w.heap.size) (.slice (some ad) cs.length cl) (.slice Am marks.length cm) cs marks) := ⟨(HM.out.bound.below HS.out.bel).below hb13⟩
  have HR3 : Aside0 (Rest w w3 (fun k => ok k ∨ P k)) := ⟨Rest.of_below (below_step HS.out.bel hb13) _⟩
  have HC3 := Aside0.mk (Kd.C_below HRC.out.2 (below_step HS.out.bel hb13))
  have HB03 := Aside0.mk (below_step HB0.out (below_step HS.out.bel hb13))
  have HCL3 := Aside0.mk (C_kC HB03.out (Kd.R_reads' HM3.out.rl).2.2)
  have HCM3 := Aside0.mk (Kd.R_reads' HM3.out.rm).2.2
  have HCLC := Aside0.mk (And.intro (Kd.R_reads' HM3.out.rl).2.1 (Kd.R_reads' HM3.out.rm).2.1)
  clear hb13
  have m0 : w3.cell? ⟨w.heap.size, 0, none⟩ = some (.int .i64 n) := by rw [blk_cell HBX.out.m]; rfl
  have m1 : w3.cell? ⟨w.heap.size, 1, none⟩ = some (.slice (some ad) cs.length cl) := by rw [blk_cell HBX.out.m]; rfl
  have m2 : w3.cell? ⟨w.heap.size, 2, none⟩ = some (.slice Am marks.length cm) := by rw [blk_cell HBX.out.m]; rfl
  have o0 : w3.cell? ⟨w.heap.size + 1, 0, none⟩ = some (.int .i64 3) := by rw [blk_cell HBX.out.o]; rfl
  have o1 : w3.cell? ⟨w.heap.size + 1, 1, none⟩ = some (.slice Ac c.length cc) := by rw [blk_cell HBX.out.o]; rfl
  have o2 : w3.cell? ⟨w.heap.size + 1, 2, none⟩ = some (.int .i64 lit) := by rw [blk_cell HBX.out.o]; rfl
  have o3 : w3.cell? ⟨w.heap.size + 1, 3, none⟩ = some (.int .i64 (i : Int)) := by rw [blk_cell HBX.out.o]; rfl
  have r0 : w3.cell? ⟨w.heap.size + 1 + 1, 0, none⟩ = some (.int .i64 0) := by rw [blk_cell HBX.out.r]; rfl
  have r1 : w3.cell? ⟨w.heap.size + 1 + 1, 1, none⟩ = some (.slice none 0 0) := by rw [blk_cell HBX.out.r]; rfl
  have r2 : w3.cell? ⟨w.heap.size + 1 + 1, 2, none⟩ = some (.slice none 0 0) := by rw [blk_cell HBX.out.r]; rfl
  have fm0 := blk_frozen HBX.out.m 0
  have fm1 := blk_frozen HBX.out.m 1
  have fm2 := blk_frozen HBX.out.m 2
  have fr0 := blk_frozen HBX.out.r 0
  have fr1 := blk_frozen HBX.out.r 1
  have fr2 := blk_frozen HBX.out.r 2
  have ld0 := ((below_step HS.out.bel HB13.out).cell hadlt.out).trans HCELL.out.1
  have HCC := Aside0.mk (Kd.C_below HCELL.out.2.2 (below_step HS.out.bel HB13.out))
  go_wp2_with fail
  refine (fulcrumref20_Lit.calls lit n true _ HLF.out).mono ?_
  rintro e w4 ⟨rfl, ⟨nd1, rfl⟩⟩
  go_wp2_with fail
  go_quiet ((go_at_call 53; refine quiet_add (Calls.mono (fulcrumref20_Forces.calls kf Ac' cc' c' Am cm marks lit false _ (by repeat (first | exact HCC.out | refine Kd.C_drewN ?_ _ | refine Kd.C_drew ?_)) HCELL.out.2.1 (by repeat (first | exact HCM3.out | refine Kd.C_drewN ?_ _ | refine Kd.C_drew ?_)) HCLC.out.2 HKF.out) (fun _ _ h => ⟨h.1, h.2.out⟩))))
  clear ld0
  go_wp2
  obtain ⟨W, hW⟩ : ∃ W, W = ((((w3.drewN (nd1 + nq)).setCell ⟨w.heap.size + 2, 0, none⟩ (.int .i64 n)).setCell ⟨w.heap.size + 2, 1, none⟩ (.slice (some ad) cs.length cl)).setCell ⟨w.heap.size + 2, 2, none⟩ (.slice Am marks.length cm)) := ⟨_, rfl⟩
  have hbW := (((HBX.out.below (pw_below_drewN (Below.refl _ _) (nd1 + nq))).setr 0 (.int .i64 n)).setr 1 (.slice (some ad) cs.length cl)).setr 2 (.slice Am marks.length cm)
  rw [← hW] at hbW
  have hRW : Rest w3 W (fun k => k = w.heap.size ∨ k = w.heap.size + 2) := by rw [hW]; exact Rest.set (p := ⟨w.heap.size + 2, 2, none⟩) (Rest.set (p := ⟨w.heap.size + 2, 1, none⟩) (Rest.set (p := ⟨w.heap.size + 2, 0, none⟩) ((Rest.refl _ _).drewN (nd1 + nq)) (.inr rfl) _) (.inr rfl) _) (.inr rfl) _
  have HEND := Aside0.mk (play_end (w0 := w0) (cc := cc) HS.out.sz HI.out (Nat.le_succ _) (H1.out.below HB13.out) HM3.out (fun k q1 q2 => HD.out k q1.1 q2.1) (fun k q => .inl q) (fun k q => .inl q) HR3.out hRW)
  clear m0 m1 m2 o0 o1 o2 o3 r0 r1 r2 fm0 fm1 fm2 fr0 fr1 fr2
  have s0 : W.cell? ⟨w.heap.size + 1 + 1, 0, none⟩ = some (.int .i64 n) := by rw [show (⟨w.heap.size + 1 + 1, 0, none⟩ : Addr) = ⟨w.heap.size + 2, 0, none⟩ from rfl, blk_cell hbW.r]; rfl
  have s1 : W.cell? ⟨w.heap.size + 1 + 1, 1, none⟩ = some (.slice (some ad) cs.length cl) := by rw [show (⟨w.heap.size + 1 + 1, 1, none⟩ : Addr) = ⟨w.heap.size + 2, 1, none⟩ from rfl, blk_cell hbW.r]; rfl
  have s2 : W.cell? ⟨w.heap.size + 1 + 1, 2, none⟩ = some (.slice Am marks.length cm) := by rw [show (⟨w.heap.size + 1 + 1, 2, none⟩ : Addr) = ⟨w.heap.size + 2, 2, none⟩ from rfl, blk_cell hbW.r]; rfl
  rw [show (⟨w.heap.size + 2, 0, none⟩ : Addr) = ⟨w.heap.size + 1 + 1, 0, none⟩ from rfl, show (⟨w.heap.size + 2, 1, none⟩ : Addr) = ⟨w.heap.size + 1 + 1, 1, none⟩ from rfl, show (⟨w.heap.size + 2, 2, none⟩ : Addr) = ⟨w.heap.size + 1 + 1, 2, none⟩ from rfl] at hW
  rw [← hW]
  clear hW hRW hbW
  refine bodyPost_ret (v := .tuple #[.agg #[.int .i64 n, .slice (some ad) cs.length cl, .slice Am marks.length cm], .bool true]) ?_ rfl ⟨_, _, _, rfl, HEND.out⟩
  simp [results, Try.results30, go_sem, s0, s1, s2]

set_option maxHeartbeats 16000000 in
set_option maxRecDepth 100000 in
theorem play_Back_neg (w0 : World) (ok P : Nat → Prop) (g : Nat) (vals : List Int) (cls : List (List Int × Int × Int)) (marks : List S48) (Al : Option Addr) (cl : Nat) (cs : List (List Int)) (Am : Option Addr) (cm : Nat) (n : Int) (Ac : Option Addr) (cc : Nat) (c : List Int) (lit N : Int) (w : World) (hN : N < 0) (h : St w ok g vals cls marks) (hi : SInv n vals cls marks cs) (hM : Mod w0 w P (.slice Al cs.length cl) (.slice Am marks.length cm) cs marks) (hd : ∀ k, ok k → ¬ P k) (hb0 : Below w0.heap.size w0 w) (hrc : Kd.C (Kd.int .i64) w Ac c.length c) (hcc : c.length ≤ cc) (hcl : c.length ≤ 4194304) (hcsl : cs.length < 1048576) :
    Calls Try.prog 30 #[.pointer (some ⟨g, 0, none⟩), .agg #[.int .i64 n, .slice Al cs.length cl, .slice Am marks.length cm], .agg #[.int .i64 5, .slice Ac c.length cc, .int .i64 lit, .int .i64 N]] w fun e w' => ∃ n' vl' vm', e = .returned (.tuple #[.agg #[.int .i64 n', vl', vm'], .bool true]) ∧ PlayPost w0 w w' ok P g n' vl' vm' cs.length cc := by
  have H := Aside0.mk h
  have HI := Aside0.mk hi
  have HM := Aside0.mk hM
  have HD := Aside0.mk hd
  have HB0 := Aside0.mk hb0
  have HRC := Aside0.mk (And.intro hcc hrc)
  have hcll := hcl
  have hcsll := hcsl
  obtain ⟨hl1, hl2, hl3, hl4⟩ := hi.len
  have hn0 := hi.n0
  have HL1 := Aside0.mk hl1
  have dN : decide (N < 0) = true := decide_eq_true hN
  have HN := Aside0.mk hN
  clear hN
  clear h hi hM hd hb0 hrc hcc hl1
  go_enter Try.func30, Try.ntmps30
  go_wp2_with fail
  obtain ⟨w1, hw1⟩ : ∃ w1, w1 = (((w.alloc (.cells #[.int .i64 n, .slice Al cs.length cl, .slice Am marks.length cm] 65)).alloc (.cells #[.int .i64 5, .slice Ac c.length cc, .int .i64 lit, .int .i64 N] 52)).alloc (.cells #[.int .i64 0, .slice none 0 0, .slice none 0 0] 65)) := ⟨_, rfl⟩
  have HS : Aside0 (PStart w0 w w1 ok P #[.int .i64 n, .slice Al cs.length cl, .slice Am marks.length cm] #[.int .i64 5, .slice Ac c.length cc, .int .i64 lit, .int .i64 N] #[.int .i64 0, .slice none 0 0, .slice none 0 0]) := ⟨by rw [hw1]; exact pstart w0 w ok P _ _ _⟩
  rw [← hw1]
  clear hw1
  have H1 : Aside0 (St w1 (fun k => ok k ∧ k < w.heap.size) g vals cls marks) := ⟨H.out.bound.below HS.out.bel⟩
  refine (st_Back_bad _ g vals cls marks N w1 H1.out (.inl HN.out)).mono ?_
  rintro e w3 ⟨rfl, hd3⟩
  have hb13 : Below w1.heap.size w1 w3 := hd3.below
  have HB13 := Aside0.mk hb13
  have HBX := Aside0.mk (HS.out.box.below hb13)
  have HM3 : Aside0 (Mod w0 w3 (fun k => P k ∧ k < w.heap.size) (.slice Al cs.length cl) (.slice Am marks.length cm) cs marks) := ⟨(HM.out.bound.below HS.out.bel).below hb13⟩
  have HR3 : Aside0 (Rest w w3 (fun k => ok k ∨ P k)) := ⟨Rest.of_below (below_step HS.out.bel hb13) _⟩
  have HC3 := Aside0.mk (Kd.C_below HRC.out.2 (below_step HS.out.bel hb13))
  have HB03 := Aside0.mk (below_step HB0.out (below_step HS.out.bel hb13))
  have HCL3 := Aside0.mk (C_kC HB03.out (Kd.R_reads' HM3.out.rl).2.2)
  have HCM3 := Aside0.mk (Kd.R_reads' HM3.out.rm).2.2
  have HCLC := Aside0.mk (And.intro (Kd.R_reads' HM3.out.rl).2.1 (Kd.R_reads' HM3.out.rm).2.1)
  clear hb13
  have m0 : w3.cell? ⟨w.heap.size, 0, none⟩ = some (.int .i64 n) := by rw [blk_cell HBX.out.m]; rfl
  have m1 : w3.cell? ⟨w.heap.size, 1, none⟩ = some (.slice Al cs.length cl) := by rw [blk_cell HBX.out.m]; rfl
  have m2 : w3.cell? ⟨w.heap.size, 2, none⟩ = some (.slice Am marks.length cm) := by rw [blk_cell HBX.out.m]; rfl
  have o0 : w3.cell? ⟨w.heap.size + 1, 0, none⟩ = some (.int .i64 5) := by rw [blk_cell HBX.out.o]; rfl
  have o1 : w3.cell? ⟨w.heap.size + 1, 1, none⟩ = some (.slice Ac c.length cc) := by rw [blk_cell HBX.out.o]; rfl
  have o2 : w3.cell? ⟨w.heap.size + 1, 2, none⟩ = some (.int .i64 lit) := by rw [blk_cell HBX.out.o]; rfl
  have o3 : w3.cell? ⟨w.heap.size + 1, 3, none⟩ = some (.int .i64 N) := by rw [blk_cell HBX.out.o]; rfl
  have r0 : w3.cell? ⟨w.heap.size + 1 + 1, 0, none⟩ = some (.int .i64 0) := by rw [blk_cell HBX.out.r]; rfl
  have r1 : w3.cell? ⟨w.heap.size + 1 + 1, 1, none⟩ = some (.slice none 0 0) := by rw [blk_cell HBX.out.r]; rfl
  have r2 : w3.cell? ⟨w.heap.size + 1 + 1, 2, none⟩ = some (.slice none 0 0) := by rw [blk_cell HBX.out.r]; rfl
  have fm0 := blk_frozen HBX.out.m 0
  have fm1 := blk_frozen HBX.out.m 1
  have fm2 := blk_frozen HBX.out.m 2
  have fr0 := blk_frozen HBX.out.r 0
  have fr1 := blk_frozen HBX.out.r 1
  have fr2 := blk_frozen HBX.out.r 2
  go_wp2_with fail
  go_quiet (fail)
  go_wp2
  obtain ⟨W, hW⟩ : ∃ W, W = ((((w3.drewN nq).setCell ⟨w.heap.size + 2, 0, none⟩ (.int .i64 n)).setCell ⟨w.heap.size + 2, 1, none⟩ (.slice Al cs.length cl)).setCell ⟨w.heap.size + 2, 2, none⟩ (.slice Am marks.length cm)) := ⟨_, rfl⟩
  have hbW := (((HBX.out.below (pw_below_drewN (Below.refl _ _) nq)).setr 0 (.int .i64 n)).setr 1 (.slice Al cs.length cl)).setr 2 (.slice Am marks.length cm)
  rw [← hW] at hbW
  have hRW : Rest w3 W (fun k => k = w.heap.size ∨ k = w.heap.size + 2) := by rw [hW]; exact Rest.set (p := ⟨w.heap.size + 2, 2, none⟩) (Rest.set (p := ⟨w.heap.size + 2, 1, none⟩) (Rest.set (p := ⟨w.heap.size + 2, 0, none⟩) ((Rest.refl _ _).drewN nq) (.inr rfl) _) (.inr rfl) _) (.inr rfl) _
  have HEND := Aside0.mk (play_end (w0 := w0) (cc := cc) HS.out.sz HI.out (Nat.le_succ _) (H1.out.below HB13.out) HM3.out (fun k q1 q2 => HD.out k q1.1 q2.1) (fun k q => .inl q) (fun k q => .inl q) HR3.out hRW)
  clear m0 m1 m2 o0 o1 o2 o3 r0 r1 r2 fm0 fm1 fm2 fr0 fr1 fr2
  have s0 : W.cell? ⟨w.heap.size + 1 + 1, 0, none⟩ = some (.int .i64 n) := by rw [show (⟨w.heap.size + 1 + 1, 0, none⟩ : Addr) = ⟨w.heap.size + 2, 0, none⟩ from rfl, blk_cell hbW.r]; rfl
  have s1 : W.cell? ⟨w.heap.size + 1 + 1, 1, none⟩ = some (.slice Al cs.length cl) := by rw [show (⟨w.heap.size + 1 + 1, 1, none⟩ : Addr) = ⟨w.heap.size + 2, 1, none⟩ from rfl, blk_cell hbW.r]; rfl
  have s2 : W.cell? ⟨w.heap.size + 1 + 1, 2, none⟩ = some (.slice Am marks.length cm) := by rw [show (⟨w.heap.size + 1 + 1, 2, none⟩ : Addr) = ⟨w.heap.size + 2, 2, none⟩ from rfl, blk_cell hbW.r]; rfl
  rw [show (⟨w.heap.size + 2, 0, none⟩ : Addr) = ⟨w.heap.size + 1 + 1, 0, none⟩ from rfl, show (⟨w.heap.size + 2, 1, none⟩ : Addr) = ⟨w.heap.size + 1 + 1, 1, none⟩ from rfl, show (⟨w.heap.size + 2, 2, none⟩ : Addr) = ⟨w.heap.size + 1 + 1, 2, none⟩ from rfl] at hW
  rw [← hW]
  clear hW hRW hbW
  refine bodyPost_ret (v := .tuple #[.agg #[.int .i64 n, .slice Al cs.length cl, .slice Am marks.length cm], .bool true]) ?_ rfl ⟨_, _, _, rfl, HEND.out⟩
  simp [results, Try.results30, go_sem, s0, s1, s2]

set_option maxHeartbeats 16000000 in
set_option maxRecDepth 100000 in
theorem play_Back_high (w0 : World) (ok P : Nat → Prop) (g : Nat) (vals : List Int) (cls : List (List Int × Int × Int)) (marks : List S48) (Al : Option Addr) (cl : Nat) (cs : List (List Int)) (Am : Option Addr) (cm : Nat) (n : Int) (Ac : Option Addr) (cc : Nat) (c : List Int) (lit N : Int) (w : World) (hN : ¬ N < 0) (hN2 : lvl marks < N) (h : St w ok g vals cls marks) (hi : SInv n vals cls marks cs) (hM : Mod w0 w P (.slice Al cs.length cl) (.slice Am marks.length cm) cs marks) (hd : ∀ k, ok k → ¬ P k) (hb0 : Below w0.heap.size w0 w) (hrc : Kd.C (Kd.int .i64) w Ac c.length c) (hcc : c.length ≤ cc) (hcl : c.length ≤ 4194304) (hcsl : cs.length < 1048576) :
    Calls Try.prog 30 #[.pointer (some ⟨g, 0, none⟩), .agg #[.int .i64 n, .slice Al cs.length cl, .slice Am marks.length cm], .agg #[.int .i64 5, .slice Ac c.length cc, .int .i64 lit, .int .i64 N]] w fun e w' => ∃ n' vl' vm', e = .returned (.tuple #[.agg #[.int .i64 n', vl', vm'], .bool true]) ∧ PlayPost w0 w w' ok P g n' vl' vm' cs.length cc := by
  have H := Aside0.mk h
  have HI := Aside0.mk hi
  have HM := Aside0.mk hM
  have HD := Aside0.mk hd
  have HB0 := Aside0.mk hb0
  have HRC := Aside0.mk (And.intro hcc hrc)
  have hcll := hcl
  have hcsll := hcsl
  obtain ⟨hl1, hl2, hl3, hl4⟩ := hi.len
  have hn0 := hi.n0
  have HL1 := Aside0.mk hl1
  have dN : decide (N < 0) = false := decide_eq_false hN
  have dN2 : decide (lvl marks < N) = true := decide_eq_true hN2
  have HN := Aside0.mk hN2
  clear hN hN2
  clear h hi hM hd hb0 hrc hcc hl1
  go_enter Try.func30, Try.ntmps30
  go_wp2_with fail
  obtain ⟨w1, hw1⟩ : ∃ w1, w1 = (((w.alloc (.cells #[.int .i64 n, .slice Al cs.length cl, .slice Am marks.length cm] 65)).alloc (.cells #[.int .i64 5, .slice Ac c.length cc, .int .i64 lit, .int .i64 N] 52)).alloc (.cells #[.int .i64 0, .slice none 0 0, .slice none 0 0] 65)) := ⟨_, rfl⟩
  have HS : Aside0 (PStart w0 w w1 ok P #[.int .i64 n, .slice Al cs.length cl, .slice Am marks.length cm] #[.int .i64 5, .slice Ac c.length cc, .int .i64 lit, .int .i64 N] #[.int .i64 0, .slice none 0 0, .slice none 0 0]) := ⟨by rw [hw1]; exact pstart w0 w ok P _ _ _⟩
  rw [← hw1]
  clear hw1
  have H1 : Aside0 (St w1 (fun k => ok k ∧ k < w.heap.size) g vals cls marks) := ⟨H.out.bound.below HS.out.bel⟩
  refine (st_Back_bad _ g vals cls marks N w1 H1.out (.inr HN.out)).mono ?_
  rintro e w3 ⟨rfl, hd3⟩
  have hb13 : Below w1.heap.size w1 w3 := hd3.below
  have HB13 := Aside0.mk hb13
  have HBX := Aside0.mk (HS.out.box.below hb13)
  have HM3 : Aside0 (Mod w0 w3 (fun k => P k ∧ k < w.heap.size) (.slice Al cs.length cl) (.slice Am marks.length cm) cs marks) := ⟨(HM.out.bound.below HS.out.bel).below hb13⟩
  have HR3 : Aside0 (Rest w w3 (fun k => ok k ∨ P k)) := ⟨Rest.of_below (below_step HS.out.bel hb13) _⟩
  have HC3 := Aside0.mk (Kd.C_below HRC.out.2 (below_step HS.out.bel hb13))
  have HB03 := Aside0.mk (below_step HB0.out (below_step HS.out.bel hb13))
  have HCL3 := Aside0.mk (C_kC HB03.out (Kd.R_reads' HM3.out.rl).2.2)
  have HCM3 := Aside0.mk (Kd.R_reads' HM3.out.rm).2.2
  have HCLC := Aside0.mk (And.intro (Kd.R_reads' HM3.out.rl).2.1 (Kd.R_reads' HM3.out.rm).2.1)
  clear hb13
  have m0 : w3.cell? ⟨w.heap.size, 0, none⟩ = some (.int .i64 n) := by rw [blk_cell HBX.out.m]; rfl
  have m1 : w3.cell? ⟨w.heap.size, 1, none⟩ = some (.slice Al cs.length cl) := by rw [blk_cell HBX.out.m]; rfl
  have m2 : w3.cell? ⟨w.heap.size, 2, none⟩ = some (.slice Am marks.length cm) := by rw [blk_cell HBX.out.m]; rfl
  have o0 : w3.cell? ⟨w.heap.size + 1, 0, none⟩ = some (.int .i64 5) := by rw [blk_cell HBX.out.o]; rfl
  have o1 : w3.cell? ⟨w.heap.size + 1, 1, none⟩ = some (.slice Ac c.length cc) := by rw [blk_cell HBX.out.o]; rfl
  have o2 : w3.cell? ⟨w.heap.size + 1, 2, none⟩ = some (.int .i64 lit) := by rw [blk_cell HBX.out.o]; rfl
  have o3 : w3.cell? ⟨w.heap.size + 1, 3, none⟩ = some (.int .i64 N) := by rw [blk_cell HBX.out.o]; rfl
  have r0 : w3.cell? ⟨w.heap.size + 1 + 1, 0, none⟩ = some (.int .i64 0) := by rw [blk_cell HBX.out.r]; rfl
  have r1 : w3.cell? ⟨w.heap.size + 1 + 1, 1, none⟩ = some (.slice none 0 0) := by rw [blk_cell HBX.out.r]; rfl
  have r2 : w3.cell? ⟨w.heap.size + 1 + 1, 2, none⟩ = some (.slice none 0 0) := by rw [blk_cell HBX.out.r]; rfl
  have fm0 := blk_frozen HBX.out.m 0
  have fm1 := blk_frozen HBX.out.m 1
  have fm2 := blk_frozen HBX.out.m 2
  have fr0 := blk_frozen HBX.out.r 0
  have fr1 := blk_frozen HBX.out.r 1
  have fr2 := blk_frozen HBX.out.r 2
  go_wp2_with fail
  go_quiet ((go_at_call 52; refine Calls.quiet_of (Calls.mono (fulcrumref20_Level.calls Am cm marks (lvl marks) _ (by repeat (first | exact HCM3.out | refine Kd.C_drewN ?_ _ | refine Kd.C_drew ?_)) HCLC.out.2 (Level_f marks (by omega))) (fun _ _ h => ⟨h.1, h.2.out⟩))))
  go_wp2
  obtain ⟨W, hW⟩ : ∃ W, W = ((((w3.drewN nq).setCell ⟨w.heap.size + 2, 0, none⟩ (.int .i64 n)).setCell ⟨w.heap.size + 2, 1, none⟩ (.slice Al cs.length cl)).setCell ⟨w.heap.size + 2, 2, none⟩ (.slice Am marks.length cm)) := ⟨_, rfl⟩
  have hbW := (((HBX.out.below (pw_below_drewN (Below.refl _ _) nq)).setr 0 (.int .i64 n)).setr 1 (.slice Al cs.length cl)).setr 2 (.slice Am marks.length cm)
  rw [← hW] at hbW
  have hRW : Rest w3 W (fun k => k = w.heap.size ∨ k = w.heap.size + 2) := by rw [hW]; exact Rest.set (p := ⟨w.heap.size + 2, 2, none⟩) (Rest.set (p := ⟨w.heap.size + 2, 1, none⟩) (Rest.set (p := ⟨w.heap.size + 2, 0, none⟩) ((Rest.refl _ _).drewN nq) (.inr rfl) _) (.inr rfl) _) (.inr rfl) _
  have HEND := Aside0.mk (play_end (w0 := w0) (cc := cc) HS.out.sz HI.out (Nat.le_succ _) (H1.out.below HB13.out) HM3.out (fun k q1 q2 => HD.out k q1.1 q2.1) (fun k q => .inl q) (fun k q => .inl q) HR3.out hRW)
  clear m0 m1 m2 o0 o1 o2 o3 r0 r1 r2 fm0 fm1 fm2 fr0 fr1 fr2
  have s0 : W.cell? ⟨w.heap.size + 1 + 1, 0, none⟩ = some (.int .i64 n) := by rw [show (⟨w.heap.size + 1 + 1, 0, none⟩ : Addr) = ⟨w.heap.size + 2, 0, none⟩ from rfl, blk_cell hbW.r]; rfl
  have s1 : W.cell? ⟨w.heap.size + 1 + 1, 1, none⟩ = some (.slice Al cs.length cl) := by rw [show (⟨w.heap.size + 1 + 1, 1, none⟩ : Addr) = ⟨w.heap.size + 2, 1, none⟩ from rfl, blk_cell hbW.r]; rfl
  have s2 : W.cell? ⟨w.heap.size + 1 + 1, 2, none⟩ = some (.slice Am marks.length cm) := by rw [show (⟨w.heap.size + 1 + 1, 2, none⟩ : Addr) = ⟨w.heap.size + 2, 2, none⟩ from rfl, blk_cell hbW.r]; rfl
  rw [show (⟨w.heap.size + 2, 0, none⟩ : Addr) = ⟨w.heap.size + 1 + 1, 0, none⟩ from rfl, show (⟨w.heap.size + 2, 1, none⟩ : Addr) = ⟨w.heap.size + 1 + 1, 1, none⟩ from rfl, show (⟨w.heap.size + 2, 2, none⟩ : Addr) = ⟨w.heap.size + 1 + 1, 2, none⟩ from rfl] at hW
  rw [← hW]
  clear hW hRW hbW
  refine bodyPost_ret (v := .tuple #[.agg #[.int .i64 n, .slice Al cs.length cl, .slice Am marks.length cm], .bool true]) ?_ rfl ⟨_, _, _, rfl, HEND.out⟩
  simp [results, Try.results30, go_sem, s0, s1, s2]

end Go.Proofs.Ytegaaobiedfjcaa.PU
