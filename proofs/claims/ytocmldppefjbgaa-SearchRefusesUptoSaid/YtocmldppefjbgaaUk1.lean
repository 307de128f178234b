import Derived.Test.YtocmldppefjbgaaPHPx0
import Derived.Test.YtocmldppefjbgaaHStep
import Derived.Test.YtocmldppefjbgaaHMap
import Derived.Lib.SliceRun
import Derived.IntWalk
import Derived.Deep.RegionLaw
import Derived.Deep.QuietTactic
import Derived.BigQuiet
namespace Go.Proofs.Ytocmldppefjbgaa.PHU
open Go.RowKit Go.Proofs.YtocmldppefjbgaaW.PrintWords Go.Proofs.YtocmldppefjbgaaW.PrintLast Go.Proofs.YtocmldppefjbgaaW.PrintMore Go.Proofs.YtocmldppefjbgaaH
set_option linter.unusedVariables false
set_option linter.unusedSimpArgs false
open Go.Proofs.Ytocmldppefjbgaa.PHP (S92 k92 z92 rd_T92)
/-! ### the store: what lies in memory -/
/-- A clause that is watched, and the two places. -/
def kW : Kd (List Int × Int × Int) := Kd.pair (Kd.slice 3 (Kd.int .i64)) (Kd.pair (Kd.int .i64) (Kd.int .i64))
structure Parts (w : World) (ok : Nat → Prop) (g : Nat) (vv vc vm : Value) (vals : List Int) (cls : List (List Int × Int × Int)) (marks : List S92) : Prop where
  og : ok g
  blk : w.heap[g]? = some (.cells #[.bool true, vv, vc, vm] 89 (0, 0))
  rv : Kd.R (Kd.int .i64) 3 w 0 (fun k => ok k ∧ k ≠ g) vv vals
  rc : Kd.R kW 105 w 0 (fun k => (ok k ∧ k ≠ g) ∧ some k ≠ vv.ownBlock) vc cls
  rm : Kd.R k92 92 w 0 (fun k => (ok k ∧ k ≠ g) ∧ some k ≠ vv.ownBlock) vm marks
/-- A store at block g, all of whose blocks are ok. -/
def St (w : World) (ok : Nat → Prop) (g : Nat) (vals : List Int) (cls : List (List Int × Int × Int)) (marks : List S92) : Prop := ∃ vv vc vm, Parts w ok g vv vc vm vals cls marks
theorem Parts.c0 {w : World} {ok : Nat → Prop} {g : Nat} {vv vc vm : Value} {vals : List Int} {cls : List (List Int × Int × Int)} {marks : List S92} (h : Parts w ok g vv vc vm vals cls marks) : w.cell? ⟨g, 0, none⟩ = some (.bool true) := blk_cell h.blk 0
theorem Parts.c1 {w : World} {ok : Nat → Prop} {g : Nat} {vv vc vm : Value} {vals : List Int} {cls : List (List Int × Int × Int)} {marks : List S92} (h : Parts w ok g vv vc vm vals cls marks) : w.cell? ⟨g, 1, none⟩ = some vv := blk_cell h.blk 1
theorem Parts.c2 {w : World} {ok : Nat → Prop} {g : Nat} {vv vc vm : Value} {vals : List Int} {cls : List (List Int × Int × Int)} {marks : List S92} (h : Parts w ok g vv vc vm vals cls marks) : w.cell? ⟨g, 2, none⟩ = some vc := blk_cell h.blk 2
theorem Parts.c3 {w : World} {ok : Nat → Prop} {g : Nat} {vv vc vm : Value} {vals : List Int} {cls : List (List Int × Int × Int)} {marks : List S92} (h : Parts w ok g vv vc vm vals cls marks) : w.cell? ⟨g, 3, none⟩ = some vm := blk_cell h.blk 3
theorem Parts.f (j : Nat) {w : World} {ok : Nat → Prop} {g : Nat} {vv vc vm : Value} {vals : List Int} {cls : List (List Int × Int × Int)} {marks : List S92} (h : Parts w ok g vv vc vm vals cls marks) : w.frozen? ⟨g, j, none⟩ = false := blk_frozen h.blk j
/-- Whatever leaves the store's blocks as they are leaves the store. -/
theorem Parts.step {w w1 : World} {ok : Nat → Prop} {g : Nat} {vv vc vm : Value} {vals : List Int} {cls : List (List Int × Int × Int)} {marks : List S92} (h : Parts w ok g vv vc vm vals cls marks) (hm : ∀ k, ok k → k < w.heap.size → w1.heap[k]? = w.heap[k]?) : Parts w1 ok g vv vc vm vals cls marks :=
  ⟨h.og, (hm g h.og (blk_lt h.blk)).trans h.blk, Kd.R_step h.rv (fun k hk => hm k hk.1), Kd.R_step h.rc (fun k hk => hm k hk.1.1), Kd.R_step h.rm (fun k hk => hm k hk.1.1)⟩
theorem Parts.mono {w : World} {ok ok' : Nat → Prop} {g : Nat} {vv vc vm : Value} {vals : List Int} {cls : List (List Int × Int × Int)} {marks : List S92} (h : Parts w ok g vv vc vm vals cls marks) (hk : ∀ k, ok k → ok' k) : Parts w ok' g vv vc vm vals cls marks :=
  ⟨hk g h.og, h.blk, Kd.R_mono h.rv (fun k q => ⟨hk k q.1, q.2⟩), Kd.R_mono h.rc (fun k q => ⟨⟨hk k q.1.1, q.1.2⟩, q.2⟩), Kd.R_mono h.rm (fun k q => ⟨⟨hk k q.1.1, q.1.2⟩, q.2⟩)⟩
theorem Parts.bound {w : World} {ok : Nat → Prop} {g : Nat} {vv vc vm : Value} {vals : List Int} {cls : List (List Int × Int × Int)} {marks : List S92} (h : Parts w ok g vv vc vm vals cls marks) : Parts w (fun k => ok k ∧ k < w.heap.size) g vv vc vm vals cls marks :=
  ⟨⟨h.og, blk_lt h.blk⟩, h.blk, Kd.R_mono (Kd.R_bound h.rv) (fun k q => ⟨⟨q.1.1, q.2.2.1⟩, q.1.2⟩), Kd.R_mono (Kd.R_bound h.rc) (fun k q => ⟨⟨⟨q.1.1.1, q.2.2.1⟩, q.1.1.2⟩, q.1.2⟩), Kd.R_mono (Kd.R_bound h.rm) (fun k q => ⟨⟨⟨q.1.1.1, q.2.2.1⟩, q.1.1.2⟩, q.1.2⟩)⟩
theorem St.step {w w1 : World} {ok : Nat → Prop} {g : Nat} {vals : List Int} {cls : List (List Int × Int × Int)} {marks : List S92} (h : St w ok g vals cls marks) (hm : ∀ k, ok k → k < w.heap.size → w1.heap[k]? = w.heap[k]?) : St w1 ok g vals cls marks := by
  obtain ⟨a, b, c, h⟩ := h
  exact ⟨a, b, c, h.step hm⟩
theorem St.mono {w : World} {ok ok' : Nat → Prop} {g : Nat} {vals : List Int} {cls : List (List Int × Int × Int)} {marks : List S92} (h : St w ok g vals cls marks) (hk : ∀ k, ok k → ok' k) : St w ok' g vals cls marks := by
  obtain ⟨a, b, c, h⟩ := h
  exact ⟨a, b, c, h.mono hk⟩
theorem St.bound {w : World} {ok : Nat → Prop} {g : Nat} {vals : List Int} {cls : List (List Int × Int × Int)} {marks : List S92} (h : St w ok g vals cls marks) : St w (fun k => ok k ∧ k < w.heap.size) g vals cls marks := by
  obtain ⟨a, b, c, h⟩ := h
  exact ⟨a, b, c, h.bound⟩
theorem St.below {w w1 : World} {ok : Nat → Prop} {g : Nat} {vals : List Int} {cls : List (List Int × Int × Int)} {marks : List S92} (h : St w ok g vals cls marks) (hb : Below w.heap.size w w1) : St w1 ok g vals cls marks := h.step (fun k _ hk => hb.block k hk)
/-- What a call on the store does to the rest of memory: what was there and is not ok stays. -/
structure Rest (w w' : World) (ok : Nat → Prop) : Prop where
  os : w'.os = w.os
  tape : w'.tape = w.tape
  output : w'.output = w.output
  size : w.heap.size ≤ w'.heap.size
  block : ∀ k, k < w.heap.size → ¬ ok k → w'.heap[k]? = w.heap[k]?
theorem Rest.refl (w : World) (ok : Nat → Prop) : Rest w w ok := ⟨rfl, rfl, rfl, Nat.le_refl _, fun _ _ _ => rfl⟩
theorem Rest.of_below {w w' : World} (h : Below w.heap.size w w') (ok : Nat → Prop) : Rest w w' ok := ⟨h.os, h.tape, h.output, h.size, fun k hk _ => h.block k hk⟩
theorem Rest.grown {w w1 w2 : World} {ok : Nat → Prop} (h : Rest w w1 ok) {row : Option Nat} (hg : w1.grownBy w2 row) (hr : ∀ k, row = some k → k < w.heap.size → ok k) : Rest w w2 ok :=
  ⟨hg.os.trans h.os, hg.tape.trans h.tape, hg.output.trans h.output, Nat.le_trans h.size hg.size, fun k hk hn => (hg.block k (Nat.lt_of_lt_of_le hk h.size) (fun e => hn (hr k e.symm hk))).trans (h.block k hk hn)⟩
theorem Rest.trans {w w1 w2 : World} {ok ok2 : Nat → Prop} (h : Rest w w1 ok) (h2 : Rest w1 w2 ok2) (hk : ∀ k, k < w.heap.size → ok2 k → ok k) : Rest w w2 ok :=
  ⟨h2.os.trans h.os, h2.tape.trans h.tape, h2.output.trans h.output, Nat.le_trans h.size h2.size, fun k hl hn => (h2.block k (Nat.lt_of_lt_of_le hl h.size) (fun e => hn (hk k hl e))).trans (h.block k hl hn)⟩
theorem Rest.set {w w1 : World} {ok : Nat → Prop} (h : Rest w w1 ok) {p : Addr} (hp : ok p.block) (u : Value) : Rest w (w1.setCell p u) ok :=
  ⟨h.os, h.tape, h.output, by simpa [World.setCell] using h.size, fun k hk hn => (Below.heap_setCell w1 p u k (fun e => hn (by rw [e]; exact hp))).trans (h.block k hk hn)⟩
theorem Rest.alloc {w w1 : World} {ok : Nat → Prop} (h : Rest w w1 ok) (o : Obj) : Rest w (w1.alloc o) ok := h.trans (Rest.of_below (below_alloc (Below.refl _ _) o) ok) (fun _ _ h => h)
theorem Rest.drewN {w w1 : World} {ok : Nat → Prop} (h : Rest w w1 ok) (n : Nat) : Rest w (w1.drewN n) ok := h.trans (Rest.of_below (pw_below_drewN (Below.refl _ _) n) ok) (fun _ _ h => h)
theorem Rest.mono {w w1 : World} {ok ok' : Nat → Prop} (h : Rest w w1 ok) (hk : ∀ k, k < w.heap.size → ok k → ok' k) : Rest w w1 ok' := ⟨h.os, h.tape, h.output, h.size, fun k hl hn => h.block k hl (fun e => hn (hk k hl e))⟩
/-- Where all that is ok is new, all that was there stays. -/
theorem Rest.below {w0 w w' : World} {ok : Nat → Prop} (hb : Below w0.heap.size w0 w) (h : Rest w w' ok) (hn : ∀ k, ok k → w0.heap.size ≤ k) : Below w0.heap.size w0 w' :=
  ⟨h.os.trans hb.os, h.tape.trans hb.tape, h.output.trans hb.output, Nat.le_trans hb.size h.size, fun k hk => (h.block k (Nat.lt_of_lt_of_le hk hb.size) (fun e => by have := hn k e; omega)).trans (hb.block k hk)⟩

/-! ### walks that only read -/
set_option maxHeartbeats 1000000 in
theorem st_is (g : Nat) (w : World) (c0 : w.cell? ⟨g, 0, none⟩ = some (.bool true)) : Calls Try.prog 51 #[.pointer (some ⟨g, 0, none⟩)] w fun e w' => e = .returned (.bool true) ∧ w = w' := by
  go_enter Try.func51, Try.ntmps51
  go_wp2
  go_ret
  exact ⟨rfl, rfl⟩
set_option maxHeartbeats 1000000 in
theorem st_Atoms (ok : Nat → Prop) (g : Nat) (vals : List Int) (cls : List (List Int × Int × Int)) (marks : List S92) (w : World) (h : St w ok g vals cls marks) : Calls Try.prog 31 #[.pointer (some ⟨g, 0, none⟩)] w fun e w' => e = .returned (.int .i64 ((vals.length : Int) - 1)) ∧ w = w' := by
  obtain ⟨vv, vc, vm, h⟩ := h
  obtain ⟨A, c, rfl, hl, hC⟩ := Kd.R_reads h.rv
  have c0 := Aside0.mk h.c0
  have c1 := h.c1
  have hm := Kd.C_max hC
  clear h hC
  go_enter Try.func31, Try.ntmps31
  go_wp2_with (first | (go_at_call 51; refine (st_is g _ c0.out).mono ?_; rintro e w' ⟨rfl, rfl⟩))
  go_ret
  exact ⟨rfl, rfl⟩
/-- The level of the last mark. -/
def lvl (marks : List S92) : Int := if marks = [] then 0 else (rd_T92 marks ((marks.length : Int) - 1)).f1
theorem info_int : (Try.prog.info? 3).map (fun i => (i.zero, i.size, i.bytes)) = some (some (.int .i64 0), 1, 8) := by kernel_rfl
/-- A store without clauses and marks, at a new block: what New leaves. -/
theorem st_new {w w4 : World} {vv : Value} {vals : List Int} (ho : Kd.R (Kd.int .i64) 3 w4 w.heap.size (fun _ => True) vv vals) (hb : Below w.heap.size w w4) :
    St (w4.alloc (.cells #[.bool true, vv, .slice none 0 0, .slice none 0 0] 89)) (fun k => w.heap.size ≤ k) w4.heap.size vals [] [] := by
  have ho' := Kd.R_lower (Kd.R_bound ho) (Nat.zero_le _)
  refine ⟨vv, _, _, hb.size, heap_alloc_new _ _, ?_, Kd.R_nil _ _ _ _ _, Kd.R_nil _ _ _ _ _⟩
  exact Kd.R_mono (Kd.R_alloc ho' _) (fun k hk => ⟨hk.2.1, by have := hk.2.2.1; omega⟩)
set_option maxHeartbeats 1000000 in
theorem st_New (n : Int) (w : World) (h0 : 0 ≤ n) (h1 : n ≤ 262144) : Calls Try.prog 27 #[.int .i64 n] w fun e w' => ∃ g, e = .returned (.tuple #[.pointer (some ⟨g, 0, none⟩), .int .i64 0]) ∧ St w' (fun k => w.heap.size ≤ k) g (List.replicate (n + 1).toNat 0) [] [] ∧ Below w.heap.size w w' := by
  have d0 : decide (n < 0) = false := decide_eq_false (by omega)
  have d1 : decide (262144 < n) = false := decide_eq_false (by omega)
  go_enter Try.func27, Try.ntmps27
  go_wp2_with (first | ((with_reducible refine gate_dst (N := 12) rfl ?_); refine Kd.R_make (Kd.int .i64) _ 3 rfl (N := 12) rfl 22 _ _ rfl (n + 1) rfl rfl Try.underlying22 (.int .i64 0) 8 info_int rfl (by decide) (by omega) 0 (ok := fun _ => True) (okp := fun _ => True) rfl (fun _ hk => hk) trivial (by omega) (by omega) (Below.refl _ _) (Nat.le_refl _) ?_; intro v119 w4 ho5 hb hg_ hnew_; obtain ⟨A1, cc1, rfl⟩ := Kd.R_slice ho5; clear hg_ hnew_; have HO := Aside0.mk ho5; have HB := Aside0.mk hb; clear ho5 hb))
  go_ret2
  exact ⟨_, rfl, st_new (by have := HO.out; rwa [List.length_replicate] at this) HB.out, below_alloc HB.out _⟩
theorem st_New_low (n : Int) (w : World) (h0 : n < 0) : Calls Try.prog 27 #[.int .i64 n] w fun e w' => e = .returned (.tuple #[.pointer none, .int .i64 1]) ∧ w = w' := by
  go_enter Try.func27, Try.ntmps27
  go_wp2
  go_ret2
  exact ⟨rfl, rfl⟩
theorem st_New_high (n : Int) (w : World) (h0 : 262144 < n) : Calls Try.prog 27 #[.int .i64 n] w fun e w' => e = .returned (.tuple #[.pointer none, .int .i64 2]) ∧ w = w' := by
  have d0 : decide (n < 0) = false := decide_eq_false (by omega)
  go_enter Try.func27, Try.ntmps27
  go_wp2
  go_ret2
  exact ⟨rfl, rfl⟩
set_option maxHeartbeats 1000000 in
theorem st_Grow_full (ok : Nat → Prop) (g : Nat) (vals : List Int) (cls : List (List Int × Int × Int)) (marks : List S92) (w : World) (h : St w ok g vals cls marks) (hv : (vals.length : Int) - 1 = 262144) : Calls Try.prog 38 #[.pointer (some ⟨g, 0, none⟩)] w fun e w' => e = .returned (.tuple #[.int .i64 0, .int .i64 2]) ∧ w = w' := by
  have H := Aside0.mk h
  obtain ⟨vv, vc, vm, h⟩ := h
  have c0 := Aside0.mk h.c0
  have HV := Aside0.mk hv
  clear h hv
  go_enter Try.func38, Try.ntmps38
  go_wp2_with (first | (go_at_call 51; refine (st_is g _ c0.out).mono ?_; rintro e w' ⟨rfl, rfl⟩) | (go_at_call 31; refine (st_Atoms ok g vals cls marks _ H.out).mono ?_; rw [HV.out]; rintro e w' ⟨rfl, rfl⟩))
  go_ret2
  exact ⟨rfl, rfl⟩
/-- A store's field is written: values. -/
theorem Parts.put1 {w w1 : World} {ok ok' : Nat → Prop} {g : Nat} {vv vc vm v1 : Value} {vals vals' : List Int} {cls : List (List Int × Int × Int)} {marks : List S92} (h : Parts w ok g vv vc vm vals cls marks)
    (hok : ∀ k, ok k → ok' k) (hnew : ∀ k, w.heap.size ≤ k → ok' k) (hv : Kd.R (Kd.int .i64) 3 w1 0 (fun k => ok' k ∧ k ≠ g) v1 vals') (hg : w.grownBy w1 vv.ownBlock) (hat : v1.ownBlock = vv.ownBlock ∨ ∃ b, v1.ownBlock = some b ∧ w.heap.size ≤ b) :
    Parts (w1.setCell ⟨g, 1, none⟩ v1) ok' g v1 vc vm vals' cls marks := by
  have hgv : some g ≠ vv.ownBlock := fun e => (h.rv.1 g e.symm).2 rfl
  have hgl := blk_lt h.blk
  have hb1 : w1.heap[g]? = some (.cells #[.bool true, vv, vc, vm] 89 (0, 0)) := (hg.block g hgl hgv).trans h.blk
  have far : ∀ {α : Type} {d : Kd α} {e : Nat} {u : Value} {xs : List α}, Kd.R d e w 0 (fun k => (ok k ∧ k ≠ g) ∧ some k ≠ vv.ownBlock) u xs → Kd.R d e (w1.setCell ⟨g, 1, none⟩ v1) 0 (fun k => (ok' k ∧ k ≠ g) ∧ some k ≠ v1.ownBlock) u xs := by
    intro α d e u xs hu
    have hu1 := Kd.R_mono (Kd.R_move (Kd.R_bound hu) (fun k hk => hg.block k hk.2.2.1 hk.1.2)) (ok' := fun k => (ok' k ∧ k ≠ g) ∧ some k ≠ v1.ownBlock) (fun k hk => ⟨⟨hok k hk.1.1.1, hk.1.1.2⟩, by
      rcases hat with e | ⟨b, e, hb⟩
      · rw [e]; exact hk.1.2
      · rw [e]; intro e2; injection e2 with e2; have := hk.2.2.1; omega⟩)
    exact Kd.R_far hu1 (fun k hk => hk.1.2) _
  exact ⟨hok g h.og, by have := blk_set hb1 1 v1; simpa using this, Kd.R_far hv (fun k hk => hk.2) _, far h.rc, far h.rm⟩
set_option maxHeartbeats 2000000 in
theorem st_Grow (ok : Nat → Prop) (g : Nat) (vals : List Int) (cls : List (List Int × Int × Int)) (marks : List S92) (w : World) (h : St w ok g vals cls marks) (hv : (vals.length : Int) - 1 < 262144) (hp : 1 ≤ vals.length) : Calls Try.prog 38 #[.pointer (some ⟨g, 0, none⟩)] w fun e w' =>
    e = .returned (.tuple #[.int .i64 (vals.length : Int), .int .i64 0]) ∧ St w' (fun k => ok k ∨ w.heap.size ≤ k) g (vals ++ [0]) cls marks ∧ Rest w w' ok := by
  have H := Aside0.mk h
  obtain ⟨vv, vc, vm, h⟩ := h
  have c0 := Aside0.mk h.c0
  have c1 := h.c1
  have f1 := h.f 1
  have HP := Aside0.mk h
  clear h
  have hne : ((vals.length : Int) - 1 == 262144) = false := by rw [beq_eq_false_iff_ne]; omega
  have hvl : vals.length ≤ 262144 := by omega
  obtain ⟨A, c, rfl, hl, hC⟩ := Kd.R_reads HP.out.rv
  clear hC
  have HO := Aside0.mk (show Kd.R (Kd.int .i64) 3 w 0 (fun k => (ok k ∨ w.heap.size ≤ k) ∧ k ≠ g) (.slice A vals.length c) vals from Kd.R_mono HP.out.rv (fun k hk => ⟨.inl hk.1, hk.2⟩))
  have HF : Aside0 (∀ k, w.heap.size ≤ k → (ok k ∨ w.heap.size ≤ k) ∧ k ≠ g) := ⟨fun k hk => ⟨.inr hk, fun e => by have := blk_lt HP.out.blk; omega⟩⟩
  go_enter Try.func38, Try.ntmps38
  go_wp2_with (first | (go_at_call 51; refine (st_is g _ c0.out).mono ?_; rintro e w' ⟨rfl, rfl⟩) | (go_at_call 31; refine (st_Atoms ok g vals cls marks _ H.out).mono ?_; rintro e w' ⟨rfl, rfl⟩) | (go_at_call 31; refine (st_Atoms _ g (vals ++ [0]) cls marks _ HS1.out).mono ?_; rintro e w' ⟨rfl, rfl⟩) | (at_builtin; refine Kd.R_append (Kd.int .i64) (w0 := w) 0 rfl (.tmp 16) (.tmp 17) 22 3 (.int .i64 0) 8 rfl Try.underlying22 info_int rfl (by decide) (by omega) (.slice A vals.length c) vals (0 : Int) [.int .i64 0] (fun k => (ok k ∨ w.heap.size ≤ k) ∧ k ≠ g) (fun _ => False) rfl rfl rfl (fun _ hk => hk.elim) ?aF ?aO ?aB ?aS ?aL ?_; (case aF => exact HF.out); (case aO => exact HO.out); (case aB => exact ⟨rfl, rfl, rfl, Nat.le_refl _, fun _ h => by omega⟩); (case aS => exact Nat.zero_le _); (case aL => omega); intro v1 w1 ho hb hg hat; obtain ⟨A1, cc1, rfl⟩ := Kd.R_slice ho; rw [show (vals ++ [(0 : Int)]).length = vals.length + 1 from by simp] at ho hat; have HS1 := Aside0.mk (show St (w1.setCell ⟨g, 1, none⟩ (.slice A1 (vals.length + 1) cc1)) (fun k => ok k ∨ w.heap.size ≤ k) g (vals ++ [0]) cls marks from ⟨_, _, _, HP.out.put1 (fun _ h => .inl h) (fun _ h => .inr h) ho hg hat⟩); have HR1 := Aside0.mk (((Rest.refl w ok).grown hg (fun k e _ => (HP.out.rv.1 k e).1)).set (p := ⟨g, 1, none⟩) HP.out.og (.slice A1 (vals.length + 1) cc1)); have hgv : some g ≠ (Value.slice A vals.length c).ownBlock := (fun e => (HP.out.rv.1 g e.symm).2 rfl); have hb1 := (hg.block g (blk_lt HP.out.blk) hgv).trans HP.out.blk; have k1 := blk_cell hb1 1; have k1f := blk_frozen hb1 1; clear ho hb hg hat hgv hb1))
  go_ret2
  exact ⟨by simp, HS1.out, HR1.out⟩
/-! ### slices.Clone -/
theorem R_made_nil {α : Type} (d : Kd α) (e : Nat) (w : World) : d.R e (w.alloc (.cells #[] e)) w.heap.size (fun _ => True) (.slice (some ⟨w.heap.size, 0, none⟩) 0 0) [] := by
  refine ⟨fun _ _ => trivial, [], ?_, by simp, fun j p hj => by simp at hj⟩
  have h := World.ownsRow_lit (base := w.heap.size) (e := e) (size := d.sz) w #[] 0 (Nat.le_refl _) (by unfold maxLen; omega) (by simp)
  simpa using h
set_option maxHeartbeats 2000000 in
theorem clone_ints (A0 : Option Addr) (c0 : Nat) (l0 : List Int) (w : World) (hr0 : Kd.C (Kd.int .i64) w A0 l0.length l0) (hm : l0.length ≤ 4194304) :
    Calls Try.prog 36 #[.slice A0 l0.length c0] w fun e w' => ∃ v0_ : Value, e = .returned (v0_) ∧ Kd.R (Kd.int .i64) 3 w' w.heap.size (fun _ => True) v0_ l0 ∧ Below w.heap.size w w' := by
  have HR := Aside0.mk hr0
  have he := fun (W : World) (c : Nat) => Lib.run_eql_slice_nil (P := Try.prog) W 23 3 A0 l0.length c 0 0 Try.underlying23
  cases A0 with
  | none =>
    have hl : l0 = [] := by
      rcases l0 with _ | ⟨x, xs⟩
      · rfl
      · obtain ⟨ad, h, _⟩ := hr0.2.2 (by simp)
        cases h
    subst hl
    clear hr0 hm he
    have he0 : ∀ W : World, (binOp .eql 23 (.slice none 0 c0) (.slice none 0 0)).run Try.prog W = .ok (.bool true) W := fun W => Lib.run_eql_slice_nil W _ _ none 0 c0 0 0 Try.underlying23
    go_enter Try.func36, Try.ntmps36
    go_wp2
    go_ret
    exact ⟨_, rfl, Kd.R_nil _ _ _ _ _, Below.refl _ _⟩
  | some ad =>
    clear hr0
    have HN := Aside0.mk (R_made_nil (Kd.int .i64) 3 w)
    go_enter Try.func36, Try.ntmps36
    go_wp2_with (first | (at_builtin; refine Kd.R_append_rows (Kd.int .i64) (Rr := (Kd.int .i64).K w) (w0 := w) w.heap.size rfl (.tmp 5) (.tmp 6) 23 3 (.int .i64 0) 8 rfl Try.underlying23 info_int rfl (by decide) (by omega) (.slice (some ⟨w.heap.size, 0, none⟩) 0 0) ([] : List Int) l0 (some ad) l0.length c0 (fun _ => True) (fun _ => False) rfl rfl HN.out ?aR (fun _ _ h => h) (fun _ h => h.elim) (fun _ _ => trivial) (below_alloc (Below.refl _ _) _) (by simp) (by simp; omega) ?_; (case aR => exact Kd.C_alloc HR.out _); intro v1 w1 ho hb hg hat; obtain ⟨A1, cc1, rfl⟩ := Kd.R_slice ho; have HO := Aside0.mk ho; have HB := Aside0.mk hb; clear ho hb hg hat))
    go_ret
    exact ⟨_, rfl, by simpa using HO.out, HB.out⟩
/-! ### walks that only read, on a store that lies so -/
def valL (vals : List Int) (l : Int) : Int := if l < 0 then -(rd vals (-l)) else rd vals l
structure Vals (vals : List Int) : Prop where
  pos : 1 ≤ vals.length
  max : vals.length ≤ 262145
  rng : ∀ x ∈ vals, -1 ≤ x ∧ x ≤ 1
theorem Vals.rd {vals : List Int} (h : Vals vals) (i : Int) : -1 ≤ rd vals i ∧ rd vals i ≤ 1 := by
  unfold Go.Proofs.YtocmldppefjbgaaW.PrintWords.rd
  rw [List.getD_eq_getElem?_getD]
  rcases Nat.lt_or_ge i.toNat vals.length with h1 | h1
  · rw [List.getElem?_eq_getElem h1]
    exact h.rng _ (List.getElem_mem h1)
  · rw [List.getElem?_eq_none h1]
    simp
theorem Vals.val {vals : List Int} (h : Vals vals) (l : Int) : -1 ≤ valL vals l ∧ valL vals l ≤ 1 := by
  unfold valL
  split
  · have := h.rd (-l); omega
  · exact h.rd l
def litB (n l : Int) : Bool := decide (l ≠ 0 ∧ l ≤ n ∧ -n ≤ l)
set_option maxHeartbeats 1000000 in
theorem st_literal (ok : Nat → Prop) (g : Nat) (vals : List Int) (cls : List (List Int × Int × Int)) (marks : List S92) (l : Int) (w : World) (h : St w ok g vals cls marks) (hv : Vals vals) :
    Calls Try.prog 65 #[.pointer (some ⟨g, 0, none⟩), .int .i64 l] w fun e w' => e = .returned (.bool (litB ((vals.length : Int) - 1) l)) ∧ w = w' := by
  have H := Aside0.mk h
  have hm := hv.max
  have hp := hv.pos
  clear h hv
  obtain ⟨n, hn⟩ : ∃ n : Int, n = (vals.length : Int) - 1 := ⟨_, rfl⟩
  have hn0 : 0 ≤ n := by omega
  have hn1 : n ≤ 262144 := by omega
  have HN := Aside0.mk hn
  rw [← hn]
  clear hn hm hp
  have fin : ∀ b, litB n l = b → Aside0 (litB n l = b) := fun _ h => ⟨h⟩
  by_cases h0 : l = 0
  · have HF := fin false (by simp [litB, h0])
    rw [HF.out]
    have hb : (l != 0) = false := by simp [h0]
    clear h0 fin
    go_enter Try.func65, Try.ntmps65
    go_wp2
    go_ret
    exact ⟨rfl, rfl⟩
  · have hb : (l != 0) = true := by rw [bne_iff_ne]; exact h0
    by_cases h1 : l ≤ n
    · by_cases h2 : -n ≤ l
      · have HF := fin true (by simp [litB, h0, h1, h2])
        rw [HF.out]
        clear fin h0
        have hb1 : decide (l ≤ n) = true := decide_eq_true h1
        have hb2 : decide (-n ≤ l) = true := decide_eq_true h2
        go_enter Try.func65, Try.ntmps65
        go_wp2_with (first | (go_at_call 31; refine (st_Atoms ok g vals cls marks _ H.out).mono ?_; rw [← HN.out]; rintro e w' ⟨rfl, rfl⟩))
        go_ret
        exact ⟨rfl, rfl⟩
      · have HF := fin false (by simp [litB, h2])
        rw [HF.out]
        clear fin h0
        have hb1 : decide (l ≤ n) = true := decide_eq_true h1
        have hb2 : decide (-n ≤ l) = false := decide_eq_false h2
        go_enter Try.func65, Try.ntmps65
        go_wp2_with (first | (go_at_call 31; refine (st_Atoms ok g vals cls marks _ H.out).mono ?_; rw [← HN.out]; rintro e w' ⟨rfl, rfl⟩))
        go_ret
        exact ⟨rfl, rfl⟩
    · have HF := fin false (by simp [litB, h1])
      rw [HF.out]
      clear fin h0
      have hb1 : decide (l ≤ n) = false := decide_eq_false h1
      go_enter Try.func65, Try.ntmps65
      go_wp2_with (first | (go_at_call 31; refine (st_Atoms ok g vals cls marks _ H.out).mono ?_; rw [← HN.out]; rintro e w' ⟨rfl, rfl⟩))
      go_ret
      exact ⟨rfl, rfl⟩
set_option maxHeartbeats 1000000 in
theorem st_lam (ok : Nat → Prop) (g B : Nat) (vals : List Int) (cls : List (List Int × Int × Int)) (marks : List S92) (l : Int) (w : World) (h : St w ok g vals cls marks) (hv : Vals vals) (hB : w.cell? ⟨B, 0, none⟩ = some (.pointer (some ⟨g, 0, none⟩))) :
    Calls Try.prog 64 #[.int .i64 l, .pointer (some ⟨B, 0, none⟩)] w fun e w' => e = .returned (.bool (!(litB ((vals.length : Int) - 1) l))) ∧ w = w' := by
  have H := Aside0.mk h
  have HV := Aside0.mk hv
  obtain ⟨b, hb⟩ : ∃ b, b = litB ((vals.length : Int) - 1) l := ⟨_, rfl⟩
  rw [← hb]
  have HBB := Aside0.mk hb
  clear h hv hb
  go_enter Try.func64, Try.ntmps64
  go_wp2_with (first | (go_at_call 65; refine (st_literal ok g vals cls marks l _ H.out HV.out).mono ?_; rw [← HBB.out]; rintro e w' ⟨rfl, rfl⟩))
  go_ret
  exact ⟨rfl, rfl⟩
set_option maxHeartbeats 1000000 in
theorem st_IndexF (ok : Nat → Prop) (g B : Nat) (vals : List Int) (cls : List (List Int × Int × Int)) (marks : List S92) (A0 : Option Addr) (c0 : Nat) (l0 : List Int) (w : World) (hr0 : Kd.C (Kd.int .i64) w A0 l0.length l0) (h : St w ok g vals cls marks) (hv : Vals vals) (hB : w.cell? ⟨B, 0, none⟩ = some (.pointer (some ⟨g, 0, none⟩))) :
    Calls Try.prog 52 #[.slice A0 l0.length c0, .func (.func 64) #[] #[.pointer (some ⟨B, 0, none⟩)]] w fun e w' => ∃ r : Int, e = .returned (.int .i64 r) ∧ decide (0 ≤ r) = l0.any (fun l => !(litB ((vals.length : Int) - 1) l)) ∧ w = w' := by
  have HR := Aside0.mk hr0
  have H := Aside0.mk h
  have HV := Aside0.mk hv
  have HBB := Aside0.mk hB
  have hmax := Kd.C_max hr0
  clear hr0 h hv hB
  obtain ⟨p, hp⟩ : ∃ p : Int → Bool, p = fun l => !(litB ((vals.length : Int) - 1) l) := ⟨_, rfl⟩
  have HLAM : Aside0 (∀ (x : Int), Calls Try.prog 64 #[.int .i64 x, .pointer (some ⟨B, 0, none⟩)] w fun e w' => e = .returned (.bool (p x)) ∧ w = w') := ⟨fun x => by rw [hp]; exact st_lam ok g B vals cls marks x w H.out HV.out HBB.out⟩
  rw [← hp]
  clear hp
  go_enter Try.func52, Try.ntmps52
  go_wp2
  go_loopg [8] l0.length (fun kq v8 w' => ∃ i : Nat, v8 = .int .i64 i ∧ i + kq = l0.length ∧ Aside0 ((l0.take i).any p = false) ∧ w = w')
  case atStart => exact ⟨0, rfl, by omega, ⟨by simp⟩, rfl⟩
  case round =>
    obtain ⟨i, rfl, hik, HN, rfl⟩ := hrel
    cases gk with
    | succ k1 =>
      have hlt : i < l0.length := by omega
      obtain ⟨ad, rfl, hx⟩ := Kd.at_int HR.out (i : Int) (by omega) (by omega)
      rw [Int.toNat_natCast] at hx
      have hsn : (l0.take (i + 1)).any p = p (rd l0 (i : Int)) := by
        rw [List.take_succ_eq_append_getElem hlt, List.any_append, HN.out]
        simp [rd, List.getD_eq_getElem?_getD, List.getElem?_eq_getElem hlt]
      have hall : l0.any p = ((l0.take (i + 1)).any p || (l0.drop (i + 1)).any p) := by rw [← List.any_append, List.take_append_drop]
      cases hpx : p (rd l0 (i : Int)) with
      | true =>
        have HP := Aside0.mk hpx
        have HALL : Aside0 (l0.any p = true) := ⟨by rw [hall, hsn, hpx]; simp⟩
        clear hsn hall hpx
        go_wp2_with (first | (go_at_call 64; refine (HLAM.out _).mono ?_; rw [HP.out]; rintro e w' ⟨rfl, rfl⟩))
        go_ret
        exact ⟨_, rfl, by rw [HALL.out]; simp, rfl⟩
      | false =>
        have HP := Aside0.mk hpx
        have HN1 : Aside0 ((l0.take (i + 1)).any p = false) := ⟨by rw [hsn, hpx]⟩
        clear hsn hall hpx
        go_wp2_with (first | (go_at_call 64; refine (HLAM.out _).mono ?_; rw [HP.out]; rintro e w' ⟨rfl, rfl⟩))
        go_roundg k1
        case measure => omega
        case rel => exact ⟨i + 1, by go_num, by omega, HN1, rfl⟩
    | zero =>
      have hie : i = l0.length := by omega
      subst hie
      rw [List.take_length] at HN
      go_wp2
      go_ret
      exact ⟨_, rfl, by rw [HN.out]; rfl, rfl⟩
set_option maxHeartbeats 1000000 in
theorem st_ContainsF (ok : Nat → Prop) (g B : Nat) (vals : List Int) (cls : List (List Int × Int × Int)) (marks : List S92) (A0 : Option Addr) (c0 : Nat) (l0 : List Int) (w : World) (hr0 : Kd.C (Kd.int .i64) w A0 l0.length l0) (h : St w ok g vals cls marks) (hv : Vals vals) (hB : w.cell? ⟨B, 0, none⟩ = some (.pointer (some ⟨g, 0, none⟩))) :
    Calls Try.prog 32 #[.slice A0 l0.length c0, .func (.func 64) #[] #[.pointer (some ⟨B, 0, none⟩)]] w fun e w' => e = .returned (.bool (l0.any (fun l => !(litB ((vals.length : Int) - 1) l)))) ∧ w = w' := by
  have HC := Aside0.mk (st_IndexF ok g B vals cls marks A0 c0 l0 w hr0 h hv hB)
  obtain ⟨q, hq⟩ : ∃ q, q = l0.any (fun l => !(litB ((vals.length : Int) - 1) l)) := ⟨_, rfl⟩
  rw [← hq] at HC ⊢
  clear hr0 h hv hB hq
  go_enter Try.func32, Try.ntmps32
  go_wp2_with (first | (go_at_call 52; refine HC.out.mono ?_; rintro e w' ⟨r, rfl, hr, rfl⟩; subst hr))
  go_ret
  exact ⟨rfl, rfl⟩
/-- A store's field is written: clauses. -/
theorem Parts.put2 {w w1 : World} {ok ok' : Nat → Prop} {g : Nat} {vv vc vm v1 : Value} {vals : List Int} {cls cls' : List (List Int × Int × Int)} {marks : List S92} (h : Parts w ok g vv vc vm vals cls marks)
    (hok : ∀ k, ok k → ok' k) (hv : Kd.R kW 105 w1 0 (fun k => (ok' k ∧ k ≠ g) ∧ some k ≠ vv.ownBlock) v1 cls') (hg : w.grownBy w1 vc.ownBlock) :
    Parts (w1.setCell ⟨g, 2, none⟩ v1) ok' g vv v1 vm vals cls' marks := by
  have hgv : some g ≠ vc.ownBlock := fun e => (h.rc.1 g e.symm).1.2 rfl
  have hgl := blk_lt h.blk
  have hb1 : w1.heap[g]? = some (.cells #[.bool true, vv, vc, vm] 89 (0, 0)) := (hg.block g hgl hgv).trans h.blk
  have e1 : Kd.R (Kd.int .i64) 3 w1 0 (fun k => ok k ∧ k ≠ g) vv vals := Kd.R_over h.rv h.rc (by decide) hg
  have e2 : Kd.R k92 92 w1 0 (fun k => (ok k ∧ k ≠ g) ∧ some k ≠ vv.ownBlock) vm marks := Kd.R_over h.rm h.rc (by simp [k92, Kd.iso, Kd.pair, Kd.int, Kd.scalar]) hg
  exact ⟨hok g h.og, by have := blk_set hb1 2 v1; simpa using this, Kd.R_far (Kd.R_mono e1 (fun k hk => ⟨hok k hk.1, hk.2⟩)) (fun k hk => hk.2) _, Kd.R_far hv (fun k hk => hk.1.2) _, Kd.R_far (Kd.R_mono e2 (fun k hk => ⟨⟨hok k hk.1.1, hk.1.2⟩, hk.2⟩)) (fun k hk => hk.1.2) _⟩
def litsOk (vals : List Int) (c : List Int) : Bool := !(c.any (fun l => !(litB ((vals.length : Int) - 1) l)))
theorem info_watched : (Try.prog.info? 105).map (fun i => (i.zero, i.size, i.bytes)) = some (some (.agg #[.slice none 0 0, .int .i64 0, .int .i64 0]), 3, 40) := by kernel_rfl
theorem kW_mkM {w : World} {base : Nat} {ok : Nat → Prop} {v : Value} {l : List Int} (h : Kd.R (Kd.int .i64) 3 w base ok v l) (a b : Int) : kW.M w base ok (l, a, b) [v, .int .i64 a, .int .i64 b] :=
  ⟨[v], [.int .i64 a, .int .i64 b], rfl, ⟨v, rfl, h⟩, ⟨[.int .i64 a], [.int .i64 b], rfl, rfl, rfl⟩⟩
set_option maxHeartbeats 2000000 in
theorem st_Add_bad (ok : Nat → Prop) (g : Nat) (vals : List Int) (cls : List (List Int × Int × Int)) (marks : List S92) (A0 : Option Addr) (c0 : Nat) (l0 : List Int) (w : World) (hr0 : Kd.C (Kd.int .i64) w A0 l0.length l0) (h : St w ok g vals cls marks) (hv : Vals vals) (hb : litsOk vals l0 = false) :
    Calls Try.prog 53 #[.pointer (some ⟨g, 0, none⟩), .slice A0 l0.length c0] w fun e w' => e = .returned (.tuple #[.int .i64 0, .int .i64 180]) ∧ Below w.heap.size w w' := by
  have hA := fun (o : Obj) => below_alloc (Below.refl w.heap.size w) o
  have H := Aside0.mk (fun o => h.below (hA o))
  have HR := Aside0.mk (fun o => Kd.C_below hr0 (hA o))
  have HV := Aside0.mk hv
  have HBD : Aside0 (l0.any (fun l => !(litB ((vals.length : Int) - 1) l)) = true) := ⟨by unfold litsOk at hb; simpa using hb⟩
  have c0' : ∀ o, (w.alloc o).cell? ⟨g, 0, none⟩ = some (.bool true) := fun o => by obtain ⟨_, _, _, hp⟩ := H.out o; exact hp.c0
  have C0 := Aside0.mk c0'
  clear h hr0 hv hb hA c0'
  go_enter Try.func53, Try.ntmps53
  go_wp2_with (first | (go_at_call 51; refine (st_is g _ (C0.out _)).mono ?_; rintro e w' ⟨rfl, rfl⟩) | (go_at_call 32; refine (st_ContainsF ok g w.heap.size vals cls marks A0 c0 l0 _ (HR.out _) (H.out _) HV.out (by simp [go_sem])).mono ?_; rw [HBD.out]; rintro e w' ⟨rfl, rfl⟩))
  go_ret2
  exact ⟨rfl, below_alloc (Below.refl _ _) _⟩
set_option maxHeartbeats 8000000 in
set_option maxRecDepth 100000 in
theorem st_Add (ok : Nat → Prop) (g : Nat) (vals : List Int) (cls : List (List Int × Int × Int)) (marks : List S92) (A0 : Option Addr) (c0 : Nat) (l0 : List Int) (w : World) (hr0 : Kd.C (Kd.int .i64) w A0 l0.length l0) (h : St w ok g vals cls marks) (hv : Vals vals) (hb : litsOk vals l0 = true) (hn : cls.length < 1048576) (hl0 : l0.length ≤ 4194304) :
    Calls Try.prog 53 #[.pointer (some ⟨g, 0, none⟩), .slice A0 l0.length c0] w fun e w' => e = .returned (.tuple #[.int .i64 (cls.length : Int), .int .i64 0]) ∧ St w' (fun k => ok k ∨ w.heap.size ≤ k) g vals (cls ++ [(l0, 0, 0)]) marks ∧ Rest w w' ok := by
  have hA := fun (o : Obj) => below_alloc (Below.refl w.heap.size w) o
  have H := Aside0.mk (fun o => h.below (hA o))
  have HR := Aside0.mk (fun o => Kd.C_below hr0 (hA o))
  have HV := Aside0.mk hv
  have HBD : Aside0 (l0.any (fun l => !(litB ((vals.length : Int) - 1) l)) = false) := ⟨by unfold litsOk at hb; simpa using hb⟩
  obtain ⟨vv, vc, vm, h⟩ := h
  obtain ⟨Ac, cc, rfl, _, _⟩ := Kd.R_reads h.rc
  have HP := Aside0.mk h
  have hp1 := fun o => h.step (w1 := w.alloc o) (fun k _ hk => (hA o).block k hk)
  have HP1 := Aside0.mk hp1
  have C0 : Aside0 (∀ o, (w.alloc o).cell? ⟨g, 0, none⟩ = some (.bool true)) := ⟨fun o => (hp1 o).c0⟩
  have c2 : ∀ o, (w.alloc o).cell? ⟨g, 2, none⟩ = some (.slice Ac cls.length cc) := fun o => (hp1 o).c2
  have hne : ((cls.length : Int) == 1048576) = false := by rw [beq_eq_false_iff_ne]; omega
  have HN := Aside0.mk hn
  have HL0 := Aside0.mk hl0
  clear h hr0 hv hb hA hp1 hn hl0
  go_enter Try.func53, Try.ntmps53
  go_wp2_with (first | (go_at_call 51; refine (st_is g _ (C0.out _)).mono ?_; rintro e w' ⟨rfl, rfl⟩) | (go_at_call 32; refine (st_ContainsF ok g w.heap.size vals cls marks A0 c0 l0 _ (HR.out _) (H.out _) HV.out (by simp [go_sem])).mono ?_; rw [HBD.out]; rintro e w' ⟨rfl, rfl⟩))
  have hbx : ∀ p : Value, (w.alloc (.cells #[p] 57)).cell? ⟨w.heap.size, 0, none⟩ = some p := fun p => by simp [go_sem]
  have b0 := hbx (.pointer (some ⟨g, 0, none⟩))
  have c2' := c2 (.cells #[.pointer (some ⟨g, 0, none⟩)] 57)
  have hp1 := HP1.out (.cells #[.pointer (some ⟨g, 0, none⟩)] 57)
  have hr1 := HR.out (.cells #[.pointer (some ⟨g, 0, none⟩)] 57)
  obtain ⟨w1, hw1⟩ : ∃ w1, w1 = w.alloc (.cells #[.pointer (some ⟨g, 0, none⟩)] 57) := ⟨_, rfl⟩
  rw [← hw1] at b0 c2' hp1 hr1 ⊢
  have hws : w.heap.size ≤ w1.heap.size := by rw [hw1]; simp
  have HR1 := Aside0.mk hr1
  have HQ := Aside0.mk hp1
  have HW := Aside0.mk hw1
  have HWS := Aside0.mk hws
  have HF : Aside0 (∀ k, w.heap.size ≤ k → ((ok k ∨ w.heap.size ≤ k) ∧ k ≠ g) ∧ some k ≠ vv.ownBlock) := ⟨fun k hk => ⟨⟨.inr hk, fun e => by have := blk_lt HP.out.blk; omega⟩, fun e => by have := Kd.R_lt HP.out.rv k e.symm; omega⟩⟩
  clear hbx c2 hp1 hr1 hw1 hws C0 HP1 HR H
  go_region_law (first | (refine R_append_law kW (w0 := w1) 0 rfl (.tmp 25) (.tmp 29) 87 105 (.agg #[.slice none 0 0, .int .i64 0, .int .i64 0]) 40 rfl Try.underlying87 info_watched rfl (by decide) (by omega) (.slice Ac cls.length cc) cls (l0, 0, 0) [.slice A1 l0.length cc1, .int .i64 0, .int .i64 0] (fun k => ((ok k ∨ w.heap.size ≤ k) ∧ k ≠ g) ∧ some k ≠ vv.ownBlock) (fun k => w1.heap.size ≤ k) (by simp [Act.eval, Act.put]) (by simp [Act.eval, Act.put]) ?aP ?aK ?aF ?aO ?aB ?aS ?aL ?_; (case aP => exact kW_mkM HO1.out 0 0); (case aK => exact fun k hk => ⟨HF.out k (Nat.le_trans HWS.out hk), fun e => by have := Kd.R_lt HQ.out.rc k e.symm; omega⟩); (case aF => exact fun k hk => HF.out k (Nat.le_trans HWS.out (Nat.le_trans HB1.out.size hk))); (case aO => exact Kd.R_mono (Kd.R_below HQ.out.rc HB1.out) (fun k hk => ⟨⟨.inl hk.1.1, hk.1.2⟩, hk.2⟩)); (case aB => exact ⟨HB1.out.os, HB1.out.tape, HB1.out.output, HB1.out.size, fun _ h => by omega⟩); (case aS => exact Nat.zero_le _); (case aL => have := HN.out; omega); intro v1 w2 ho hb hg hat; obtain ⟨A2, cc2, rfl⟩ := Kd.R_slice ho; rw [show (cls ++ [(l0, (0 : Int), (0 : Int))]).length = cls.length + 1 from by simp] at ho; have hb1 := (hg.block g (Nat.lt_of_lt_of_le (blk_lt HQ.out.blk) HB1.out.size) (fun e => (HQ.out.rc.1 g e.symm).1.2 rfl)).trans ((HB1.out.block g (blk_lt HQ.out.blk)).trans HQ.out.blk); have k2 : w2.cell? ⟨g, 2, none⟩ = some (.slice Ac cls.length cc) := blk_cell hb1 2; have k2f := blk_frozen hb1 2; have bq := (World.cell?_of_block (hg.block w.heap.size (Nat.lt_of_lt_of_le (World.block_lt_of_cell? _ _ b0) HB1.out.size) (fun e => Nat.lt_irrefl _ (Kd.R_lt HP.out.rc _ e.symm)))).trans b1; have HO2 := Aside0.mk ho; have HG2 := Aside0.mk hg; clear ho hb hg hat hb1) | (go_simp; go_at_call 36; refine (clone_ints A0 c0 l0 _ (Kd.C_drew HR1.out) HL0.out).mono ?_; rintro e wc ⟨v0, rfl, hr, hb⟩; obtain ⟨A1, cc1, rfl⟩ := Kd.R_slice hr; have HO1 := Aside0.mk (Kd.R_mono (Kd.R_lower (Kd.R_bound hr) (Nat.zero_le _)) (ok' := fun k => w1.heap.size ≤ k) (fun k hk => hk.2.1)); have hb' : Below w1.heap.size w1 wc := ⟨hb.os, hb.tape, hb.output, hb.size, hb.block⟩; have HB1 := Aside0.mk hb'; have b1 := (hb'.cell (World.block_lt_of_cell? _ _ b0)).trans b0; have c21 := (hb'.cell (World.block_lt_of_cell? _ _ c2')).trans c2'; have b1a := fun o => ((below_alloc (Below.refl wc.heap.size wc) o).cell (World.block_lt_of_cell? _ _ b1)).trans b1; have c2a := fun o => ((below_alloc (Below.refl wc.heap.size wc) o).cell (World.block_lt_of_cell? _ _ c21)).trans c21; clear hr hb hb'))
  all_goals
    have hpc := HQ.out.step (w1 := wc) (fun k _ hk => HB1.out.block k hk)
    have hp3 := hpc.put2 (ok' := fun k => ok k ∨ w.heap.size ≤ k) (fun k h => .inl h) HO2.out HG2.out
    have hBg : w.heap.size ≠ g := fun e => Nat.lt_irrefl _ (e ▸ blk_lt HP.out.blk)
    have d0 := (World.cell?_of_block (a := ⟨w.heap.size, 0, none⟩) (Below.heap_setCell w2 ⟨g, 2, none⟩ (.slice A2 (cls.length + 1) cc2) w.heap.size hBg)).trans bq
    have hr3 : Rest w (w2.setCell ⟨g, 2, none⟩ (.slice A2 (cls.length + 1) cc2)) ok := by
      refine Rest.set (p := ⟨g, 2, none⟩) (Rest.grown (w1 := wc) ?_ HG2.out (fun k e _ => (HP.out.rc.1 k e).1.1)) HP.out.og _
      refine Rest.trans (w1 := w1) ?_ (Rest.of_below HB1.out ok) (fun _ _ h => h)
      rw [HW.out]
      exact (Rest.refl w ok).alloc _
    have e2 := hp3.c2
    have HP3 := Aside0.mk hp3
    have HR3 := Aside0.mk hr3
    obtain ⟨w3, hw3⟩ : ∃ w3, w3 = w2.setCell ⟨g, 2, none⟩ (.slice A2 (cls.length + 1) cc2) := ⟨_, rfl⟩
    rw [← hw3] at HP3 HR3 d0 e2 ⊢
    clear hpc hp3 hr3 hw3 HO1 HO2 HG2 HB1 HQ bq b1 b1a c21 c2a k2 k2f b0 c2'
    go_wp2
    go_ret2
    exact ⟨by simp; unfold wrap64; have := HN.out; omega, ⟨_, _, _, HP3.out⟩, HR3.out⟩

end Go.Proofs.Ytocmldppefjbgaa.PHU
