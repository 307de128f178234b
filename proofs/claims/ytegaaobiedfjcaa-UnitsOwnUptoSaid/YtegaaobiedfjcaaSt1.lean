import Derived.Test.YtegaaobiedfjcaaPUx3
import Derived.Test.YtegaaobiedfjcaaHMap
import Derived.Lib.SliceRun
namespace Go.Proofs.Ytegaaobiedfjcaa.PU
open Go.RowKit Go.Proofs.YtegaaobiedfjcaaW.PrintWords Go.Proofs.YtegaaobiedfjcaaW.PrintLast Go.Proofs.YtegaaobiedfjcaaW.PrintMore Go.Proofs.YtegaaobiedfjcaaH
set_option linter.unusedVariables false
set_option linter.unusedSimpArgs false
/-! ### the store: what lies in memory -/
/-- A clause that is watched, and the two places. -/
def kW : Kd (List Int × Int × Int) := Kd.pair (Kd.slice 3 (Kd.int .i64)) (Kd.pair (Kd.int .i64) (Kd.int .i64))
structure Parts (w : World) (ok : Nat → Prop) (g : Nat) (vv vc vm : Value) (vals : List Int) (cls : List (List Int × Int × Int)) (marks : List S48) : Prop where
  og : ok g
  blk : w.heap[g]? = some (.cells #[.bool true, vv, vc, vm] 55 (0, 0))
  rv : Kd.R (Kd.int .i64) 3 w 0 (fun k => ok k ∧ k ≠ g) vv vals
  rc : Kd.R kW 80 w 0 (fun k => (ok k ∧ k ≠ g) ∧ some k ≠ vv.ownBlock) vc cls
  rm : Kd.R k48 48 w 0 (fun k => (ok k ∧ k ≠ g) ∧ some k ≠ vv.ownBlock) vm marks
/-- A store at block g, all of whose blocks are ok. -/
def St (w : World) (ok : Nat → Prop) (g : Nat) (vals : List Int) (cls : List (List Int × Int × Int)) (marks : List S48) : Prop := ∃ vv vc vm, Parts w ok g vv vc vm vals cls marks
theorem Parts.c0 {w : World} {ok : Nat → Prop} {g : Nat} {vv vc vm : Value} {vals : List Int} {cls : List (List Int × Int × Int)} {marks : List S48} (h : Parts w ok g vv vc vm vals cls marks) : w.cell? ⟨g, 0, none⟩ = some (.bool true) := blk_cell h.blk 0
theorem Parts.c1 {w : World} {ok : Nat → Prop} {g : Nat} {vv vc vm : Value} {vals : List Int} {cls : List (List Int × Int × Int)} {marks : List S48} (h : Parts w ok g vv vc vm vals cls marks) : w.cell? ⟨g, 1, none⟩ = some vv := blk_cell h.blk 1
theorem Parts.c2 {w : World} {ok : Nat → Prop} {g : Nat} {vv vc vm : Value} {vals : List Int} {cls : List (List Int × Int × Int)} {marks : List S48} (h : Parts w ok g vv vc vm vals cls marks) : w.cell? ⟨g, 2, none⟩ = some vc := blk_cell h.blk 2
theorem Parts.c3 {w : World} {ok : Nat → Prop} {g : Nat} {vv vc vm : Value} {vals : List Int} {cls : List (List Int × Int × Int)} {marks : List S48} (h : Parts w ok g vv vc vm vals cls marks) : w.cell? ⟨g, 3, none⟩ = some vm := blk_cell h.blk 3
theorem Parts.f (j : Nat) {w : World} {ok : Nat → Prop} {g : Nat} {vv vc vm : Value} {vals : List Int} {cls : List (List Int × Int × Int)} {marks : List S48} (h : Parts w ok g vv vc vm vals cls marks) : w.frozen? ⟨g, j, none⟩ = false := blk_frozen h.blk j
/-- Whatever leaves the store's blocks as they are leaves the store. -/
theorem Parts.step {w w1 : World} {ok : Nat → Prop} {g : Nat} {vv vc vm : Value} {vals : List Int} {cls : List (List Int × Int × Int)} {marks : List S48} (h : Parts w ok g vv vc vm vals cls marks) (hm : ∀ k, ok k → k < w.heap.size → w1.heap[k]? = w.heap[k]?) : Parts w1 ok g vv vc vm vals cls marks :=
  ⟨h.og, (hm g h.og (blk_lt h.blk)).trans h.blk, Kd.R_step h.rv (fun k hk => hm k hk.1), Kd.R_step h.rc (fun k hk => hm k hk.1.1), Kd.R_step h.rm (fun k hk => hm k hk.1.1)⟩
theorem Parts.mono {w : World} {ok ok' : Nat → Prop} {g : Nat} {vv vc vm : Value} {vals : List Int} {cls : List (List Int × Int × Int)} {marks : List S48} (h : Parts w ok g vv vc vm vals cls marks) (hk : ∀ k, ok k → ok' k) : Parts w ok' g vv vc vm vals cls marks :=
  ⟨hk g h.og, h.blk, Kd.R_mono h.rv (fun k q => ⟨hk k q.1, q.2⟩), Kd.R_mono h.rc (fun k q => ⟨⟨hk k q.1.1, q.1.2⟩, q.2⟩), Kd.R_mono h.rm (fun k q => ⟨⟨hk k q.1.1, q.1.2⟩, q.2⟩)⟩
theorem Parts.bound {w : World} {ok : Nat → Prop} {g : Nat} {vv vc vm : Value} {vals : List Int} {cls : List (List Int × Int × Int)} {marks : List S48} (h : Parts w ok g vv vc vm vals cls marks) : Parts w (fun k => ok k ∧ k < w.heap.size) g vv vc vm vals cls marks :=
  ⟨⟨h.og, blk_lt h.blk⟩, h.blk, Kd.R_mono (Kd.R_bound h.rv) (fun k q => ⟨⟨q.1.1, q.2.2.1⟩, q.1.2⟩), Kd.R_mono (Kd.R_bound h.rc) (fun k q => ⟨⟨⟨q.1.1.1, q.2.2.1⟩, q.1.1.2⟩, q.1.2⟩), Kd.R_mono (Kd.R_bound h.rm) (fun k q => ⟨⟨⟨q.1.1.1, q.2.2.1⟩, q.1.1.2⟩, q.1.2⟩)⟩
theorem St.step {w w1 : World} {ok : Nat → Prop} {g : Nat} {vals : List Int} {cls : List (List Int × Int × Int)} {marks : List S48} (h : St w ok g vals cls marks) (hm : ∀ k, ok k → k < w.heap.size → w1.heap[k]? = w.heap[k]?) : St w1 ok g vals cls marks := by
  obtain ⟨a, b, c, h⟩ := h
  exact ⟨a, b, c, h.step hm⟩
theorem St.mono {w : World} {ok ok' : Nat → Prop} {g : Nat} {vals : List Int} {cls : List (List Int × Int × Int)} {marks : List S48} (h : St w ok g vals cls marks) (hk : ∀ k, ok k → ok' k) : St w ok' g vals cls marks := by
  obtain ⟨a, b, c, h⟩ := h
  exact ⟨a, b, c, h.mono hk⟩
theorem St.bound {w : World} {ok : Nat → Prop} {g : Nat} {vals : List Int} {cls : List (List Int × Int × Int)} {marks : List S48} (h : St w ok g vals cls marks) : St w (fun k => ok k ∧ k < w.heap.size) g vals cls marks := by
  obtain ⟨a, b, c, h⟩ := h
  exact ⟨a, b, c, h.bound⟩
theorem St.below {w w1 : World} {ok : Nat → Prop} {g : Nat} {vals : List Int} {cls : List (List Int × Int × Int)} {marks : List S48} (h : St w ok g vals cls marks) (hb : Below w.heap.size w w1) : St w1 ok g vals cls marks := h.step (fun k _ hk => hb.block k hk)
/-- What a call on the store does to the rest of memory: what was there and is not ok stays. -/
structure Rest (w w' : World) (ok : Nat → Prop) : Prop where
  os : w'.os = w.os
  tape : w'.tape = w.tape
  output : w'.output = w.output
  size : w.heap.size ≤ w'.heap.size
  block : ∀ k, k < w.heap.size → ¬ ok k → w'.heap[k]? = w.heap[k]?
theorem Rest.refl (w : World) (ok : Nat → Prop) : Rest w w ok := ⟨rfl, rfl, rfl, Nat.le_refl _, fun _ _ _ => rfl⟩
theorem Rest.of_below {w w' : World} (h : Below w.heap.size w w') (ok : Nat → Prop) : Rest w w' ok := ⟨h.os, h.tape, h.output, h.size, fun k hk _ => h.block k hk⟩
theorem Rest.grown {w w1 w2 : World} {ok : Nat → Prop} (h : Rest w w1 ok) {row : Option Nat} (hg : w1.grownBy w2 row) (hr : ∀ k, row = some k → k < w.heap.size → ok k) : Rest w w2 ok :=
  ⟨hg.os.trans h.os, hg.tape.trans h.tape, hg.output.trans h.output, Nat.le_trans h.size hg.size, fun k hk hn => (hg.block k (Nat.lt_of_lt_of_le hk h.size) (fun e => hn (hr k e.symm hk))).trans (h.block k hk hn)⟩
theorem Rest.trans {w w1 w2 : World} {ok ok2 : Nat → Prop} (h : Rest w w1 ok) (h2 : Rest w1 w2 ok2) (hk : ∀ k, k < w.heap.size → ok2 k → ok k) : Rest w w2 ok :=
  ⟨h2.os.trans h.os, h2.tape.trans h.tape, h2.output.trans h.output, Nat.le_trans h.size h2.size, fun k hl hn => (h2.block k (Nat.lt_of_lt_of_le hl h.size) (fun e => hn (hk k hl e))).trans (h.block k hl hn)⟩
theorem Rest.set {w w1 : World} {ok : Nat → Prop} (h : Rest w w1 ok) {p : Addr} (hp : ok p.block) (u : Value) : Rest w (w1.setCell p u) ok :=
  ⟨h.os, h.tape, h.output, by simpa [World.setCell] using h.size, fun k hk hn => (Below.heap_setCell w1 p u k (fun e => hn (by rw [e]; exact hp))).trans (h.block k hk hn)⟩
theorem Rest.alloc {w w1 : World} {ok : Nat → Prop} (h : Rest w w1 ok) (o : Obj) : Rest w (w1.alloc o) ok := h.trans (Rest.of_below (below_alloc (Below.refl _ _) o) ok) (fun _ _ h => h)
theorem Rest.drewN {w w1 : World} {ok : Nat → Prop} (h : Rest w w1 ok) (n : Nat) : Rest w (w1.drewN n) ok := h.trans (Rest.of_below (pw_below_drewN (Below.refl _ _) n) ok) (fun _ _ h => h)
theorem Rest.mono {w w1 : World} {ok ok' : Nat → Prop} (h : Rest w w1 ok) (hk : ∀ k, k < w.heap.size → ok k → ok' k) : Rest w w1 ok' := ⟨h.os, h.tape, h.output, h.size, fun k hl hn => h.block k hl (fun e => hn (hk k hl e))⟩
/-- Where all that is ok is new, all that was there stays. -/
theorem Rest.below {w0 w w' : World} {ok : Nat → Prop} (hb : Below w0.heap.size w0 w) (h : Rest w w' ok) (hn : ∀ k, ok k → w0.heap.size ≤ k) : Below w0.heap.size w0 w' :=
  ⟨h.os.trans hb.os, h.tape.trans hb.tape, h.output.trans hb.output, Nat.le_trans hb.size h.size, fun k hk => (h.block k (Nat.lt_of_lt_of_le hk hb.size) (fun e => by have := hn k e; omega)).trans (hb.block k hk)⟩

/-! ### walks that only read -/
set_option maxHeartbeats 1000000 in
theorem st_is (g : Nat) (w : World) (c0 : w.cell? ⟨g, 0, none⟩ = some (.bool true)) : Calls Try.prog 35 #[.pointer (some ⟨g, 0, none⟩)] w fun e w' => e = .returned (.bool true) ∧ w = w' := by
  go_enter Try.func35, Try.ntmps35
  go_wp2
  go_ret
  exact ⟨rfl, rfl⟩
set_option maxHeartbeats 1000000 in
theorem st_Atoms (ok : Nat → Prop) (g : Nat) (vals : List Int) (cls : List (List Int × Int × Int)) (marks : List S48) (w : World) (h : St w ok g vals cls marks) : Calls Try.prog 13 #[.pointer (some ⟨g, 0, none⟩)] w fun e w' => e = .returned (.int .i64 ((vals.length : Int) - 1)) ∧ w = w' := by
  obtain ⟨vv, vc, vm, h⟩ := h
  obtain ⟨A, c, rfl, hl, hC⟩ := Kd.R_reads h.rv
  have c0 := Aside0.mk h.c0
  have c1 := h.c1
  have hm := Kd.C_max hC
  clear h hC
  go_enter Try.func13, Try.ntmps13
  go_wp2_with (first | (go_at_call 35; refine (st_is g _ c0.out).mono ?_; rintro e w' ⟨rfl, rfl⟩))
  go_ret
  exact ⟨rfl, rfl⟩
/-- The level of the last mark. -/
def lvl (marks : List S48) : Int := if marks = [] then 0 else (rd_T48 marks ((marks.length : Int) - 1)).f1

theorem info_int : (Try.prog.info? 3).map (fun i => (i.zero, i.size, i.bytes)) = some (some (.int .i64 0), 1, 8) := by kernel_rfl
/-- A store without clauses and marks, at a new block: what New leaves. -/
theorem st_new {w w4 : World} {vv : Value} {vals : List Int} (ho : Kd.R (Kd.int .i64) 3 w4 w.heap.size (fun _ => True) vv vals) (hb : Below w.heap.size w w4) :
    St (w4.alloc (.cells #[.bool true, vv, .slice none 0 0, .slice none 0 0] 55)) (fun k => w.heap.size ≤ k) w4.heap.size vals [] [] := by
  have ho' := Kd.R_lower (Kd.R_bound ho) (Nat.zero_le _)
  refine ⟨vv, _, _, hb.size, heap_alloc_new _ _, ?_, Kd.R_nil _ _ _ _ _, Kd.R_nil _ _ _ _ _⟩
  exact Kd.R_mono (Kd.R_alloc ho' _) (fun k hk => ⟨hk.2.1, by have := hk.2.2.1; omega⟩)
set_option maxHeartbeats 1000000 in
theorem st_New (n : Int) (w : World) (h0 : 0 ≤ n) (h1 : n ≤ 262144) : Calls Try.prog 10 #[.int .i64 n] w fun e w' => ∃ g, e = .returned (.tuple #[.pointer (some ⟨g, 0, none⟩), .int .i64 0]) ∧ St w' (fun k => w.heap.size ≤ k) g (List.replicate (n + 1).toNat 0) [] [] ∧ Below w.heap.size w w' := by
  have d0 : decide (n < 0) = false := decide_eq_false (by omega)
  have d1 : decide (262144 < n) = false := decide_eq_false (by omega)
  go_enter Try.func10, Try.ntmps10
  go_wp2_with (first | ((with_reducible refine gate_dst (N := 12) rfl ?_); refine Kd.R_make (Kd.int .i64) _ 3 rfl (N := 12) rfl 32 _ _ rfl (n + 1) rfl rfl Try.underlying32 (.int .i64 0) 8 info_int rfl (by decide) (by omega) 0 (ok := fun _ => True) (okp := fun _ => True) rfl (fun _ hk => hk) trivial (by omega) (by omega) (Below.refl _ _) (Nat.le_refl _) ?_; intro v119 w4 ho5 hb hg_ hnew_; obtain ⟨A1, cc1, rfl⟩ := Kd.R_slice ho5; clear hg_ hnew_; have HO := Aside0.mk ho5; have HB := Aside0.mk hb; clear ho5 hb))
  go_ret2
  exact ⟨_, rfl, st_new (by have := HO.out; rwa [List.length_replicate] at this) HB.out, below_alloc HB.out _⟩
theorem st_New_low (n : Int) (w : World) (h0 : n < 0) : Calls Try.prog 10 #[.int .i64 n] w fun e w' => e = .returned (.tuple #[.pointer none, .int .i64 1]) ∧ w = w' := by
  go_enter Try.func10, Try.ntmps10
  go_wp2
  go_ret2
  exact ⟨rfl, rfl⟩
theorem st_New_high (n : Int) (w : World) (h0 : 262144 < n) : Calls Try.prog 10 #[.int .i64 n] w fun e w' => e = .returned (.tuple #[.pointer none, .int .i64 2]) ∧ w = w' := by
  have d0 : decide (n < 0) = false := decide_eq_false (by omega)
  go_enter Try.func10, Try.ntmps10
  go_wp2
  go_ret2
  exact ⟨rfl, rfl⟩
set_option maxHeartbeats 1000000 in
theorem st_Level0 (ok : Nat → Prop) (g : Nat) (vals : List Int) (cls : List (List Int × Int × Int)) (w : World) (h : St w ok g vals cls []) : Calls Try.prog 14 #[.pointer (some ⟨g, 0, none⟩)] w fun e w' => e = .returned (.int .i64 0) ∧ w = w' := by
  obtain ⟨vv, vc, vm, h⟩ := h
  obtain ⟨A, c, rfl, hl, hC⟩ := Kd.R_reads h.rm
  have c0 := Aside0.mk h.c0
  have c3 := h.c3
  clear h hC
  simp only [List.length_nil] at c3
  go_enter Try.func14, Try.ntmps14
  go_wp2_with (first | (go_at_call 35; refine (st_is g _ c0.out).mono ?_; rintro e w' ⟨rfl, rfl⟩))
  go_ret
  exact ⟨rfl, rfl⟩
set_option maxHeartbeats 1000000 in
theorem st_Grow_full (ok : Nat → Prop) (g : Nat) (vals : List Int) (cls : List (List Int × Int × Int)) (marks : List S48) (w : World) (h : St w ok g vals cls marks) (hv : (vals.length : Int) - 1 = 262144) : Calls Try.prog 12 #[.pointer (some ⟨g, 0, none⟩)] w fun e w' => e = .returned (.tuple #[.int .i64 0, .int .i64 2]) ∧ w = w' := by
  have H := Aside0.mk h
  obtain ⟨vv, vc, vm, h⟩ := h
  have c0 := Aside0.mk h.c0
  have HV := Aside0.mk hv
  clear h hv
  go_enter Try.func12, Try.ntmps12
  go_wp2_with (first | (go_at_call 35; refine (st_is g _ c0.out).mono ?_; rintro e w' ⟨rfl, rfl⟩) | (go_at_call 13; refine (st_Atoms ok g vals cls marks _ H.out).mono ?_; rw [HV.out]; rintro e w' ⟨rfl, rfl⟩))
  go_ret2
  exact ⟨rfl, rfl⟩
/-- A store's field is written: values. -/
theorem Parts.put1 {w w1 : World} {ok ok' : Nat → Prop} {g : Nat} {vv vc vm v1 : Value} {vals vals' : List Int} {cls : List (List Int × Int × Int)} {marks : List S48} (h : Parts w ok g vv vc vm vals cls marks)
    (hok : ∀ k, ok k → ok' k) (hnew : ∀ k, w.heap.size ≤ k → ok' k) (hv : Kd.R (Kd.int .i64) 3 w1 0 (fun k => ok' k ∧ k ≠ g) v1 vals') (hg : w.grownBy w1 vv.ownBlock) (hat : v1.ownBlock = vv.ownBlock ∨ ∃ b, v1.ownBlock = some b ∧ w.heap.size ≤ b) :
    Parts (w1.setCell ⟨g, 1, none⟩ v1) ok' g v1 vc vm vals' cls marks := by
  have hgv : some g ≠ vv.ownBlock := fun e => (h.rv.1 g e.symm).2 rfl
  have hgl := blk_lt h.blk
  have hb1 : w1.heap[g]? = some (.cells #[.bool true, vv, vc, vm] 55 (0, 0)) := (hg.block g hgl hgv).trans h.blk
  have far : ∀ {α : Type} {d : Kd α} {e : Nat} {u : Value} {xs : List α}, Kd.R d e w 0 (fun k => (ok k ∧ k ≠ g) ∧ some k ≠ vv.ownBlock) u xs → Kd.R d e (w1.setCell ⟨g, 1, none⟩ v1) 0 (fun k => (ok' k ∧ k ≠ g) ∧ some k ≠ v1.ownBlock) u xs := by
    intro α d e u xs hu
    have hu1 := Kd.R_mono (Kd.R_move (Kd.R_bound hu) (fun k hk => hg.block k hk.2.2.1 hk.1.2)) (ok' := fun k => (ok' k ∧ k ≠ g) ∧ some k ≠ v1.ownBlock) (fun k hk => ⟨⟨hok k hk.1.1.1, hk.1.1.2⟩, by
      rcases hat with e | ⟨b, e, hb⟩
      · rw [e]; exact hk.1.2
      · rw [e]; intro e2; injection e2 with e2; have := hk.2.2.1; omega⟩)
    exact Kd.R_far hu1 (fun k hk => hk.1.2) _
  exact ⟨hok g h.og, by have := blk_set hb1 1 v1; simpa using this, Kd.R_far hv (fun k hk => hk.2) _, far h.rc, far h.rm⟩
set_option maxHeartbeats 2000000 in
theorem st_Grow (ok : Nat → Prop) (g : Nat) (vals : List Int) (cls : List (List Int × Int × Int)) (marks : List S48) (w : World) (h : St w ok g vals cls marks) (hv : (vals.length : Int) - 1 < 262144) (hp : 1 ≤ vals.length) : Calls Try.prog 12 #[.pointer (some ⟨g, 0, none⟩)] w fun e w' =>
    e = .returned (.tuple #[.int .i64 (vals.length : Int), .int .i64 0]) ∧ St w' (fun k => ok k ∨ w.heap.size ≤ k) g (vals ++ [0]) cls marks ∧ Rest w w' ok := by
  have H := Aside0.mk h
  obtain ⟨vv, vc, vm, h⟩ := h
  have c0 := Aside0.mk h.c0
  have c1 := h.c1
  have f1 := h.f 1
  have HP := Aside0.mk h
  clear h
  have hne : ((vals.length : Int) - 1 == 262144) = false := by rw [beq_eq_false_iff_ne]; omega
  have hvl : vals.length ≤ 262144 := by omega
  obtain ⟨A, c, rfl, hl, hC⟩ := Kd.R_reads HP.out.rv
  clear hC
  have HO := Aside0.mk (show Kd.R (Kd.int .i64) 3 w 0 (fun k => (ok k ∨ w.heap.size ≤ k) ∧ k ≠ g) (.slice A vals.length c) vals from Kd.R_mono HP.out.rv (fun k hk => ⟨.inl hk.1, hk.2⟩))
  have HF : Aside0 (∀ k, w.heap.size ≤ k → (ok k ∨ w.heap.size ≤ k) ∧ k ≠ g) := ⟨fun k hk => ⟨.inr hk, fun e => by have := blk_lt HP.out.blk; omega⟩⟩
  go_enter Try.func12, Try.ntmps12
  go_wp2_with (first | (go_at_call 35; refine (st_is g _ c0.out).mono ?_; rintro e w' ⟨rfl, rfl⟩) | (go_at_call 13; refine (st_Atoms ok g vals cls marks _ H.out).mono ?_; rintro e w' ⟨rfl, rfl⟩) | (go_at_call 13; refine (st_Atoms _ g (vals ++ [0]) cls marks _ HS1.out).mono ?_; rintro e w' ⟨rfl, rfl⟩) | (at_builtin; refine Kd.R_append (Kd.int .i64) (w0 := w) 0 rfl (.tmp 16) (.tmp 17) 32 3 (.int .i64 0) 8 rfl Try.underlying32 info_int rfl (by decide) (by omega) (.slice A vals.length c) vals (0 : Int) [.int .i64 0] (fun k => (ok k ∨ w.heap.size ≤ k) ∧ k ≠ g) (fun _ => False) rfl rfl rfl (fun _ hk => hk.elim) ?aF ?aO ?aB ?aS ?aL ?_; (case aF => exact HF.out); (case aO => exact HO.out); (case aB => exact ⟨rfl, rfl, rfl, Nat.le_refl _, fun _ h => by omega⟩); (case aS => exact Nat.zero_le _); (case aL => omega); intro v1 w1 ho hb hg hat; obtain ⟨A1, cc1, rfl⟩ := Kd.R_slice ho; rw [show (vals ++ [(0 : Int)]).length = vals.length + 1 from by simp] at ho hat; have HS1 := Aside0.mk (show St (w1.setCell ⟨g, 1, none⟩ (.slice A1 (vals.length + 1) cc1)) (fun k => ok k ∨ w.heap.size ≤ k) g (vals ++ [0]) cls marks from ⟨_, _, _, HP.out.put1 (fun _ h => .inl h) (fun _ h => .inr h) ho hg hat⟩); have HR1 := Aside0.mk (((Rest.refl w ok).grown hg (fun k e _ => (HP.out.rv.1 k e).1)).set (p := ⟨g, 1, none⟩) HP.out.og (.slice A1 (vals.length + 1) cc1)); have hgv : some g ≠ (Value.slice A vals.length c).ownBlock := (fun e => (HP.out.rv.1 g e.symm).2 rfl); have hb1 := (hg.block g (blk_lt HP.out.blk) hgv).trans HP.out.blk; have k1 := blk_cell hb1 1; have k1f := blk_frozen hb1 1; clear ho hb hg hat hgv hb1))
  go_ret2
  exact ⟨by simp, HS1.out, HR1.out⟩

end Go.Proofs.Ytegaaobiedfjcaa.PU
