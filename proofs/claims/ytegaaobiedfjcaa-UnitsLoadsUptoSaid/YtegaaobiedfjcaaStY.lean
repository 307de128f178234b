import Derived.Test.YtegaaobiedfjcaaStX
namespace Go.Proofs.Ytegaaobiedfjcaa.PU
open Go.RowKit Go.Proofs.YtegaaobiedfjcaaW.PrintWords Go.Proofs.YtegaaobiedfjcaaW.PrintLast Go.Proofs.YtegaaobiedfjcaaW.PrintMore Go.Proofs.YtegaaobiedfjcaaH
set_option linter.unusedVariables false
set_option linter.unusedSimpArgs false
set_option maxHeartbeats 8000000 in
set_option maxRecDepth 100000 in
theorem st_follows_lit (ok : Nat → Prop) (g : Nat) (vals : List Int) (cls : List (List Int × Int × Int)) (marks : List S48) (a b c : Int) (w : World) (h : St w ok g vals cls marks) (hfo : FOk vals cls marks) (hb : litB ((vals.length : Int) - 1) a = false) :
    Calls Try.prog 60 #[.pointer (some ⟨g, 0, none⟩), .agg #[.int .i64 a, .int .i64 b, .int .i64 c]] w fun e w' => e = .returned (.bool false) ∧ Below w.heap.size w w' := by
  have HFO := Aside0.mk hfo
  have HV := Aside0.mk hfo.fit.v
  have HH := Aside0.mk h
  obtain ⟨vv, vc, vm, hp⟩ := h
  obtain ⟨Ac, cc, rfl⟩ := Kd.R_slice hp.rc
  have HP := Aside0.mk hp
  have HB := Aside0.mk hb
  clear hb
  clear hp hfo
  go_enter Try.func60, Try.ntmps60
  go_wp2_with fail
  obtain ⟨w1, hw1⟩ : ∃ w1, w1 = w.alloc (.cells #[.int .i64 a, .int .i64 b, .int .i64 c] 48) := ⟨_, rfl⟩
  have hb1 : Below w.heap.size w w1 := by rw [hw1]; exact below_alloc (Below.refl _ _) _
  have b0 : w1.cell? ⟨w.heap.size, 0, none⟩ = some (.int .i64 a) := by rw [hw1]; simp [go_sem]
  have b1 : w1.cell? ⟨w.heap.size, 1, none⟩ = some (.int .i64 b) := by rw [hw1]; simp [go_sem]
  have b2 : w1.cell? ⟨w.heap.size, 2, none⟩ = some (.int .i64 c) := by rw [hw1]; simp [go_sem]
  have H1 := Aside0.mk (HH.out.below hb1)
  have HB1 := Aside0.mk hb1
  have c2 := (HP.out.step (w1 := w1) (fun k _ hk => hb1.block k hk)).c2
  rw [← hw1]
  clear hw1 hb1
  go_wp2_with fail
  refine (st_literal ok g vals cls marks a _ H1.out HV.out).mono ?_
  rw [HB.out]
  rintro e w' ⟨rfl, rfl⟩
  go_wp2
  go_ret
  exact ⟨rfl, by repeat (first | exact HB1.out | apply pw_below_drewN | apply below_drew1)⟩
set_option maxHeartbeats 8000000 in
set_option maxRecDepth 100000 in
theorem st_follows_val (ok : Nat → Prop) (g : Nat) (vals : List Int) (cls : List (List Int × Int × Int)) (marks : List S48) (a b c : Int) (w : World) (h : St w ok g vals cls marks) (hfo : FOk vals cls marks) (hb : litB ((vals.length : Int) - 1) a = true) (y : Int) (hv : valL vals a = y) (hy : y ≠ 0) :
    Calls Try.prog 60 #[.pointer (some ⟨g, 0, none⟩), .agg #[.int .i64 a, .int .i64 b, .int .i64 c]] w fun e w' => e = .returned (.bool false) ∧ Below w.heap.size w w' := by
  have HFO := Aside0.mk hfo
  have HV := Aside0.mk hfo.fit.v
  have HH := Aside0.mk h
  obtain ⟨vv, vc, vm, hp⟩ := h
  obtain ⟨Ac, cc, rfl⟩ := Kd.R_slice hp.rc
  have HP := Aside0.mk hp
  have HVL := Aside0.mk hv
  have HRA : Aside0 (-(vals.length : Int) < a ∧ a < (vals.length : Int)) := ⟨by have := litB_iff.1 hb; omega⟩
  have dy : (y == 0) = false := beq_eq_false_iff_ne.2 hy
  clear hy hv
  have HB := Aside0.mk hb
  clear hb
  clear hp hfo
  go_enter Try.func60, Try.ntmps60
  go_wp2_with fail
  obtain ⟨w1, hw1⟩ : ∃ w1, w1 = w.alloc (.cells #[.int .i64 a, .int .i64 b, .int .i64 c] 48) := ⟨_, rfl⟩
  have hb1 : Below w.heap.size w w1 := by rw [hw1]; exact below_alloc (Below.refl _ _) _
  have b0 : w1.cell? ⟨w.heap.size, 0, none⟩ = some (.int .i64 a) := by rw [hw1]; simp [go_sem]
  have b1 : w1.cell? ⟨w.heap.size, 1, none⟩ = some (.int .i64 b) := by rw [hw1]; simp [go_sem]
  have b2 : w1.cell? ⟨w.heap.size, 2, none⟩ = some (.int .i64 c) := by rw [hw1]; simp [go_sem]
  have H1 := Aside0.mk (HH.out.below hb1)
  have HB1 := Aside0.mk hb1
  have c2 := (HP.out.step (w1 := w1) (fun k _ hk => hb1.block k hk)).c2
  rw [← hw1]
  clear hw1 hb1
  go_wp2_with fail
  refine (st_literal ok g vals cls marks a _ H1.out HV.out).mono ?_
  rw [HB.out]
  rintro e w' ⟨rfl, rfl⟩
  go_wp2_with fail
  refine (st_value ok g vals cls marks a _ H1.out HV.out HRA.out.1 HRA.out.2).mono ?_
  rw [HVL.out]
  rintro e w' ⟨rfl, rfl⟩
  go_wp2
  go_ret
  exact ⟨rfl, by repeat (first | exact HB1.out | apply pw_below_drewN | apply below_drew1)⟩
set_option maxHeartbeats 8000000 in
set_option maxRecDepth 100000 in
theorem st_follows_dec (ok : Nat → Prop) (g : Nat) (vals : List Int) (cls : List (List Int × Int × Int)) (marks : List S48) (a b : Int) (w : World) (h : St w ok g vals cls marks) (hfo : FOk vals cls marks) (hb : litB ((vals.length : Int) - 1) a = true) (hv : valL vals a = 0) :
    Calls Try.prog 60 #[.pointer (some ⟨g, 0, none⟩), .agg #[.int .i64 a, .int .i64 b, .int .i64 (-1)]] w fun e w' => e = .returned (.bool (b == lvl marks + 1)) ∧ Below w.heap.size w w' := by
  have HFO := Aside0.mk hfo
  have HV := Aside0.mk hfo.fit.v
  have HH := Aside0.mk h
  obtain ⟨vv, vc, vm, hp⟩ := h
  obtain ⟨Ac, cc, rfl⟩ := Kd.R_slice hp.rc
  have HP := Aside0.mk hp
  have HVL := Aside0.mk hv
  have HRA : Aside0 (-(vals.length : Int) < a ∧ a < (vals.length : Int)) := ⟨by have := litB_iff.1 hb; omega⟩
  have HYB := Aside0.mk (show -4611686018427387904 ≤ lvl marks ∧ lvl marks ≤ 4611686018427387904 by have := HFO.out.lv; omega)
  obtain ⟨y, hy⟩ : ∃ y, lvl marks = y := ⟨_, rfl⟩
  have HY := Aside0.mk hy
  have hyw : IntKind.i64.wrap (y + 1) = y + 1 := IntWalk.i64_in _ (by have := HYB.out; omega)
  rw [hy]
  clear hv hy
  have HB := Aside0.mk hb
  clear hb
  clear hp hfo
  go_enter Try.func60, Try.ntmps60
  go_wp2_with fail
  obtain ⟨w1, hw1⟩ : ∃ w1, w1 = w.alloc (.cells #[.int .i64 a, .int .i64 b, .int .i64 (-1)] 48) := ⟨_, rfl⟩
  have hb1 : Below w.heap.size w w1 := by rw [hw1]; exact below_alloc (Below.refl _ _) _
  have b0 : w1.cell? ⟨w.heap.size, 0, none⟩ = some (.int .i64 a) := by rw [hw1]; simp [go_sem]
  have b1 : w1.cell? ⟨w.heap.size, 1, none⟩ = some (.int .i64 b) := by rw [hw1]; simp [go_sem]
  have b2 : w1.cell? ⟨w.heap.size, 2, none⟩ = some (.int .i64 (-1)) := by rw [hw1]; simp [go_sem]
  have H1 := Aside0.mk (HH.out.below hb1)
  have HB1 := Aside0.mk hb1
  have c2 := (HP.out.step (w1 := w1) (fun k _ hk => hb1.block k hk)).c2
  rw [← hw1]
  clear hw1 hb1
  go_wp2_with fail
  refine (st_literal ok g vals cls marks a _ H1.out HV.out).mono ?_
  rw [HB.out]
  rintro e w' ⟨rfl, rfl⟩
  go_wp2_with fail
  refine (st_value ok g vals cls marks a _ H1.out HV.out HRA.out.1 HRA.out.2).mono ?_
  rw [HVL.out]
  rintro e w' ⟨rfl, rfl⟩
  go_wp2_with fail
  go_quiet ((go_at_call 14; refine Calls.quiet_of (Calls.mono (st_Level ok g vals cls marks _ (H1.out.below (by repeat (first | exact Below.refl _ _ | apply pw_below_drewN | apply below_drew1)))) (fun _ _ h => ⟨h.1.trans (congrArg (fun z => Ending.returned (.int .i64 z)) HY.out), h.2.out⟩))))
  go_wp2
  go_ret
  exact ⟨rfl, by repeat (first | exact HB1.out | apply pw_below_drewN | apply below_drew1)⟩
set_option maxHeartbeats 8000000 in
set_option maxRecDepth 100000 in
theorem st_follows_neg (ok : Nat → Prop) (g : Nat) (vals : List Int) (cls : List (List Int × Int × Int)) (marks : List S48) (a b c : Int) (w : World) (h : St w ok g vals cls marks) (hfo : FOk vals cls marks) (hb : litB ((vals.length : Int) - 1) a = true) (hv : valL vals a = 0) (hc : c < 0) (hc1 : c ≠ -1) :
    Calls Try.prog 60 #[.pointer (some ⟨g, 0, none⟩), .agg #[.int .i64 a, .int .i64 b, .int .i64 c]] w fun e w' => e = .returned (.bool false) ∧ Below w.heap.size w w' := by
  have HFO := Aside0.mk hfo
  have HV := Aside0.mk hfo.fit.v
  have HH := Aside0.mk h
  obtain ⟨vv, vc, vm, hp⟩ := h
  obtain ⟨Ac, cc, rfl⟩ := Kd.R_slice hp.rc
  have HP := Aside0.mk hp
  have HVL := Aside0.mk hv
  have HRA : Aside0 (-(vals.length : Int) < a ∧ a < (vals.length : Int)) := ⟨by have := litB_iff.1 hb; omega⟩
  have dc1 : (c == -1) = false := beq_eq_false_iff_ne.2 hc1
  have dc : decide (0 ≤ c) = false := decide_eq_false (by omega)
  clear hv hc hc1
  have HB := Aside0.mk hb
  clear hb
  clear hp hfo
  go_enter Try.func60, Try.ntmps60
  go_wp2_with fail
  obtain ⟨w1, hw1⟩ : ∃ w1, w1 = w.alloc (.cells #[.int .i64 a, .int .i64 b, .int .i64 c] 48) := ⟨_, rfl⟩
  have hb1 : Below w.heap.size w w1 := by rw [hw1]; exact below_alloc (Below.refl _ _) _
  have b0 : w1.cell? ⟨w.heap.size, 0, none⟩ = some (.int .i64 a) := by rw [hw1]; simp [go_sem]
  have b1 : w1.cell? ⟨w.heap.size, 1, none⟩ = some (.int .i64 b) := by rw [hw1]; simp [go_sem]
  have b2 : w1.cell? ⟨w.heap.size, 2, none⟩ = some (.int .i64 c) := by rw [hw1]; simp [go_sem]
  have H1 := Aside0.mk (HH.out.below hb1)
  have HB1 := Aside0.mk hb1
  have c2 := (HP.out.step (w1 := w1) (fun k _ hk => hb1.block k hk)).c2
  rw [← hw1]
  clear hw1 hb1
  go_wp2_with fail
  refine (st_literal ok g vals cls marks a _ H1.out HV.out).mono ?_
  rw [HB.out]
  rintro e w' ⟨rfl, rfl⟩
  go_wp2_with fail
  refine (st_value ok g vals cls marks a _ H1.out HV.out HRA.out.1 HRA.out.2).mono ?_
  rw [HVL.out]
  rintro e w' ⟨rfl, rfl⟩
  go_wp2_with fail
  go_quiet (fail)
  go_wp2
  go_ret
  exact ⟨rfl, by repeat (first | exact HB1.out | apply pw_below_drewN | apply below_drew1)⟩
set_option maxHeartbeats 8000000 in
set_option maxRecDepth 100000 in
theorem st_follows_high (ok : Nat → Prop) (g : Nat) (vals : List Int) (cls : List (List Int × Int × Int)) (marks : List S48) (a b c : Int) (w : World) (h : St w ok g vals cls marks) (hfo : FOk vals cls marks) (hb : litB ((vals.length : Int) - 1) a = true) (hv : valL vals a = 0) (hc : (cls.length : Int) ≤ c) :
    Calls Try.prog 60 #[.pointer (some ⟨g, 0, none⟩), .agg #[.int .i64 a, .int .i64 b, .int .i64 c]] w fun e w' => e = .returned (.bool false) ∧ Below w.heap.size w w' := by
  have HFO := Aside0.mk hfo
  have HV := Aside0.mk hfo.fit.v
  have HH := Aside0.mk h
  obtain ⟨vv, vc, vm, hp⟩ := h
  obtain ⟨Ac, cc, rfl⟩ := Kd.R_slice hp.rc
  have HP := Aside0.mk hp
  have HVL := Aside0.mk hv
  have HRA : Aside0 (-(vals.length : Int) < a ∧ a < (vals.length : Int)) := ⟨by have := litB_iff.1 hb; omega⟩
  have dc1 : (c == -1) = false := beq_eq_false_iff_ne.2 (by omega)
  have dc : decide (0 ≤ c) = true := decide_eq_true (by omega)
  have dc2 : decide (c < (cls.length : Int)) = false := decide_eq_false (by omega)
  clear hv hc
  have HB := Aside0.mk hb
  clear hb
  clear hp hfo
  go_enter Try.func60, Try.ntmps60
  go_wp2_with fail
  obtain ⟨w1, hw1⟩ : ∃ w1, w1 = w.alloc (.cells #[.int .i64 a, .int .i64 b, .int .i64 c] 48) := ⟨_, rfl⟩
  have hb1 : Below w.heap.size w w1 := by rw [hw1]; exact below_alloc (Below.refl _ _) _
  have b0 : w1.cell? ⟨w.heap.size, 0, none⟩ = some (.int .i64 a) := by rw [hw1]; simp [go_sem]
  have b1 : w1.cell? ⟨w.heap.size, 1, none⟩ = some (.int .i64 b) := by rw [hw1]; simp [go_sem]
  have b2 : w1.cell? ⟨w.heap.size, 2, none⟩ = some (.int .i64 c) := by rw [hw1]; simp [go_sem]
  have H1 := Aside0.mk (HH.out.below hb1)
  have HB1 := Aside0.mk hb1
  have c2 := (HP.out.step (w1 := w1) (fun k _ hk => hb1.block k hk)).c2
  rw [← hw1]
  clear hw1 hb1
  go_wp2_with fail
  refine (st_literal ok g vals cls marks a _ H1.out HV.out).mono ?_
  rw [HB.out]
  rintro e w' ⟨rfl, rfl⟩
  go_wp2_with fail
  refine (st_value ok g vals cls marks a _ H1.out HV.out HRA.out.1 HRA.out.2).mono ?_
  rw [HVL.out]
  rintro e w' ⟨rfl, rfl⟩
  go_wp2_with fail
  go_quiet (fail)
  go_wp2
  go_ret
  exact ⟨rfl, by repeat (first | exact HB1.out | apply pw_below_drewN | apply below_drew1)⟩
set_option maxHeartbeats 8000000 in
set_option maxRecDepth 100000 in
theorem st_follows_lvl (ok : Nat → Prop) (g : Nat) (vals : List Int) (cls : List (List Int × Int × Int)) (marks : List S48) (a b : Int) (w : World) (h : St w ok g vals cls marks) (hfo : FOk vals cls marks) (hb : litB ((vals.length : Int) - 1) a = true) (hv : valL vals a = 0) (i : Nat) (cl : List Int) (p1 p2 : Int) (hci : cls[i]? = some (cl, p1, p2)) (hl : b ≠ lvl marks) :
    Calls Try.prog 60 #[.pointer (some ⟨g, 0, none⟩), .agg #[.int .i64 a, .int .i64 b, .int .i64 (i : Int)]] w fun e w' => e = .returned (.bool false) ∧ Below w.heap.size w w' := by
  have HFO := Aside0.mk hfo
  have HV := Aside0.mk hfo.fit.v
  have HH := Aside0.mk h
  obtain ⟨vv, vc, vm, hp⟩ := h
  obtain ⟨Ac, cc, rfl⟩ := Kd.R_slice hp.rc
  have HP := Aside0.mk hp
  have HVL := Aside0.mk hv
  have HRA : Aside0 (-(vals.length : Int) < a ∧ a < (vals.length : Int)) := ⟨by have := litB_iff.1 hb; omega⟩
  obtain ⟨y, hy⟩ : ∃ y, lvl marks = y := ⟨_, rfl⟩
  have HY := Aside0.mk hy
  have hil : i < cls.length := (List.getElem?_eq_some_iff.1 hci).1
  have dc1 : ((i : Int) == -1) = false := beq_eq_false_iff_ne.2 (by omega)
  have dc : decide (0 ≤ (i : Int)) = true := decide_eq_true (by omega)
  have dc2 : decide ((i : Int) < (cls.length : Int)) = true := decide_eq_true (by omega)
  have dc3 : decide (i < cls.length) = true := decide_eq_true hil
  have HCI := Aside0.mk hci
  have HCR : Aside0 (∀ x ∈ cl, -(vals.length : Int) < x ∧ x < (vals.length : Int)) := ⟨fun x hx => (litsOk_rng (HFO.out.fit.lit _ (List.mem_of_getElem? hci)) x hx).2⟩
  rw [hy] at hl
  have dl : (b == y) = false := beq_eq_false_iff_ne.2 hl
  clear hv hy hl hci
  have HB := Aside0.mk hb
  clear hb
  clear hp hfo
  go_enter Try.func60, Try.ntmps60
  go_wp2_with fail
  obtain ⟨w1, hw1⟩ : ∃ w1, w1 = w.alloc (.cells #[.int .i64 a, .int .i64 b, .int .i64 (i : Int)] 48) := ⟨_, rfl⟩
  have hb1 : Below w.heap.size w w1 := by rw [hw1]; exact below_alloc (Below.refl _ _) _
  have b0 : w1.cell? ⟨w.heap.size, 0, none⟩ = some (.int .i64 a) := by rw [hw1]; simp [go_sem]
  have b1 : w1.cell? ⟨w.heap.size, 1, none⟩ = some (.int .i64 b) := by rw [hw1]; simp [go_sem]
  have b2 : w1.cell? ⟨w.heap.size, 2, none⟩ = some (.int .i64 (i : Int)) := by rw [hw1]; simp [go_sem]
  have H1 := Aside0.mk (HH.out.below hb1)
  have HB1 := Aside0.mk hb1
  have c2 := (HP.out.step (w1 := w1) (fun k _ hk => hb1.block k hk)).c2
  rw [← hw1]
  clear hw1 hb1
  go_wp2_with fail
  refine (st_literal ok g vals cls marks a _ H1.out HV.out).mono ?_
  rw [HB.out]
  rintro e w' ⟨rfl, rfl⟩
  go_wp2_with fail
  refine (st_value ok g vals cls marks a _ H1.out HV.out HRA.out.1 HRA.out.2).mono ?_
  rw [HVL.out]
  rintro e w' ⟨rfl, rfl⟩
  go_wp2_with fail
  go_quiet ((go_at_call 14; refine Calls.quiet_of (Calls.mono (st_Level ok g vals cls marks _ (H1.out.below (by repeat (first | exact Below.refl _ _ | apply pw_below_drewN | apply below_drew1)))) (fun _ _ h => ⟨h.1.trans (congrArg (fun z => Ending.returned (.int .i64 z)) HY.out), h.2.out⟩))))
  go_wp2
  go_ret
  exact ⟨rfl, by repeat (first | exact HB1.out | apply pw_below_drewN | apply below_drew1)⟩
set_option maxHeartbeats 8000000 in
set_option maxRecDepth 100000 in
theorem st_follows_force (ok : Nat → Prop) (g : Nat) (vals : List Int) (cls : List (List Int × Int × Int)) (marks : List S48) (a b : Int) (w : World) (h : St w ok g vals cls marks) (hfo : FOk vals cls marks) (hb : litB ((vals.length : Int) - 1) a = true) (hv : valL vals a = 0) (i : Nat) (cl : List Int) (p1 p2 : Int) (hci : cls[i]? = some (cl, p1, p2)) (hl : b = lvl marks) (f : Bool) (hfv : forcesV vals cl a = f) :
    Calls Try.prog 60 #[.pointer (some ⟨g, 0, none⟩), .agg #[.int .i64 a, .int .i64 b, .int .i64 (i : Int)]] w fun e w' => e = .returned (.bool f) ∧ Below w.heap.size w w' := by
  have HFO := Aside0.mk hfo
  have HV := Aside0.mk hfo.fit.v
  have HH := Aside0.mk h
  obtain ⟨vv, vc, vm, hp⟩ := h
  obtain ⟨Ac, cc, rfl⟩ := Kd.R_slice hp.rc
  have HP := Aside0.mk hp
  have HVL := Aside0.mk hv
  have HRA : Aside0 (-(vals.length : Int) < a ∧ a < (vals.length : Int)) := ⟨by have := litB_iff.1 hb; omega⟩
  obtain ⟨y, hy⟩ : ∃ y, lvl marks = y := ⟨_, rfl⟩
  have HY := Aside0.mk hy
  have hil : i < cls.length := (List.getElem?_eq_some_iff.1 hci).1
  have dc1 : ((i : Int) == -1) = false := beq_eq_false_iff_ne.2 (by omega)
  have dc : decide (0 ≤ (i : Int)) = true := decide_eq_true (by omega)
  have dc2 : decide ((i : Int) < (cls.length : Int)) = true := decide_eq_true (by omega)
  have dc3 : decide (i < cls.length) = true := decide_eq_true hil
  have HCI := Aside0.mk hci
  have HCR : Aside0 (∀ x ∈ cl, -(vals.length : Int) < x ∧ x < (vals.length : Int)) := ⟨fun x hx => (litsOk_rng (HFO.out.fit.lit _ (List.mem_of_getElem? hci)) x hx).2⟩
  rw [hy] at hl
  have dl : (b == y) = true := beq_iff_eq.2 hl
  have HFV := Aside0.mk hfv
  clear hv hy hl hci hfv
  have HB := Aside0.mk hb
  clear hb
  clear hp hfo
  go_enter Try.func60, Try.ntmps60
  go_wp2_with fail
  obtain ⟨w1, hw1⟩ : ∃ w1, w1 = w.alloc (.cells #[.int .i64 a, .int .i64 b, .int .i64 (i : Int)] 48) := ⟨_, rfl⟩
  have hb1 : Below w.heap.size w w1 := by rw [hw1]; exact below_alloc (Below.refl _ _) _
  have b0 : w1.cell? ⟨w.heap.size, 0, none⟩ = some (.int .i64 a) := by rw [hw1]; simp [go_sem]
  have b1 : w1.cell? ⟨w.heap.size, 1, none⟩ = some (.int .i64 b) := by rw [hw1]; simp [go_sem]
  have b2 : w1.cell? ⟨w.heap.size, 2, none⟩ = some (.int .i64 (i : Int)) := by rw [hw1]; simp [go_sem]
  have H1 := Aside0.mk (HH.out.below hb1)
  have HB1 := Aside0.mk hb1
  have c2 := (HP.out.step (w1 := w1) (fun k _ hk => hb1.block k hk)).c2
  rw [← hw1]
  clear hw1 hb1
  go_wp2_with fail
  refine (st_literal ok g vals cls marks a _ H1.out HV.out).mono ?_
  rw [HB.out]
  rintro e w' ⟨rfl, rfl⟩
  go_wp2_with fail
  refine (st_value ok g vals cls marks a _ H1.out HV.out HRA.out.1 HRA.out.2).mono ?_
  rw [HVL.out]
  rintro e w' ⟨rfl, rfl⟩
  go_wp2_with fail
  go_quiet (first | (go_at_call 14; refine Calls.quiet_of (Calls.mono (st_Level ok g vals cls marks _ (H1.out.below (by repeat (first | exact Below.refl _ _ | apply pw_below_drewN | apply below_drew1)))) (fun _ _ h => ⟨h.1.trans (congrArg (fun z => Ending.returned (.int .i64 z)) HY.out), h.2.out⟩))) | (go_at_call 49; refine Calls.quiet_of (Calls.mono (st_forces ok g vals cls marks i cl p1 p2 a _ (H1.out.below (by repeat (first | exact Below.refl _ _ | apply pw_below_drewN | apply below_drew1))) HV.out HCI.out HCR.out HRA.out.1 HRA.out.2 HFO.out.fit.cap (HFO.out.cl _ (List.mem_of_getElem? HCI.out))) (fun _ _ h => ⟨h.1.trans (congrArg (fun z => Ending.returned (.bool z)) HFV.out), h.2.out⟩))))
  go_wp2
  go_ret
  exact ⟨rfl, by repeat (first | exact HB1.out | apply pw_below_drewN | apply below_drew1)⟩

theorem st_follows (ok : Nat → Prop) (g : Nat) (n : Int) (vals : List Int) (cls : List (List Int × Int × Int)) (marks : List S48) (cs : List (List Int)) (m : S48) (w : World) (h : St w ok g vals cls marks) (hi : SInv n vals cls marks cs) :
    Calls Try.prog 60 #[.pointer (some ⟨g, 0, none⟩), .agg #[.int .i64 m.f0, .int .i64 m.f1, .int .i64 m.f2]] w fun e w' => e = .returned (.bool (fitsB n cs marks m)) ∧ Below w.heap.size w w' := by
  obtain ⟨a, b, c⟩ := m
  have hf := hi.fok
  have hb := hi.litE a
  unfold fitsB
  dsimp only
  cases hl : litB n a with
  | false =>
    rw [hl] at hb
    simpa using st_follows_lit ok g vals cls marks a b c w h hf hb
  | true =>
    rw [hl] at hb
    have ha0 := (litB_iff.1 hl).1
    rw [openB_val hi ha0]
    by_cases hv : valL vals a = 0
    · rw [decide_eq_true hv, Bool.and_self, Bool.true_and]
      by_cases hc1 : c = -1
      · subst hc1
        rw [if_pos rfl]
        exact st_follows_dec ok g vals cls marks a b w h hf hb hv
      · rw [if_neg hc1]
        unfold forceB
        dsimp only
        by_cases hc : c < 0
        · rw [decide_eq_false (by omega), Bool.false_and]
          exact st_follows_neg ok g vals cls marks a b c w h hf hb hv hc hc1
        · obtain ⟨i, rfl⟩ := Int.eq_ofNat_of_zero_le (a := c) (by omega)
          rw [decide_eq_true (by omega), Bool.true_and, Int.toNat_natCast]
          have hcc : cs.length = cls.length := by rw [← hi.ecs, List.length_map]
          by_cases hil : i < cs.length
          · have hci : cs[i]? = some cs[i] := List.getElem?_eq_getElem hil
            obtain ⟨p1, p2, hcq⟩ := hi.clsAt hci
            rw [hci]
            dsimp only
            by_cases hlv : b = lvl marks
            · rw [decide_eq_true hlv, Bool.true_and, ← forcesV_B hi (List.mem_of_getElem? hci) ha0]
              exact st_follows_force ok g vals cls marks a b w h hf hb hv i cs[i] p1 p2 hcq hlv _ rfl
            · rw [decide_eq_false hlv, Bool.false_and]
              exact st_follows_lvl ok g vals cls marks a b w h hf hb hv i cs[i] p1 p2 hcq hlv
          · rw [List.getElem?_eq_none (by omega)]
            exact st_follows_high ok g vals cls marks a b (i : Int) w h hf hb hv (by omega)
    · rw [decide_eq_false hv, Bool.and_false, Bool.false_and]
      exact st_follows_val ok g vals cls marks a b c w h hf hb _ rfl hv

/-! ### Load's decision -/
def mayF (n : Int) (cs : List (List Int)) : List S48 → List S48 → Bool
  | _, [] => true
  | pre, m :: rest => fitsB n cs pre m && mayF n cs (pre ++ [m]) rest
def loadE (n : Int) (l : List (List Int)) (ms : List S48) : Int :=
  if n < 0 then 1 else if 262144 < n then 2 else if l.all (fun c => c.all (litB n)) = true then (if mayF n l [] ms = true then 0 else 200) else 180
theorem mayF_may {n : Int} {cs : List (List Int)} : ∀ (rest pre : List S48), MayL n cs pre → mayF n cs pre rest = true → MayL n cs (pre ++ rest) := by
  intro rest
  induction rest with
  | nil => intro pre h _; rw [List.append_nil]; exact h
  | cons m rest ih =>
    intro pre h hm
    simp only [mayF, Bool.and_eq_true] at hm
    have := ih (pre ++ [m]) (.snoc pre m h hm.1) hm.2
    rwa [List.append_assoc] at this
theorem mayF_open {n : Int} {cs : List (List Int)} {pre : List S48} {m : S48} {rest : List S48} : mayF n cs pre (m :: rest) = (fitsB n cs pre m && mayF n cs (pre ++ [m]) rest) := rfl
theorem may_ev {n : Int} {cs : List (List Int)} (h0 : 0 ≤ n) (h1 : n ≤ 262144) (hc : CsOk cs) (ms : List S48) (hn : ms.length ≤ 4194304) : ∀ d i : Nat, i + d = ms.length → MayL n cs (ms.take i) → Ev (fun k => fulcrumref20_May.l0 k n cs ms (i : Int)) (mayF n cs (ms.take i) (ms.drop i)) := by
  intro d
  induction d with
  | zero =>
    intro i h _
    refine Ev.step (f := fun _ => some true) (fun k => ?_) ?_
    · simp only [fulcrumref20_May.l0]; rw [if_neg (by omega)]
    · rw [List.drop_eq_nil_of_le (by omega)]; exact Ev.now _
  | succ d ih =>
    intro i h hm
    have hlt : i < ms.length := by omega
    have hl := hm.lvl
    have htl : (ms.take i).length = i := by rw [List.length_take]; omega
    have htk : ms.take (i + 1) = ms.take i ++ [rd_T48 ms (i : Int)] := by
      rw [List.take_add_one, rdm_get hlt]; rfl
    have hF := Fits_all n h0 (by omega) cs (ms.take i) (rd_T48 ms (i : Int)) (by omega) hc (by omega)
    rw [rdm_drop hlt, mayF_open, ← htk]
    refine Ev.step (f := fun k => (fulcrumref20_Fits.f k n cs (ms.take i) (rd_T48 ms (i : Int)).f0 (rd_T48 ms (i : Int)).f1 (rd_T48 ms (i : Int)).f2).bind fun t => (if t = true then (fulcrumref20_May.l0 k n cs ms ((i + 1 : Nat) : Int)) else (some false))) (fun k => ?_) (Ev.bind hF ?_)
    · simp only [fulcrumref20_May.l0]
      rw [if_pos (by omega), if_pos (by omega), if_pos (by omega), wrapI hlt (by omega), Int.toNat_natCast]
    · cases hb : fitsB n cs (ms.take i) (rd_T48 ms (i : Int)) with
      | true =>
        simp only [if_true, Bool.true_and]
        refine ih (i + 1) (by omega) ?_
        rw [htk]; exact .snoc _ _ hm hb
      | false =>
        simp only [Bool.false_eq_true, if_false, Bool.false_and]
        exact Ev.now _
theorem may_all {n : Int} {cs : List (List Int)} (h0 : 0 ≤ n) (h1 : n ≤ 262144) (hc : CsOk cs) (ms : List S48) (hn : ms.length ≤ 4194304) : Ev (fun k => fulcrumref20_May.f k n cs ms) (mayF n cs [] ms) := by
  have := may_ev h0 h1 hc ms hn ms.length 0 (by omega) MayL.nil
  simpa [fulcrumref20_May.f] using this
theorem load_ev {n : Int} (h0 : 0 ≤ n) (h1 : n ≤ 262144) (l : List (List Int)) (ms : List S48) (hn : ms.length ≤ 4194304) (hl : l.length ≤ 4194304) (hcl : ∀ c ∈ l, c.length ≤ 4194304) : ∀ d i : Nat, i + d = l.length → (∀ c ∈ l.take i, c.all (litB n) = true) → Ev (fun k => fulcrumref20_Load.l0 k n l ms (i : Int)) (if (l.drop i).all (fun c => c.all (litB n)) = true then (if mayF n l [] ms = true then 0 else 200) else 180) := by
  intro d
  induction d with
  | zero =>
    intro i h hp
    have hpl : ∀ c ∈ l, c.all (litB n) = true := by rw [List.take_of_length_le (by omega)] at hp; exact hp
    have hcs : CsOk l := litsIn_ok (N := (n + 1).toNat) (fun c hc x hx => by have := litB_iff.1 (List.all_eq_true.1 (hpl c hc) x hx); omega) (by omega) (by omega) (fun c hc => by have := hcl c hc; omega)
    refine Ev.step (f := fun k => (fulcrumref20_May.f k n l ms).bind fun t => (if t = true then (some 0) else (some 200))) (fun k => ?_) (Ev.bind (may_all h0 h1 hcs ms hn) ?_)
    · simp only [fulcrumref20_Load.l0]; rw [if_neg (by omega)]
    · rw [List.drop_eq_nil_of_le (by omega)]
      simp only [List.all_nil, if_true]
      split <;> exact Ev.now _
  | succ d ih =>
    intro i h hp
    have hlt : i < l.length := by omega
    obtain ⟨c, hc⟩ : ∃ c, c = rd_L2 l (i : Int) := ⟨_, rfl⟩
    have hcm : c ∈ l := hc ▸ rdl_mem hlt
    have hC := Clause_ev c n h0 (by omega) (by have := hcl c hcm; omega) c.length 0 (by omega)
    rw [List.drop_zero] at hC
    rw [rdl_drop hlt, ← hc, List.all_cons]
    refine Ev.step (f := fun k => (fulcrumref20_Clause.f k c n).bind fun t => (if t = true then (fulcrumref20_Load.l0 k n l ms ((i + 1 : Nat) : Int)) else (some 180))) (fun k => ?_) (Ev.bind (a := c.all (litB n)) hC ?_)
    · simp only [fulcrumref20_Load.l0]
      rw [if_pos (by omega), if_pos (by omega), wrapI hlt (by omega), ← hc]
    · cases hb : c.all (litB n) with
      | true =>
        simp only [if_true, Bool.true_and]
        refine ih (i + 1) (by omega) (fun c' hc' => ?_)
        rw [take_rd2 hlt, ← hc] at hc'
        rcases List.mem_append.1 hc' with q | q
        · exact hp c' q
        · rw [List.mem_singleton.1 q]; exact hb
      | false =>
        simp only [Bool.false_eq_true, if_false, Bool.false_and]
        exact Ev.now _
theorem load_all (n : Int) (l : List (List Int)) (ms : List S48) (hn : ms.length ≤ 4194304) (hl : l.length ≤ 1048576) (hcl : ∀ c ∈ l, c.length ≤ 4194304) : Ev (fun k => fulcrumref20_Load.f k n l ms) (loadE n l ms) := by
  unfold fulcrumref20_Load.f loadE
  by_cases h0 : n < 0
  · simp only [if_pos h0]; exact Ev.now _
  · by_cases h1 : 262144 < n
    · simp only [if_neg h0, if_pos h1, gt_iff_lt]
      refine Ev.step (f := fun _ => some 2) (fun k => ?_) (Ev.now _)
      simp only [fulcrumref20_Load.j0]; rfl
    · simp only [if_neg h0, if_neg h1, gt_iff_lt]
      have hd : decide ((1048576 : Int) < (l.length : Int)) = false := decide_eq_false (by omega)
      refine Ev.step (f := fun k => fulcrumref20_Load.l0 k n l ms 0) (fun k => ?_) ?_
      · simp only [fulcrumref20_Load.j0, hd]; rfl
      · have := load_ev (n := n) (by omega) (by omega) l ms hn (by omega) hcl l.length 0 (by omega) (fun c hc => by simp at hc)
        simpa using this

structure LD (w w' : World) (g : Nat) (n : Int) (vals : List Int) (cls : List (List Int × Int × Int)) (marks : List S48) (cs : List (List Int)) : Prop where
  st : St w' (fun k => w.heap.size ≤ k) g vals cls marks
  inv : SInv n vals cls marks cs
  bel : Below w.heap.size w w'
theorem LD.below {w w' w2 : World} {g : Nat} {n : Int} {vals : List Int} {cls : List (List Int × Int × Int)} {marks : List S48} {cs : List (List Int)} (h : LD w w' g n vals cls marks cs) (hb : Below w'.heap.size w' w2) : LD w w2 g n vals cls marks cs := ⟨h.st.below hb, h.inv, below_step h.bel hb⟩
theorem LD.go {w w' w2 : World} {g : Nat} {n : Int} {vals vals' : List Int} {cls cls' : List (List Int × Int × Int)} {marks marks' : List S48} {cs cs' : List (List Int)} (h : LD w w' g n vals cls marks cs) {W : World} (hb : Below w'.heap.size w' W) (hs : St w2 (fun k => w.heap.size ≤ k ∨ W.heap.size ≤ k) g vals' cls' marks') (hr : Rest W w2 (fun k => w.heap.size ≤ k)) (hi : SInv n vals' cls' marks' cs') : LD w w2 g n vals' cls' marks' cs' :=
  ⟨hs.mono (fun k q => q.elim id (fun q => Nat.le_trans (Nat.le_trans h.bel.size hb.size) q)), hi, hr.below (below_step h.bel hb) (fun k q => q)⟩
theorem mayF_snoc {n : Int} {cs : List (List Int)} {ms : List S48} {i : Nat} (hi : i < ms.length) : mayF n cs (ms.take i) (ms.drop i) = (fitsB n cs (ms.take i) (rd_T48 ms (i : Int)) && mayF n cs (ms.take (i + 1)) (ms.drop (i + 1))) := by
  have htk : ms.take (i + 1) = ms.take i ++ [rd_T48 ms (i : Int)] := by
    rw [List.take_add_one, rdm_get hi]; rfl
  rw [rdm_drop hi, mayF_open, ← htk]
set_option maxHeartbeats 16000000 in
set_option maxRecDepth 100000 in
theorem load_walk (n : Int) (Al : Option Addr) (cl : Nat) (l : List (List Int)) (Am : Option Addr) (cm : Nat) (ms : List S48) (w : World) (h0 : 0 ≤ n) (h1 : n ≤ 262144) (hrl : Kd.C (Kd.slice 3 (Kd.int .i64)) w Al l.length l) (hrm : Kd.C k48 w Am ms.length ms) (hl : l.length < 1048576) (hcl : ∀ c ∈ l, c.length ≤ 4194304) (hms : ms.length ≤ 4194304) :
    Calls Try.prog 33 #[.int .i64 n, .slice Al l.length cl, .slice Am ms.length cm] w fun e w' => (∃ E, loadE n l ms = E ∧ E ≠ 0 ∧ e = .returned (.tuple #[.pointer none, .int .i64 E]) ∧ Below w.heap.size w w') ∨ (loadE n l ms = 0 ∧ ∃ g vals cls, e = .returned (.tuple #[.pointer (some ⟨g, 0, none⟩), .int .i64 0]) ∧ LD w w' g n vals cls ms l) := by
  have HRL := Aside0.mk hrl
  have HRM := Aside0.mk hrm
  have HCL := Aside0.mk hcl
  have HEQ : Aside0 (loadE n l ms = if l.all (fun c => c.all (litB n)) = true then (if mayF n l [] ms = true then 0 else 200) else 180) := ⟨by unfold loadE; rw [if_neg (by omega), if_neg (by omega)]⟩
  obtain ⟨E, hE⟩ : ∃ E, loadE n l ms = E := ⟨_, rfl⟩
  rw [hE] at HEQ
  rw [hE]
  have HN := Aside0.mk (And.intro h0 h1)
  have dl : decide ((1048576 : Int) < (l.length : Int)) = false := decide_eq_false (by omega)
  clear hrl hrm hcl hE
  go_enter Try.func33, Try.ntmps33
  go_wp2_with fail
  refine (st_New n w h0 h1).mono ?_
  rintro e w2 ⟨g, rfl, hst, hb2⟩
  have HLD : Aside0 (LD w w2 g n (List.replicate (n + 1).toNat 0) [] [] []) := ⟨⟨hst, SInv.start h0 h1, hb2⟩⟩
  have hvl : ((List.replicate (n + 1).toNat (0 : Int)).length : Int) = n + 1 := by rw [List.length_replicate]; omega
  obtain ⟨v0, hv0⟩ : ∃ v0, v0 = List.replicate (n + 1).toNat (0 : Int) := ⟨_, rfl⟩
  rw [← hv0] at HLD hvl
  have HVL := Aside0.mk hvl
  clear hst hb2 hv0 hvl
  go_wp2
  go_loopg [11, 12, 13, 31] l.length (fun kq v11 v12 v13 v31 w' => ∃ i : Nat, v31 = .int .i64 (i : Int) ∧ Aside0 (i + kq = l.length ∧ (∀ c ∈ l.take i, c.all (litB n) = true)) ∧ Aside0 (∃ cls, LD w w' g n v0 cls [] (l.take i)))
  case atStart => exact ⟨0, rfl, ⟨by omega, fun c hc => by simp at hc⟩, ⟨_, HLD.out⟩⟩
  case round =>
    obtain ⟨i, rfl, HIK, HPS⟩ := hrel
    obtain ⟨cls, hld⟩ := HPS.out
    have HQ := Aside0.mk hld
    clear hld HPS HLD
    cases gk with
    | succ k1 =>
      have hlt : i < l.length := by have := HIK.out.1; omega
      have hi0 : (0 : Int) ≤ (i : Int) := by omega
      have hi1 : (i : Int) < (l.length : Int) := by omega
      obtain ⟨ad, Ac, cc, e, t0, hle, hC⟩ := at_L2 HRL.out (i : Int) hi0 hi1
      subst e
      rw [Int.toNat_natCast] at t0
      have hcm := rdl_mem hlt
      have hcl' := HCL.out _ hcm
      obtain ⟨c, hc⟩ : ∃ c, c = rd_L2 l (i : Int) := ⟨_, rfl⟩
      have HTK := Aside0.mk (take_rd2 hlt)
      rw [← hc] at t0 hle hC hcm hcl' HTK
      have u0 := (HQ.out.bel.cell (World.block_lt_of_cell? _ _ t0)).trans t0
      have HC := Aside0.mk (Kd.C_below hC HQ.out.bel)
      have HCM := Aside0.mk hcm
      have hll : litsOk v0 c = c.all (litB n) := litsOk_all HVL.out c
      have hcs : cls.length = i := by have := congrArg List.length HQ.out.inv.ecs; rw [List.length_map, List.length_take] at this; omega
      have HCS := Aside0.mk hcs
      clear hle hC hcm hc t0 hcs
      cases hb : c.all (litB n) with
      | false =>
        rw [hb] at hll
        have HLL := Aside0.mk hll
        have hE : E = 180 := by
          rw [HEQ.out, if_neg]
          intro q
          have := List.all_eq_true.1 q c HCM.out
          rw [hb] at this; cases this
        have HE := Aside0.mk hE
        clear hll hb hE
        go_wp2_with fail
        refine (st_Add_bad _ g v0 cls [] Ac cc c _ HC.out HQ.out.st HQ.out.inv.fit.v HLL.out).mono ?_
        rintro e w4 ⟨rfl, hb4⟩
        have HB4 := Aside0.mk (below_step HQ.out.bel hb4)
        clear hb4
        go_wp2
        go_ret2
        exact .inl ⟨E, rfl, by rw [HE.out]; decide, by rw [HE.out]; rfl, HB4.out⟩
      | true =>
        rw [hb] at hll
        have HLL := Aside0.mk hll
        have HBT := Aside0.mk hb
        clear hll hb
        go_wp2_with fail
        refine (st_Add _ g v0 cls [] Ac cc c _ HC.out HQ.out.st HQ.out.inv.fit.v HLL.out (by have := HCS.out; omega) hcl').mono ?_
        rintro e w4 ⟨rfl, hs4, hr4⟩
        have HL4 := Aside0.mk (HQ.out.go (Below.refl _ _) hs4 hr4 (HQ.out.inv.add HLL.out hcl' (by rw [List.length_take]; omega)))
        clear hs4 hr4
        go_wp2
        go_roundg k1
        case measure => omega
        case rel =>
          refine ⟨i + 1, by go_num, ⟨by have := HIK.out.1; omega, fun c' hc' => ?_⟩, ⟨_, by rw [HTK.out]; exact HL4.out⟩⟩
          rw [HTK.out] at hc'
          rcases List.mem_append.1 hc' with q | q
          · exact HIK.out.2 c' q
          · rw [List.mem_singleton.1 q]; exact HBT.out
    | zero =>
      obtain rfl : i = l.length := by have := HIK.out.1; omega
      have hall : l.all (fun c => c.all (litB n)) = true := List.all_eq_true.2 (fun c hc => HIK.out.2 c (by rw [List.take_length]; exact hc))
      have hE2 : E = if mayF n l [] ms = true then 0 else 200 := by rw [HEQ.out, if_pos hall]
      have hld0 := HQ.out
      rw [List.take_length] at hld0
      have HL0 := Aside0.mk hld0
      have HE := Aside0.mk hE2
      clear hall hE2 hld0 HEQ HQ HIK
      go_wp2
      go_loopg [15, 47] ms.length (fun kq v15 v47 w' => ∃ i : Nat, v47 = .int .i64 (i : Int) ∧ Aside0 (i + kq = ms.length ∧ mayF n l [] ms = mayF n l (ms.take i) (ms.drop i)) ∧ Aside0 (∃ vals cls, LD w w' g n vals cls (ms.take i) l))
      case atStart => exact ⟨0, rfl, ⟨by omega, rfl⟩, ⟨_, _, HL0.out⟩⟩
      case round =>
        obtain ⟨i, rfl, HIK, HPS⟩ := hrel
        obtain ⟨vals, cls, hld⟩ := HPS.out
        have HQ := Aside0.mk hld
        clear hld HPS HL0
        cases gk with
        | succ k1 =>
          have hlt : i < ms.length := by have := HIK.out.1; omega
          have hi0 : (0 : Int) ≤ (i : Int) := by omega
          have hi1 : (i : Int) < (ms.length : Int) := by omega
          obtain ⟨ad, e, t0, t1, t2⟩ := at_T48 HRM.out (i : Int) hi0 hi1
          subst e
          rw [Int.toNat_natCast] at t0 t1 t2
          have hsn := mayF_snoc (n := n) (cs := l) hlt
          have htk : ms.take (i + 1) = ms.take i ++ [rd_T48 ms (i : Int)] := by rw [List.take_add_one, rdm_get hlt]; rfl
          obtain ⟨m, hm⟩ : ∃ m, m = rd_T48 ms (i : Int) := ⟨_, rfl⟩
          rw [← hm] at t0 t1 t2 hsn htk
          have u0 := (HQ.out.bel.cell (World.block_lt_of_cell? _ _ t0)).trans t0
          have u1 := (HQ.out.bel.cell (World.block_lt_of_cell? _ _ t1)).trans t1
          have u2 := (HQ.out.bel.cell (World.block_lt_of_cell? _ _ t2)).trans t2
          have HTK := Aside0.mk htk
          have HSN := Aside0.mk hsn
          obtain ⟨f, hf⟩ : ∃ f, f = fitsB n l (ms.take i) m := ⟨_, rfl⟩
          have HF := Aside0.mk hf
          have hil : (ms.take i).length = i := by rw [List.length_take]; omega
          have HIL := Aside0.mk hil
          obtain ⟨f0, hf0⟩ : ∃ f, f = m.f0 := ⟨_, rfl⟩
          obtain ⟨f1, hf1⟩ : ∃ f, f = m.f1 := ⟨_, rfl⟩
          obtain ⟨f2, hf2⟩ : ∃ f, f = m.f2 := ⟨_, rfl⟩
          rw [← hf0] at u0
          rw [← hf1] at u1
          rw [← hf2] at u2
          have HFS := Aside0.mk (And.intro hf0 (And.intro hf1 hf2))
          have HFO : Aside0 (∀ W, Below wr.heap.size wr W → Calls Try.prog 60 #[.pointer (some ⟨g, 0, none⟩), .agg #[.int .i64 f0, .int .i64 f1, .int .i64 f2]] W fun e w' => e = .returned (.bool f) ∧ Below W.heap.size W w') := ⟨fun W hW => by rw [hf0, hf1, hf2, hf]; exact st_follows _ g n vals cls (ms.take i) l m W (HQ.out.st.below hW) HQ.out.inv⟩
          clear t0 t1 t2 hsn htk hm hf hil hf0 hf1 hf2
          go_wp2_with fail
          obtain ⟨w1, hw1⟩ : ∃ w1, w1 = wr.alloc (.cells #[.int .i64 f0, .int .i64 f1, .int .i64 f2] 48) := ⟨_, rfl⟩
          have hb1 : Below wr.heap.size wr w1 := by rw [hw1]; exact below_alloc (Below.refl _ _) _
          have hbk : w1.heap[wr.heap.size]? = some (.cells #[.int .i64 f0, .int .i64 f1, .int .i64 f2] 48 (0, 0)) := by rw [hw1]; exact heap_alloc_new wr _
          rw [← hw1]
          clear hw1
          refine (HFO.out w1 hb1).mono ?_
          rintro e w3 ⟨rfl, hb3⟩
          have hbk3 := (hb3.block _ (blk_lt hbk)).trans hbk
          have x0 := blk_cell hbk3 0
          have x1 := blk_cell hbk3 1
          have x2 := blk_cell hbk3 2
          have HB3 := Aside0.mk (below_step hb1 hb3)
          clear hb1 hbk hb3 hbk3 u0 u1 u2
          cases f with
          | false =>
            have hE : E = 200 := by rw [HE.out, HIK.out.2, HSN.out, ← HF.out]; rfl
            have HE3 := Aside0.mk hE
            clear hE
            go_wp2
            go_ret2
            exact .inl ⟨E, rfl, by rw [HE3.out]; decide, by rw [HE3.out]; rfl, below_step HQ.out.bel HB3.out⟩
          | true =>
            have hfit := HF.out.symm
            have hlo := fits_lit hfit
            have hlen := HQ.out.inv.len
            have hr := litB_iff.1 hlo.1
            have hv : valL vals m.f0 = 0 := by have := hlo.2; rw [openB_val HQ.out.inv hr.1] at this; exact of_decide_eq_true this
            have HMK : Aside0 (∀ W, Below wr.heap.size wr W → Calls Try.prog 37 #[.pointer (some ⟨g, 0, none⟩), .agg #[.int .i64 f0, .int .i64 f1, .int .i64 f2]] W fun e w' => e = .returned (.tuple #[]) ∧ St w' (fun k => w.heap.size ≤ k ∨ W.heap.size ≤ k) g (markV vals m.f0) cls (ms.take i ++ [m]) ∧ Rest W w' (fun k => w.heap.size ≤ k)) := ⟨fun W hW => by rw [HFS.out.1, HFS.out.2.1, HFS.out.2.2]; exact st_mark _ g vals cls (ms.take i) m W (HQ.out.st.below hW) (by omega) (by omega) (by omega) (by omega)⟩
            have HSI := Aside0.mk (HQ.out.inv.mark m hlo.1 hv hfit)
            clear hfit hlo hlen hr hv
            go_wp2_with fail
            refine (HMK.out _ HB3.out).mono ?_
            rintro e w4 ⟨rfl, hs4, hr4⟩
            have HL4 := Aside0.mk (HQ.out.go HB3.out hs4 hr4 HSI.out)
            clear hs4 hr4
            go_wp2
            go_roundg k1
            case measure => omega
            case rel => exact ⟨i + 1, by go_num, ⟨by have := HIK.out.1; omega, by rw [HIK.out.2, HSN.out, ← HF.out, Bool.true_and]⟩, ⟨_, _, by rw [HTK.out]; exact HL4.out⟩⟩
        | zero =>
          obtain rfl : i = ms.length := by have := HIK.out.1; omega
          have hE : E = 0 := by
            have h2 := HIK.out.2
            rw [List.drop_eq_nil_of_le (Nat.le_refl _)] at h2
            rw [HE.out, h2]; rfl
          have HE3 := Aside0.mk hE
          have hq := HQ.out
          rw [List.take_length] at hq
          have HQ2 := Aside0.mk hq
          clear hE hq
          go_wp2
          go_ret2
          exact .inr ⟨HE3.out, g, _, _, rfl, HQ2.out⟩

set_option maxHeartbeats 4000000 in
theorem load_any (n : Int) (Al : Option Addr) (cl : Nat) (l : List (List Int)) (Am : Option Addr) (cm : Nat) (ms : List S48) (w : World) (hrl : Kd.C (Kd.slice 3 (Kd.int .i64)) w Al l.length l) (hrm : Kd.C k48 w Am ms.length ms) (hl : l.length < 1048576) (hcl : ∀ c ∈ l, c.length ≤ 4194304) (hms : ms.length ≤ 4194304) :
    Calls Try.prog 33 #[.int .i64 n, .slice Al l.length cl, .slice Am ms.length cm] w fun e w' => (∃ E, loadE n l ms = E ∧ E ≠ 0 ∧ e = .returned (.tuple #[.pointer none, .int .i64 E]) ∧ Below w.heap.size w w') ∨ (loadE n l ms = 0 ∧ ∃ g vals cls, e = .returned (.tuple #[.pointer (some ⟨g, 0, none⟩), .int .i64 0]) ∧ LD w w' g n vals cls ms l) := by
  by_cases q1 : n < 0
  · have hE : loadE n l ms = 1 := by unfold loadE; rw [if_pos q1]
    have HE := Aside0.mk hE
    clear hrl hrm hcl hE
    go_enter Try.func33, Try.ntmps33
    go_wp2_with (first | (go_at_call 10; refine (st_New_low n _ q1).mono ?_; rintro e w' ⟨rfl, rfl⟩))
    go_ret2
    exact .inl ⟨1, HE.out, by decide, rfl, Below.refl _ _⟩
  · by_cases q2 : 262144 < n
    · have hE : loadE n l ms = 2 := by unfold loadE; rw [if_neg q1, if_pos q2]
      have HE := Aside0.mk hE
      clear hrl hrm hcl hE
      go_enter Try.func33, Try.ntmps33
      go_wp2_with (first | (go_at_call 10; refine (st_New_high n _ q2).mono ?_; rintro e w' ⟨rfl, rfl⟩))
      go_ret2
      exact .inl ⟨2, HE.out, by decide, rfl, Below.refl _ _⟩
    · exact load_walk n Al cl l Am cm ms w (by omega) (by omega) hrl hrm hl hcl hms

theorem C_rows {α : Type} {d : Kd α} {w W : World} {A : Option Addr} {n : Nat} {xs : List α} (h : Kd.C d w A n xs) (hb : Below w.heap.size w W) : ReadsRow (d.K w) d.sz W A n xs := by
  unfold Kd.C at h; exact h.imp_ hb (fun _ _ q => q)
theorem PS.loaded {w w3 w4 w5 : World} {g s1 : Nat} {vals : List Int} {cls : List (List Int × Int × Int)} {ms : List S48} {l : List (List Int)} {n : Int} {v1 v2 : Value} {o : Obj} (ho : o = .cells #[.int .i64 n, .slice none 0 0, .slice none 0 0] 65)
    (hs : St w3 (fun k => s1 ≤ k) g vals cls ms) (hs1 : w.heap.size < s1) (hi : SInv n vals cls ms l) (hb : Below w.heap.size w w3) (hlt : w.heap.size < w3.heap.size)
    (h4 : Rest (w3.alloc o) w4 (fun _ => False)) (ho1 : Kd.R (kC w) 34 w4 0 (fun k => w3.heap.size < k) v1 l)
    (h5 : Rest (w4.setCell ⟨w3.heap.size, 1, none⟩ v1) w5 (fun _ => False)) (ho2 : Kd.R k48 48 w5 0 (fun k => w4.heap.size ≤ k) v2 ms) :
    PS w (w5.setCell ⟨w3.heap.size, 2, none⟩ v2) g w3.heap.size l.length (fun k => s1 ≤ k ∧ k < w3.heap.size) (fun k => w3.heap.size < k) vals cls ms l n v1 v2 := by
  subst ho
  have ha := below_alloc (Below.refl w3.heap.size w3) (.cells #[.int .i64 n, .slice none 0 0, .slice none 0 0] 65)
  have hz : (w3.alloc (.cells #[.int .i64 n, .slice none 0 0, .slice none 0 0] 65)).heap.size = w3.heap.size + 1 := by simp
  have hz4 := h4.size
  have hz5 := h5.size
  have hz5' : (w4.setCell ⟨w3.heap.size, 1, none⟩ v1).heap.size = w4.heap.size := by simp [World.setCell]
  have b0 := heap_alloc_new w3 (.cells #[.int .i64 n, .slice none 0 0, .slice none 0 0] 65)
  have b4 := (h4.block w3.heap.size (by omega) (fun q => q)).trans b0
  have b5 := (h5.block w3.heap.size (by omega) (fun q => q)).trans (blk_set b4 1 v1)
  have b6 := blk_set b5 2 v2
  have k1 : ∀ k, k < w4.heap.size → k ≠ w3.heap.size → (w5.setCell ⟨w3.heap.size, 2, none⟩ v2).heap[k]? = w4.heap[k]? := fun k q1 q2 => by
    rw [Below.heap_setCell _ ⟨w3.heap.size, 2, none⟩ _ k q2, h5.block k (by omega) (fun q => q), Below.heap_setCell _ ⟨w3.heap.size, 1, none⟩ _ k q2]
  have k0 : ∀ k, k < w3.heap.size → (w5.setCell ⟨w3.heap.size, 2, none⟩ v2).heap[k]? = w3.heap[k]? := fun k q => by
    rw [k1 k (by omega) (by omega), h4.block k (by omega) (fun q => q)]; exact ha.block k q
  refine ⟨hs.bound.step (fun k q hk => k0 k q.2), hi, ⟨?_, ?_⟩, fun k q1 q2 => by omega, fun k q => ⟨by omega, by omega⟩, fun k q => ⟨by omega, by omega⟩, Nat.le_refl _, b6, ?_, hlt⟩
  · refine Kd.R_mono (Kd.R_step (Kd.R_bound ho1) (fun k q hk => k1 k hk (by have := q.1; omega))) (fun k q => ⟨q.1, fun e => ?_⟩)
    have h1 := ho2.1 k e.symm
    have h2 := q.2.2.1
    omega
  · exact Kd.R_mono (Kd.R_step ho2 (fun k q hk => Below.heap_setCell _ ⟨w3.heap.size, 2, none⟩ _ k (by have h : w4.heap.size ≤ k := q; dsimp only; omega))) (fun k q => by have h : w4.heap.size ≤ k := q; omega)
  · have r1 : Rest w3 (w5.setCell ⟨w3.heap.size, 2, none⟩ v2) (fun k => k = w3.heap.size) := Rest.set (p := ⟨w3.heap.size, 2, none⟩) ((Rest.set (p := ⟨w3.heap.size, 1, none⟩) (((Rest.refl w3 (fun k => k = w3.heap.size)).alloc _).trans h4 (fun _ _ q => q.elim)) rfl _).trans h5 (fun _ _ q => q.elim)) rfl _
    exact r1.below hb (fun k q => by omega)

set_option maxHeartbeats 16000000 in
set_option maxRecDepth 100000 in
theorem loads_walk (n : Int) (Ao : Option Addr) (co : Nat) (ops : List (Int × List Int × Int × Int)) (Al : Option Addr) (cl : Nat) (l : List (List Int)) (Am : Option Addr) (cm : Nat) (ms : List S48) (w : World) (hr : Kd.C kOp w Ao ops.length ops) (hrl : Kd.C (Kd.slice 3 (Kd.int .i64)) w Al l.length l) (hll : l.length ≤ cl) (hrm : Kd.C k48 w Am ms.length ms) (hlm : ms.length ≤ cm) (hlen : ops.length + l.length < 1048576) (hcl : ∀ o ∈ ops, o.2.1.length ≤ 4194304) (hcl2 : ∀ c ∈ l, c.length ≤ 4194304) (hms : ms.length ≤ 1048576) :
    Calls Try.prog 9 #[.agg #[.int .i64 n, .slice Ao ops.length co], .slice Al l.length cl, .slice Am ms.length cm] w fun e w' => e = .returned (.bool true) ∧ Below w.heap.size w w' := by
  have HR := Aside0.mk hr
  have HLEN := Aside0.mk hlen
  have HCL := Aside0.mk hcl
  have HRL := Aside0.mk (And.intro hll hrl)
  have HRM := Aside0.mk (And.intro hlm hrm)
  have HCL2 := Aside0.mk hcl2
  obtain ⟨kl, hkl⟩ := (load_all n l ms (by omega) (by omega) hcl2).rounds
  have hpp : ∀ W : World, (binOp .neq 22 (.pointer none) (.pointer none)).run Try.prog W = .ok (.bool false) W := fun W => by kernel_rfl
  have HLA : Aside0 (∀ W, Below w.heap.size w W → _) := ⟨fun W hW => load_any n Al cl l Am cm ms W (Kd.C_below hrl hW) (Kd.C_below hrm hW) (by omega) hcl2 (by omega)⟩
  have HKL := Aside0.mk hkl
  clear hr hrl hll hrm hlm hcl hcl2 hkl
  go_enter Try.func9, Try.ntmps9
  go_wp2_with fail
  obtain ⟨w1, hw1⟩ : ∃ w1, w1 = w.alloc (.cells #[.int .i64 n, .slice Ao ops.length co] 63) := ⟨_, rfl⟩
  have hb1 : Below w.heap.size w w1 := by rw [hw1]; exact below_alloc (Below.refl _ _) _
  have hs1 : w1.heap.size = w.heap.size + 1 := by rw [hw1]; simp
  have hB1 : w1.heap[w.heap.size]? = some (.cells #[.int .i64 n, .slice Ao ops.length co] 63 (0, 0)) := by rw [hw1]; exact heap_alloc_new w _
  rw [← hw1]
  clear hw1
  refine (HLA.out w1 hb1).mono ?_
  rintro e w2 (⟨E, hE, hE0, rfl, hb2⟩ | ⟨hE, g, vals0, cls0, rfl, hld⟩)
  · have hB2 := (hb2.block w.heap.size (by omega)).trans hB1
    have s0 := blk_cell hB2 0
    have HB2 := Aside0.mk (below_step hb1 hb2)
    rw [hE] at HKL
    have de : (E == E) = true := beq_self_eq_true _
    have de' : (E != E) = false := by simp
    have de0 : (E == 0) = false := beq_eq_false_iff_ne.2 hE0
    have de0' : (E != 0) = true := bne_iff_ne.2 hE0
    clear hb1 hs1 hB1 hB2 hb2 hE hE0
    go_wp2_with fail
    refine (fulcrumref20_Load.calls kl n Al cl l Am cm ms E _ (Kd.C_below HRL.out.2 HB2.out) HRL.out.1 (Kd.C_below HRM.out.2 HB2.out) HRM.out.1 HKL.out).mono ?_
    rintro e w3 ⟨rfl, hb3⟩
    have HB3 := Aside0.mk (below_step HB2.out hb3)
    clear hb3 s0
    go_wp2
    go_ret
    exact ⟨rfl, HB3.out⟩
  have hbx2 := hld.bel
  have hB2 := (hbx2.block w.heap.size (by omega)).trans hB1
  have s0 := blk_cell hB2 0
  rw [hE] at HKL
  have hb02 := below_step hb1 hbx2
  have HLD := Aside0.mk hld
  have HB02 := Aside0.mk hb02
  have HS1 := Aside0.mk hs1
  have HBX2 := Aside0.mk hB2
  clear hb1 hs1 hB1 hB2 hbx2 hb02 hld hE
  go_wp2_with fail
  refine (fulcrumref20_Load.calls kl n Al cl l Am cm ms 0 _ (Kd.C_below HRL.out.2 HB02.out) HRL.out.1 (Kd.C_below HRM.out.2 HB02.out) HRM.out.1 HKL.out).mono ?_
  rintro e w3 ⟨rfl, hb3⟩
  have hB3 := (hb3.block w.heap.size (blk_lt HBX2.out)).trans HBX2.out
  have t0 := blk_cell hB3 0
  have HLD3 := Aside0.mk (HLD.out.below hb3)
  have HB03 := Aside0.mk (below_step HB02.out hb3)
  have HBX3 := Aside0.mk hB3
  clear hb3 hB3 s0
  have HWA : Aside0 (∀ o, Below w.heap.size w (w3.alloc o)) := ⟨fun o => below_step HB03.out (below_alloc (Below.refl w3.heap.size w3) o)⟩
  have HMS := Aside0.mk hms
  have hlt3 : w.heap.size < w3.heap.size := blk_lt HBX3.out
  have HLT := Aside0.mk hlt3
  clear hlt3
  go_wp2_with (first | (at_builtin; refine Kd.R_append_rows (kC w) (Rr := (Kd.slice 3 (Kd.int .i64)).K w) (w0 := w) 0 rfl (.tmp 43) (.tmp 44) 31 34 (.slice none 0 0) 24 rfl Try.underlying31 info_clause rfl Nat.one_pos (by omega) (.slice none 0 0) ([] : List (List Int)) l Al l.length cl (fun k => w3.heap.size < k) (fun _ => False) rfl rfl (Kd.R_nil _ _ _ _ _) ?aR ?aK (fun _ h => h.elim) ?aF ?aB (Nat.zero_le _) ?aL ?_; (case aR => exact C_rows HRL.out.2 (HWA.out _)); (case aK => exact fun x cs hp => by obtain ⟨A, c, rfl, hl, hC⟩ := hp; exact Kd.mix_came hl hC); (case aF => exact fun k hk => by simp at hk; omega); (case aB => exact ⟨(HWA.out _).os, (HWA.out _).tape, (HWA.out _).output, Nat.le_trans HB03.out.size (below_alloc (Below.refl w3.heap.size w3) _).size, fun _ h => by omega⟩); (case aL => have := HLEN.out; simp only [List.length_nil]; omega); intro v1 w4 ho hb hg hat; obtain ⟨A1, cc1, rfl⟩ := Kd.R_slice ho; rw [List.nil_append] at ho; have hr4 : Rest (w3.alloc (.cells #[.int .i64 n, .slice none 0 0, .slice none 0 0] 65)) w4 (fun _ => False) := ⟨hg.os, hg.tape, hg.output, hg.size, fun k hk _ => hg.block k hk (fun e => by cases e)⟩; have HR4 := Aside0.mk hr4; have HO4 := Aside0.mk ho; have hbm4 := (hr4.block w3.heap.size (by simp) (fun q => q)).trans (heap_alloc_new w3 _); have HBM4 := Aside0.mk hbm4; have x1 : w4.cell? ⟨w3.heap.size, 1, none⟩ = some (.slice none 0 0) := blk_cell hbm4 1; have x2 : w4.cell? ⟨w3.heap.size, 2, none⟩ = some (.slice none 0 0) := blk_cell hbm4 2; have xf := blk_frozen hbm4 1; have HB4 : Aside0 (∀ u, Below w.heap.size w (w4.setCell ⟨w3.heap.size, 1, none⟩ u)) := ⟨fun u => Rest.below HB03.out (Rest.set (p := ⟨w3.heap.size, 1, none⟩) (((Rest.refl w3 (fun k => k = w3.heap.size)).alloc _).trans hr4 (fun _ _ q => q.elim)) rfl u) (fun k q => q ▸ HB03.out.size)⟩; clear ho hb hg hat hr4 hbm4) | (at_builtin; refine Kd.R_append_rows k48 (Rr := k48.K w) (w0 := w) 0 rfl (.tmp 48) (.tmp 49) 38 48 (.agg #[(.int .i64 0), (.int .i64 0), (.int .i64 0)]) 24 rfl Try.underlying38 info_mark rfl (by decide) (by omega) (.slice none 0 0) ([] : List S48) ms Am ms.length cm (fun k => w4.heap.size ≤ k) (fun _ => False) rfl rfl (Kd.R_nil _ _ _ _ _) ?aR ?aK (fun _ h => h.elim) ?aF ?aB (Nat.zero_le _) ?aL ?_; (case aR => exact C_rows HRM.out.2 (HB4.out _)); (case aK => exact fun x cs hp => by rw [k48_open hp]; exact k48_mkM _ _ _ x); (case aF => exact fun k hk => by simpa [World.setCell] using hk); (case aB => exact ⟨(HB4.out _).os, (HB4.out _).tape, (HB4.out _).output, (HB4.out _).size, fun _ h => by omega⟩); (case aL => have := HMS.out; simp only [List.length_nil]; omega); intro v2 w5 ho hb hg hat; obtain ⟨A2, cc2, rfl⟩ := Kd.R_slice ho; rw [List.nil_append] at ho; have hr5 : Rest (w4.setCell ⟨w3.heap.size, 1, none⟩ (.slice A1 l.length cc1)) w5 (fun _ => False) := ⟨hg.os, hg.tape, hg.output, hg.size, fun k hk _ => hg.block k hk (fun e => by cases e)⟩; have HR5 := Aside0.mk hr5; have HO5 := Aside0.mk ho; have hbm5 := (hr5.block w3.heap.size (by simp [World.setCell]; exact blk_lt HBM4.out) (fun q => q)).trans (blk_set HBM4.out 1 (.slice A1 l.length cc1)); have HBM5 := Aside0.mk hbm5; have y0 : w5.cell? ⟨w3.heap.size, 0, none⟩ = some (.int .i64 n) := blk_cell hbm5 0; have y1 : w5.cell? ⟨w3.heap.size, 1, none⟩ = some (.slice A1 l.length cc1) := blk_cell hbm5 1; have y2 : w5.cell? ⟨w3.heap.size, 2, none⟩ = some (.slice none 0 0) := blk_cell hbm5 2; have yf := blk_frozen hbm5 2; clear ho hb hg hat hr5 hbm5))
  have hps0 := PS.loaded rfl HLD3.out.st (by have := HS1.out; omega) HLD3.out.inv HB03.out HLT.out HR4.out HO4.out HR5.out HO5.out
  obtain ⟨w6, hw6⟩ : ∃ w6, w6 = w5.setCell ⟨w3.heap.size, 2, none⟩ (.slice A2 ms.length cc2) := ⟨_, rfl⟩
  have hs6 : w6.heap[w.heap.size]? = some (.cells #[.int .i64 n, .slice Ao ops.length co] 63 (0, 0)) := by
    have hne := Nat.ne_of_lt HLT.out
    have h3 := ((below_alloc (Below.refl w3.heap.size w3) (.cells #[.int .i64 n, .slice none 0 0, .slice none 0 0] 65)).block _ HLT.out).trans HBX3.out
    have h4 := (HR4.out.block _ (blk_lt h3) (fun q => q)).trans h3
    have h4' := blk_far h4 (p := ⟨w3.heap.size, 1, none⟩) hne (.slice A1 l.length cc1)
    have h5 := (HR5.out.block _ (blk_lt h4') (fun q => q)).trans h4'
    rw [hw6]; exact blk_far h5 (p := ⟨w3.heap.size, 2, none⟩) hne _
  rw [← hw6] at hps0
  have z0 := blk_cell hps0.bm 0
  have z1 := blk_cell hps0.bm 1
  have z2 := blk_cell hps0.bm 2
  have HPS0 := Aside0.mk hps0
  have HB3 := Aside0.mk hs6
  rw [← hw6]
  clear hw6 hps0 hs6 x1 x2 xf y0 y1 y2 yf t0
  refine (HPS0.out.is (Below.refl _ _)).mono ?_
  rintro e w7 ⟨rfl, hb7⟩
  have HPS1 := Aside0.mk (HPS0.out.below hb7)
  have HB31 := Aside0.mk ((hb7.block _ (blk_lt HB3.out)).trans HB3.out)
  clear z0 z1 z2 hb7 HPS0 HB3
  go_wp2
  go_loopg [11, 12, 13] ops.length (fun kq v11 v12 v13 w' => ∃ i : Nat, v11 = .int .i64 (i : Int) ∧ Aside0 (i + kq = ops.length) ∧ Aside0 (∃ ok P vals cls marks cs nn vl vm, PS w w' g w3.heap.size (l.length + i) ok P vals cls marks cs nn vl vm) ∧ Aside0 (w'.heap[w.heap.size]? = some (.cells #[.int .i64 n, .slice Ao ops.length co] 63 (0, 0))))
  case atStart => exact ⟨0, rfl, ⟨by omega⟩, ⟨_, _, _, _, _, _, _, _, _, HPS1.out⟩, HB31⟩
  case round =>
    obtain ⟨i, rfl, HIK, HPS, HBS⟩ := hrel
    obtain ⟨ok, P, vals, cls, marks, cs, nn, vl, vm, hps⟩ := HPS.out
    have s0 := blk_cell HBS.out 0
    have s1 := blk_cell HBS.out 1
    have m0 := blk_cell hps.bm 0
    have m1 := blk_cell hps.bm 1
    have m2 := blk_cell hps.bm 2
    have HQ := Aside0.mk hps
    clear hps HPS HPS1 HB31
    cases gk with
    | succ k1 =>
      have hlt : i < ops.length := by have := HIK.out; omega
      have hi0 : (0 : Int) ≤ (i : Int) := by omega
      have hi1 : (i : Int) < (ops.length : Int) := by omega
      obtain ⟨ad, Ac, cc, e, t0, t1, t2, t3, hle, hC⟩ := at_Op HR.out (i : Int) hi0 hi1
      subst e
      have hcl' := HCL.out _ (rdO_mem hlt)
      rw [Int.toNat_natCast] at t0 t1 t2 t3
      obtain ⟨D, hD⟩ : ∃ D, D = (rdO ops (i : Int)).1 := ⟨_, rfl⟩
      obtain ⟨c, hc⟩ : ∃ c, c = (rdO ops (i : Int)).2.1 := ⟨_, rfl⟩
      obtain ⟨lit, hlit⟩ : ∃ lit, lit = (rdO ops (i : Int)).2.2.1 := ⟨_, rfl⟩
      obtain ⟨N, hN⟩ : ∃ N, N = (rdO ops (i : Int)).2.2.2 := ⟨_, rfl⟩
      rw [← hD] at t0
      rw [← hc] at t1 hle hC hcl'
      rw [← hlit] at t2
      rw [← hN] at t3
      have u0 := (HQ.out.bel.cell (World.block_lt_of_cell? _ _ t0)).trans t0
      have u1 := (HQ.out.bel.cell (World.block_lt_of_cell? _ _ t1)).trans t1
      have u2 := (HQ.out.bel.cell (World.block_lt_of_cell? _ _ t2)).trans t2
      have u3 := (HQ.out.bel.cell (World.block_lt_of_cell? _ _ t3)).trans t3
      have HPL : Aside0 (∀ W, Below wr.heap.size wr W → _) := ⟨fun W hW => HQ.out.play2 hW Ac cc c D lit N hC hle hcl' (by have := HLEN.out; omega)⟩
      clear t1 t2 t3 hle hC hcl' hD hc hlit hN
      go_wp2_with fail
      have hbmlt : w3.heap.size < wr.heap.size := blk_lt HQ.out.bm
      have hwlt : w.heap.size < wr.heap.size := blk_lt HBS.out
      have kB : ∀ (a : Nat) (o : Obj) (p : Addr), KeepP w.heap.size w3.heap.size p → ((wr.drewN a).alloc o).cell? p = wr.cell? p := fun a o => HQ.out.keep (fun k q => (below_alloc (pw_below_drewN (Below.refl wr.heap.size wr) a) o).block k (by omega))
      have kk0 : KeepP w.heap.size w3.heap.size ⟨w.heap.size, 1, none⟩ := .inl (Nat.le_refl _)
      have kk1 : KeepP w.heap.size w3.heap.size ⟨w3.heap.size, 0, none⟩ := .inr rfl
      have kk2 : KeepP w.heap.size w3.heap.size ⟨w3.heap.size, 1, none⟩ := .inr rfl
      have kk3 : KeepP w.heap.size w3.heap.size ⟨w3.heap.size, 2, none⟩ := .inr rfl
      have hadl := Nat.le_of_lt (World.block_lt_of_cell? _ _ t0)
      have kk4 : KeepP w.heap.size w3.heap.size (ad.add (i * 4)) := .inl hadl
      have kk5 : KeepP w.heap.size w3.heap.size ⟨(ad.add (i * 4)).block, (ad.add (i * 4)).off + 1, none⟩ := .inl hadl
      have kk6 : KeepP w.heap.size w3.heap.size ⟨(ad.add (i * 4)).block, (ad.add (i * 4)).off + 2, none⟩ := .inl hadl
      have kk7 : KeepP w.heap.size w3.heap.size ⟨(ad.add (i * 4)).block, (ad.add (i * 4)).off + 3, none⟩ := .inl hadl
      have HLT2 := Aside0.mk (And.intro hbmlt hwlt)
      clear t0 hadl hbmlt hwlt
      go_region_held3 (fun w' => ∀ p, KeepP w.heap.size w3.heap.size p → w'.cell? p = wr.cell? p) (first | assumption | exact kB _ _ | exact kD _ | exact kF _ _ _ _ _ _ | exact fun _ _ => rfl | go_keep)
        (first
          | (go_at_call 30; refine (HPL.out _ (by repeat (first | exact Below.refl _ _ | apply below_drew1 | apply pw_below_drewN | apply below_alloc))).mono ?_; rintro e w6 ⟨n', Al', nl, cl', Am', nm, cm', rfl, hpq, hk6, hz6, hlb, hlw⟩; have kD : ∀ (o : Obj) (p : Addr), KeepP w.heap.size w3.heap.size p → (w6.alloc o).cell? p = wr.cell? p := fun o p q => (World.cell?_of_block ((below_alloc (Below.refl w6.heap.size w6) o).block p.block (by rcases q with q | q <;> omega))).trans (hk6 p q); have kF : ∀ (k1 k2 k3 : Nat) (u1 u2 u3 : Value) (p : Addr), KeepP w.heap.size w3.heap.size p → (((w6.setCell ⟨wr.heap.size, k1, none⟩ u1).setCell ⟨wr.heap.size, k2, none⟩ u2).setCell ⟨wr.heap.size, k3, none⟩ u3).cell? p = wr.cell? p := fun k1 k2 k3 u1 u2 u3 p q => (World.cell?_of_block (by have := HLT2.out; rw [Below.heap_setCell _ ⟨wr.heap.size, k3, none⟩ _ p.block (by rcases q with q | q <;> (dsimp only; omega)), Below.heap_setCell _ ⟨wr.heap.size, k2, none⟩ _ p.block (by rcases q with q | q <;> (dsimp only; omega)), Below.heap_setCell _ ⟨wr.heap.size, k1, none⟩ _ p.block (by rcases q with q | q <;> (dsimp only; omega))])).trans (hk6 p q); first | (have hz := hz6 _ (heap_alloc_new _ _); have k0 := blk_cell hz 0; have k1 := blk_cell hz 1; have k2 := blk_cell hz 2; have kf0 := blk_frozen hz 0; have kf1 := blk_frozen hz 1; have kf2 := blk_frozen hz 2; have HZ := Aside0.mk hz; have HPP := Aside0.mk hpq; clear hpq hz6 hz) | (have HPP := Aside0.mk hpq; clear hpq hz6)))
      · obtain ⟨w7, hw7⟩ : ∃ w7, w7 = w6.alloc (.cells #[.int .i64 n', .slice Al' nl cl', .slice Am' nm cm'] 65) := ⟨_, rfl⟩
        have hR7 : Rest w6 w7 (fun k => k = w6.heap.size) := by rw [hw7]; exact (Rest.refl w6 _).alloc _
        have hz7 : w7.heap[w6.heap.size]? = some (.cells #[.int .i64 n', .slice Al' nl cl', .slice Am' nm cm'] 65 (0, 0)) := by rw [hw7]; exact heap_alloc_new w6 _
        have HNX := Aside0.mk (HQ.out.next HPP.out.1 HPP.out.2 hR7 (Nat.le_trans HPP.out.1.size HPP.out.2.rest.size) (.inr (Nat.le_refl _)))
        have hbx := HQ.out.box HPP.out.1 HPP.out.2
        have hA := (hR7.block w3.heap.size hbx.2.2.2 (by have := HLT2.out; omega)).trans hbx.1
        have hs7 := (hR7.block w.heap.size hlw (by have := HLT2.out; omega)).trans ((hbx.2.1 _ (Nat.le_refl _)).trans ((HPP.out.1.block _ (blk_lt HBS.out)).trans HBS.out))
        have j0 := blk_cell hA 0
        have j1 := blk_cell hA 1
        have j2 := blk_cell hA 2
        have f0 := blk_frozen hA 0
        have f1 := blk_frozen hA 1
        have f2 := blk_frozen hA 2
        have v0 := blk_cell hz7 0
        have v1 := blk_cell hz7 1
        have v2 := blk_cell hz7 2
        have HS7 := Aside0.mk hs7
        have HNE := Aside0.mk (Nat.ne_of_lt HLT.out)
        rw [← hw7]
        clear hw7 hR7 hz7 hbx hA hs7 hk6 kD kF kB kk0 kk1 kk2 kk3 kk4 kk5 kk6 kk7 hlb hlw u0 u1 u2 u3 m0 m1 m2 s0 s1
        obtain ⟨ok', P', vals', cls', marks', cs', hnx⟩ := HNX.out
        have HNX2 := Aside0.mk hnx
        clear hnx
        go_wp2
        go_roundg k1
        case measure => omega
        case rel =>
          refine ⟨i + 1, by go_num, ⟨by have := HIK.out; omega⟩, ⟨_, _, _, _, _, _, _, _, _, HNX2.out⟩, ⟨?_⟩⟩
          rw [Below.heap_setCell _ ⟨w3.heap.size, 2, none⟩ _ _ HNE.out, Below.heap_setCell _ ⟨w3.heap.size, 1, none⟩ _ _ HNE.out, Below.heap_setCell _ ⟨w3.heap.size, 0, none⟩ _ _ HNE.out]; exact HS7.out
      · obtain ⟨w7, hw7⟩ : ∃ w7, w7 = (((w6.setCell ⟨wr.heap.size, 0, none⟩ (.int .i64 n')).setCell ⟨wr.heap.size, 1, none⟩ (.slice Al' nl cl')).setCell ⟨wr.heap.size, 2, none⟩ (.slice Am' nm cm')) := ⟨_, rfl⟩
        have hR7 : Rest w6 w7 (fun k => k = wr.heap.size) := by rw [hw7]; exact Rest.set (p := ⟨wr.heap.size, 2, none⟩) (Rest.set (p := ⟨wr.heap.size, 1, none⟩) (Rest.set (p := ⟨wr.heap.size, 0, none⟩) (Rest.refl w6 (fun k => k = wr.heap.size)) rfl _) rfl _) rfl _
        have hz7 : w7.heap[wr.heap.size]? = some (.cells #[.int .i64 n', .slice Al' nl cl', .slice Am' nm cm'] 65 (0, 0)) := by rw [hw7]; exact (blk_set (blk_set (blk_set HZ.out 0 _) 1 _) 2 _)
        have HNX := Aside0.mk (HQ.out.next HPP.out.1 HPP.out.2 hR7 (Nat.le_refl _) (.inl (by show wr.heap.size < (wr.alloc _).heap.size; simp)))
        have hbx := HQ.out.box HPP.out.1 HPP.out.2
        have hA := (hR7.block w3.heap.size hbx.2.2.2 (by have := HLT2.out; omega)).trans hbx.1
        have hs7 := (hR7.block w.heap.size hlw (by have := HLT2.out; omega)).trans ((hbx.2.1 _ (Nat.le_refl _)).trans ((HPP.out.1.block _ (blk_lt HBS.out)).trans HBS.out))
        have j0 := blk_cell hA 0
        have j1 := blk_cell hA 1
        have j2 := blk_cell hA 2
        have f0 := blk_frozen hA 0
        have f1 := blk_frozen hA 1
        have f2 := blk_frozen hA 2
        have v0 := blk_cell hz7 0
        have v1 := blk_cell hz7 1
        have v2 := blk_cell hz7 2
        have HS7 := Aside0.mk hs7
        have HNE := Aside0.mk (Nat.ne_of_lt HLT.out)
        rw [← hw7]
        clear k0 k1 k2 kf0 kf1 kf2 hw7 hR7 hz7 hbx hA hs7 hk6 kD kF kB kk0 kk1 kk2 kk3 kk4 kk5 kk6 kk7 hlb hlw u0 u1 u2 u3 m0 m1 m2 s0 s1
        obtain ⟨ok', P', vals', cls', marks', cs', hnx⟩ := HNX.out
        have HNX2 := Aside0.mk hnx
        clear hnx
        go_wp2
        go_roundg k1
        case measure => omega
        case rel =>
          refine ⟨i + 1, by go_num, ⟨by have := HIK.out; omega⟩, ⟨_, _, _, _, _, _, _, _, _, HNX2.out⟩, ⟨?_⟩⟩
          rw [Below.heap_setCell _ ⟨w3.heap.size, 2, none⟩ _ _ HNE.out, Below.heap_setCell _ ⟨w3.heap.size, 1, none⟩ _ _ HNE.out, Below.heap_setCell _ ⟨w3.heap.size, 0, none⟩ _ _ HNE.out]; exact HS7.out
    | zero =>
      obtain rfl : i = ops.length := by have := HIK.out; omega
      go_wp2_with fail
      refine (HQ.out.is (Below.refl _ _)).mono ?_
      rintro e w9 ⟨rfl, hb9⟩
      have HB9 := Aside0.mk (below_step HQ.out.bel hb9)
      clear hb9
      go_wp2
      go_ret
      exact ⟨rfl, HB9.out⟩

end Go.Proofs.Ytegaaobiedfjcaa.PU
