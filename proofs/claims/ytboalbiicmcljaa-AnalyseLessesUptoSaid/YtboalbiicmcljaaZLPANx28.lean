import Derived.Test.YtboalbiicmcljaaZLPANx0
import Derived.Test.YtboalbiicmcljaaZLPANx9
import Derived.Test.YtboalbiicmcljaaZLPANx10
import Derived.Test.YtboalbiicmcljaaZLPANx16
import Derived.Test.YtboalbiicmcljaaZLPANx23
import Derived.Test.YtboalbiicmcljaaZLPANx24
import Derived.Test.YtboalbiicmcljaaZLPANx27
namespace Go.Proofs.Ytboalbiicmcljaa.PAN
open Go.Proofs.YtboalbiicmcljaaH
open Go.RowKit Go.Proofs.YtboalbiicmcljaaW.PrintWords Go.Proofs.YtboalbiicmcljaaW.PrintLast Go.Proofs.YtboalbiicmcljaaW.PrintMore
attribute [local go_sem] max2_int min2_int max_two min_two max_three min_three max_four min_four   -- for this text's walks alone
set_option linter.unusedVariables false
set_option linter.unusedSimpArgs false
def fulcrumlaw21_AnalyseLesses.f (k : Nat) (l0_0 : List (List Int)) (l0_1 : List (S49)) (l1_0 : List Int) (a1_1 : Int) (l1_2 : List Int) : Option (Bool) := (fulcrumlaw21_twin.f k l0_0).bind fun t508 => ((fulcrumlaw21_marks.f k l0_1).bind fun t511 => ((fulcrumlaw21_learnt.f k l1_0 a1_1 l1_2).bind fun bt514 => ((analyse_Less.f t508 t511 bt514.1 bt514.2.1 bt514.2.2).bind fun bt521 => ((fulcrumref21_Less.f k l0_0 l0_1 l1_0 a1_1 l1_2).bind fun bt530 => ((fulcrumlaw21_lives.f k).bind fun t539 => (if t539 = true then (if bt521.2.2.2 = bt530.2.2.2 then ((fulcrumlaw21_alike.f k bt521.1 bt521.2.1 bt521.2.2.1 bt530.1 bt530.2.1 bt530.2.2.1).bind fun t540 => (some t540)) else (some false)) else (some false)))))))
theorem fulcrumlaw21_AnalyseLesses.mono : ∀ a0 a1 a2 a3 a4 k, LeO (fulcrumlaw21_AnalyseLesses.f k a0 a1 a2 a3 a4) (fulcrumlaw21_AnalyseLesses.f (k + 1) a0 a1 a2 a3 a4) := by
 intro a0 a1 a2 a3 a4 k
 unfold fulcrumlaw21_AnalyseLesses.f
 repeat' first
   | (with_reducible exact fulcrumlaw21_alike.mono _ _ _ _ _ _ _)
   | (with_reducible exact fulcrumlaw21_learnt.mono _ _ _ _)
   | (with_reducible exact fulcrumlaw21_lives.mono _)
   | (with_reducible exact fulcrumlaw21_marks.mono _ _)
   | (with_reducible exact fulcrumlaw21_twin.mono _ _)
   | (with_reducible exact fulcrumref21_Less.mono _ _ _ _ _ _)
   | (with_reducible exact LeO.refl _)
   | (with_reducible exact LeO.none _)
   | (with_reducible refine LeO.ite ?_ ?_)
   | (with_reducible refine LeO.bind ?_ (fun _ => ?_))
   | exact fulcrumlaw21_alike.mono _ _ _ _ _ _ _
   | exact fulcrumlaw21_learnt.mono _ _ _ _
   | exact fulcrumlaw21_lives.mono _
   | exact fulcrumlaw21_marks.mono _ _
   | exact fulcrumlaw21_twin.mono _ _
   | exact fulcrumref21_Less.mono _ _ _ _ _ _
   | exact LeO.none _
   | refine LeO.ite ?_ ?_
   | refine LeO.bind ?_ (fun _ => ?_)
def fulcrumlaw21_AnalyseLesses.T1 : Bool × List (List Nat × List Nat) := (true, [([], []), ([0], [0]), ([1], [1]), ([], []), ([3], [3]), ([4, 2], [4]), ([], []), ([6, 5], [6]), ([2, 5, 7, 7], [2, 5, 7]), ([8], [8]), ([9], [9]), ([9], [9]), ([], []), ([12, 10, 8, 0, 1, 2, 3, 4, 5, 6, 7, 8, 9, 10, 12], [10, 12]), ([11, 13, 0, 1, 2, 3, 4, 5, 6, 7, 8, 9, 10, 11, 12, 13], [11])])
def fulcrumlaw21_AnalyseLesses.B1 : List Nat := [0, 1, 3, 0, 8, 31, 0, 127, 255, 511, 1023, 1023, 0, 6143, 16383]
theorem fulcrumlaw21_AnalyseLesses.tab1 : rtab .any (opsOf Try.f9 1) = fulcrumlaw21_AnalyseLesses.T1 := by kernel_rfl
theorem fulcrumlaw21_AnalyseLesses.bits1 : waitsOk fulcrumlaw21_AnalyseLesses.T1.2 fulcrumlaw21_AnalyseLesses.B1 = true := by kernel_rfl
set_option maxHeartbeats 8000000 in
set_option maxRecDepth 100000 in
theorem fulcrumlaw21_AnalyseLesses.calls (k : Nat) (A0_0 : Option Addr) (c0_0 : Nat) (l0_0 : List (List Int)) (A0_1 : Option Addr) (c0_1 : Nat) (l0_1 : List (S49)) (A1_0 : Option Addr) (c1_0 : Nat) (l1_0 : List Int) (a1_1 : Int) (A1_2 : Option Addr) (c1_2 : Nat) (l1_2 : List Int) (r : Bool) (w : World) (hr0_0 : Kd.C (Kd.slice 3 (Kd.int .i64)) w A0_0 l0_0.length l0_0) (hc0_0 : l0_0.length ≤ c0_0) (hr0_1 : Kd.C k49 w A0_1 l0_1.length l0_1) (hc0_1 : l0_1.length ≤ c0_1) (hr1_0 : Kd.C (Kd.int .i64) w A1_0 l1_0.length l1_0) (hc1_0 : l1_0.length ≤ c1_0) (hr1_2 : Kd.C (Kd.int .i64) w A1_2 l1_2.length l1_2) (hc1_2 : l1_2.length ≤ c1_2) (h : fulcrumlaw21_AnalyseLesses.f k l0_0 l0_1 l1_0 a1_1 l1_2 = some r) (hr_ : r = true := by rfl) :
  Calls Try.prog 9 #[.agg #[.slice A0_0 l0_0.length c0_0, .slice A0_1 l0_1.length c0_1], .agg #[.slice A1_0 l1_0.length c1_0, .int .i64 a1_1, .slice A1_2 l1_2.length c1_2]] w fun e w' => e = .returned (.bool r) ∧ Below w.heap.size w w' := by
 have hu26 := Try.underlying26
 have hu30 := Try.underlying30
 have HR0_0 := Aside0.mk hr0_0
 have HC0_0 := Aside0.mk hc0_0
 clear hr0_0 hc0_0
 have HR0_1 := Aside0.mk hr0_1
 have HC0_1 := Aside0.mk hc0_1
 clear hr0_1 hc0_1
 have HR1_0 := Aside0.mk hr1_0
 have HC1_0 := Aside0.mk hc1_0
 clear hr1_0 hc1_0
 have HR1_2 := Aside0.mk hr1_2
 have HC1_2 := Aside0.mk hc1_2
 clear hr1_2 hc1_2
 have HB := Aside0.mk (Below.refl w.heap.size w)
 have H : ((fulcrumlaw21_twin.f k l0_0).bind fun t508 => ((fulcrumlaw21_marks.f k l0_1).bind fun t511 => ((fulcrumlaw21_learnt.f k l1_0 a1_1 l1_2).bind fun bt514 => ((analyse_Less.f t508 t511 bt514.1 bt514.2.1 bt514.2.2).bind fun bt521 => ((fulcrumref21_Less.f k l0_0 l0_1 l1_0 a1_1 l1_2).bind fun bt530 => ((fulcrumlaw21_lives.f k).bind fun t539 => (if t539 = true then (if bt521.2.2.2 = bt530.2.2.2 then ((fulcrumlaw21_alike.f k bt521.1 bt521.2.1 bt521.2.2.1 bt530.1 bt530.2.1 bt530.2.2.1).bind fun t540 => (some t540)) else (some false)) else (some false)))))))) = some r := h
 clear h
 replace H := Option.bind_eq_some_iff.mp H
 obtain ⟨t508, A30, H⟩ := H
 replace H : ((fulcrumlaw21_marks.f k l0_1).bind fun t511 => ((fulcrumlaw21_learnt.f k l1_0 a1_1 l1_2).bind fun bt514 => ((analyse_Less.f t508 t511 bt514.1 bt514.2.1 bt514.2.2).bind fun bt521 => ((fulcrumref21_Less.f k l0_0 l0_1 l1_0 a1_1 l1_2).bind fun bt530 => ((fulcrumlaw21_lives.f k).bind fun t539 => (if t539 = true then (if bt521.2.2.2 = bt530.2.2.2 then ((fulcrumlaw21_alike.f k bt521.1 bt521.2.1 bt521.2.2.1 bt530.1 bt530.2.1 bt530.2.2.1).bind fun t540 => (some t540)) else (some false)) else (some false))))))) = some r := H
 have A3 := Aside0.mk A30
 clear A30
 replace H := Option.bind_eq_some_iff.mp H
 obtain ⟨t511, A40, H⟩ := H
 replace H : ((fulcrumlaw21_learnt.f k l1_0 a1_1 l1_2).bind fun bt514 => ((analyse_Less.f t508 t511 bt514.1 bt514.2.1 bt514.2.2).bind fun bt521 => ((fulcrumref21_Less.f k l0_0 l0_1 l1_0 a1_1 l1_2).bind fun bt530 => ((fulcrumlaw21_lives.f k).bind fun t539 => (if t539 = true then (if bt521.2.2.2 = bt530.2.2.2 then ((fulcrumlaw21_alike.f k bt521.1 bt521.2.1 bt521.2.2.1 bt530.1 bt530.2.1 bt530.2.2.1).bind fun t540 => (some t540)) else (some false)) else (some false)))))) = some r := H
 have A4 := Aside0.mk A40
 clear A40
 replace H := Option.bind_eq_some_iff.mp H
 obtain ⟨⟨t514, t517, t518⟩, A50, H⟩ := H
 replace H : ((analyse_Less.f t508 t511 t514 t517 t518).bind fun bt521 => ((fulcrumref21_Less.f k l0_0 l0_1 l1_0 a1_1 l1_2).bind fun bt530 => ((fulcrumlaw21_lives.f k).bind fun t539 => (if t539 = true then (if bt521.2.2.2 = bt530.2.2.2 then ((fulcrumlaw21_alike.f k bt521.1 bt521.2.1 bt521.2.2.1 bt530.1 bt530.2.1 bt530.2.2.1).bind fun t540 => (some t540)) else (some false)) else (some false))))) = some r := H
 have A5 := Aside0.mk A50
 clear A50
 replace H := Option.bind_eq_some_iff.mp H
 obtain ⟨⟨t521, t524, t525, t528⟩, A60, H⟩ := H
 replace H : ((fulcrumref21_Less.f k l0_0 l0_1 l1_0 a1_1 l1_2).bind fun bt530 => ((fulcrumlaw21_lives.f k).bind fun t539 => (if t539 = true then (if t528 = bt530.2.2.2 then ((fulcrumlaw21_alike.f k t521 t524 t525 bt530.1 bt530.2.1 bt530.2.2.1).bind fun t540 => (some t540)) else (some false)) else (some false)))) = some r := H
 have A6 := Aside0.mk A60
 clear A60
 replace H := Option.bind_eq_some_iff.mp H
 obtain ⟨⟨t530, t533, t534, t537⟩, A70, H⟩ := H
 replace H : ((fulcrumlaw21_lives.f k).bind fun t539 => (if t539 = true then (if t528 = t537 then ((fulcrumlaw21_alike.f k t521 t524 t525 t530 t533 t534).bind fun t540 => (some t540)) else (some false)) else (some false))) = some r := H
 have A7 := Aside0.mk A70
 clear A70
 replace H := Option.bind_eq_some_iff.mp H
 obtain ⟨t539, A80, H⟩ := H
 replace H : (if t539 = true then (if t528 = t537 then ((fulcrumlaw21_alike.f k t521 t524 t525 t530 t533 t534).bind fun t540 => (some t540)) else (some false)) else (some false)) = some r := H
 have A8 := Aside0.mk A80
 clear A80
 by_cases c9 : t539 = true
 ·subst c9
  have H1 : (if t528 = t537 then ((fulcrumlaw21_alike.f k t521 t524 t525 t530 t533 t534).bind fun t540 => (some t540)) else (some false)) = some r := by rw [if_pos rfl] at H; exact H
  clear H
  have H := H1
  clear H1
  by_cases c10 : t528 = t537
  ·rw [if_pos c10] at H
   have c10b0 : (t528 == t537) = true := beq_iff_eq.mpr c10
   have c10b1 : (t528 != t537) = false := bne_eq_false_iff_eq.mpr c10
   clear c10
   replace H := Option.bind_eq_some_iff.mp H
   obtain ⟨t540, A110, H⟩ := H
   replace H : (some t540) = some r := H
   have A11 := Aside0.mk A110
   clear A110
   obtain rfl := Option.some.inj H
   subst hr_
   go_enter Try.func9, Try.ntmps9
   try go_wp2_with (first | ((with_reducible refine gate_dst (N := 2) rfl ?_); refine box_event ?hg (N := 2) ?hd (cs := #[.slice A0_0 l0_0.length c0_0, .slice A0_1 l0_1.length c0_1]) (t := 26) ?hr ?_; (case hd => rfl); (case hg => rfl); (case hr => first | (go_simp; done) | (go_simp; rfl)); intro gb506 hg w12 hbox hb; have n0_ := Aside0.mk (below_step (bel_any HB.out) hb); have n1_ := Aside0.mk (hbox); have n2_ := Aside0.mk ((by rw [hg]; exact (below_size (bel_any HB.out)) : w.heap.size ≤ gb506)); have n3_ := Aside0.mk ((by rw [hg]; exact (below_size (bel_any HB.out)) : w.heap.size ≤ gb506)); clear HB; have HB := n0_; have BK506 := n1_; have GW506 := n2_; have GE506 := n3_; clear n0_ n1_ n2_ n3_; clear hb hbox hg) | ((with_reducible refine gate_dst (N := 3) rfl ?_); refine box_event ?hg (N := 3) ?hd (cs := #[.slice A1_0 l1_0.length c1_0, .int .i64 a1_1, .slice A1_2 l1_2.length c1_2]) (t := 30) ?hr ?_; (case hd => rfl); (case hg => rfl); (case hr => first | (go_simp; done) | (go_simp; rfl)); intro gb507 hg w13 hbox hb; have n0_ := Aside0.mk (blk_below (g := gb506) (o := .cells #[.slice A0_0 l0_0.length c0_0, .slice A0_1 l0_1.length c0_1] 26 (0, 0)) (blk_any BK506.out) hb); have n1_ := Aside0.mk (below_step (by repeat (first | (with_reducible first | exact HB.out | apply below_alloc | apply pw_below_drewN | apply below_drew1 | refine below_set ?_ GE506.out) | exact HB.out)) hb); have n2_ := Aside0.mk (hbox); have n3_ := Aside0.mk ((by rw [hg]; exact (below_size (by repeat (first | (with_reducible first | exact HB.out | apply below_alloc | apply pw_below_drewN | apply below_drew1 | refine below_set ?_ GE506.out) | exact HB.out))) : w.heap.size ≤ gb507)); have n4_ := Aside0.mk ((by rw [hg]; exact (below_size (by repeat (first | (with_reducible first | exact HB.out | apply below_alloc | apply pw_below_drewN | apply below_drew1 | refine below_set ?_ GE506.out) | exact HB.out))) : w.heap.size ≤ gb507)); have n5_ := Aside0.mk ((by rw [hg]; exact Nat.ne_of_lt (blk_lt (g := gb506) (o := .cells #[.slice A0_0 l0_0.length c0_0, .slice A0_1 l0_1.length c0_1] 26 (0, 0)) (blk_any BK506.out)) : gb506 ≠ gb507)); have n6_ := Aside0.mk ((by rw [hg]; exact Nat.ne_of_gt (blk_lt (g := gb506) (o := .cells #[.slice A0_0 l0_0.length c0_0, .slice A0_1 l0_1.length c0_1] 26 (0, 0)) (blk_any BK506.out)) : gb507 ≠ gb506)); clear BK506; clear HB; have BK506 := n0_; have HB := n1_; have BK507 := n2_; have GW507 := n3_; have GE507 := n4_; have NB506_507 := n5_; have NB507_506 := n6_; clear n0_ n1_ n2_ n3_ n4_ n5_ n6_; clear hb hbox hg))
   have n0_ := Aside0.mk (blk_drew BK506.out)
   have n1_ := Aside0.mk (blk_drew BK507.out)
   have n2_ := Aside0.mk (below_drew1 HB.out)
   clear BK506
   clear BK507
   clear HB
   have BK506 := n0_
   have BK507 := n1_
   have HB := n2_
   clear n0_ n1_ n2_
   refine start_ (n := 15) (S := fun w' => w'.cell? ⟨gb506, 0, none⟩ = some (.slice A0_0 l0_0.length c0_0) ∧ w'.cell? ⟨gb506, 1, none⟩ = some (.slice A0_1 l0_1.length c0_1) ∧ w'.cell? ⟨gb507, 0, none⟩ = some (.slice A1_0 l1_0.length c1_0) ∧ w'.cell? ⟨gb507, 1, none⟩ = some (.int .i64 a1_1) ∧ w'.cell? ⟨gb507, 2, none⟩ = some (.slice A1_2 l1_2.length c1_2)) (ds := []) #[false, false, false, false, false, false, false, false, false, false, false, false, false, false, false] (by kernel_rfl) rfl rfl ⟨(blk_cell BK506.out 0).trans rfl, (blk_cell BK506.out 1).trans rfl, (blk_cell BK507.out 0).trans rfl, (blk_cell BK507.out 1).trans rfl, (blk_cell BK507.out 2).trans rfl⟩ (fun hHeld => ?_); refine with_tabW fulcrumlaw21_AnalyseLesses.tab1 fulcrumlaw21_AnalyseLesses.bits1 (fun HT_ HW_ => ?_)
   generalize w13.drew = w14 at BK506 BK507 HB hHeld ⊢
   refine pure_ (i := 0) (N := some 10) (v := ?_) (a' := ?_) #[true, false, false, false, false, false, false, false, false, false, false, false, false, false, false] rfl rfl (any_of HT_.out (by kernel_rfl)) (fun _ _ _ h => h) (Or.inl ⟨by rfl, ?_⟩) ?_ ?_
   rotate_left
   ·intro w'
    go_simp
    with_reducible rfl
   rotate_left
   ·simp only [Act.put, List.setIfInBounds_toArray, List.set_cons_zero, List.set_cons_succ, i64_w, i32_w]
    rfl
   refine pure_ (i := 3) (N := some 13) (v := ?_) (a' := ?_) #[true, false, false, true, false, false, false, false, false, false, false, false, false, false, false] rfl rfl (any_of HT_.out (by kernel_rfl)) (fun _ _ _ h => h) (Or.inl ⟨by rfl, ?_⟩) ?_ ?_
   rotate_left
   ·intro w'
    go_simp
    with_reducible rfl
   rotate_left
   ·simp only [Act.put, List.setIfInBounds_toArray, List.set_cons_zero, List.set_cons_succ, i64_w, i32_w]
    rfl
   refine take_ (i := 1) (N := some 11) (v := ?_) (a' := ?_) #[true, true, false, true, false, false, false, false, false, false, false, false, false, false, false] rfl rfl (take_ofW HT_.out HW_.out (by kernel_rfl)) (fun _ _ _ h => h) (Or.inl ⟨by rfl, ?_⟩) hHeld ?_ ?_
   rotate_left
   ·rintro w' ⟨s0, s1, s2, s3, s4⟩
    go_simp
    with_reducible rfl
   rotate_left
   ·simp only [Act.put, List.setIfInBounds_toArray, List.set_cons_zero, List.set_cons_succ, i64_w, i32_w]
    rfl
   refine take_ (i := 4) (N := some 14) (v := ?_) (a' := ?_) #[true, true, false, true, true, false, false, false, false, false, false, false, false, false, false] rfl rfl (take_ofW HT_.out HW_.out (by kernel_rfl)) (fun _ _ _ h => h) (Or.inl ⟨by rfl, ?_⟩) hHeld ?_ ?_
   rotate_left
   ·rintro w' ⟨s0, s1, s2, s3, s4⟩
    go_simp
    with_reducible rfl
   rotate_left
   ·simp only [Act.put, List.setIfInBounds_toArray, List.set_cons_zero, List.set_cons_succ, i64_w, i32_w]
    rfl
   refine take_ (i := 6) (N := some 16) (v := ?_) (a' := ?_) #[true, true, false, true, true, false, true, false, false, false, false, false, false, false, false] rfl rfl (take_ofW HT_.out HW_.out (by kernel_rfl)) (fun _ _ _ h => h) (Or.inl ⟨by rfl, ?_⟩) hHeld ?_ ?_
   rotate_left
   ·rintro w' ⟨s0, s1, s2, s3, s4⟩
    go_simp
    with_reducible rfl
   rotate_left
   ·simp only [Act.put, List.setIfInBounds_toArray, List.set_cons_zero, List.set_cons_succ, i64_w, i32_w]
    rfl
   refine join_ (σ := Value × Value × Value × Value × Value × Value × Nat) 2 #[true, true, true, true, true, true, true, true, true, true, true, true, true, false, false] (fun s_ => [(12, s_.1), (15, s_.2.1), (17, .agg #[s_.2.2.1, .int .i64 t517, s_.2.2.2.1]), (18, .tuple #[.agg #[s_.2.2.2.2.1, .int .i64 t524, s_.2.2.2.2.2.1], .int .i64 t528]), (5, .pointer (some ⟨s_.2.2.2.2.2.2, 0, none⟩)), (9, .tuple #[.agg #[s_.2.2.2.2.1, .int .i64 t524, s_.2.2.2.2.2.1], .int .i64 t528]), (19, .agg #[s_.2.2.2.2.1, .int .i64 t524, s_.2.2.2.2.2.1]), (20, .int .i64 t528)]) (fun s_ w' => (w'.cell? ⟨gb506, 0, none⟩ = some (.slice A0_0 l0_0.length c0_0) ∧ w'.cell? ⟨gb506, 1, none⟩ = some (.slice A0_1 l0_1.length c0_1) ∧ w'.cell? ⟨gb507, 0, none⟩ = some (.slice A1_0 l1_0.length c1_0) ∧ w'.cell? ⟨gb507, 1, none⟩ = some (.int .i64 a1_1) ∧ w'.cell? ⟨gb507, 2, none⟩ = some (.slice A1_2 l1_2.length c1_2)) ∧ (Kd.S (Kd.slice 3 (Kd.int .i64)) 28 w' w.heap.size (fun k_ => some k_ ≠ (s_.2.2.1 : Value).ownBlock ∧ some k_ ≠ (s_.2.2.2.1 : Value).ownBlock ∧ some k_ ≠ (s_.2.2.2.2.1 : Value).ownBlock ∧ some k_ ≠ (s_.2.2.2.2.2.1 : Value).ownBlock) s_.1 t508) ∧ (Kd.R k49 49 w' w.heap.size (fun _ => True) s_.2.1 t511) ∧ (Kd.R (Kd.int .i64) 3 w' w.heap.size (fun k_ => some k_ ≠ (s_.2.2.2.1 : Value).ownBlock ∧ some k_ ≠ (s_.2.2.2.2.1 : Value).ownBlock ∧ some k_ ≠ (s_.2.2.2.2.2.1 : Value).ownBlock) s_.2.2.1 t514) ∧ (Kd.R (Kd.int .i64) 3 w' w.heap.size (fun k_ => some k_ ≠ (s_.2.2.1 : Value).ownBlock ∧ some k_ ≠ (s_.2.2.2.2.1 : Value).ownBlock ∧ some k_ ≠ (s_.2.2.2.2.2.1 : Value).ownBlock) s_.2.2.2.1 t518) ∧ (Kd.R (Kd.int .i64) 3 w' w.heap.size (fun k_ => some k_ ≠ (s_.2.2.1 : Value).ownBlock ∧ some k_ ≠ (s_.2.2.2.1 : Value).ownBlock ∧ some k_ ≠ (s_.2.2.2.2.2.1 : Value).ownBlock) s_.2.2.2.2.1 t521) ∧ (Kd.R (Kd.int .i64) 3 w' w.heap.size (fun k_ => some k_ ≠ (s_.2.2.1 : Value).ownBlock ∧ some k_ ≠ (s_.2.2.2.1 : Value).ownBlock ∧ some k_ ≠ (s_.2.2.2.2.1 : Value).ownBlock) s_.2.2.2.2.2.1 t525) ∧ (w'.heap[gb506]? = some (.cells #[.slice A0_0 l0_0.length c0_0, .slice A0_1 l0_1.length c0_1] 26 (0, 0))) ∧ (w'.heap[gb507]? = some (.cells #[.slice A1_0 l1_0.length c1_0, .int .i64 a1_1, .slice A1_2 l1_2.length c1_2] 30 (0, 0))) ∧ (w'.heap[s_.2.2.2.2.2.2]? = some (.cells #[.slice none 0 0, .int .i64 0, .slice none 0 0] 30 (0, 0))) ∧ (w.heap.size ≤ s_.2.2.2.2.2.2) ∧ (w.heap.size ≤ s_.2.2.2.2.2.2) ∧ (gb506 ≠ s_.2.2.2.2.2.2) ∧ (s_.2.2.2.2.2.2 ≠ gb506) ∧ (gb507 ≠ s_.2.2.2.2.2.2) ∧ (s_.2.2.2.2.2.2 ≠ gb507) ∧ (Below w.heap.size w w')) ?_ ?_
   rotate_left
   ·intro hJ2_5_7_8_12
    refine join_ (σ := Value × Value × Value × Value × Value × Value) 3 #[true, true, true, true, true, true, true, true, true, true, true, true, false, false, false] (fun s_ => [(12, s_.1), (15, s_.2.1), (17, .agg #[s_.2.2.1, .int .i64 t517, s_.2.2.2.1]), (18, .tuple #[.agg #[s_.2.2.2.2.1, .int .i64 t524, s_.2.2.2.2.2], .int .i64 t528]), (9, .tuple #[.agg #[s_.2.2.2.2.1, .int .i64 t524, s_.2.2.2.2.2], .int .i64 t528]), (19, .agg #[s_.2.2.2.2.1, .int .i64 t524, s_.2.2.2.2.2]), (20, .int .i64 t528)]) (fun s_ w' => (w'.cell? ⟨gb506, 0, none⟩ = some (.slice A0_0 l0_0.length c0_0) ∧ w'.cell? ⟨gb506, 1, none⟩ = some (.slice A0_1 l0_1.length c0_1) ∧ w'.cell? ⟨gb507, 0, none⟩ = some (.slice A1_0 l1_0.length c1_0) ∧ w'.cell? ⟨gb507, 1, none⟩ = some (.int .i64 a1_1) ∧ w'.cell? ⟨gb507, 2, none⟩ = some (.slice A1_2 l1_2.length c1_2)) ∧ (Kd.S (Kd.slice 3 (Kd.int .i64)) 28 w' w.heap.size (fun k_ => some k_ ≠ (s_.2.2.1 : Value).ownBlock ∧ some k_ ≠ (s_.2.2.2.1 : Value).ownBlock ∧ some k_ ≠ (s_.2.2.2.2.1 : Value).ownBlock ∧ some k_ ≠ (s_.2.2.2.2.2 : Value).ownBlock) s_.1 t508) ∧ (Kd.R k49 49 w' w.heap.size (fun _ => True) s_.2.1 t511) ∧ (Kd.R (Kd.int .i64) 3 w' w.heap.size (fun k_ => some k_ ≠ (s_.2.2.2.1 : Value).ownBlock ∧ some k_ ≠ (s_.2.2.2.2.1 : Value).ownBlock ∧ some k_ ≠ (s_.2.2.2.2.2 : Value).ownBlock) s_.2.2.1 t514) ∧ (Kd.R (Kd.int .i64) 3 w' w.heap.size (fun k_ => some k_ ≠ (s_.2.2.1 : Value).ownBlock ∧ some k_ ≠ (s_.2.2.2.2.1 : Value).ownBlock ∧ some k_ ≠ (s_.2.2.2.2.2 : Value).ownBlock) s_.2.2.2.1 t518) ∧ (Kd.R (Kd.int .i64) 3 w' w.heap.size (fun k_ => some k_ ≠ (s_.2.2.1 : Value).ownBlock ∧ some k_ ≠ (s_.2.2.2.1 : Value).ownBlock ∧ some k_ ≠ (s_.2.2.2.2.2 : Value).ownBlock) s_.2.2.2.2.1 t521) ∧ (Kd.R (Kd.int .i64) 3 w' w.heap.size (fun k_ => some k_ ≠ (s_.2.2.1 : Value).ownBlock ∧ some k_ ≠ (s_.2.2.2.1 : Value).ownBlock ∧ some k_ ≠ (s_.2.2.2.2.1 : Value).ownBlock) s_.2.2.2.2.2 t525) ∧ (w'.heap[gb506]? = some (.cells #[.slice A0_0 l0_0.length c0_0, .slice A0_1 l0_1.length c0_1] 26 (0, 0))) ∧ (w'.heap[gb507]? = some (.cells #[.slice A1_0 l1_0.length c1_0, .int .i64 a1_1, .slice A1_2 l1_2.length c1_2] 30 (0, 0))) ∧ (Below w.heap.size w w')) ?_ ?_
    rotate_left
    ·intro hJ2_5_7_8
     refine join_ (σ := Value × Value × Value × Value × Nat) 6 #[true, true, true, true, true, true, true, true, false, false, false, false, true, false, false] (fun s_ => [(12, s_.1), (15, s_.2.1), (17, .agg #[s_.2.2.1, .int .i64 t517, s_.2.2.2.1]), (5, .pointer (some ⟨s_.2.2.2.2, 0, none⟩))]) (fun s_ w' => (w'.cell? ⟨gb506, 0, none⟩ = some (.slice A0_0 l0_0.length c0_0) ∧ w'.cell? ⟨gb506, 1, none⟩ = some (.slice A0_1 l0_1.length c0_1) ∧ w'.cell? ⟨gb507, 0, none⟩ = some (.slice A1_0 l1_0.length c1_0) ∧ w'.cell? ⟨gb507, 1, none⟩ = some (.int .i64 a1_1) ∧ w'.cell? ⟨gb507, 2, none⟩ = some (.slice A1_2 l1_2.length c1_2)) ∧ (Kd.S (Kd.slice 3 (Kd.int .i64)) 28 w' w.heap.size (fun k_ => some k_ ≠ (s_.2.2.1 : Value).ownBlock ∧ some k_ ≠ (s_.2.2.2.1 : Value).ownBlock) s_.1 t508) ∧ (Kd.R k49 49 w' w.heap.size (fun _ => True) s_.2.1 t511) ∧ (Kd.R (Kd.int .i64) 3 w' w.heap.size (fun k_ => some k_ ≠ (s_.2.2.2.1 : Value).ownBlock) s_.2.2.1 t514) ∧ (Kd.R (Kd.int .i64) 3 w' w.heap.size (fun k_ => some k_ ≠ (s_.2.2.1 : Value).ownBlock) s_.2.2.2.1 t518) ∧ (w'.heap[gb506]? = some (.cells #[.slice A0_0 l0_0.length c0_0, .slice A0_1 l0_1.length c0_1] 26 (0, 0))) ∧ (w'.heap[gb507]? = some (.cells #[.slice A1_0 l1_0.length c1_0, .int .i64 a1_1, .slice A1_2 l1_2.length c1_2] 30 (0, 0))) ∧ (w'.heap[s_.2.2.2.2]? = some (.cells #[.slice none 0 0, .int .i64 0, .slice none 0 0] 30 (0, 0))) ∧ (w.heap.size ≤ s_.2.2.2.2) ∧ (w.heap.size ≤ s_.2.2.2.2) ∧ (gb506 ≠ s_.2.2.2.2) ∧ (s_.2.2.2.2 ≠ gb506) ∧ (gb507 ≠ s_.2.2.2.2) ∧ (s_.2.2.2.2 ≠ gb507) ∧ (Below w.heap.size w w')) ?_ ?_
     rotate_left
     ·intro hJ2_5_7_12
      refine join_ (σ := Value × Value × Value × Value) 7 #[true, true, true, true, true, true, true, true, false, false, false, false, false, false, false] (fun s_ => [(12, s_.1), (15, s_.2.1), (17, .agg #[s_.2.2.1, .int .i64 t517, s_.2.2.2])]) (fun s_ w' => (w'.cell? ⟨gb506, 0, none⟩ = some (.slice A0_0 l0_0.length c0_0) ∧ w'.cell? ⟨gb506, 1, none⟩ = some (.slice A0_1 l0_1.length c0_1) ∧ w'.cell? ⟨gb507, 0, none⟩ = some (.slice A1_0 l1_0.length c1_0) ∧ w'.cell? ⟨gb507, 1, none⟩ = some (.int .i64 a1_1) ∧ w'.cell? ⟨gb507, 2, none⟩ = some (.slice A1_2 l1_2.length c1_2)) ∧ (Kd.S (Kd.slice 3 (Kd.int .i64)) 28 w' w.heap.size (fun k_ => some k_ ≠ (s_.2.2.1 : Value).ownBlock ∧ some k_ ≠ (s_.2.2.2 : Value).ownBlock) s_.1 t508) ∧ (Kd.R k49 49 w' w.heap.size (fun _ => True) s_.2.1 t511) ∧ (Kd.R (Kd.int .i64) 3 w' w.heap.size (fun k_ => some k_ ≠ (s_.2.2.2 : Value).ownBlock) s_.2.2.1 t514) ∧ (Kd.R (Kd.int .i64) 3 w' w.heap.size (fun k_ => some k_ ≠ (s_.2.2.1 : Value).ownBlock) s_.2.2.2 t518) ∧ (w'.heap[gb506]? = some (.cells #[.slice A0_0 l0_0.length c0_0, .slice A0_1 l0_1.length c0_1] 26 (0, 0))) ∧ (w'.heap[gb507]? = some (.cells #[.slice A1_0 l1_0.length c1_0, .int .i64 a1_1, .slice A1_2 l1_2.length c1_2] 30 (0, 0))) ∧ (Below w.heap.size w w')) ?_ ?_
      rotate_left
      ·intro hJ2_5_7
       refine join_ (σ := Value × Value × Nat) 7 #[true, true, true, true, true, true, true, false, false, false, false, false, true, false, false] (fun s_ => [(12, s_.1), (15, s_.2.1), (5, .pointer (some ⟨s_.2.2, 0, none⟩))]) (fun s_ w' => (w'.cell? ⟨gb506, 0, none⟩ = some (.slice A0_0 l0_0.length c0_0) ∧ w'.cell? ⟨gb506, 1, none⟩ = some (.slice A0_1 l0_1.length c0_1) ∧ w'.cell? ⟨gb507, 0, none⟩ = some (.slice A1_0 l1_0.length c1_0) ∧ w'.cell? ⟨gb507, 1, none⟩ = some (.int .i64 a1_1) ∧ w'.cell? ⟨gb507, 2, none⟩ = some (.slice A1_2 l1_2.length c1_2)) ∧ (Kd.S (Kd.slice 3 (Kd.int .i64)) 28 w' w.heap.size (fun _ => True) s_.1 t508) ∧ (Kd.R k49 49 w' w.heap.size (fun _ => True) s_.2.1 t511) ∧ (w'.heap[gb506]? = some (.cells #[.slice A0_0 l0_0.length c0_0, .slice A0_1 l0_1.length c0_1] 26 (0, 0))) ∧ (w'.heap[gb507]? = some (.cells #[.slice A1_0 l1_0.length c1_0, .int .i64 a1_1, .slice A1_2 l1_2.length c1_2] 30 (0, 0))) ∧ (w'.heap[s_.2.2]? = some (.cells #[.slice none 0 0, .int .i64 0, .slice none 0 0] 30 (0, 0))) ∧ (w.heap.size ≤ s_.2.2) ∧ (w.heap.size ≤ s_.2.2) ∧ (gb506 ≠ s_.2.2) ∧ (s_.2.2 ≠ gb506) ∧ (gb507 ≠ s_.2.2) ∧ (s_.2.2 ≠ gb507) ∧ (Below w.heap.size w w')) ?_ ?_
       rotate_left
       ·intro hJ2_5_12
        refine join_ (σ := Value × Value) 8 #[true, true, true, true, true, true, true, false, false, false, false, false, false, false, false] (fun s_ => [(12, s_.1), (15, s_.2)]) (fun s_ w' => (w'.cell? ⟨gb506, 0, none⟩ = some (.slice A0_0 l0_0.length c0_0) ∧ w'.cell? ⟨gb506, 1, none⟩ = some (.slice A0_1 l0_1.length c0_1) ∧ w'.cell? ⟨gb507, 0, none⟩ = some (.slice A1_0 l1_0.length c1_0) ∧ w'.cell? ⟨gb507, 1, none⟩ = some (.int .i64 a1_1) ∧ w'.cell? ⟨gb507, 2, none⟩ = some (.slice A1_2 l1_2.length c1_2)) ∧ (Kd.S (Kd.slice 3 (Kd.int .i64)) 28 w' w.heap.size (fun _ => True) s_.1 t508) ∧ (Kd.R k49 49 w' w.heap.size (fun _ => True) s_.2 t511) ∧ (w'.heap[gb506]? = some (.cells #[.slice A0_0 l0_0.length c0_0, .slice A0_1 l0_1.length c0_1] 26 (0, 0))) ∧ (w'.heap[gb507]? = some (.cells #[.slice A1_0 l1_0.length c1_0, .int .i64 a1_1, .slice A1_2 l1_2.length c1_2] 30 (0, 0))) ∧ (Below w.heap.size w w')) ?_ ?_
        rotate_left
        ·intro hJ2_5
         refine join_ (σ := Value × Nat) 8 #[true, true, true, true, true, false, true, false, false, false, false, false, true, false, false] (fun s_ => [(12, s_.1), (5, .pointer (some ⟨s_.2, 0, none⟩))]) (fun s_ w' => (w'.cell? ⟨gb506, 0, none⟩ = some (.slice A0_0 l0_0.length c0_0) ∧ w'.cell? ⟨gb506, 1, none⟩ = some (.slice A0_1 l0_1.length c0_1) ∧ w'.cell? ⟨gb507, 0, none⟩ = some (.slice A1_0 l1_0.length c1_0) ∧ w'.cell? ⟨gb507, 1, none⟩ = some (.int .i64 a1_1) ∧ w'.cell? ⟨gb507, 2, none⟩ = some (.slice A1_2 l1_2.length c1_2)) ∧ (Kd.S (Kd.slice 3 (Kd.int .i64)) 28 w' w.heap.size (fun _ => True) s_.1 t508) ∧ (w'.heap[gb506]? = some (.cells #[.slice A0_0 l0_0.length c0_0, .slice A0_1 l0_1.length c0_1] 26 (0, 0))) ∧ (w'.heap[gb507]? = some (.cells #[.slice A1_0 l1_0.length c1_0, .int .i64 a1_1, .slice A1_2 l1_2.length c1_2] 30 (0, 0))) ∧ (w'.heap[s_.2]? = some (.cells #[.slice none 0 0, .int .i64 0, .slice none 0 0] 30 (0, 0))) ∧ (w.heap.size ≤ s_.2) ∧ (w.heap.size ≤ s_.2) ∧ (gb506 ≠ s_.2) ∧ (s_.2 ≠ gb506) ∧ (gb507 ≠ s_.2) ∧ (s_.2 ≠ gb507) ∧ (Below w.heap.size w w')) ?_ ?_
         rotate_left
         ·intro hJ2_12
          refine join_ (σ := Value) 9 #[true, true, true, true, true, false, true, false, false, false, false, false, false, false, false] (fun s_ => [(12, s_)]) (fun s_ w' => (w'.cell? ⟨gb506, 0, none⟩ = some (.slice A0_0 l0_0.length c0_0) ∧ w'.cell? ⟨gb506, 1, none⟩ = some (.slice A0_1 l0_1.length c0_1) ∧ w'.cell? ⟨gb507, 0, none⟩ = some (.slice A1_0 l1_0.length c1_0) ∧ w'.cell? ⟨gb507, 1, none⟩ = some (.int .i64 a1_1) ∧ w'.cell? ⟨gb507, 2, none⟩ = some (.slice A1_2 l1_2.length c1_2)) ∧ (Kd.S (Kd.slice 3 (Kd.int .i64)) 28 w' w.heap.size (fun _ => True) s_ t508) ∧ (w'.heap[gb506]? = some (.cells #[.slice A0_0 l0_0.length c0_0, .slice A0_1 l0_1.length c0_1] 26 (0, 0))) ∧ (w'.heap[gb507]? = some (.cells #[.slice A1_0 l1_0.length c1_0, .int .i64 a1_1, .slice A1_2 l1_2.length c1_2] 30 (0, 0))) ∧ (Below w.heap.size w w')) ?_ ?_
          rotate_left
          ·intro hJ2
           refine join_ (σ := Nat) 9 #[true, true, false, true, true, false, true, false, false, false, false, false, true, false, false] (fun s_ => [(5, .pointer (some ⟨s_, 0, none⟩))]) (fun s_ w' => (w'.cell? ⟨gb506, 0, none⟩ = some (.slice A0_0 l0_0.length c0_0) ∧ w'.cell? ⟨gb506, 1, none⟩ = some (.slice A0_1 l0_1.length c0_1) ∧ w'.cell? ⟨gb507, 0, none⟩ = some (.slice A1_0 l1_0.length c1_0) ∧ w'.cell? ⟨gb507, 1, none⟩ = some (.int .i64 a1_1) ∧ w'.cell? ⟨gb507, 2, none⟩ = some (.slice A1_2 l1_2.length c1_2)) ∧ (w'.heap[gb506]? = some (.cells #[.slice A0_0 l0_0.length c0_0, .slice A0_1 l0_1.length c0_1] 26 (0, 0))) ∧ (w'.heap[gb507]? = some (.cells #[.slice A1_0 l1_0.length c1_0, .int .i64 a1_1, .slice A1_2 l1_2.length c1_2] 30 (0, 0))) ∧ (w'.heap[s_]? = some (.cells #[.slice none 0 0, .int .i64 0, .slice none 0 0] 30 (0, 0))) ∧ (w.heap.size ≤ s_) ∧ (w.heap.size ≤ s_) ∧ (gb506 ≠ s_) ∧ (s_ ≠ gb506) ∧ (gb507 ≠ s_) ∧ (s_ ≠ gb507) ∧ (Below w.heap.size w w')) ?_ ?_
           rotate_left
           ·intro hJ12
            refine two_ (i := 2) (j := 12) (Ni := some 12) (Nj := some 5) #[true, true, true, true, true, false, true, false, false, false, false, false, false, false, false] #[true, true, false, true, true, false, true, false, false, false, false, false, true, false, false] rfl rfl rfl rfl (two_of HT_.out (by kernel_rfl)) (by decide) (by decide) (fun K hK => ?_) (fun K hK => ?_)
            ·skip
             refine goes_ Try.func16 (by kernel_rfl) rfl #[.slice A0_0 l0_0.length c0_0] (by rfl) rfl rfl (by (try simp only [List.map_toArray, List.map_cons, List.map_nil]); first | done | rfl | (simp only [List.length_drop, List.length_take]; rfl)) ?_
             with_reducible refine (fulcrumlaw21_twin.calls k _ _ l0_0 t508 _ ?side1 ?side2 A3.out).mono ?_
             (case side1 => repeat (first | exact (Kd.C_below HR0_0.out HB.out) | (with_reducible refine Kd.C_alloc ?_ _) | (with_reducible refine Kd.C_drewN ?_ _) | (with_reducible refine Kd.C_drew ?_)))
             (case side2 => exact HC0_0.out)
             rintro e w15 ⟨v509, rfl, ho0, hb⟩
             refine ⟨_, rfl, ?_⟩
             have n0_ := Aside0.mk (Kd.S_lower ho0 (below_size (by repeat (first | (with_reducible first | exact HB.out | apply below_alloc | apply pw_below_drewN | apply below_drew1 | refine below_set ?_ GE506.out | refine below_set ?_ GE507.out) | exact HB.out))))
             have n1_ := Aside0.mk (blk_below (g := gb506) (o := .cells #[.slice A0_0 l0_0.length c0_0, .slice A0_1 l0_1.length c0_1] 26 (0, 0)) (blk_any BK506.out) hb)
             have n2_ := Aside0.mk (blk_below (g := gb507) (o := .cells #[.slice A1_0 l1_0.length c1_0, .int .i64 a1_1, .slice A1_2 l1_2.length c1_2] 30 (0, 0)) (blk_any BK507.out) hb)
             have n3_ := Aside0.mk (below_step (by repeat (first | (with_reducible first | exact HB.out | apply below_alloc | apply pw_below_drewN | apply below_drew1 | refine below_set ?_ GE506.out | refine below_set ?_ GE507.out) | exact HB.out)) hb)
             clear BK506
             clear BK507
             clear HB
             have HO510 := n0_
             have BK506 := n1_
             have BK507 := n2_
             have HB := n3_
             clear n0_ n1_ n2_ n3_
             (try clear hb)
             (try clear hb2)
             (try clear hk)
             (try clear hi)
             (try clear ho0)
             refine hK.out _ _ ⟨(blk_cell BK506.out 0).trans rfl, (blk_cell BK506.out 1).trans rfl, (blk_cell BK507.out 0).trans rfl, (blk_cell BK507.out 1).trans rfl, (blk_cell BK507.out 2).trans rfl⟩ (fun hHeld => ?_)
             clear hK K
             refine norm_ (a' := ?_) ?_ ?_
             rotate_left
             ·show Act.put _ (some 12) _ = _
              simp only [Act.put, List.setIfInBounds_toArray, List.set_cons_zero, List.set_cons_succ, i64_w, i32_w]
              rfl
             exact norm_ (by first | (simp only [putAll, Act.put, List.setIfInBounds_toArray, List.set_cons_zero, List.set_cons_succ]; done) | (simp only [putAll, Act.put, List.setIfInBounds_toArray, List.set_cons_zero, List.set_cons_succ]; rfl)) (hJ2 (v509) _ ⟨hHeld, (S_any HO510.out), (blk_any BK506.out), (blk_any BK507.out), (by repeat (first | (with_reducible first | exact HB.out | apply below_alloc | apply pw_below_drewN | apply below_drew1 | refine below_set ?_ GE506.out | refine below_set ?_ GE507.out) | exact HB.out))⟩)
            ·skip
             refine box_step ?hg (N := 5) ?hd (cs := #[.slice none 0 0, .int .i64 0, .slice none 0 0]) (t := 30) ?hr ?_; (case hd => rfl); (case hg => rfl); (case hr => first | (go_simp; done) | (go_simp; rfl))
             intro gb529 hg w15 hbox hb
             have n0_ := Aside0.mk (blk_below (g := gb506) (o := .cells #[.slice A0_0 l0_0.length c0_0, .slice A0_1 l0_1.length c0_1] 26 (0, 0)) (blk_any BK506.out) hb)
             have n1_ := Aside0.mk (blk_below (g := gb507) (o := .cells #[.slice A1_0 l1_0.length c1_0, .int .i64 a1_1, .slice A1_2 l1_2.length c1_2] 30 (0, 0)) (blk_any BK507.out) hb)
             have n2_ := Aside0.mk (below_step (by repeat (first | (with_reducible first | exact HB.out | apply below_alloc | apply pw_below_drewN | apply below_drew1 | refine below_set ?_ GE506.out | refine below_set ?_ GE507.out) | exact HB.out)) hb)
             have n3_ := Aside0.mk (hbox)
             have n4_ := Aside0.mk ((by rw [hg]; exact (below_size (by repeat (first | (with_reducible first | exact HB.out | apply below_alloc | apply pw_below_drewN | apply below_drew1 | refine below_set ?_ GE506.out | refine below_set ?_ GE507.out) | exact HB.out))) : w.heap.size ≤ gb529))
             have n5_ := Aside0.mk ((by rw [hg]; exact (below_size (by repeat (first | (with_reducible first | exact HB.out | apply below_alloc | apply pw_below_drewN | apply below_drew1 | refine below_set ?_ GE506.out | refine below_set ?_ GE507.out) | exact HB.out))) : w.heap.size ≤ gb529))
             have n6_ := Aside0.mk ((by rw [hg]; exact Nat.ne_of_lt (blk_lt (g := gb506) (o := .cells #[.slice A0_0 l0_0.length c0_0, .slice A0_1 l0_1.length c0_1] 26 (0, 0)) (blk_any BK506.out)) : gb506 ≠ gb529))
             have n7_ := Aside0.mk ((by rw [hg]; exact Nat.ne_of_gt (blk_lt (g := gb506) (o := .cells #[.slice A0_0 l0_0.length c0_0, .slice A0_1 l0_1.length c0_1] 26 (0, 0)) (blk_any BK506.out)) : gb529 ≠ gb506))
             have n8_ := Aside0.mk ((by rw [hg]; exact Nat.ne_of_lt (blk_lt (g := gb507) (o := .cells #[.slice A1_0 l1_0.length c1_0, .int .i64 a1_1, .slice A1_2 l1_2.length c1_2] 30 (0, 0)) (blk_any BK507.out)) : gb507 ≠ gb529))
             have n9_ := Aside0.mk ((by rw [hg]; exact Nat.ne_of_gt (blk_lt (g := gb507) (o := .cells #[.slice A1_0 l1_0.length c1_0, .int .i64 a1_1, .slice A1_2 l1_2.length c1_2] 30 (0, 0)) (blk_any BK507.out)) : gb529 ≠ gb507))
             clear BK506
             clear BK507
             clear HB
             have BK506 := n0_
             have BK507 := n1_
             have HB := n2_
             have BK529 := n3_
             have GW529 := n4_
             have GE529 := n5_
             have NB506_529 := n6_
             have NB529_506 := n7_
             have NB507_529 := n8_
             have NB529_507 := n9_
             clear n0_ n1_ n2_ n3_ n4_ n5_ n6_ n7_ n8_ n9_
             clear hb hbox hg
             refine hK.out _ _ ⟨(blk_cell BK506.out 0).trans rfl, (blk_cell BK506.out 1).trans rfl, (blk_cell BK507.out 0).trans rfl, (blk_cell BK507.out 1).trans rfl, (blk_cell BK507.out 2).trans rfl⟩ (fun hHeld => ?_)
             clear hK K
             refine norm_ (a' := ?_) ?_ ?_
             rotate_left
             ·show Act.put _ (some 5) _ = _
              simp only [Act.put, List.setIfInBounds_toArray, List.set_cons_zero, List.set_cons_succ, i64_w, i32_w]
              rfl
             exact norm_ (by first | (simp only [putAll, Act.put, List.setIfInBounds_toArray, List.set_cons_zero, List.set_cons_succ]; done) | (simp only [putAll, Act.put, List.setIfInBounds_toArray, List.set_cons_zero, List.set_cons_succ]; rfl)) (hJ12 (gb529) _ ⟨hHeld, (blk_any BK506.out), (blk_any BK507.out), (blk_any BK529.out), GW529.out, GE529.out, NB506_529.out, NB529_506.out, NB507_529.out, NB529_507.out, (by repeat (first | (with_reducible first | exact HB.out | apply below_alloc | apply pw_below_drewN | apply below_drew1 | refine below_set ?_ GE506.out | refine below_set ?_ GE507.out | refine below_set ?_ GE529.out) | exact HB.out))⟩)
           ·skip
            rintro gb529 w16 ⟨hS_, h0_, h1_, h2_, h3_, h4_, h5_, h6_, h7_, h8_, h9_⟩
            have n0_ : Aside0 (w16.heap[gb506]? = some (.cells #[.slice A0_0 l0_0.length c0_0, .slice A0_1 l0_1.length c0_1] 26 (0, 0))) := ⟨h0_⟩
            have n1_ : Aside0 (w16.heap[gb507]? = some (.cells #[.slice A1_0 l1_0.length c1_0, .int .i64 a1_1, .slice A1_2 l1_2.length c1_2] 30 (0, 0))) := ⟨h1_⟩
            have n2_ : Aside0 (w16.heap[gb529]? = some (.cells #[.slice none 0 0, .int .i64 0, .slice none 0 0] 30 (0, 0))) := ⟨h2_⟩
            have n3_ : Aside0 (w.heap.size ≤ gb529) := ⟨h3_⟩
            have n4_ : Aside0 (w.heap.size ≤ gb529) := ⟨h4_⟩
            have n5_ : Aside0 (gb506 ≠ gb529) := ⟨h5_⟩
            have n6_ : Aside0 (gb529 ≠ gb506) := ⟨h6_⟩
            have n7_ : Aside0 (gb507 ≠ gb529) := ⟨h7_⟩
            have n8_ : Aside0 (gb529 ≠ gb507) := ⟨h8_⟩
            have n9_ : Aside0 (Below w.heap.size w w16) := ⟨h9_⟩
            clear BK506
            clear BK507
            clear HB
            clear h0_ h1_ h2_ h3_ h4_ h5_ h6_ h7_ h8_ h9_
            have BK506 := n0_
            have BK507 := n1_
            have BK529 := n2_
            have GW529 := n3_
            have GE529 := n4_
            have NB506_529 := n5_
            have NB529_506 := n6_
            have NB507_529 := n7_
            have NB529_507 := n8_
            have HB := n9_
            clear n0_ n1_ n2_ n3_ n4_ n5_ n6_ n7_ n8_ n9_
            have hHeld : w16.cell? ⟨gb506, 0, none⟩ = some (.slice A0_0 l0_0.length c0_0) ∧ w16.cell? ⟨gb506, 1, none⟩ = some (.slice A0_1 l0_1.length c0_1) ∧ w16.cell? ⟨gb507, 0, none⟩ = some (.slice A1_0 l1_0.length c1_0) ∧ w16.cell? ⟨gb507, 1, none⟩ = some (.int .i64 a1_1) ∧ w16.cell? ⟨gb507, 2, none⟩ = some (.slice A1_2 l1_2.length c1_2) := hS_
            refine norm_ (a' := ?_) ?_ ?_
            rotate_left
            ·simp only [putAll, Act.put, List.setIfInBounds_toArray, List.set_cons_zero, List.set_cons_succ]
             rfl
            refine one_ (i := 2) (N := some 12) #[true, true, true, true, true, false, true, false, false, false, false, false, true, false, false] rfl rfl (one_of HT_.out (by kernel_rfl)) (by decide) (fun K hK => ?_)
            refine goes_ Try.func16 (by kernel_rfl) rfl #[.slice A0_0 l0_0.length c0_0] (by rfl) rfl rfl (by (try simp only [List.map_toArray, List.map_cons, List.map_nil]); first | done | rfl | (simp only [List.length_drop, List.length_take]; rfl)) ?_
            with_reducible refine (fulcrumlaw21_twin.calls k _ _ l0_0 t508 _ ?side1 ?side2 A3.out).mono ?_
            (case side1 => repeat (first | exact (Kd.C_below HR0_0.out HB.out) | (with_reducible refine Kd.C_alloc ?_ _) | (with_reducible refine Kd.C_drewN ?_ _) | (with_reducible refine Kd.C_drew ?_)))
            (case side2 => exact HC0_0.out)
            rintro e w17 ⟨v509, rfl, ho0, hb⟩
            refine ⟨_, rfl, ?_⟩
            have n0_ := Aside0.mk (Kd.S_lower ho0 (below_size (by repeat (first | (with_reducible first | exact HB.out | apply below_alloc | apply pw_below_drewN | apply below_drew1 | refine below_set ?_ GE506.out | refine below_set ?_ GE507.out | refine below_set ?_ GE529.out) | exact HB.out))))
            have n1_ := Aside0.mk (blk_below (g := gb506) (o := .cells #[.slice A0_0 l0_0.length c0_0, .slice A0_1 l0_1.length c0_1] 26 (0, 0)) (blk_any BK506.out) hb)
            have n2_ := Aside0.mk (blk_below (g := gb507) (o := .cells #[.slice A1_0 l1_0.length c1_0, .int .i64 a1_1, .slice A1_2 l1_2.length c1_2] 30 (0, 0)) (blk_any BK507.out) hb)
            have n3_ := Aside0.mk (blk_below (g := gb529) (o := .cells #[.slice none 0 0, .int .i64 0, .slice none 0 0] 30 (0, 0)) (blk_any BK529.out) hb)
            have n4_ := Aside0.mk (below_step (by repeat (first | (with_reducible first | exact HB.out | apply below_alloc | apply pw_below_drewN | apply below_drew1 | refine below_set ?_ GE506.out | refine below_set ?_ GE507.out | refine below_set ?_ GE529.out) | exact HB.out)) hb)
            clear BK506
            clear BK507
            clear BK529
            clear HB
            have HO510 := n0_
            have BK506 := n1_
            have BK507 := n2_
            have BK529 := n3_
            have HB := n4_
            clear n0_ n1_ n2_ n3_ n4_
            (try clear hb)
            (try clear hb2)
            (try clear hk)
            (try clear hi)
            (try clear ho0)
            refine hK.out _ _ ⟨(blk_cell BK506.out 0).trans rfl, (blk_cell BK506.out 1).trans rfl, (blk_cell BK507.out 0).trans rfl, (blk_cell BK507.out 1).trans rfl, (blk_cell BK507.out 2).trans rfl⟩ (fun hHeld => ?_)
            clear hK K
            refine norm_ (a' := ?_) ?_ ?_
            rotate_left
            ·show Act.put _ (some 12) _ = _
             simp only [Act.put, List.setIfInBounds_toArray, List.set_cons_zero, List.set_cons_succ, i64_w, i32_w]
             rfl
            exact norm_ (by first | (simp only [putAll, Act.put, List.setIfInBounds_toArray, List.set_cons_zero, List.set_cons_succ]; done) | (simp only [putAll, Act.put, List.setIfInBounds_toArray, List.set_cons_zero, List.set_cons_succ]; rfl)) (hJ2_12 (v509, gb529) _ ⟨hHeld, (S_any HO510.out), (blk_any BK506.out), (blk_any BK507.out), (blk_any BK529.out), GW529.out, GE529.out, NB506_529.out, NB529_506.out, NB507_529.out, NB529_507.out, (by repeat (first | (with_reducible first | exact HB.out | apply below_alloc | apply pw_below_drewN | apply below_drew1 | refine below_set ?_ GE506.out | refine below_set ?_ GE507.out | refine below_set ?_ GE529.out) | exact HB.out))⟩)
          ·skip
           rintro v509 w16 ⟨hS_, h0_, h1_, h2_, h3_⟩
           have n0_ : Aside0 (Kd.S (Kd.slice 3 (Kd.int .i64)) 28 w16 w.heap.size (fun _ => True) v509 t508) := ⟨h0_⟩
           have n1_ : Aside0 (w16.heap[gb506]? = some (.cells #[.slice A0_0 l0_0.length c0_0, .slice A0_1 l0_1.length c0_1] 26 (0, 0))) := ⟨h1_⟩
           have n2_ : Aside0 (w16.heap[gb507]? = some (.cells #[.slice A1_0 l1_0.length c1_0, .int .i64 a1_1, .slice A1_2 l1_2.length c1_2] 30 (0, 0))) := ⟨h2_⟩
           have n3_ : Aside0 (Below w.heap.size w w16) := ⟨h3_⟩
           clear BK506
           clear BK507
           clear HB
           clear h0_ h1_ h2_ h3_
           have HO510 := n0_
           have BK506 := n1_
           have BK507 := n2_
           have HB := n3_
           clear n0_ n1_ n2_ n3_
           have hHeld : w16.cell? ⟨gb506, 0, none⟩ = some (.slice A0_0 l0_0.length c0_0) ∧ w16.cell? ⟨gb506, 1, none⟩ = some (.slice A0_1 l0_1.length c0_1) ∧ w16.cell? ⟨gb507, 0, none⟩ = some (.slice A1_0 l1_0.length c1_0) ∧ w16.cell? ⟨gb507, 1, none⟩ = some (.int .i64 a1_1) ∧ w16.cell? ⟨gb507, 2, none⟩ = some (.slice A1_2 l1_2.length c1_2) := hS_
           refine norm_ (a' := ?_) ?_ ?_
           rotate_left
           ·simp only [putAll, Act.put, List.setIfInBounds_toArray, List.set_cons_zero, List.set_cons_succ]
            rfl
           refine two_ (i := 5) (j := 12) (Ni := some 15) (Nj := some 5) #[true, true, true, true, true, true, true, false, false, false, false, false, false, false, false] #[true, true, true, true, true, false, true, false, false, false, false, false, true, false, false] rfl rfl rfl rfl (two_of HT_.out (by kernel_rfl)) (by decide) (by decide) (fun K hK => ?_) (fun K hK => ?_)
           ·skip
            refine goes_ Try.func17 (by kernel_rfl) rfl #[.slice A0_1 l0_1.length c0_1] (by rfl) rfl rfl (by (try simp only [List.map_toArray, List.map_cons, List.map_nil]); first | done | rfl | (simp only [List.length_drop, List.length_take]; rfl)) ?_
            with_reducible refine (fulcrumlaw21_marks.calls k _ _ l0_1 t511 _ ?side1 ?side2 A4.out).mono ?_
            (case side1 => repeat (first | exact (Kd.C_below HR0_1.out HB.out) | (with_reducible refine Kd.C_alloc ?_ _) | (with_reducible refine Kd.C_drewN ?_ _) | (with_reducible refine Kd.C_drew ?_)))
            (case side2 => exact HC0_1.out)
            rintro e w17 ⟨v512, rfl, ho0, hb⟩
            refine ⟨_, rfl, ?_⟩
            have n0_ := Aside0.mk (Kd.S_below (S_any HO510.out) hb)
            have n1_ := Aside0.mk (Kd.R_lower ho0 (below_size (by repeat (first | (with_reducible first | exact HB.out | apply below_alloc | apply pw_below_drewN | apply below_drew1 | refine below_set ?_ GE506.out | refine below_set ?_ GE507.out) | exact HB.out))))
            have n2_ := Aside0.mk (blk_below (g := gb506) (o := .cells #[.slice A0_0 l0_0.length c0_0, .slice A0_1 l0_1.length c0_1] 26 (0, 0)) (blk_any BK506.out) hb)
            have n3_ := Aside0.mk (blk_below (g := gb507) (o := .cells #[.slice A1_0 l1_0.length c1_0, .int .i64 a1_1, .slice A1_2 l1_2.length c1_2] 30 (0, 0)) (blk_any BK507.out) hb)
            have n4_ := Aside0.mk (below_step (by repeat (first | (with_reducible first | exact HB.out | apply below_alloc | apply pw_below_drewN | apply below_drew1 | refine below_set ?_ GE506.out | refine below_set ?_ GE507.out) | exact HB.out)) hb)
            clear HO510
            clear BK506
            clear BK507
            clear HB
            have HO510 := n0_
            have HO513 := n1_
            have BK506 := n2_
            have BK507 := n3_
            have HB := n4_
            clear n0_ n1_ n2_ n3_ n4_
            (try clear hb)
            (try clear hb2)
            (try clear hk)
            (try clear hi)
            (try clear ho0)
            refine hK.out _ _ ⟨(blk_cell BK506.out 0).trans rfl, (blk_cell BK506.out 1).trans rfl, (blk_cell BK507.out 0).trans rfl, (blk_cell BK507.out 1).trans rfl, (blk_cell BK507.out 2).trans rfl⟩ (fun hHeld => ?_)
            clear hK K
            refine norm_ (a' := ?_) ?_ ?_
            rotate_left
            ·show Act.put _ (some 15) _ = _
             simp only [Act.put, List.setIfInBounds_toArray, List.set_cons_zero, List.set_cons_succ, i64_w, i32_w]
             rfl
            exact norm_ (by first | (simp only [putAll, Act.put, List.setIfInBounds_toArray, List.set_cons_zero, List.set_cons_succ]; done) | (simp only [putAll, Act.put, List.setIfInBounds_toArray, List.set_cons_zero, List.set_cons_succ]; rfl)) (hJ2_5 (v509, v512) _ ⟨hHeld, (S_any HO510.out), (R_any HO513.out), (blk_any BK506.out), (blk_any BK507.out), (by repeat (first | (with_reducible first | exact HB.out | apply below_alloc | apply pw_below_drewN | apply below_drew1 | refine below_set ?_ GE506.out | refine below_set ?_ GE507.out) | exact HB.out))⟩)
           ·skip
            refine box_step ?hg (N := 5) ?hd (cs := #[.slice none 0 0, .int .i64 0, .slice none 0 0]) (t := 30) ?hr ?_; (case hd => rfl); (case hg => rfl); (case hr => first | (go_simp; done) | (go_simp; rfl))
            intro gb529 hg w17 hbox hb
            have n0_ := Aside0.mk (Kd.S_below (S_any HO510.out) hb)
            have n1_ := Aside0.mk (blk_below (g := gb506) (o := .cells #[.slice A0_0 l0_0.length c0_0, .slice A0_1 l0_1.length c0_1] 26 (0, 0)) (blk_any BK506.out) hb)
            have n2_ := Aside0.mk (blk_below (g := gb507) (o := .cells #[.slice A1_0 l1_0.length c1_0, .int .i64 a1_1, .slice A1_2 l1_2.length c1_2] 30 (0, 0)) (blk_any BK507.out) hb)
            have n3_ := Aside0.mk (below_step (by repeat (first | (with_reducible first | exact HB.out | apply below_alloc | apply pw_below_drewN | apply below_drew1 | refine below_set ?_ GE506.out | refine below_set ?_ GE507.out) | exact HB.out)) hb)
            have n4_ := Aside0.mk (hbox)
            have n5_ := Aside0.mk ((by rw [hg]; exact (below_size (by repeat (first | (with_reducible first | exact HB.out | apply below_alloc | apply pw_below_drewN | apply below_drew1 | refine below_set ?_ GE506.out | refine below_set ?_ GE507.out) | exact HB.out))) : w.heap.size ≤ gb529))
            have n6_ := Aside0.mk ((by rw [hg]; exact (below_size (by repeat (first | (with_reducible first | exact HB.out | apply below_alloc | apply pw_below_drewN | apply below_drew1 | refine below_set ?_ GE506.out | refine below_set ?_ GE507.out) | exact HB.out))) : w.heap.size ≤ gb529))
            have n7_ := Aside0.mk ((by rw [hg]; exact Nat.ne_of_lt (blk_lt (g := gb506) (o := .cells #[.slice A0_0 l0_0.length c0_0, .slice A0_1 l0_1.length c0_1] 26 (0, 0)) (blk_any BK506.out)) : gb506 ≠ gb529))
            have n8_ := Aside0.mk ((by rw [hg]; exact Nat.ne_of_gt (blk_lt (g := gb506) (o := .cells #[.slice A0_0 l0_0.length c0_0, .slice A0_1 l0_1.length c0_1] 26 (0, 0)) (blk_any BK506.out)) : gb529 ≠ gb506))
            have n9_ := Aside0.mk ((by rw [hg]; exact Nat.ne_of_lt (blk_lt (g := gb507) (o := .cells #[.slice A1_0 l1_0.length c1_0, .int .i64 a1_1, .slice A1_2 l1_2.length c1_2] 30 (0, 0)) (blk_any BK507.out)) : gb507 ≠ gb529))
            have n10_ := Aside0.mk ((by rw [hg]; exact Nat.ne_of_gt (blk_lt (g := gb507) (o := .cells #[.slice A1_0 l1_0.length c1_0, .int .i64 a1_1, .slice A1_2 l1_2.length c1_2] 30 (0, 0)) (blk_any BK507.out)) : gb529 ≠ gb507))
            clear HO510
            clear BK506
            clear BK507
            clear HB
            have HO510 := n0_
            have BK506 := n1_
            have BK507 := n2_
            have HB := n3_
            have BK529 := n4_
            have GW529 := n5_
            have GE529 := n6_
            have NB506_529 := n7_
            have NB529_506 := n8_
            have NB507_529 := n9_
            have NB529_507 := n10_
            clear n0_ n1_ n2_ n3_ n4_ n5_ n6_ n7_ n8_ n9_ n10_
            clear hb hbox hg
            refine hK.out _ _ ⟨(blk_cell BK506.out 0).trans rfl, (blk_cell BK506.out 1).trans rfl, (blk_cell BK507.out 0).trans rfl, (blk_cell BK507.out 1).trans rfl, (blk_cell BK507.out 2).trans rfl⟩ (fun hHeld => ?_)
            clear hK K
            refine norm_ (a' := ?_) ?_ ?_
            rotate_left
            ·show Act.put _ (some 5) _ = _
             simp only [Act.put, List.setIfInBounds_toArray, List.set_cons_zero, List.set_cons_succ, i64_w, i32_w]
             rfl
            exact norm_ (by first | (simp only [putAll, Act.put, List.setIfInBounds_toArray, List.set_cons_zero, List.set_cons_succ]; done) | (simp only [putAll, Act.put, List.setIfInBounds_toArray, List.set_cons_zero, List.set_cons_succ]; rfl)) (hJ2_12 (v509, gb529) _ ⟨hHeld, (S_any HO510.out), (blk_any BK506.out), (blk_any BK507.out), (blk_any BK529.out), GW529.out, GE529.out, NB506_529.out, NB529_506.out, NB507_529.out, NB529_507.out, (by repeat (first | (with_reducible first | exact HB.out | apply below_alloc | apply pw_below_drewN | apply below_drew1 | refine below_set ?_ GE506.out | refine below_set ?_ GE507.out | refine below_set ?_ GE529.out) | exact HB.out))⟩)
         ·skip
          rintro ⟨v509, gb529⟩ w17 ⟨hS_, h0_, h1_, h2_, h3_, h4_, h5_, h6_, h7_, h8_, h9_, h10_⟩
          have n0_ : Aside0 (Kd.S (Kd.slice 3 (Kd.int .i64)) 28 w17 w.heap.size (fun _ => True) v509 t508) := ⟨h0_⟩
          have n1_ : Aside0 (w17.heap[gb506]? = some (.cells #[.slice A0_0 l0_0.length c0_0, .slice A0_1 l0_1.length c0_1] 26 (0, 0))) := ⟨h1_⟩
          have n2_ : Aside0 (w17.heap[gb507]? = some (.cells #[.slice A1_0 l1_0.length c1_0, .int .i64 a1_1, .slice A1_2 l1_2.length c1_2] 30 (0, 0))) := ⟨h2_⟩
          have n3_ : Aside0 (w17.heap[gb529]? = some (.cells #[.slice none 0 0, .int .i64 0, .slice none 0 0] 30 (0, 0))) := ⟨h3_⟩
          have n4_ : Aside0 (w.heap.size ≤ gb529) := ⟨h4_⟩
          have n5_ : Aside0 (w.heap.size ≤ gb529) := ⟨h5_⟩
          have n6_ : Aside0 (gb506 ≠ gb529) := ⟨h6_⟩
          have n7_ : Aside0 (gb529 ≠ gb506) := ⟨h7_⟩
          have n8_ : Aside0 (gb507 ≠ gb529) := ⟨h8_⟩
          have n9_ : Aside0 (gb529 ≠ gb507) := ⟨h9_⟩
          have n10_ : Aside0 (Below w.heap.size w w17) := ⟨h10_⟩
          clear BK506
          clear BK507
          clear HB
          clear h0_ h1_ h2_ h3_ h4_ h5_ h6_ h7_ h8_ h9_ h10_
          have HO510 := n0_
          have BK506 := n1_
          have BK507 := n2_
          have BK529 := n3_
          have GW529 := n4_
          have GE529 := n5_
          have NB506_529 := n6_
          have NB529_506 := n7_
          have NB507_529 := n8_
          have NB529_507 := n9_
          have HB := n10_
          clear n0_ n1_ n2_ n3_ n4_ n5_ n6_ n7_ n8_ n9_ n10_
          have hHeld : w17.cell? ⟨gb506, 0, none⟩ = some (.slice A0_0 l0_0.length c0_0) ∧ w17.cell? ⟨gb506, 1, none⟩ = some (.slice A0_1 l0_1.length c0_1) ∧ w17.cell? ⟨gb507, 0, none⟩ = some (.slice A1_0 l1_0.length c1_0) ∧ w17.cell? ⟨gb507, 1, none⟩ = some (.int .i64 a1_1) ∧ w17.cell? ⟨gb507, 2, none⟩ = some (.slice A1_2 l1_2.length c1_2) := hS_
          refine norm_ (a' := ?_) ?_ ?_
          rotate_left
          ·simp only [putAll, Act.put, List.setIfInBounds_toArray, List.set_cons_zero, List.set_cons_succ]
           rfl
          refine one_ (i := 5) (N := some 15) #[true, true, true, true, true, true, true, false, false, false, false, false, true, false, false] rfl rfl (one_of HT_.out (by kernel_rfl)) (by decide) (fun K hK => ?_)
          refine goes_ Try.func17 (by kernel_rfl) rfl #[.slice A0_1 l0_1.length c0_1] (by rfl) rfl rfl (by (try simp only [List.map_toArray, List.map_cons, List.map_nil]); first | done | rfl | (simp only [List.length_drop, List.length_take]; rfl)) ?_
          with_reducible refine (fulcrumlaw21_marks.calls k _ _ l0_1 t511 _ ?side1 ?side2 A4.out).mono ?_
          (case side1 => repeat (first | exact (Kd.C_below HR0_1.out HB.out) | (with_reducible refine Kd.C_alloc ?_ _) | (with_reducible refine Kd.C_drewN ?_ _) | (with_reducible refine Kd.C_drew ?_)))
          (case side2 => exact HC0_1.out)
          rintro e w18 ⟨v512, rfl, ho0, hb⟩
          refine ⟨_, rfl, ?_⟩
          have n0_ := Aside0.mk (Kd.S_below (S_any HO510.out) hb)
          have n1_ := Aside0.mk (Kd.R_lower ho0 (below_size (by repeat (first | (with_reducible first | exact HB.out | apply below_alloc | apply pw_below_drewN | apply below_drew1 | refine below_set ?_ GE506.out | refine below_set ?_ GE507.out | refine below_set ?_ GE529.out) | exact HB.out))))
          have n2_ := Aside0.mk (blk_below (g := gb506) (o := .cells #[.slice A0_0 l0_0.length c0_0, .slice A0_1 l0_1.length c0_1] 26 (0, 0)) (blk_any BK506.out) hb)
          have n3_ := Aside0.mk (blk_below (g := gb507) (o := .cells #[.slice A1_0 l1_0.length c1_0, .int .i64 a1_1, .slice A1_2 l1_2.length c1_2] 30 (0, 0)) (blk_any BK507.out) hb)
          have n4_ := Aside0.mk (blk_below (g := gb529) (o := .cells #[.slice none 0 0, .int .i64 0, .slice none 0 0] 30 (0, 0)) (blk_any BK529.out) hb)
          have n5_ := Aside0.mk (below_step (by repeat (first | (with_reducible first | exact HB.out | apply below_alloc | apply pw_below_drewN | apply below_drew1 | refine below_set ?_ GE506.out | refine below_set ?_ GE507.out | refine below_set ?_ GE529.out) | exact HB.out)) hb)
          clear HO510
          clear BK506
          clear BK507
          clear BK529
          clear HB
          have HO510 := n0_
          have HO513 := n1_
          have BK506 := n2_
          have BK507 := n3_
          have BK529 := n4_
          have HB := n5_
          clear n0_ n1_ n2_ n3_ n4_ n5_
          (try clear hb)
          (try clear hb2)
          (try clear hk)
          (try clear hi)
          (try clear ho0)
          refine hK.out _ _ ⟨(blk_cell BK506.out 0).trans rfl, (blk_cell BK506.out 1).trans rfl, (blk_cell BK507.out 0).trans rfl, (blk_cell BK507.out 1).trans rfl, (blk_cell BK507.out 2).trans rfl⟩ (fun hHeld => ?_)
          clear hK K
          refine norm_ (a' := ?_) ?_ ?_
          rotate_left
          ·show Act.put _ (some 15) _ = _
           simp only [Act.put, List.setIfInBounds_toArray, List.set_cons_zero, List.set_cons_succ, i64_w, i32_w]
           rfl
          exact norm_ (by first | (simp only [putAll, Act.put, List.setIfInBounds_toArray, List.set_cons_zero, List.set_cons_succ]; done) | (simp only [putAll, Act.put, List.setIfInBounds_toArray, List.set_cons_zero, List.set_cons_succ]; rfl)) (hJ2_5_12 (v509, v512, gb529) _ ⟨hHeld, (S_any HO510.out), (R_any HO513.out), (blk_any BK506.out), (blk_any BK507.out), (blk_any BK529.out), GW529.out, GE529.out, NB506_529.out, NB529_506.out, NB507_529.out, NB529_507.out, (by repeat (first | (with_reducible first | exact HB.out | apply below_alloc | apply pw_below_drewN | apply below_drew1 | refine below_set ?_ GE506.out | refine below_set ?_ GE507.out | refine below_set ?_ GE529.out) | exact HB.out))⟩)
        ·skip
         rintro ⟨v509, v512⟩ w17 ⟨hS_, h0_, h1_, h2_, h3_, h4_⟩
         have n0_ : Aside0 (Kd.S (Kd.slice 3 (Kd.int .i64)) 28 w17 w.heap.size (fun _ => True) v509 t508) := ⟨h0_⟩
         have n1_ : Aside0 (Kd.R k49 49 w17 w.heap.size (fun _ => True) v512 t511) := ⟨h1_⟩
         have n2_ : Aside0 (w17.heap[gb506]? = some (.cells #[.slice A0_0 l0_0.length c0_0, .slice A0_1 l0_1.length c0_1] 26 (0, 0))) := ⟨h2_⟩
         have n3_ : Aside0 (w17.heap[gb507]? = some (.cells #[.slice A1_0 l1_0.length c1_0, .int .i64 a1_1, .slice A1_2 l1_2.length c1_2] 30 (0, 0))) := ⟨h3_⟩
         have n4_ : Aside0 (Below w.heap.size w w17) := ⟨h4_⟩
         clear BK506
         clear BK507
         clear HB
         clear h0_ h1_ h2_ h3_ h4_
         have HO510 := n0_
         have HO513 := n1_
         have BK506 := n2_
         have BK507 := n3_
         have HB := n4_
         clear n0_ n1_ n2_ n3_ n4_
         have hHeld : w17.cell? ⟨gb506, 0, none⟩ = some (.slice A0_0 l0_0.length c0_0) ∧ w17.cell? ⟨gb506, 1, none⟩ = some (.slice A0_1 l0_1.length c0_1) ∧ w17.cell? ⟨gb507, 0, none⟩ = some (.slice A1_0 l1_0.length c1_0) ∧ w17.cell? ⟨gb507, 1, none⟩ = some (.int .i64 a1_1) ∧ w17.cell? ⟨gb507, 2, none⟩ = some (.slice A1_2 l1_2.length c1_2) := hS_
         refine norm_ (a' := ?_) ?_ ?_
         rotate_left
         ·simp only [putAll, Act.put, List.setIfInBounds_toArray, List.set_cons_zero, List.set_cons_succ]
          rfl
         refine two_ (i := 7) (j := 12) (Ni := some 17) (Nj := some 5) #[true, true, true, true, true, true, true, true, false, false, false, false, false, false, false] #[true, true, true, true, true, true, true, false, false, false, false, false, true, false, false] rfl rfl rfl rfl (two_of HT_.out (by kernel_rfl)) (by decide) (by decide) (fun K hK => ?_) (fun K hK => ?_)
         ·skip
          refine goes_ Try.func31 (by kernel_rfl) rfl #[.agg #[.slice A1_0 l1_0.length c1_0, .int .i64 a1_1, .slice A1_2 l1_2.length c1_2]] (by rfl) rfl rfl (by (try simp only [List.map_toArray, List.map_cons, List.map_nil]); first | done | rfl | (simp only [List.length_drop, List.length_take]; rfl)) ?_
          with_reducible refine (fulcrumlaw21_learnt.calls k _ _ l1_0 a1_1 _ _ l1_2 t514 t517 t518 _ ?side1 ?side2 ?side3 ?side4 A5.out).mono ?_
          (case side1 => repeat (first | exact (Kd.C_below HR1_0.out HB.out) | (with_reducible refine Kd.C_alloc ?_ _) | (with_reducible refine Kd.C_drewN ?_ _) | (with_reducible refine Kd.C_drew ?_)))
          (case side2 => exact HC1_0.out)
          (case side3 => repeat (first | exact (Kd.C_below HR1_2.out HB.out) | (with_reducible refine Kd.C_alloc ?_ _) | (with_reducible refine Kd.C_drewN ?_ _) | (with_reducible refine Kd.C_drew ?_)))
          (case side4 => exact HC1_2.out)
          rintro e w18 ⟨v515, v519, rfl, ho0, ho1, hb⟩
          refine ⟨_, rfl, ?_⟩
          have n0_ := Aside0.mk (Kd.S_mono (Kd.S_told (Kd.S_told (Kd.S_old (S_any HO510.out) hb) (Kd.R_base ho0)) (Kd.R_base ho1)) (fun _ h_ => h_.1))
          have n1_ := Aside0.mk (Kd.R_below (R_any HO513.out) hb)
          have n2_ := Aside0.mk (Kd.R_lower ho0 (below_size (by repeat (first | (with_reducible first | exact HB.out | apply below_alloc | apply pw_below_drewN | apply below_drew1 | refine below_set ?_ GE506.out | refine below_set ?_ GE507.out) | exact HB.out))))
          have n3_ := Aside0.mk (Kd.R_lower ho1 (below_size (by repeat (first | (with_reducible first | exact HB.out | apply below_alloc | apply pw_below_drewN | apply below_drew1 | refine below_set ?_ GE506.out | refine below_set ?_ GE507.out) | exact HB.out))))
          have n4_ := Aside0.mk (blk_below (g := gb506) (o := .cells #[.slice A0_0 l0_0.length c0_0, .slice A0_1 l0_1.length c0_1] 26 (0, 0)) (blk_any BK506.out) hb)
          have n5_ := Aside0.mk (blk_below (g := gb507) (o := .cells #[.slice A1_0 l1_0.length c1_0, .int .i64 a1_1, .slice A1_2 l1_2.length c1_2] 30 (0, 0)) (blk_any BK507.out) hb)
          have n6_ := Aside0.mk (below_step (by repeat (first | (with_reducible first | exact HB.out | apply below_alloc | apply pw_below_drewN | apply below_drew1 | refine below_set ?_ GE506.out | refine below_set ?_ GE507.out) | exact HB.out)) hb)
          clear HO510
          clear HO513
          clear BK506
          clear BK507
          clear HB
          have HO510 := n0_
          have HO513 := n1_
          have HO516 := n2_
          have HO520 := n3_
          have BK506 := n4_
          have BK507 := n5_
          have HB := n6_
          clear n0_ n1_ n2_ n3_ n4_ n5_ n6_
          (try clear hb)
          (try clear hb2)
          (try clear hk)
          (try clear hi)
          (try clear ho0)
          (try clear ho1)
          refine hK.out _ _ ⟨(blk_cell BK506.out 0).trans rfl, (blk_cell BK506.out 1).trans rfl, (blk_cell BK507.out 0).trans rfl, (blk_cell BK507.out 1).trans rfl, (blk_cell BK507.out 2).trans rfl⟩ (fun hHeld => ?_)
          clear hK K
          refine norm_ (a' := ?_) ?_ ?_
          rotate_left
          ·show Act.put _ (some 17) _ = _
           simp only [Act.put, List.setIfInBounds_toArray, List.set_cons_zero, List.set_cons_succ, i64_w, i32_w]
           rfl
          exact norm_ (by first | (simp only [putAll, Act.put, List.setIfInBounds_toArray, List.set_cons_zero, List.set_cons_succ]; done) | (simp only [putAll, Act.put, List.setIfInBounds_toArray, List.set_cons_zero, List.set_cons_succ]; rfl)) (hJ2_5_7 (v509, v512, v515, v519) _ ⟨hHeld, (by (with_reducible repeat (first | apply Kd.S_alloc | apply Kd.S_drewN | apply Kd.S_drew)); exact Kd.S_mono HO510.out (fun _ hk => ⟨hk.1.2, hk.2⟩)), (R_any HO513.out), (R_any HO516.out), (R_any HO520.out), (blk_any BK506.out), (blk_any BK507.out), (by repeat (first | (with_reducible first | exact HB.out | apply below_alloc | apply pw_below_drewN | apply below_drew1 | refine below_set ?_ GE506.out | refine below_set ?_ GE507.out) | exact HB.out))⟩)
         ·skip
          refine box_step ?hg (N := 5) ?hd (cs := #[.slice none 0 0, .int .i64 0, .slice none 0 0]) (t := 30) ?hr ?_; (case hd => rfl); (case hg => rfl); (case hr => first | (go_simp; done) | (go_simp; rfl))
          intro gb529 hg w18 hbox hb
          have n0_ := Aside0.mk (Kd.S_below (S_any HO510.out) hb)
          have n1_ := Aside0.mk (Kd.R_below (R_any HO513.out) hb)
          have n2_ := Aside0.mk (blk_below (g := gb506) (o := .cells #[.slice A0_0 l0_0.length c0_0, .slice A0_1 l0_1.length c0_1] 26 (0, 0)) (blk_any BK506.out) hb)
          have n3_ := Aside0.mk (blk_below (g := gb507) (o := .cells #[.slice A1_0 l1_0.length c1_0, .int .i64 a1_1, .slice A1_2 l1_2.length c1_2] 30 (0, 0)) (blk_any BK507.out) hb)
          have n4_ := Aside0.mk (below_step (by repeat (first | (with_reducible first | exact HB.out | apply below_alloc | apply pw_below_drewN | apply below_drew1 | refine below_set ?_ GE506.out | refine below_set ?_ GE507.out) | exact HB.out)) hb)
          have n5_ := Aside0.mk (hbox)
          have n6_ := Aside0.mk ((by rw [hg]; exact (below_size (by repeat (first | (with_reducible first | exact HB.out | apply below_alloc | apply pw_below_drewN | apply below_drew1 | refine below_set ?_ GE506.out | refine below_set ?_ GE507.out) | exact HB.out))) : w.heap.size ≤ gb529))
          have n7_ := Aside0.mk ((by rw [hg]; exact (below_size (by repeat (first | (with_reducible first | exact HB.out | apply below_alloc | apply pw_below_drewN | apply below_drew1 | refine below_set ?_ GE506.out | refine below_set ?_ GE507.out) | exact HB.out))) : w.heap.size ≤ gb529))
          have n8_ := Aside0.mk ((by rw [hg]; exact Nat.ne_of_lt (blk_lt (g := gb506) (o := .cells #[.slice A0_0 l0_0.length c0_0, .slice A0_1 l0_1.length c0_1] 26 (0, 0)) (blk_any BK506.out)) : gb506 ≠ gb529))
          have n9_ := Aside0.mk ((by rw [hg]; exact Nat.ne_of_gt (blk_lt (g := gb506) (o := .cells #[.slice A0_0 l0_0.length c0_0, .slice A0_1 l0_1.length c0_1] 26 (0, 0)) (blk_any BK506.out)) : gb529 ≠ gb506))
          have n10_ := Aside0.mk ((by rw [hg]; exact Nat.ne_of_lt (blk_lt (g := gb507) (o := .cells #[.slice A1_0 l1_0.length c1_0, .int .i64 a1_1, .slice A1_2 l1_2.length c1_2] 30 (0, 0)) (blk_any BK507.out)) : gb507 ≠ gb529))
          have n11_ := Aside0.mk ((by rw [hg]; exact Nat.ne_of_gt (blk_lt (g := gb507) (o := .cells #[.slice A1_0 l1_0.length c1_0, .int .i64 a1_1, .slice A1_2 l1_2.length c1_2] 30 (0, 0)) (blk_any BK507.out)) : gb529 ≠ gb507))
          clear HO510
          clear HO513
          clear BK506
          clear BK507
          clear HB
          have HO510 := n0_
          have HO513 := n1_
          have BK506 := n2_
          have BK507 := n3_
          have HB := n4_
          have BK529 := n5_
          have GW529 := n6_
          have GE529 := n7_
          have NB506_529 := n8_
          have NB529_506 := n9_
          have NB507_529 := n10_
          have NB529_507 := n11_
          clear n0_ n1_ n2_ n3_ n4_ n5_ n6_ n7_ n8_ n9_ n10_ n11_
          clear hb hbox hg
          refine hK.out _ _ ⟨(blk_cell BK506.out 0).trans rfl, (blk_cell BK506.out 1).trans rfl, (blk_cell BK507.out 0).trans rfl, (blk_cell BK507.out 1).trans rfl, (blk_cell BK507.out 2).trans rfl⟩ (fun hHeld => ?_)
          clear hK K
          refine norm_ (a' := ?_) ?_ ?_
          rotate_left
          ·show Act.put _ (some 5) _ = _
           simp only [Act.put, List.setIfInBounds_toArray, List.set_cons_zero, List.set_cons_succ, i64_w, i32_w]
           rfl
          exact norm_ (by first | (simp only [putAll, Act.put, List.setIfInBounds_toArray, List.set_cons_zero, List.set_cons_succ]; done) | (simp only [putAll, Act.put, List.setIfInBounds_toArray, List.set_cons_zero, List.set_cons_succ]; rfl)) (hJ2_5_12 (v509, v512, gb529) _ ⟨hHeld, (S_any HO510.out), (R_any HO513.out), (blk_any BK506.out), (blk_any BK507.out), (blk_any BK529.out), GW529.out, GE529.out, NB506_529.out, NB529_506.out, NB507_529.out, NB529_507.out, (by repeat (first | (with_reducible first | exact HB.out | apply below_alloc | apply pw_below_drewN | apply below_drew1 | refine below_set ?_ GE506.out | refine below_set ?_ GE507.out | refine below_set ?_ GE529.out) | exact HB.out))⟩)
       ·skip
        rintro ⟨v509, v512, gb529⟩ w18 ⟨hS_, h0_, h1_, h2_, h3_, h4_, h5_, h6_, h7_, h8_, h9_, h10_, h11_⟩
        have n0_ : Aside0 (Kd.S (Kd.slice 3 (Kd.int .i64)) 28 w18 w.heap.size (fun _ => True) v509 t508) := ⟨h0_⟩
        have n1_ : Aside0 (Kd.R k49 49 w18 w.heap.size (fun _ => True) v512 t511) := ⟨h1_⟩
        have n2_ : Aside0 (w18.heap[gb506]? = some (.cells #[.slice A0_0 l0_0.length c0_0, .slice A0_1 l0_1.length c0_1] 26 (0, 0))) := ⟨h2_⟩
        have n3_ : Aside0 (w18.heap[gb507]? = some (.cells #[.slice A1_0 l1_0.length c1_0, .int .i64 a1_1, .slice A1_2 l1_2.length c1_2] 30 (0, 0))) := ⟨h3_⟩
        have n4_ : Aside0 (w18.heap[gb529]? = some (.cells #[.slice none 0 0, .int .i64 0, .slice none 0 0] 30 (0, 0))) := ⟨h4_⟩
        have n5_ : Aside0 (w.heap.size ≤ gb529) := ⟨h5_⟩
        have n6_ : Aside0 (w.heap.size ≤ gb529) := ⟨h6_⟩
        have n7_ : Aside0 (gb506 ≠ gb529) := ⟨h7_⟩
        have n8_ : Aside0 (gb529 ≠ gb506) := ⟨h8_⟩
        have n9_ : Aside0 (gb507 ≠ gb529) := ⟨h9_⟩
        have n10_ : Aside0 (gb529 ≠ gb507) := ⟨h10_⟩
        have n11_ : Aside0 (Below w.heap.size w w18) := ⟨h11_⟩
        clear BK506
        clear BK507
        clear HB
        clear h0_ h1_ h2_ h3_ h4_ h5_ h6_ h7_ h8_ h9_ h10_ h11_
        have HO510 := n0_
        have HO513 := n1_
        have BK506 := n2_
        have BK507 := n3_
        have BK529 := n4_
        have GW529 := n5_
        have GE529 := n6_
        have NB506_529 := n7_
        have NB529_506 := n8_
        have NB507_529 := n9_
        have NB529_507 := n10_
        have HB := n11_
        clear n0_ n1_ n2_ n3_ n4_ n5_ n6_ n7_ n8_ n9_ n10_ n11_
        have hHeld : w18.cell? ⟨gb506, 0, none⟩ = some (.slice A0_0 l0_0.length c0_0) ∧ w18.cell? ⟨gb506, 1, none⟩ = some (.slice A0_1 l0_1.length c0_1) ∧ w18.cell? ⟨gb507, 0, none⟩ = some (.slice A1_0 l1_0.length c1_0) ∧ w18.cell? ⟨gb507, 1, none⟩ = some (.int .i64 a1_1) ∧ w18.cell? ⟨gb507, 2, none⟩ = some (.slice A1_2 l1_2.length c1_2) := hS_
        refine norm_ (a' := ?_) ?_ ?_
        rotate_left
        ·simp only [putAll, Act.put, List.setIfInBounds_toArray, List.set_cons_zero, List.set_cons_succ]
         rfl
        refine one_ (i := 7) (N := some 17) #[true, true, true, true, true, true, true, true, false, false, false, false, true, false, false] rfl rfl (one_of HT_.out (by kernel_rfl)) (by decide) (fun K hK => ?_)
        refine goes_ Try.func31 (by kernel_rfl) rfl #[.agg #[.slice A1_0 l1_0.length c1_0, .int .i64 a1_1, .slice A1_2 l1_2.length c1_2]] (by rfl) rfl rfl (by (try simp only [List.map_toArray, List.map_cons, List.map_nil]); first | done | rfl | (simp only [List.length_drop, List.length_take]; rfl)) ?_
        with_reducible refine (fulcrumlaw21_learnt.calls k _ _ l1_0 a1_1 _ _ l1_2 t514 t517 t518 _ ?side1 ?side2 ?side3 ?side4 A5.out).mono ?_
        (case side1 => repeat (first | exact (Kd.C_below HR1_0.out HB.out) | (with_reducible refine Kd.C_alloc ?_ _) | (with_reducible refine Kd.C_drewN ?_ _) | (with_reducible refine Kd.C_drew ?_)))
        (case side2 => exact HC1_0.out)
        (case side3 => repeat (first | exact (Kd.C_below HR1_2.out HB.out) | (with_reducible refine Kd.C_alloc ?_ _) | (with_reducible refine Kd.C_drewN ?_ _) | (with_reducible refine Kd.C_drew ?_)))
        (case side4 => exact HC1_2.out)
        rintro e w19 ⟨v515, v519, rfl, ho0, ho1, hb⟩
        refine ⟨_, rfl, ?_⟩
        have n0_ := Aside0.mk (Kd.S_mono (Kd.S_told (Kd.S_told (Kd.S_old (S_any HO510.out) hb) (Kd.R_base ho0)) (Kd.R_base ho1)) (fun _ h_ => h_.1))
        have n1_ := Aside0.mk (Kd.R_below (R_any HO513.out) hb)
        have n2_ := Aside0.mk (Kd.R_lower ho0 (below_size (by repeat (first | (with_reducible first | exact HB.out | apply below_alloc | apply pw_below_drewN | apply below_drew1 | refine below_set ?_ GE506.out | refine below_set ?_ GE507.out | refine below_set ?_ GE529.out) | exact HB.out))))
        have n3_ := Aside0.mk (Kd.R_lower ho1 (below_size (by repeat (first | (with_reducible first | exact HB.out | apply below_alloc | apply pw_below_drewN | apply below_drew1 | refine below_set ?_ GE506.out | refine below_set ?_ GE507.out | refine below_set ?_ GE529.out) | exact HB.out))))
        have n4_ := Aside0.mk (blk_below (g := gb506) (o := .cells #[.slice A0_0 l0_0.length c0_0, .slice A0_1 l0_1.length c0_1] 26 (0, 0)) (blk_any BK506.out) hb)
        have n5_ := Aside0.mk (blk_below (g := gb507) (o := .cells #[.slice A1_0 l1_0.length c1_0, .int .i64 a1_1, .slice A1_2 l1_2.length c1_2] 30 (0, 0)) (blk_any BK507.out) hb)
        have n6_ := Aside0.mk (blk_below (g := gb529) (o := .cells #[.slice none 0 0, .int .i64 0, .slice none 0 0] 30 (0, 0)) (blk_any BK529.out) hb)
        have n7_ := Aside0.mk (below_step (by repeat (first | (with_reducible first | exact HB.out | apply below_alloc | apply pw_below_drewN | apply below_drew1 | refine below_set ?_ GE506.out | refine below_set ?_ GE507.out | refine below_set ?_ GE529.out) | exact HB.out)) hb)
        clear HO510
        clear HO513
        clear BK506
        clear BK507
        clear BK529
        clear HB
        have HO510 := n0_
        have HO513 := n1_
        have HO516 := n2_
        have HO520 := n3_
        have BK506 := n4_
        have BK507 := n5_
        have BK529 := n6_
        have HB := n7_
        clear n0_ n1_ n2_ n3_ n4_ n5_ n6_ n7_
        (try clear hb)
        (try clear hb2)
        (try clear hk)
        (try clear hi)
        (try clear ho0)
        (try clear ho1)
        refine hK.out _ _ ⟨(blk_cell BK506.out 0).trans rfl, (blk_cell BK506.out 1).trans rfl, (blk_cell BK507.out 0).trans rfl, (blk_cell BK507.out 1).trans rfl, (blk_cell BK507.out 2).trans rfl⟩ (fun hHeld => ?_)
        clear hK K
        refine norm_ (a' := ?_) ?_ ?_
        rotate_left
        ·show Act.put _ (some 17) _ = _
         simp only [Act.put, List.setIfInBounds_toArray, List.set_cons_zero, List.set_cons_succ, i64_w, i32_w]
         rfl
        exact norm_ (by first | (simp only [putAll, Act.put, List.setIfInBounds_toArray, List.set_cons_zero, List.set_cons_succ]; done) | (simp only [putAll, Act.put, List.setIfInBounds_toArray, List.set_cons_zero, List.set_cons_succ]; rfl)) (hJ2_5_7_12 (v509, v512, v515, v519, gb529) _ ⟨hHeld, (by (with_reducible repeat (first | apply Kd.S_alloc | apply Kd.S_drewN | apply Kd.S_drew)); exact Kd.S_mono HO510.out (fun _ hk => ⟨hk.1.2, hk.2⟩)), (R_any HO513.out), (R_any HO516.out), (R_any HO520.out), (blk_any BK506.out), (blk_any BK507.out), (blk_any BK529.out), GW529.out, GE529.out, NB506_529.out, NB529_506.out, NB507_529.out, NB529_507.out, (by repeat (first | (with_reducible first | exact HB.out | apply below_alloc | apply pw_below_drewN | apply below_drew1 | refine below_set ?_ GE506.out | refine below_set ?_ GE507.out | refine below_set ?_ GE529.out) | exact HB.out))⟩)
      ·skip
       rintro ⟨v509, v512, v515, v519⟩ w18 ⟨hS_, h0_, h1_, h2_, h3_, h4_, h5_, h6_⟩
       have n0_ : Aside0 (Kd.S (Kd.slice 3 (Kd.int .i64)) 28 w18 w.heap.size (fun k_ => some k_ ≠ (v515 : Value).ownBlock ∧ some k_ ≠ (v519 : Value).ownBlock) v509 t508) := ⟨h0_⟩
       have n1_ : Aside0 (Kd.R k49 49 w18 w.heap.size (fun _ => True) v512 t511) := ⟨h1_⟩
       have n2_ : Aside0 (Kd.R (Kd.int .i64) 3 w18 w.heap.size (fun k_ => some k_ ≠ (v519 : Value).ownBlock) v515 t514) := ⟨h2_⟩
       have n3_ : Aside0 (Kd.R (Kd.int .i64) 3 w18 w.heap.size (fun k_ => some k_ ≠ (v515 : Value).ownBlock) v519 t518) := ⟨h3_⟩
       have n4_ : Aside0 (w18.heap[gb506]? = some (.cells #[.slice A0_0 l0_0.length c0_0, .slice A0_1 l0_1.length c0_1] 26 (0, 0))) := ⟨h4_⟩
       have n5_ : Aside0 (w18.heap[gb507]? = some (.cells #[.slice A1_0 l1_0.length c1_0, .int .i64 a1_1, .slice A1_2 l1_2.length c1_2] 30 (0, 0))) := ⟨h5_⟩
       have n6_ : Aside0 (Below w.heap.size w w18) := ⟨h6_⟩
       clear BK506
       clear BK507
       clear HB
       clear h0_ h1_ h2_ h3_ h4_ h5_ h6_
       have HO510 := n0_
       have HO513 := n1_
       have HO516 := n2_
       have HO520 := n3_
       have BK506 := n4_
       have BK507 := n5_
       have HB := n6_
       clear n0_ n1_ n2_ n3_ n4_ n5_ n6_
       have hHeld : w18.cell? ⟨gb506, 0, none⟩ = some (.slice A0_0 l0_0.length c0_0) ∧ w18.cell? ⟨gb506, 1, none⟩ = some (.slice A0_1 l0_1.length c0_1) ∧ w18.cell? ⟨gb507, 0, none⟩ = some (.slice A1_0 l1_0.length c1_0) ∧ w18.cell? ⟨gb507, 1, none⟩ = some (.int .i64 a1_1) ∧ w18.cell? ⟨gb507, 2, none⟩ = some (.slice A1_2 l1_2.length c1_2) := hS_
       obtain ⟨Ao19, co19, eo19⟩ := Kd.S_slice HO510.out
       (first | subst eo19 | (injection eo19 with f1_ f2_ f3_; have f4_ := f1_.symm; have f5_ := f3_.symm; clear f1_ f2_ f3_; subst f4_; subst f5_))
       obtain ⟨Ao20, co20, eo20⟩ := Kd.R_slice HO513.out
       (first | subst eo20 | (injection eo20 with f1_ f2_ f3_; have f4_ := f1_.symm; have f5_ := f3_.symm; clear f1_ f2_ f3_; subst f4_; subst f5_))
       obtain ⟨Ao21, co21, eo21⟩ := Kd.R_slice HO516.out
       (first | subst eo21 | (injection eo21 with f1_ f2_ f3_; have f4_ := f1_.symm; have f5_ := f3_.symm; clear f1_ f2_ f3_; subst f4_; subst f5_))
       obtain ⟨Ao22, co22, eo22⟩ := Kd.R_slice HO520.out
       (first | subst eo22 | (injection eo22 with f1_ f2_ f3_; have f4_ := f1_.symm; have f5_ := f3_.symm; clear f1_ f2_ f3_; subst f4_; subst f5_))
       refine norm_ (a' := ?_) ?_ ?_
       rotate_left
       ·simp only [putAll, Act.put, List.setIfInBounds_toArray, List.set_cons_zero, List.set_cons_succ]
        rfl
       refine two_ (i := 8) (j := 12) (Ni := some 18) (Nj := some 5) #[true, true, true, true, true, true, true, true, true, false, false, false, false, false, false] #[true, true, true, true, true, true, true, true, false, false, false, false, true, false, false] rfl rfl rfl rfl (two_of HT_.out (by kernel_rfl)) (by decide) (by decide) (fun K hK => ?_) (fun K hK => ?_)
       ·skip
        refine goes_ Try.func30 (by kernel_rfl) rfl #[.slice Ao19 t508.length co19, .slice Ao20 t511.length co20, .agg #[.slice Ao21 t514.length co21, .int .i64 t517, .slice Ao22 t518.length co22]] (by rfl) rfl rfl (by (try simp only [List.map_toArray, List.map_cons, List.map_nil]); first | done | rfl | (simp only [List.length_drop, List.length_take]; rfl)) ?_
        with_reducible refine (analyse_Less.calls _ _ t508 _ _ t511 _ _ t514 t517 _ _ t518 t521 t524 t525 t528 _ ?side1 ?side2 ?side3 ?side4 ?side5 ?side6 ?side7 ?side8 A6.out).mono ?_
        (case side1 => repeat (first | exact (Kd.S_reads' HO510.out).2.2 | (with_reducible refine Kd.C_alloc ?_ _) | (with_reducible refine Kd.C_drewN ?_ _) | (with_reducible refine Kd.C_drew ?_)))
        (case side2 => exact (Kd.S_reads' HO510.out).2.1)
        (case side3 => repeat (first | exact (Kd.R_reads' HO513.out).2.2 | (with_reducible refine Kd.C_alloc ?_ _) | (with_reducible refine Kd.C_drewN ?_ _) | (with_reducible refine Kd.C_drew ?_)))
        (case side4 => exact (Kd.R_reads' HO513.out).2.1)
        (case side5 => repeat (first | exact (Kd.R_reads' HO516.out).2.2 | (with_reducible refine Kd.C_alloc ?_ _) | (with_reducible refine Kd.C_drewN ?_ _) | (with_reducible refine Kd.C_drew ?_)))
        (case side6 => exact (Kd.R_reads' HO516.out).2.1)
        (case side7 => repeat (first | exact (Kd.R_reads' HO520.out).2.2 | (with_reducible refine Kd.C_alloc ?_ _) | (with_reducible refine Kd.C_drewN ?_ _) | (with_reducible refine Kd.C_drew ?_)))
        (case side8 => exact (Kd.R_reads' HO520.out).2.1)
        rintro e w23 ⟨v522, v526, rfl, ho0, ho1, hb⟩
        refine ⟨_, rfl, ?_⟩
        have n0_ := Aside0.mk (Kd.S_mono (Kd.S_told (Kd.S_told (Kd.S_old (S_any HO510.out) hb) (Kd.R_base ho0)) (Kd.R_base ho1)) (fun _ h_ => h_.1))
        have n1_ := Aside0.mk (Kd.R_below (R_any HO513.out) hb)
        have n2_ := Aside0.mk (Kd.R_mono (Kd.R_told (Kd.R_told (Kd.R_old (R_any HO516.out) hb) (Kd.R_base ho0)) (Kd.R_base ho1)) (fun _ h_ => h_.1))
        have n3_ := Aside0.mk (Kd.R_mono (Kd.R_told (Kd.R_told (Kd.R_old (R_any HO520.out) hb) (Kd.R_base ho0)) (Kd.R_base ho1)) (fun _ h_ => h_.1))
        have n4_ := Aside0.mk (Kd.R_lower (Kd.R_new' (Kd.R_new' ho0 (Kd.R_lt (R_any HO516.out))) (Kd.R_lt (R_any HO520.out))) (below_size (by repeat (first | (with_reducible first | exact HB.out | apply below_alloc | apply pw_below_drewN | apply below_drew1 | refine below_set ?_ GE506.out | refine below_set ?_ GE507.out) | exact HB.out))))
        have n5_ := Aside0.mk (Kd.R_lower (Kd.R_new' (Kd.R_new' ho1 (Kd.R_lt (R_any HO516.out))) (Kd.R_lt (R_any HO520.out))) (below_size (by repeat (first | (with_reducible first | exact HB.out | apply below_alloc | apply pw_below_drewN | apply below_drew1 | refine below_set ?_ GE506.out | refine below_set ?_ GE507.out) | exact HB.out))))
        have n6_ := Aside0.mk (blk_below (g := gb506) (o := .cells #[.slice A0_0 l0_0.length c0_0, .slice A0_1 l0_1.length c0_1] 26 (0, 0)) (blk_any BK506.out) hb)
        have n7_ := Aside0.mk (blk_below (g := gb507) (o := .cells #[.slice A1_0 l1_0.length c1_0, .int .i64 a1_1, .slice A1_2 l1_2.length c1_2] 30 (0, 0)) (blk_any BK507.out) hb)
        have n8_ := Aside0.mk (below_step (by repeat (first | (with_reducible first | exact HB.out | apply below_alloc | apply pw_below_drewN | apply below_drew1 | refine below_set ?_ GE506.out | refine below_set ?_ GE507.out) | exact HB.out)) hb)
        clear HO510
        clear HO513
        clear HO516
        clear HO520
        clear BK506
        clear BK507
        clear HB
        have HO510 := n0_
        have HO513 := n1_
        have HO516 := n2_
        have HO520 := n3_
        have HO523 := n4_
        have HO527 := n5_
        have BK506 := n6_
        have BK507 := n7_
        have HB := n8_
        clear n0_ n1_ n2_ n3_ n4_ n5_ n6_ n7_ n8_
        (try clear hb)
        (try clear hb2)
        (try clear hk)
        (try clear hi)
        (try clear ho0)
        (try clear ho1)
        refine hK.out _ _ ⟨(blk_cell BK506.out 0).trans rfl, (blk_cell BK506.out 1).trans rfl, (blk_cell BK507.out 0).trans rfl, (blk_cell BK507.out 1).trans rfl, (blk_cell BK507.out 2).trans rfl⟩ (fun hHeld => ?_)
        clear hK K
        refine norm_ (a' := ?_) ?_ ?_
        rotate_left
        ·show Act.put _ (some 18) _ = _
         simp only [Act.put, List.setIfInBounds_toArray, List.set_cons_zero, List.set_cons_succ, i64_w, i32_w]
         rfl
        refine pure_ (i := 9) (N := some 9) (v := ?_) (a' := ?_) #[true, true, true, true, true, true, true, true, true, true, false, false, false, false, false] rfl rfl (any_of HT_.out (by kernel_rfl)) (fun _ _ _ h => h) (Or.inl ⟨by rfl, ?_⟩) ?_ ?_
        rotate_left
        ·intro w'
         go_simp
         with_reducible rfl
        rotate_left
        ·simp only [Act.put, List.setIfInBounds_toArray, List.set_cons_zero, List.set_cons_succ, i64_w, i32_w]
         rfl
        refine pure_ (i := 10) (N := some 19) (v := ?_) (a' := ?_) #[true, true, true, true, true, true, true, true, true, true, true, false, false, false, false] rfl rfl (any_of HT_.out (by kernel_rfl)) (fun _ _ _ h => h) (Or.inl ⟨by rfl, ?_⟩) ?_ ?_
        rotate_left
        ·intro w'
         go_simp
         with_reducible rfl
        rotate_left
        ·simp only [Act.put, List.setIfInBounds_toArray, List.set_cons_zero, List.set_cons_succ, i64_w, i32_w]
         rfl
        refine pure_ (i := 11) (N := some 20) (v := ?_) (a' := ?_) #[true, true, true, true, true, true, true, true, true, true, true, true, false, false, false] rfl rfl (any_of HT_.out (by kernel_rfl)) (fun _ _ _ h => h) (Or.inl ⟨by rfl, ?_⟩) ?_ ?_
        rotate_left
        ·intro w'
         go_simp
         with_reducible rfl
        rotate_left
        ·simp only [Act.put, List.setIfInBounds_toArray, List.set_cons_zero, List.set_cons_succ, i64_w, i32_w]
         rfl
        exact norm_ (by first | (simp only [putAll, Act.put, List.setIfInBounds_toArray, List.set_cons_zero, List.set_cons_succ]; done) | (simp only [putAll, Act.put, List.setIfInBounds_toArray, List.set_cons_zero, List.set_cons_succ]; rfl)) (hJ2_5_7_8 (.slice Ao19 t508.length co19, .slice Ao20 t511.length co20, .slice Ao21 t514.length co21, .slice Ao22 t518.length co22, v522, v526) _ ⟨hHeld, (by (with_reducible repeat (first | apply Kd.S_alloc | apply Kd.S_drewN | apply Kd.S_drew)); exact Kd.S_mono HO510.out (fun _ hk => ⟨hk.1.1.1, ⟨hk.1.1.2, ⟨hk.1.2, hk.2⟩⟩⟩)), (R_any HO513.out), (by (with_reducible repeat (first | apply Kd.R_alloc | apply Kd.R_drewN | apply Kd.R_drew)); exact Kd.R_mono HO516.out (fun _ hk => ⟨hk.1.1, ⟨hk.1.2, hk.2⟩⟩)), (by (with_reducible repeat (first | apply Kd.R_alloc | apply Kd.R_drewN | apply Kd.R_drew)); exact Kd.R_mono HO520.out (fun _ hk => ⟨hk.1.1, ⟨hk.1.2, hk.2⟩⟩)), (by (with_reducible repeat (first | apply Kd.R_alloc | apply Kd.R_drewN | apply Kd.R_drew)); exact Kd.R_mono HO523.out (fun _ hk => ⟨hk.1.2, ⟨hk.2, hk.1.1⟩⟩)), (by (with_reducible repeat (first | apply Kd.R_alloc | apply Kd.R_drewN | apply Kd.R_drew)); exact Kd.R_mono HO527.out (fun _ hk => ⟨hk.1.2, ⟨hk.2, hk.1.1⟩⟩)), (blk_any BK506.out), (blk_any BK507.out), (by repeat (first | (with_reducible first | exact HB.out | apply below_alloc | apply pw_below_drewN | apply below_drew1 | refine below_set ?_ GE506.out | refine below_set ?_ GE507.out) | exact HB.out))⟩)
       ·skip
        refine box_step ?hg (N := 5) ?hd (cs := #[.slice none 0 0, .int .i64 0, .slice none 0 0]) (t := 30) ?hr ?_; (case hd => rfl); (case hg => rfl); (case hr => first | (go_simp; done) | (go_simp; rfl))
        intro gb529 hg w19 hbox hb
        have n0_ := Aside0.mk (Kd.S_below (S_any HO510.out) hb)
        have n1_ := Aside0.mk (Kd.R_below (R_any HO513.out) hb)
        have n2_ := Aside0.mk (Kd.R_below (R_any HO516.out) hb)
        have n3_ := Aside0.mk (Kd.R_below (R_any HO520.out) hb)
        have n4_ := Aside0.mk (blk_below (g := gb506) (o := .cells #[.slice A0_0 l0_0.length c0_0, .slice A0_1 l0_1.length c0_1] 26 (0, 0)) (blk_any BK506.out) hb)
        have n5_ := Aside0.mk (blk_below (g := gb507) (o := .cells #[.slice A1_0 l1_0.length c1_0, .int .i64 a1_1, .slice A1_2 l1_2.length c1_2] 30 (0, 0)) (blk_any BK507.out) hb)
        have n6_ := Aside0.mk (below_step (by repeat (first | (with_reducible first | exact HB.out | apply below_alloc | apply pw_below_drewN | apply below_drew1 | refine below_set ?_ GE506.out | refine below_set ?_ GE507.out) | exact HB.out)) hb)
        have n7_ := Aside0.mk (hbox)
        have n8_ := Aside0.mk ((by rw [hg]; exact (below_size (by repeat (first | (with_reducible first | exact HB.out | apply below_alloc | apply pw_below_drewN | apply below_drew1 | refine below_set ?_ GE506.out | refine below_set ?_ GE507.out) | exact HB.out))) : w.heap.size ≤ gb529))
        have n9_ := Aside0.mk ((by rw [hg]; exact (below_size (by repeat (first | (with_reducible first | exact HB.out | apply below_alloc | apply pw_below_drewN | apply below_drew1 | refine below_set ?_ GE506.out | refine below_set ?_ GE507.out) | exact HB.out))) : w.heap.size ≤ gb529))
        have n10_ := Aside0.mk ((by rw [hg]; exact Nat.ne_of_lt (blk_lt (g := gb506) (o := .cells #[.slice A0_0 l0_0.length c0_0, .slice A0_1 l0_1.length c0_1] 26 (0, 0)) (blk_any BK506.out)) : gb506 ≠ gb529))
        have n11_ := Aside0.mk ((by rw [hg]; exact Nat.ne_of_gt (blk_lt (g := gb506) (o := .cells #[.slice A0_0 l0_0.length c0_0, .slice A0_1 l0_1.length c0_1] 26 (0, 0)) (blk_any BK506.out)) : gb529 ≠ gb506))
        have n12_ := Aside0.mk ((by rw [hg]; exact Nat.ne_of_lt (blk_lt (g := gb507) (o := .cells #[.slice A1_0 l1_0.length c1_0, .int .i64 a1_1, .slice A1_2 l1_2.length c1_2] 30 (0, 0)) (blk_any BK507.out)) : gb507 ≠ gb529))
        have n13_ := Aside0.mk ((by rw [hg]; exact Nat.ne_of_gt (blk_lt (g := gb507) (o := .cells #[.slice A1_0 l1_0.length c1_0, .int .i64 a1_1, .slice A1_2 l1_2.length c1_2] 30 (0, 0)) (blk_any BK507.out)) : gb529 ≠ gb507))
        clear HO510
        clear HO513
        clear HO516
        clear HO520
        clear BK506
        clear BK507
        clear HB
        have HO510 := n0_
        have HO513 := n1_
        have HO516 := n2_
        have HO520 := n3_
        have BK506 := n4_
        have BK507 := n5_
        have HB := n6_
        have BK529 := n7_
        have GW529 := n8_
        have GE529 := n9_
        have NB506_529 := n10_
        have NB529_506 := n11_
        have NB507_529 := n12_
        have NB529_507 := n13_
        clear n0_ n1_ n2_ n3_ n4_ n5_ n6_ n7_ n8_ n9_ n10_ n11_ n12_ n13_
        clear hb hbox hg
        refine hK.out _ _ ⟨(blk_cell BK506.out 0).trans rfl, (blk_cell BK506.out 1).trans rfl, (blk_cell BK507.out 0).trans rfl, (blk_cell BK507.out 1).trans rfl, (blk_cell BK507.out 2).trans rfl⟩ (fun hHeld => ?_)
        clear hK K
        refine norm_ (a' := ?_) ?_ ?_
        rotate_left
        ·show Act.put _ (some 5) _ = _
         simp only [Act.put, List.setIfInBounds_toArray, List.set_cons_zero, List.set_cons_succ, i64_w, i32_w]
         rfl
        exact norm_ (by first | (simp only [putAll, Act.put, List.setIfInBounds_toArray, List.set_cons_zero, List.set_cons_succ]; done) | (simp only [putAll, Act.put, List.setIfInBounds_toArray, List.set_cons_zero, List.set_cons_succ]; rfl)) (hJ2_5_7_12 (.slice Ao19 t508.length co19, .slice Ao20 t511.length co20, .slice Ao21 t514.length co21, .slice Ao22 t518.length co22, gb529) _ ⟨hHeld, (S_any HO510.out), (R_any HO513.out), (R_any HO516.out), (R_any HO520.out), (blk_any BK506.out), (blk_any BK507.out), (blk_any BK529.out), GW529.out, GE529.out, NB506_529.out, NB529_506.out, NB507_529.out, NB529_507.out, (by repeat (first | (with_reducible first | exact HB.out | apply below_alloc | apply pw_below_drewN | apply below_drew1 | refine below_set ?_ GE506.out | refine below_set ?_ GE507.out | refine below_set ?_ GE529.out) | exact HB.out))⟩)
     ·skip
      rintro ⟨v509, v512, v515, v519, gb529⟩ w19 ⟨hS_, h0_, h1_, h2_, h3_, h4_, h5_, h6_, h7_, h8_, h9_, h10_, h11_, h12_, h13_⟩
      have n0_ : Aside0 (Kd.S (Kd.slice 3 (Kd.int .i64)) 28 w19 w.heap.size (fun k_ => some k_ ≠ (v515 : Value).ownBlock ∧ some k_ ≠ (v519 : Value).ownBlock) v509 t508) := ⟨h0_⟩
      have n1_ : Aside0 (Kd.R k49 49 w19 w.heap.size (fun _ => True) v512 t511) := ⟨h1_⟩
      have n2_ : Aside0 (Kd.R (Kd.int .i64) 3 w19 w.heap.size (fun k_ => some k_ ≠ (v519 : Value).ownBlock) v515 t514) := ⟨h2_⟩
      have n3_ : Aside0 (Kd.R (Kd.int .i64) 3 w19 w.heap.size (fun k_ => some k_ ≠ (v515 : Value).ownBlock) v519 t518) := ⟨h3_⟩
      have n4_ : Aside0 (w19.heap[gb506]? = some (.cells #[.slice A0_0 l0_0.length c0_0, .slice A0_1 l0_1.length c0_1] 26 (0, 0))) := ⟨h4_⟩
      have n5_ : Aside0 (w19.heap[gb507]? = some (.cells #[.slice A1_0 l1_0.length c1_0, .int .i64 a1_1, .slice A1_2 l1_2.length c1_2] 30 (0, 0))) := ⟨h5_⟩
      have n6_ : Aside0 (w19.heap[gb529]? = some (.cells #[.slice none 0 0, .int .i64 0, .slice none 0 0] 30 (0, 0))) := ⟨h6_⟩
      have n7_ : Aside0 (w.heap.size ≤ gb529) := ⟨h7_⟩
      have n8_ : Aside0 (w.heap.size ≤ gb529) := ⟨h8_⟩
      have n9_ : Aside0 (gb506 ≠ gb529) := ⟨h9_⟩
      have n10_ : Aside0 (gb529 ≠ gb506) := ⟨h10_⟩
      have n11_ : Aside0 (gb507 ≠ gb529) := ⟨h11_⟩
      have n12_ : Aside0 (gb529 ≠ gb507) := ⟨h12_⟩
      have n13_ : Aside0 (Below w.heap.size w w19) := ⟨h13_⟩
      clear BK506
      clear BK507
      clear HB
      clear h0_ h1_ h2_ h3_ h4_ h5_ h6_ h7_ h8_ h9_ h10_ h11_ h12_ h13_
      have HO510 := n0_
      have HO513 := n1_
      have HO516 := n2_
      have HO520 := n3_
      have BK506 := n4_
      have BK507 := n5_
      have BK529 := n6_
      have GW529 := n7_
      have GE529 := n8_
      have NB506_529 := n9_
      have NB529_506 := n10_
      have NB507_529 := n11_
      have NB529_507 := n12_
      have HB := n13_
      clear n0_ n1_ n2_ n3_ n4_ n5_ n6_ n7_ n8_ n9_ n10_ n11_ n12_ n13_
      have hHeld : w19.cell? ⟨gb506, 0, none⟩ = some (.slice A0_0 l0_0.length c0_0) ∧ w19.cell? ⟨gb506, 1, none⟩ = some (.slice A0_1 l0_1.length c0_1) ∧ w19.cell? ⟨gb507, 0, none⟩ = some (.slice A1_0 l1_0.length c1_0) ∧ w19.cell? ⟨gb507, 1, none⟩ = some (.int .i64 a1_1) ∧ w19.cell? ⟨gb507, 2, none⟩ = some (.slice A1_2 l1_2.length c1_2) := hS_
      obtain ⟨Ao20, co20, eo20⟩ := Kd.S_slice HO510.out
      (first | subst eo20 | (injection eo20 with f1_ f2_ f3_; have f4_ := f1_.symm; have f5_ := f3_.symm; clear f1_ f2_ f3_; subst f4_; subst f5_))
      obtain ⟨Ao21, co21, eo21⟩ := Kd.R_slice HO513.out
      (first | subst eo21 | (injection eo21 with f1_ f2_ f3_; have f4_ := f1_.symm; have f5_ := f3_.symm; clear f1_ f2_ f3_; subst f4_; subst f5_))
      obtain ⟨Ao22, co22, eo22⟩ := Kd.R_slice HO516.out
      (first | subst eo22 | (injection eo22 with f1_ f2_ f3_; have f4_ := f1_.symm; have f5_ := f3_.symm; clear f1_ f2_ f3_; subst f4_; subst f5_))
      obtain ⟨Ao23, co23, eo23⟩ := Kd.R_slice HO520.out
      (first | subst eo23 | (injection eo23 with f1_ f2_ f3_; have f4_ := f1_.symm; have f5_ := f3_.symm; clear f1_ f2_ f3_; subst f4_; subst f5_))
      refine norm_ (a' := ?_) ?_ ?_
      rotate_left
      ·simp only [putAll, Act.put, List.setIfInBounds_toArray, List.set_cons_zero, List.set_cons_succ]
       rfl
      refine one_ (i := 8) (N := some 18) #[true, true, true, true, true, true, true, true, true, false, false, false, true, false, false] rfl rfl (one_of HT_.out (by kernel_rfl)) (by decide) (fun K hK => ?_)
      refine goes_ Try.func30 (by kernel_rfl) rfl #[.slice Ao20 t508.length co20, .slice Ao21 t511.length co21, .agg #[.slice Ao22 t514.length co22, .int .i64 t517, .slice Ao23 t518.length co23]] (by rfl) rfl rfl (by (try simp only [List.map_toArray, List.map_cons, List.map_nil]); first | done | rfl | (simp only [List.length_drop, List.length_take]; rfl)) ?_
      with_reducible refine (analyse_Less.calls _ _ t508 _ _ t511 _ _ t514 t517 _ _ t518 t521 t524 t525 t528 _ ?side1 ?side2 ?side3 ?side4 ?side5 ?side6 ?side7 ?side8 A6.out).mono ?_
      (case side1 => repeat (first | exact (Kd.S_reads' HO510.out).2.2 | (with_reducible refine Kd.C_alloc ?_ _) | (with_reducible refine Kd.C_drewN ?_ _) | (with_reducible refine Kd.C_drew ?_)))
      (case side2 => exact (Kd.S_reads' HO510.out).2.1)
      (case side3 => repeat (first | exact (Kd.R_reads' HO513.out).2.2 | (with_reducible refine Kd.C_alloc ?_ _) | (with_reducible refine Kd.C_drewN ?_ _) | (with_reducible refine Kd.C_drew ?_)))
      (case side4 => exact (Kd.R_reads' HO513.out).2.1)
      (case side5 => repeat (first | exact (Kd.R_reads' HO516.out).2.2 | (with_reducible refine Kd.C_alloc ?_ _) | (with_reducible refine Kd.C_drewN ?_ _) | (with_reducible refine Kd.C_drew ?_)))
      (case side6 => exact (Kd.R_reads' HO516.out).2.1)
      (case side7 => repeat (first | exact (Kd.R_reads' HO520.out).2.2 | (with_reducible refine Kd.C_alloc ?_ _) | (with_reducible refine Kd.C_drewN ?_ _) | (with_reducible refine Kd.C_drew ?_)))
      (case side8 => exact (Kd.R_reads' HO520.out).2.1)
      rintro e w24 ⟨v522, v526, rfl, ho0, ho1, hb⟩
      refine ⟨_, rfl, ?_⟩
      have n0_ := Aside0.mk (Kd.S_mono (Kd.S_told (Kd.S_told (Kd.S_old (S_any HO510.out) hb) (Kd.R_base ho0)) (Kd.R_base ho1)) (fun _ h_ => h_.1))
      have n1_ := Aside0.mk (Kd.R_below (R_any HO513.out) hb)
      have n2_ := Aside0.mk (Kd.R_mono (Kd.R_told (Kd.R_told (Kd.R_old (R_any HO516.out) hb) (Kd.R_base ho0)) (Kd.R_base ho1)) (fun _ h_ => h_.1))
      have n3_ := Aside0.mk (Kd.R_mono (Kd.R_told (Kd.R_told (Kd.R_old (R_any HO520.out) hb) (Kd.R_base ho0)) (Kd.R_base ho1)) (fun _ h_ => h_.1))
      have n4_ := Aside0.mk (Kd.R_lower (Kd.R_new' (Kd.R_new' ho0 (Kd.R_lt (R_any HO516.out))) (Kd.R_lt (R_any HO520.out))) (below_size (by repeat (first | (with_reducible first | exact HB.out | apply below_alloc | apply pw_below_drewN | apply below_drew1 | refine below_set ?_ GE506.out | refine below_set ?_ GE507.out | refine below_set ?_ GE529.out) | exact HB.out))))
      have n5_ := Aside0.mk (Kd.R_lower (Kd.R_new' (Kd.R_new' ho1 (Kd.R_lt (R_any HO516.out))) (Kd.R_lt (R_any HO520.out))) (below_size (by repeat (first | (with_reducible first | exact HB.out | apply below_alloc | apply pw_below_drewN | apply below_drew1 | refine below_set ?_ GE506.out | refine below_set ?_ GE507.out | refine below_set ?_ GE529.out) | exact HB.out))))
      have n6_ := Aside0.mk (blk_below (g := gb506) (o := .cells #[.slice A0_0 l0_0.length c0_0, .slice A0_1 l0_1.length c0_1] 26 (0, 0)) (blk_any BK506.out) hb)
      have n7_ := Aside0.mk (blk_below (g := gb507) (o := .cells #[.slice A1_0 l1_0.length c1_0, .int .i64 a1_1, .slice A1_2 l1_2.length c1_2] 30 (0, 0)) (blk_any BK507.out) hb)
      have n8_ := Aside0.mk (blk_below (g := gb529) (o := .cells #[.slice none 0 0, .int .i64 0, .slice none 0 0] 30 (0, 0)) (blk_any BK529.out) hb)
      have n9_ := Aside0.mk (below_step (by repeat (first | (with_reducible first | exact HB.out | apply below_alloc | apply pw_below_drewN | apply below_drew1 | refine below_set ?_ GE506.out | refine below_set ?_ GE507.out | refine below_set ?_ GE529.out) | exact HB.out)) hb)
      clear HO510
      clear HO513
      clear HO516
      clear HO520
      clear BK506
      clear BK507
      clear BK529
      clear HB
      have HO510 := n0_
      have HO513 := n1_
      have HO516 := n2_
      have HO520 := n3_
      have HO523 := n4_
      have HO527 := n5_
      have BK506 := n6_
      have BK507 := n7_
      have BK529 := n8_
      have HB := n9_
      clear n0_ n1_ n2_ n3_ n4_ n5_ n6_ n7_ n8_ n9_
      (try clear hb)
      (try clear hb2)
      (try clear hk)
      (try clear hi)
      (try clear ho0)
      (try clear ho1)
      refine hK.out _ _ ⟨(blk_cell BK506.out 0).trans rfl, (blk_cell BK506.out 1).trans rfl, (blk_cell BK507.out 0).trans rfl, (blk_cell BK507.out 1).trans rfl, (blk_cell BK507.out 2).trans rfl⟩ (fun hHeld => ?_)
      clear hK K
      refine norm_ (a' := ?_) ?_ ?_
      rotate_left
      ·show Act.put _ (some 18) _ = _
       simp only [Act.put, List.setIfInBounds_toArray, List.set_cons_zero, List.set_cons_succ, i64_w, i32_w]
       rfl
      refine pure_ (i := 9) (N := some 9) (v := ?_) (a' := ?_) #[true, true, true, true, true, true, true, true, true, true, false, false, true, false, false] rfl rfl (any_of HT_.out (by kernel_rfl)) (fun _ _ _ h => h) (Or.inl ⟨by rfl, ?_⟩) ?_ ?_
      rotate_left
      ·intro w'
       go_simp
       with_reducible rfl
      rotate_left
      ·simp only [Act.put, List.setIfInBounds_toArray, List.set_cons_zero, List.set_cons_succ, i64_w, i32_w]
       rfl
      refine pure_ (i := 10) (N := some 19) (v := ?_) (a' := ?_) #[true, true, true, true, true, true, true, true, true, true, true, false, true, false, false] rfl rfl (any_of HT_.out (by kernel_rfl)) (fun _ _ _ h => h) (Or.inl ⟨by rfl, ?_⟩) ?_ ?_
      rotate_left
      ·intro w'
       go_simp
       with_reducible rfl
      rotate_left
      ·simp only [Act.put, List.setIfInBounds_toArray, List.set_cons_zero, List.set_cons_succ, i64_w, i32_w]
       rfl
      refine pure_ (i := 11) (N := some 20) (v := ?_) (a' := ?_) #[true, true, true, true, true, true, true, true, true, true, true, true, true, false, false] rfl rfl (any_of HT_.out (by kernel_rfl)) (fun _ _ _ h => h) (Or.inl ⟨by rfl, ?_⟩) ?_ ?_
      rotate_left
      ·intro w'
       go_simp
       with_reducible rfl
      rotate_left
      ·simp only [Act.put, List.setIfInBounds_toArray, List.set_cons_zero, List.set_cons_succ, i64_w, i32_w]
       rfl
      exact norm_ (by first | (simp only [putAll, Act.put, List.setIfInBounds_toArray, List.set_cons_zero, List.set_cons_succ]; done) | (simp only [putAll, Act.put, List.setIfInBounds_toArray, List.set_cons_zero, List.set_cons_succ]; rfl)) (hJ2_5_7_8_12 (.slice Ao20 t508.length co20, .slice Ao21 t511.length co21, .slice Ao22 t514.length co22, .slice Ao23 t518.length co23, v522, v526, gb529) _ ⟨hHeld, (by (with_reducible repeat (first | apply Kd.S_alloc | apply Kd.S_drewN | apply Kd.S_drew)); exact Kd.S_mono HO510.out (fun _ hk => ⟨hk.1.1.1, ⟨hk.1.1.2, ⟨hk.1.2, hk.2⟩⟩⟩)), (R_any HO513.out), (by (with_reducible repeat (first | apply Kd.R_alloc | apply Kd.R_drewN | apply Kd.R_drew)); exact Kd.R_mono HO516.out (fun _ hk => ⟨hk.1.1, ⟨hk.1.2, hk.2⟩⟩)), (by (with_reducible repeat (first | apply Kd.R_alloc | apply Kd.R_drewN | apply Kd.R_drew)); exact Kd.R_mono HO520.out (fun _ hk => ⟨hk.1.1, ⟨hk.1.2, hk.2⟩⟩)), (by (with_reducible repeat (first | apply Kd.R_alloc | apply Kd.R_drewN | apply Kd.R_drew)); exact Kd.R_mono HO523.out (fun _ hk => ⟨hk.1.2, ⟨hk.2, hk.1.1⟩⟩)), (by (with_reducible repeat (first | apply Kd.R_alloc | apply Kd.R_drewN | apply Kd.R_drew)); exact Kd.R_mono HO527.out (fun _ hk => ⟨hk.1.2, ⟨hk.2, hk.1.1⟩⟩)), (blk_any BK506.out), (blk_any BK507.out), (blk_any BK529.out), GW529.out, GE529.out, NB506_529.out, NB529_506.out, NB507_529.out, NB529_507.out, (by repeat (first | (with_reducible first | exact HB.out | apply below_alloc | apply pw_below_drewN | apply below_drew1 | refine below_set ?_ GE506.out | refine below_set ?_ GE507.out | refine below_set ?_ GE529.out) | exact HB.out))⟩)
    ·skip
     rintro ⟨v509, v512, v515, v519, v522, v526⟩ w23 ⟨hS_, h0_, h1_, h2_, h3_, h4_, h5_, h6_, h7_, h8_⟩
     have n0_ : Aside0 (Kd.S (Kd.slice 3 (Kd.int .i64)) 28 w23 w.heap.size (fun k_ => some k_ ≠ (v515 : Value).ownBlock ∧ some k_ ≠ (v519 : Value).ownBlock ∧ some k_ ≠ (v522 : Value).ownBlock ∧ some k_ ≠ (v526 : Value).ownBlock) v509 t508) := ⟨h0_⟩
     have n1_ : Aside0 (Kd.R k49 49 w23 w.heap.size (fun _ => True) v512 t511) := ⟨h1_⟩
     have n2_ : Aside0 (Kd.R (Kd.int .i64) 3 w23 w.heap.size (fun k_ => some k_ ≠ (v519 : Value).ownBlock ∧ some k_ ≠ (v522 : Value).ownBlock ∧ some k_ ≠ (v526 : Value).ownBlock) v515 t514) := ⟨h2_⟩
     have n3_ : Aside0 (Kd.R (Kd.int .i64) 3 w23 w.heap.size (fun k_ => some k_ ≠ (v515 : Value).ownBlock ∧ some k_ ≠ (v522 : Value).ownBlock ∧ some k_ ≠ (v526 : Value).ownBlock) v519 t518) := ⟨h3_⟩
     have n4_ : Aside0 (Kd.R (Kd.int .i64) 3 w23 w.heap.size (fun k_ => some k_ ≠ (v515 : Value).ownBlock ∧ some k_ ≠ (v519 : Value).ownBlock ∧ some k_ ≠ (v526 : Value).ownBlock) v522 t521) := ⟨h4_⟩
     have n5_ : Aside0 (Kd.R (Kd.int .i64) 3 w23 w.heap.size (fun k_ => some k_ ≠ (v515 : Value).ownBlock ∧ some k_ ≠ (v519 : Value).ownBlock ∧ some k_ ≠ (v522 : Value).ownBlock) v526 t525) := ⟨h5_⟩
     have n6_ : Aside0 (w23.heap[gb506]? = some (.cells #[.slice A0_0 l0_0.length c0_0, .slice A0_1 l0_1.length c0_1] 26 (0, 0))) := ⟨h6_⟩
     have n7_ : Aside0 (w23.heap[gb507]? = some (.cells #[.slice A1_0 l1_0.length c1_0, .int .i64 a1_1, .slice A1_2 l1_2.length c1_2] 30 (0, 0))) := ⟨h7_⟩
     have n8_ : Aside0 (Below w.heap.size w w23) := ⟨h8_⟩
     clear BK506
     clear BK507
     clear HB
     clear h0_ h1_ h2_ h3_ h4_ h5_ h6_ h7_ h8_
     have HO510 := n0_
     have HO513 := n1_
     have HO516 := n2_
     have HO520 := n3_
     have HO523 := n4_
     have HO527 := n5_
     have BK506 := n6_
     have BK507 := n7_
     have HB := n8_
     clear n0_ n1_ n2_ n3_ n4_ n5_ n6_ n7_ n8_
     have hHeld : w23.cell? ⟨gb506, 0, none⟩ = some (.slice A0_0 l0_0.length c0_0) ∧ w23.cell? ⟨gb506, 1, none⟩ = some (.slice A0_1 l0_1.length c0_1) ∧ w23.cell? ⟨gb507, 0, none⟩ = some (.slice A1_0 l1_0.length c1_0) ∧ w23.cell? ⟨gb507, 1, none⟩ = some (.int .i64 a1_1) ∧ w23.cell? ⟨gb507, 2, none⟩ = some (.slice A1_2 l1_2.length c1_2) := hS_
     refine norm_ (a' := ?_) ?_ ?_
     rotate_left
     ·simp only [putAll, Act.put, List.setIfInBounds_toArray, List.set_cons_zero, List.set_cons_succ]
      rfl
     refine one_ (i := 12) (N := some 5) #[true, true, true, true, true, true, true, true, true, true, true, true, true, false, false] rfl rfl (one_of HT_.out (by kernel_rfl)) (by decide) (fun K hK => ?_)
     refine box_step ?hg (N := 5) ?hd (cs := #[.slice none 0 0, .int .i64 0, .slice none 0 0]) (t := 30) ?hr ?_; (case hd => rfl); (case hg => rfl); (case hr => first | (go_simp; done) | (go_simp; rfl))
     intro gb529 hg w24 hbox hb
     have n0_ := Aside0.mk (Kd.S_below (S_any HO510.out) hb)
     have n1_ := Aside0.mk (Kd.R_below (R_any HO513.out) hb)
     have n2_ := Aside0.mk (Kd.R_below (R_any HO516.out) hb)
     have n3_ := Aside0.mk (Kd.R_below (R_any HO520.out) hb)
     have n4_ := Aside0.mk (Kd.R_below (R_any HO523.out) hb)
     have n5_ := Aside0.mk (Kd.R_below (R_any HO527.out) hb)
     have n6_ := Aside0.mk (blk_below (g := gb506) (o := .cells #[.slice A0_0 l0_0.length c0_0, .slice A0_1 l0_1.length c0_1] 26 (0, 0)) (blk_any BK506.out) hb)
     have n7_ := Aside0.mk (blk_below (g := gb507) (o := .cells #[.slice A1_0 l1_0.length c1_0, .int .i64 a1_1, .slice A1_2 l1_2.length c1_2] 30 (0, 0)) (blk_any BK507.out) hb)
     have n8_ := Aside0.mk (below_step (by repeat (first | (with_reducible first | exact HB.out | apply below_alloc | apply pw_below_drewN | apply below_drew1 | refine below_set ?_ GE506.out | refine below_set ?_ GE507.out) | exact HB.out)) hb)
     have n9_ := Aside0.mk (hbox)
     have n10_ := Aside0.mk ((by rw [hg]; exact (below_size (by repeat (first | (with_reducible first | exact HB.out | apply below_alloc | apply pw_below_drewN | apply below_drew1 | refine below_set ?_ GE506.out | refine below_set ?_ GE507.out) | exact HB.out))) : w.heap.size ≤ gb529))
     have n11_ := Aside0.mk ((by rw [hg]; exact (below_size (by repeat (first | (with_reducible first | exact HB.out | apply below_alloc | apply pw_below_drewN | apply below_drew1 | refine below_set ?_ GE506.out | refine below_set ?_ GE507.out) | exact HB.out))) : w.heap.size ≤ gb529))
     have n12_ := Aside0.mk ((by rw [hg]; exact Nat.ne_of_lt (blk_lt (g := gb506) (o := .cells #[.slice A0_0 l0_0.length c0_0, .slice A0_1 l0_1.length c0_1] 26 (0, 0)) (blk_any BK506.out)) : gb506 ≠ gb529))
     have n13_ := Aside0.mk ((by rw [hg]; exact Nat.ne_of_gt (blk_lt (g := gb506) (o := .cells #[.slice A0_0 l0_0.length c0_0, .slice A0_1 l0_1.length c0_1] 26 (0, 0)) (blk_any BK506.out)) : gb529 ≠ gb506))
     have n14_ := Aside0.mk ((by rw [hg]; exact Nat.ne_of_lt (blk_lt (g := gb507) (o := .cells #[.slice A1_0 l1_0.length c1_0, .int .i64 a1_1, .slice A1_2 l1_2.length c1_2] 30 (0, 0)) (blk_any BK507.out)) : gb507 ≠ gb529))
     have n15_ := Aside0.mk ((by rw [hg]; exact Nat.ne_of_gt (blk_lt (g := gb507) (o := .cells #[.slice A1_0 l1_0.length c1_0, .int .i64 a1_1, .slice A1_2 l1_2.length c1_2] 30 (0, 0)) (blk_any BK507.out)) : gb529 ≠ gb507))
     clear HO510
     clear HO513
     clear HO516
     clear HO520
     clear HO523
     clear HO527
     clear BK506
     clear BK507
     clear HB
     have HO510 := n0_
     have HO513 := n1_
     have HO516 := n2_
     have HO520 := n3_
     have HO523 := n4_
     have HO527 := n5_
     have BK506 := n6_
     have BK507 := n7_
     have HB := n8_
     have BK529 := n9_
     have GW529 := n10_
     have GE529 := n11_
     have NB506_529 := n12_
     have NB529_506 := n13_
     have NB507_529 := n14_
     have NB529_507 := n15_
     clear n0_ n1_ n2_ n3_ n4_ n5_ n6_ n7_ n8_ n9_ n10_ n11_ n12_ n13_ n14_ n15_
     clear hb hbox hg
     refine hK.out _ _ ⟨(blk_cell BK506.out 0).trans rfl, (blk_cell BK506.out 1).trans rfl, (blk_cell BK507.out 0).trans rfl, (blk_cell BK507.out 1).trans rfl, (blk_cell BK507.out 2).trans rfl⟩ (fun hHeld => ?_)
     clear hK K
     refine norm_ (a' := ?_) ?_ ?_
     rotate_left
     ·show Act.put _ (some 5) _ = _
      simp only [Act.put, List.setIfInBounds_toArray, List.set_cons_zero, List.set_cons_succ, i64_w, i32_w]
      rfl
     exact norm_ (by first | (simp only [putAll, Act.put, List.setIfInBounds_toArray, List.set_cons_zero, List.set_cons_succ]; done) | (simp only [putAll, Act.put, List.setIfInBounds_toArray, List.set_cons_zero, List.set_cons_succ]; rfl)) (hJ2_5_7_8_12 (v509, v512, v515, v519, v522, v526, gb529) _ ⟨hHeld, (S_any HO510.out), (R_any HO513.out), (R_any HO516.out), (R_any HO520.out), (R_any HO523.out), (R_any HO527.out), (blk_any BK506.out), (blk_any BK507.out), (blk_any BK529.out), GW529.out, GE529.out, NB506_529.out, NB529_506.out, NB507_529.out, NB529_507.out, (by repeat (first | (with_reducible first | exact HB.out | apply below_alloc | apply pw_below_drewN | apply below_drew1 | refine below_set ?_ GE506.out | refine below_set ?_ GE507.out | refine below_set ?_ GE529.out) | exact HB.out))⟩)
   rintro ⟨v509, v512, v515, v519, v522, v526, gb529⟩ w24 ⟨hS_, h0_, h1_, h2_, h3_, h4_, h5_, h6_, h7_, h8_, h9_, h10_, h11_, h12_, h13_, h14_, h15_⟩
   have n0_ : Aside0 (Kd.S (Kd.slice 3 (Kd.int .i64)) 28 w24 w.heap.size (fun k_ => some k_ ≠ (v515 : Value).ownBlock ∧ some k_ ≠ (v519 : Value).ownBlock ∧ some k_ ≠ (v522 : Value).ownBlock ∧ some k_ ≠ (v526 : Value).ownBlock) v509 t508) := ⟨h0_⟩
   have n1_ : Aside0 (Kd.R k49 49 w24 w.heap.size (fun _ => True) v512 t511) := ⟨h1_⟩
   have n2_ : Aside0 (Kd.R (Kd.int .i64) 3 w24 w.heap.size (fun k_ => some k_ ≠ (v519 : Value).ownBlock ∧ some k_ ≠ (v522 : Value).ownBlock ∧ some k_ ≠ (v526 : Value).ownBlock) v515 t514) := ⟨h2_⟩
   have n3_ : Aside0 (Kd.R (Kd.int .i64) 3 w24 w.heap.size (fun k_ => some k_ ≠ (v515 : Value).ownBlock ∧ some k_ ≠ (v522 : Value).ownBlock ∧ some k_ ≠ (v526 : Value).ownBlock) v519 t518) := ⟨h3_⟩
   have n4_ : Aside0 (Kd.R (Kd.int .i64) 3 w24 w.heap.size (fun k_ => some k_ ≠ (v515 : Value).ownBlock ∧ some k_ ≠ (v519 : Value).ownBlock ∧ some k_ ≠ (v526 : Value).ownBlock) v522 t521) := ⟨h4_⟩
   have n5_ : Aside0 (Kd.R (Kd.int .i64) 3 w24 w.heap.size (fun k_ => some k_ ≠ (v515 : Value).ownBlock ∧ some k_ ≠ (v519 : Value).ownBlock ∧ some k_ ≠ (v522 : Value).ownBlock) v526 t525) := ⟨h5_⟩
   have n6_ : Aside0 (w24.heap[gb506]? = some (.cells #[.slice A0_0 l0_0.length c0_0, .slice A0_1 l0_1.length c0_1] 26 (0, 0))) := ⟨h6_⟩
   have n7_ : Aside0 (w24.heap[gb507]? = some (.cells #[.slice A1_0 l1_0.length c1_0, .int .i64 a1_1, .slice A1_2 l1_2.length c1_2] 30 (0, 0))) := ⟨h7_⟩
   have n8_ : Aside0 (w24.heap[gb529]? = some (.cells #[.slice none 0 0, .int .i64 0, .slice none 0 0] 30 (0, 0))) := ⟨h8_⟩
   have n9_ : Aside0 (w.heap.size ≤ gb529) := ⟨h9_⟩
   have n10_ : Aside0 (w.heap.size ≤ gb529) := ⟨h10_⟩
   have n11_ : Aside0 (gb506 ≠ gb529) := ⟨h11_⟩
   have n12_ : Aside0 (gb529 ≠ gb506) := ⟨h12_⟩
   have n13_ : Aside0 (gb507 ≠ gb529) := ⟨h13_⟩
   have n14_ : Aside0 (gb529 ≠ gb507) := ⟨h14_⟩
   have n15_ : Aside0 (Below w.heap.size w w24) := ⟨h15_⟩
   clear BK506
   clear BK507
   clear HB
   clear h0_ h1_ h2_ h3_ h4_ h5_ h6_ h7_ h8_ h9_ h10_ h11_ h12_ h13_ h14_ h15_
   have HO510 := n0_
   have HO513 := n1_
   have HO516 := n2_
   have HO520 := n3_
   have HO523 := n4_
   have HO527 := n5_
   have BK506 := n6_
   have BK507 := n7_
   have BK529 := n8_
   have GW529 := n9_
   have GE529 := n10_
   have NB506_529 := n11_
   have NB529_506 := n12_
   have NB507_529 := n13_
   have NB529_507 := n14_
   have HB := n15_
   clear n0_ n1_ n2_ n3_ n4_ n5_ n6_ n7_ n8_ n9_ n10_ n11_ n12_ n13_ n14_ n15_
   have hHeld : w24.cell? ⟨gb506, 0, none⟩ = some (.slice A0_0 l0_0.length c0_0) ∧ w24.cell? ⟨gb506, 1, none⟩ = some (.slice A0_1 l0_1.length c0_1) ∧ w24.cell? ⟨gb507, 0, none⟩ = some (.slice A1_0 l1_0.length c1_0) ∧ w24.cell? ⟨gb507, 1, none⟩ = some (.int .i64 a1_1) ∧ w24.cell? ⟨gb507, 2, none⟩ = some (.slice A1_2 l1_2.length c1_2) := hS_
   obtain ⟨Ao25, co25, eo25⟩ := Kd.R_slice HO523.out
   (first | subst eo25 | (injection eo25 with f1_ f2_ f3_; have f4_ := f1_.symm; have f5_ := f3_.symm; clear f1_ f2_ f3_; subst f4_; subst f5_))
   obtain ⟨Ao28, co28, eo28⟩ := Kd.R_slice HO527.out
   (first | subst eo28 | (injection eo28 with f1_ f2_ f3_; have f4_ := f1_.symm; have f5_ := f3_.symm; clear f1_ f2_ f3_; subst f4_; subst f5_))
   refine norm_ (a' := ?_) ?_ ?_
   rotate_left
   ·simp only [putAll, Act.put, List.setIfInBounds_toArray, List.set_cons_zero, List.set_cons_succ]
    rfl
   refine one_ (i := 13) (N := none) #[true, true, true, true, true, true, true, true, true, true, true, true, true, true, false] rfl rfl (one_of HT_.out (by kernel_rfl)) (by decide) (fun K hK => ?_)
   have hs26 : w24.cell? ⟨gb529, 0, none⟩ = some (.slice none 0 0) := (blk_cell BK529.out 0).trans rfl
   have hfs26 := blk_frozen BK529.out 0
   have hns26_0 := NB506_529.out
   have hns26_1 := NB507_529.out
   have hms26_0 := NB529_506.out
   have hms26_1 := NB529_507.out
   have hs27 : w24.cell? ⟨gb529, 1, none⟩ = some (.int .i64 0) := (blk_cell BK529.out 1).trans rfl
   have hfs27 := blk_frozen BK529.out 1
   have hns27_0 := NB506_529.out
   have hns27_1 := NB507_529.out
   have hms27_0 := NB529_506.out
   have hms27_1 := NB529_507.out
   have hs29 : w24.cell? ⟨gb529, 2, none⟩ = some (.slice none 0 0) := (blk_cell BK529.out 2).trans rfl
   have hfs29 := blk_frozen BK529.out 2
   have hns29_0 := NB506_529.out
   have hns29_1 := NB507_529.out
   have hms29_0 := NB529_506.out
   have hms29_1 := NB529_507.out
   refine skip_ (w1 := ?_) (by rfl) rfl ?_ ?_
   rotate_left
   ·go_simp
    rfl
   refine hK.out _ _ ⟨((cell_far (p := ⟨gb529, _, none⟩) NB506_529.out _).trans (((cell_far (p := ⟨gb529, _, none⟩) NB506_529.out _).trans (((cell_far (p := ⟨gb529, _, none⟩) NB506_529.out _).trans (hHeld.1)))))), ((cell_far (p := ⟨gb529, _, none⟩) NB506_529.out _).trans (((cell_far (p := ⟨gb529, _, none⟩) NB506_529.out _).trans (((cell_far (p := ⟨gb529, _, none⟩) NB506_529.out _).trans (hHeld.2.1)))))), ((cell_far (p := ⟨gb529, _, none⟩) NB507_529.out _).trans (((cell_far (p := ⟨gb529, _, none⟩) NB507_529.out _).trans (((cell_far (p := ⟨gb529, _, none⟩) NB507_529.out _).trans (hHeld.2.2.1)))))), ((cell_far (p := ⟨gb529, _, none⟩) NB507_529.out _).trans (((cell_far (p := ⟨gb529, _, none⟩) NB507_529.out _).trans (((cell_far (p := ⟨gb529, _, none⟩) NB507_529.out _).trans (hHeld.2.2.2.1)))))), ((cell_far (p := ⟨gb529, _, none⟩) NB507_529.out _).trans (((cell_far (p := ⟨gb529, _, none⟩) NB507_529.out _).trans (((cell_far (p := ⟨gb529, _, none⟩) NB507_529.out _).trans (hHeld.2.2.2.2))))))⟩ (fun hHeld => ?_)
   clear hK K
   refine pure_ (i := 14) (N := some 6) (v := ?_) (a' := ?_) #[true, true, true, true, true, true, true, true, true, true, true, true, true, true, true] rfl rfl (any_of HT_.out (by kernel_rfl)) (fun _ _ _ h => h) (Or.inl ⟨by rfl, ?_⟩) ?_ ?_
   rotate_left
   ·intro w'
    go_simp
    with_reducible rfl
   rotate_left
   ·simp only [Act.put, List.setIfInBounds_toArray, List.set_cons_zero, List.set_cons_succ, i64_w, i32_w]
    rfl
   refine done_ (done_of HT_.out (by kernel_rfl)) ?_
   have hnb30 := NB506_507.out
   have hnc30 := NB507_506.out
   have hnb31 := NB506_529.out
   have hnc31 := NB529_506.out
   have hcz32_0 : w24.cell? ⟨gb506, 0, none⟩ = some (.slice A0_0 l0_0.length c0_0) := (blk_cell BK506.out 0).trans rfl
   have hcz32_1 : w24.cell? ⟨gb506, 1, none⟩ = some (.slice A0_1 l0_1.length c0_1) := (blk_cell BK506.out 1).trans rfl
   have hfz32_0 := blk_frozen BK506.out 0
   have hfz32_1 := blk_frozen BK506.out 1
   have hnb33 := NB507_529.out
   have hnc33 := NB529_507.out
   have hcz34_0 : w24.cell? ⟨gb507, 0, none⟩ = some (.slice A1_0 l1_0.length c1_0) := (blk_cell BK507.out 0).trans rfl
   have hcz34_1 : w24.cell? ⟨gb507, 1, none⟩ = some (.int .i64 a1_1) := (blk_cell BK507.out 1).trans rfl
   have hcz34_2 : w24.cell? ⟨gb507, 2, none⟩ = some (.slice A1_2 l1_2.length c1_2) := (blk_cell BK507.out 2).trans rfl
   have hfz34_0 := blk_frozen BK507.out 0
   have hfz34_1 := blk_frozen BK507.out 1
   have hfz34_2 := blk_frozen BK507.out 2
   try go_wp2_with (first | ((with_reducible refine gate_callee (f := 32) rfl ?_); refine goesL_ (some 27) rfl rfl Try.func32 (by kernel_rfl) rfl #[.slice A0_0 l0_0.length c0_0, .slice A0_1 l0_1.length c0_1, .agg #[.slice A1_0 l1_0.length c1_0, .int .i64 a1_1, .slice A1_2 l1_2.length c1_2]] rfl (by (try simp only [List.map_toArray, List.map_cons, List.map_nil]); first | done | rfl | (simp only [List.length_drop, List.length_take]; rfl)) ?_; (with_reducible refine (fulcrumref21_Less.calls k _ _ l0_0 _ _ l0_1 _ _ l1_0 a1_1 _ _ l1_2 t530 t533 t534 t537 _ ?side1 ?side2 ?side3 ?side4 ?side5 ?side6 ?side7 ?side8 A7.out).mono ?_); (case side1 => exact Kd.C_below HR0_0.out (by repeat (first | (with_reducible first | exact HB.out | apply below_alloc | apply pw_below_drewN | apply below_drew1 | refine below_set ?_ GE506.out | refine below_set ?_ GE507.out | refine below_set ?_ GE529.out) | exact HB.out))); (case side2 => exact HC0_0.out); (case side3 => exact Kd.C_below HR0_1.out (by repeat (first | (with_reducible first | exact HB.out | apply below_alloc | apply pw_below_drewN | apply below_drew1 | refine below_set ?_ GE506.out | refine below_set ?_ GE507.out | refine below_set ?_ GE529.out) | exact HB.out))); (case side4 => exact HC0_1.out); (case side5 => exact Kd.C_below HR1_0.out (by repeat (first | (with_reducible first | exact HB.out | apply below_alloc | apply pw_below_drewN | apply below_drew1 | refine below_set ?_ GE506.out | refine below_set ?_ GE507.out | refine below_set ?_ GE529.out) | exact HB.out))); (case side6 => exact HC1_0.out); (case side7 => exact Kd.C_below HR1_2.out (by repeat (first | (with_reducible first | exact HB.out | apply below_alloc | apply pw_below_drewN | apply below_drew1 | refine below_set ?_ GE506.out | refine below_set ?_ GE507.out | refine below_set ?_ GE529.out) | exact HB.out))); (case side8 => exact HC1_2.out); rintro e w35 ⟨v531, v535, rfl, ho0, ho1, hb⟩; refine ⟨_, rfl, ?_⟩; have n0_ := Aside0.mk (Kd.S_elder' (by (with_reducible repeat (first | apply Kd.S_alloc | apply Kd.S_drewN | apply Kd.S_drew)); exact (Kd.S_mono (Kd.S_far (p := ⟨gb529, 2, none⟩) (Kd.S_far (p := ⟨gb529, 1, none⟩) (Kd.S_far (p := ⟨gb529, 0, none⟩) (Kd.S_types HO510.out BK529.out (by decide)) (fun _ hk => hk.2) (.slice Ao25 t521.length co25)) (fun _ hk => hk.2) (.int .i64 t524)) (fun _ hk => hk.2) (.slice Ao28 t525.length co28)) (fun _ h_ => h_.1))) (Kd.R_base ho0) hb); have n1_ := Aside0.mk (Kd.R_below (by (with_reducible repeat (first | apply Kd.R_alloc | apply Kd.R_drewN | apply Kd.R_drew)); exact (Kd.R_mono (Kd.R_far (p := ⟨gb529, 2, none⟩) (Kd.R_far (p := ⟨gb529, 1, none⟩) (Kd.R_far (p := ⟨gb529, 0, none⟩) (Kd.R_types HO513.out BK529.out (by decide)) (fun _ hk => hk.2) (.slice Ao25 t521.length co25)) (fun _ hk => hk.2) (.int .i64 t524)) (fun _ hk => hk.2) (.slice Ao28 t525.length co28)) (fun _ h_ => h_.1))) hb); have n2_ := Aside0.mk (Kd.R_elder' (by (with_reducible repeat (first | apply Kd.R_alloc | apply Kd.R_drewN | apply Kd.R_drew)); exact (Kd.R_mono (Kd.R_far (p := ⟨gb529, 2, none⟩) (Kd.R_far (p := ⟨gb529, 1, none⟩) (Kd.R_far (p := ⟨gb529, 0, none⟩) (Kd.R_types HO516.out BK529.out (by decide)) (fun _ hk => hk.2) (.slice Ao25 t521.length co25)) (fun _ hk => hk.2) (.int .i64 t524)) (fun _ hk => hk.2) (.slice Ao28 t525.length co28)) (fun _ h_ => h_.1))) (Kd.R_base ho0) hb); have n3_ := Aside0.mk (Kd.R_elder' (by (with_reducible repeat (first | apply Kd.R_alloc | apply Kd.R_drewN | apply Kd.R_drew)); exact (Kd.R_mono (Kd.R_far (p := ⟨gb529, 2, none⟩) (Kd.R_far (p := ⟨gb529, 1, none⟩) (Kd.R_far (p := ⟨gb529, 0, none⟩) (Kd.R_types HO520.out BK529.out (by decide)) (fun _ hk => hk.2) (.slice Ao25 t521.length co25)) (fun _ hk => hk.2) (.int .i64 t524)) (fun _ hk => hk.2) (.slice Ao28 t525.length co28)) (fun _ h_ => h_.1))) (Kd.R_base ho0) hb); have n4_ := Aside0.mk (Kd.R_elder' (by (with_reducible repeat (first | apply Kd.R_alloc | apply Kd.R_drewN | apply Kd.R_drew)); exact (Kd.R_mono (Kd.R_far (p := ⟨gb529, 2, none⟩) (Kd.R_far (p := ⟨gb529, 1, none⟩) (Kd.R_far (p := ⟨gb529, 0, none⟩) (Kd.R_types HO523.out BK529.out (by decide)) (fun _ hk => hk.2) (.slice Ao25 t521.length co25)) (fun _ hk => hk.2) (.int .i64 t524)) (fun _ hk => hk.2) (.slice Ao28 t525.length co28)) (fun _ h_ => h_.1))) (Kd.R_base ho0) hb); have n5_ := Aside0.mk (Kd.R_elder' (by (with_reducible repeat (first | apply Kd.R_alloc | apply Kd.R_drewN | apply Kd.R_drew)); exact (Kd.R_mono (Kd.R_far (p := ⟨gb529, 2, none⟩) (Kd.R_far (p := ⟨gb529, 1, none⟩) (Kd.R_far (p := ⟨gb529, 0, none⟩) (Kd.R_types HO527.out BK529.out (by decide)) (fun _ hk => hk.2) (.slice Ao25 t521.length co25)) (fun _ hk => hk.2) (.int .i64 t524)) (fun _ hk => hk.2) (.slice Ao28 t525.length co28)) (fun _ h_ => h_.1))) (Kd.R_base ho0) hb); have n6_ := Aside0.mk (Kd.R_lower (Kd.R_new' (Kd.R_new' (Kd.R_new' (Kd.R_new' (Kd.R_mono (ok' := fun k_ => True) ho0 (fun _ hk_ => trivial)) (Kd.R_lt (by (with_reducible repeat (first | apply Kd.R_alloc | apply Kd.R_drewN | apply Kd.R_drew)); exact (Kd.R_mono (Kd.R_far (p := ⟨gb529, 2, none⟩) (Kd.R_far (p := ⟨gb529, 1, none⟩) (Kd.R_far (p := ⟨gb529, 0, none⟩) (Kd.R_types HO516.out BK529.out (by decide)) (fun _ hk => hk.2) (.slice Ao25 t521.length co25)) (fun _ hk => hk.2) (.int .i64 t524)) (fun _ hk => hk.2) (.slice Ao28 t525.length co28)) (fun _ h_ => h_.1))))) (Kd.R_lt (by (with_reducible repeat (first | apply Kd.R_alloc | apply Kd.R_drewN | apply Kd.R_drew)); exact (Kd.R_mono (Kd.R_far (p := ⟨gb529, 2, none⟩) (Kd.R_far (p := ⟨gb529, 1, none⟩) (Kd.R_far (p := ⟨gb529, 0, none⟩) (Kd.R_types HO520.out BK529.out (by decide)) (fun _ hk => hk.2) (.slice Ao25 t521.length co25)) (fun _ hk => hk.2) (.int .i64 t524)) (fun _ hk => hk.2) (.slice Ao28 t525.length co28)) (fun _ h_ => h_.1))))) (Kd.R_lt (by (with_reducible repeat (first | apply Kd.R_alloc | apply Kd.R_drewN | apply Kd.R_drew)); exact (Kd.R_mono (Kd.R_far (p := ⟨gb529, 2, none⟩) (Kd.R_far (p := ⟨gb529, 1, none⟩) (Kd.R_far (p := ⟨gb529, 0, none⟩) (Kd.R_types HO523.out BK529.out (by decide)) (fun _ hk => hk.2) (.slice Ao25 t521.length co25)) (fun _ hk => hk.2) (.int .i64 t524)) (fun _ hk => hk.2) (.slice Ao28 t525.length co28)) (fun _ h_ => h_.1))))) (Kd.R_lt (by (with_reducible repeat (first | apply Kd.R_alloc | apply Kd.R_drewN | apply Kd.R_drew)); exact (Kd.R_mono (Kd.R_far (p := ⟨gb529, 2, none⟩) (Kd.R_far (p := ⟨gb529, 1, none⟩) (Kd.R_far (p := ⟨gb529, 0, none⟩) (Kd.R_types HO527.out BK529.out (by decide)) (fun _ hk => hk.2) (.slice Ao25 t521.length co25)) (fun _ hk => hk.2) (.int .i64 t524)) (fun _ hk => hk.2) (.slice Ao28 t525.length co28)) (fun _ h_ => h_.1))))) (below_size (by repeat (first | (with_reducible first | exact HB.out | apply below_alloc | apply pw_below_drewN | apply below_drew1 | refine below_set ?_ GE506.out | refine below_set ?_ GE507.out | refine below_set ?_ GE529.out) | exact HB.out)))); have n7_ := Aside0.mk (Kd.V_lower (Kd.V_mono (ok' := fun k_ => some k_ ≠ (v531 : Value).ownBlock ∧ some k_ ≠ (v509 : Value).ownBlock ∧ some k_ ≠ (v512 : Value).ownBlock ∧ some k_ ≠ (v515 : Value).ownBlock ∧ some k_ ≠ (v519 : Value).ownBlock ∧ some k_ ≠ (.slice Ao25 t521.length co25 : Value).ownBlock ∧ some k_ ≠ (.slice Ao28 t525.length co28 : Value).ownBlock ∧ k_ ≠ gb506 ∧ k_ ≠ gb507 ∧ k_ ≠ gb529) ho1 (fun k_ hk_ => ⟨hk_.2, (Kd.fresh' (Kd.S_lt (by (with_reducible repeat (first | apply Kd.S_alloc | apply Kd.S_drewN | apply Kd.S_drew)); exact (Kd.S_mono (Kd.S_far (p := ⟨gb529, 2, none⟩) (Kd.S_far (p := ⟨gb529, 1, none⟩) (Kd.S_far (p := ⟨gb529, 0, none⟩) (Kd.S_types HO510.out BK529.out (by decide)) (fun _ hk => hk.2) (.slice Ao25 t521.length co25)) (fun _ hk => hk.2) (.int .i64 t524)) (fun _ hk => hk.2) (.slice Ao28 t525.length co28)) (fun _ h_ => h_.1)))) k_ hk_.1), (Kd.fresh' (Kd.R_lt (by (with_reducible repeat (first | apply Kd.R_alloc | apply Kd.R_drewN | apply Kd.R_drew)); exact (Kd.R_mono (Kd.R_far (p := ⟨gb529, 2, none⟩) (Kd.R_far (p := ⟨gb529, 1, none⟩) (Kd.R_far (p := ⟨gb529, 0, none⟩) (Kd.R_types HO513.out BK529.out (by decide)) (fun _ hk => hk.2) (.slice Ao25 t521.length co25)) (fun _ hk => hk.2) (.int .i64 t524)) (fun _ hk => hk.2) (.slice Ao28 t525.length co28)) (fun _ h_ => h_.1)))) k_ hk_.1), (Kd.fresh' (Kd.R_lt (by (with_reducible repeat (first | apply Kd.R_alloc | apply Kd.R_drewN | apply Kd.R_drew)); exact (Kd.R_mono (Kd.R_far (p := ⟨gb529, 2, none⟩) (Kd.R_far (p := ⟨gb529, 1, none⟩) (Kd.R_far (p := ⟨gb529, 0, none⟩) (Kd.R_types HO516.out BK529.out (by decide)) (fun _ hk => hk.2) (.slice Ao25 t521.length co25)) (fun _ hk => hk.2) (.int .i64 t524)) (fun _ hk => hk.2) (.slice Ao28 t525.length co28)) (fun _ h_ => h_.1)))) k_ hk_.1), (Kd.fresh' (Kd.R_lt (by (with_reducible repeat (first | apply Kd.R_alloc | apply Kd.R_drewN | apply Kd.R_drew)); exact (Kd.R_mono (Kd.R_far (p := ⟨gb529, 2, none⟩) (Kd.R_far (p := ⟨gb529, 1, none⟩) (Kd.R_far (p := ⟨gb529, 0, none⟩) (Kd.R_types HO520.out BK529.out (by decide)) (fun _ hk => hk.2) (.slice Ao25 t521.length co25)) (fun _ hk => hk.2) (.int .i64 t524)) (fun _ hk => hk.2) (.slice Ao28 t525.length co28)) (fun _ h_ => h_.1)))) k_ hk_.1), (Kd.fresh' (Kd.R_lt (by (with_reducible repeat (first | apply Kd.R_alloc | apply Kd.R_drewN | apply Kd.R_drew)); exact (Kd.R_mono (Kd.R_far (p := ⟨gb529, 2, none⟩) (Kd.R_far (p := ⟨gb529, 1, none⟩) (Kd.R_far (p := ⟨gb529, 0, none⟩) (Kd.R_types HO523.out BK529.out (by decide)) (fun _ hk => hk.2) (.slice Ao25 t521.length co25)) (fun _ hk => hk.2) (.int .i64 t524)) (fun _ hk => hk.2) (.slice Ao28 t525.length co28)) (fun _ h_ => h_.1)))) k_ hk_.1), (Kd.fresh' (Kd.R_lt (by (with_reducible repeat (first | apply Kd.R_alloc | apply Kd.R_drewN | apply Kd.R_drew)); exact (Kd.R_mono (Kd.R_far (p := ⟨gb529, 2, none⟩) (Kd.R_far (p := ⟨gb529, 1, none⟩) (Kd.R_far (p := ⟨gb529, 0, none⟩) (Kd.R_types HO527.out BK529.out (by decide)) (fun _ hk => hk.2) (.slice Ao25 t521.length co25)) (fun _ hk => hk.2) (.int .i64 t524)) (fun _ hk => hk.2) (.slice Ao28 t525.length co28)) (fun _ h_ => h_.1)))) k_ hk_.1), (Kd.freshB (g := gb506) (o := .cells #[.slice A0_0 l0_0.length c0_0, .slice A0_1 l0_1.length c0_1] 26 (0, 0)) (by (with_reducible repeat (first | refine blk_drewN ?_ _ | refine blk_drew ?_ | refine blk_alloc ?_ _)); refine blk_far ?_ NB506_529.out _; (with_reducible repeat (first | refine blk_drewN ?_ _ | refine blk_drew ?_ | refine blk_alloc ?_ _)); refine blk_far ?_ NB506_529.out _; (with_reducible repeat (first | refine blk_drewN ?_ _ | refine blk_drew ?_ | refine blk_alloc ?_ _)); refine blk_far ?_ NB506_529.out _; exact blk_any BK506.out) k_ hk_.1), (Kd.freshB (g := gb507) (o := .cells #[.slice A1_0 l1_0.length c1_0, .int .i64 a1_1, .slice A1_2 l1_2.length c1_2] 30 (0, 0)) (by (with_reducible repeat (first | refine blk_drewN ?_ _ | refine blk_drew ?_ | refine blk_alloc ?_ _)); refine blk_far ?_ NB507_529.out _; (with_reducible repeat (first | refine blk_drewN ?_ _ | refine blk_drew ?_ | refine blk_alloc ?_ _)); refine blk_far ?_ NB507_529.out _; (with_reducible repeat (first | refine blk_drewN ?_ _ | refine blk_drew ?_ | refine blk_alloc ?_ _)); refine blk_far ?_ NB507_529.out _; exact blk_any BK507.out) k_ hk_.1), (Kd.freshB (g := gb529) (o := .cells #[.slice Ao25 t521.length co25, .int .i64 t524, .slice Ao28 t525.length co28] 30 (0, 0)) (by (with_reducible repeat (first | refine blk_drewN ?_ _ | refine blk_drew ?_ | refine blk_alloc ?_ _)); refine blk_put (cs := #[.slice Ao25 t521.length co25, .int .i64 t524, .slice none 0 0]) ?_ 2 _ rfl; (with_reducible repeat (first | refine blk_drewN ?_ _ | refine blk_drew ?_ | refine blk_alloc ?_ _)); refine blk_put (cs := #[.slice Ao25 t521.length co25, .int .i64 0, .slice none 0 0]) ?_ 1 _ rfl; (with_reducible repeat (first | refine blk_drewN ?_ _ | refine blk_drew ?_ | refine blk_alloc ?_ _)); refine blk_put (cs := #[.slice none 0 0, .int .i64 0, .slice none 0 0]) ?_ 0 _ rfl; exact blk_any BK529.out) k_ hk_.1)⟩)) (below_size (by repeat (first | (with_reducible first | exact HB.out | apply below_alloc | apply pw_below_drewN | apply below_drew1 | refine below_set ?_ GE506.out | refine below_set ?_ GE507.out | refine below_set ?_ GE529.out) | exact HB.out)))); have n8_ := Aside0.mk (blk_below (g := gb506) (o := .cells #[.slice A0_0 l0_0.length c0_0, .slice A0_1 l0_1.length c0_1] 26 (0, 0)) (by (with_reducible repeat (first | refine blk_drewN ?_ _ | refine blk_drew ?_ | refine blk_alloc ?_ _)); refine blk_far ?_ NB506_529.out _; (with_reducible repeat (first | refine blk_drewN ?_ _ | refine blk_drew ?_ | refine blk_alloc ?_ _)); refine blk_far ?_ NB506_529.out _; (with_reducible repeat (first | refine blk_drewN ?_ _ | refine blk_drew ?_ | refine blk_alloc ?_ _)); refine blk_far ?_ NB506_529.out _; exact blk_any BK506.out) hb); have n9_ := Aside0.mk (blk_below (g := gb507) (o := .cells #[.slice A1_0 l1_0.length c1_0, .int .i64 a1_1, .slice A1_2 l1_2.length c1_2] 30 (0, 0)) (by (with_reducible repeat (first | refine blk_drewN ?_ _ | refine blk_drew ?_ | refine blk_alloc ?_ _)); refine blk_far ?_ NB507_529.out _; (with_reducible repeat (first | refine blk_drewN ?_ _ | refine blk_drew ?_ | refine blk_alloc ?_ _)); refine blk_far ?_ NB507_529.out _; (with_reducible repeat (first | refine blk_drewN ?_ _ | refine blk_drew ?_ | refine blk_alloc ?_ _)); refine blk_far ?_ NB507_529.out _; exact blk_any BK507.out) hb); have n10_ := Aside0.mk (blk_below (g := gb529) (o := .cells #[.slice Ao25 t521.length co25, .int .i64 t524, .slice Ao28 t525.length co28] 30 (0, 0)) (by (with_reducible repeat (first | refine blk_drewN ?_ _ | refine blk_drew ?_ | refine blk_alloc ?_ _)); refine blk_put (cs := #[.slice Ao25 t521.length co25, .int .i64 t524, .slice none 0 0]) ?_ 2 _ rfl; (with_reducible repeat (first | refine blk_drewN ?_ _ | refine blk_drew ?_ | refine blk_alloc ?_ _)); refine blk_put (cs := #[.slice Ao25 t521.length co25, .int .i64 0, .slice none 0 0]) ?_ 1 _ rfl; (with_reducible repeat (first | refine blk_drewN ?_ _ | refine blk_drew ?_ | refine blk_alloc ?_ _)); refine blk_put (cs := #[.slice none 0 0, .int .i64 0, .slice none 0 0]) ?_ 0 _ rfl; exact blk_any BK529.out) hb); have n11_ := Aside0.mk (below_step (by repeat (first | (with_reducible first | exact HB.out | apply below_alloc | apply pw_below_drewN | apply below_drew1 | refine below_set ?_ GE506.out | refine below_set ?_ GE507.out | refine below_set ?_ GE529.out) | exact HB.out)) hb); clear HO510; clear HO513; clear HO516; clear HO520; clear HO523; clear HO527; clear BK506; clear BK507; clear BK529; clear HB; have HO510 := n0_; have HO513 := n1_; have HO516 := n2_; have HO520 := n3_; have HO523 := n4_; have HO527 := n5_; have HO532 := n6_; have HO536 := n7_; have BK506 := n8_; have BK507 := n9_; have BK529 := n10_; have HB := n11_; clear n0_ n1_ n2_ n3_ n4_ n5_ n6_ n7_ n8_ n9_ n10_ n11_; (try clear hb); (try clear hb2); (try clear hk); (try clear hi); (try clear ho0); (try clear ho1)) | ((with_reducible refine gate_dst (N := 7) rfl ?_); refine box_event ?hg (N := 7) ?hd (cs := #[.slice none 0 0, .int .i64 0, .slice none 0 0]) (t := 30) ?hr ?_; (case hd => rfl); (case hg => rfl); (case hr => first | (go_simp; done) | (go_simp; rfl)); intro gb538 hg w36 hbox hb; have n0_ := Aside0.mk (Kd.S_below (S_any HO510.out) hb); have n1_ := Aside0.mk (Kd.R_below (R_any HO513.out) hb); have n2_ := Aside0.mk (Kd.R_below (R_any HO516.out) hb); have n3_ := Aside0.mk (Kd.R_below (R_any HO520.out) hb); have n4_ := Aside0.mk (Kd.R_below (R_any HO523.out) hb); have n5_ := Aside0.mk (Kd.R_below (R_any HO527.out) hb); have n6_ := Aside0.mk (Kd.R_below (R_any HO532.out) hb); have n7_ := Aside0.mk (Kd.V_below (Kd.V_elderB (by (with_reducible repeat (first | apply Kd.V_alloc | apply Kd.V_drewN | apply Kd.V_drew)); exact HO536.out) gb538 (Nat.le_of_eq hg.symm)) hb); have n8_ := Aside0.mk (blk_below (g := gb506) (o := .cells #[.slice A0_0 l0_0.length c0_0, .slice A0_1 l0_1.length c0_1] 26 (0, 0)) (blk_any BK506.out) hb); have n9_ := Aside0.mk (blk_below (g := gb507) (o := .cells #[.slice A1_0 l1_0.length c1_0, .int .i64 a1_1, .slice A1_2 l1_2.length c1_2] 30 (0, 0)) (blk_any BK507.out) hb); have n10_ := Aside0.mk (blk_below (g := gb529) (o := .cells #[.slice Ao25 t521.length co25, .int .i64 t524, .slice Ao28 t525.length co28] 30 (0, 0)) (blk_any BK529.out) hb); have n11_ := Aside0.mk (below_step (by repeat (first | (with_reducible first | exact HB.out | apply below_alloc | apply pw_below_drewN | apply below_drew1 | refine below_set ?_ GE506.out | refine below_set ?_ GE507.out | refine below_set ?_ GE529.out) | exact HB.out)) hb); have n12_ := Aside0.mk (hbox); have n13_ := Aside0.mk ((by rw [hg]; exact (below_size (by repeat (first | (with_reducible first | exact HB.out | apply below_alloc | apply pw_below_drewN | apply below_drew1 | refine below_set ?_ GE506.out | refine below_set ?_ GE507.out | refine below_set ?_ GE529.out) | exact HB.out))) : w.heap.size ≤ gb538)); have n14_ := Aside0.mk ((by rw [hg]; exact (below_size (by repeat (first | (with_reducible first | exact HB.out | apply below_alloc | apply pw_below_drewN | apply below_drew1 | refine below_set ?_ GE506.out | refine below_set ?_ GE507.out | refine below_set ?_ GE529.out) | exact HB.out))) : w.heap.size ≤ gb538)); have n15_ := Aside0.mk ((by rw [hg]; exact Nat.ne_of_lt (blk_lt (g := gb506) (o := .cells #[.slice A0_0 l0_0.length c0_0, .slice A0_1 l0_1.length c0_1] 26 (0, 0)) (blk_any BK506.out)) : gb506 ≠ gb538)); have n16_ := Aside0.mk ((by rw [hg]; exact Nat.ne_of_gt (blk_lt (g := gb506) (o := .cells #[.slice A0_0 l0_0.length c0_0, .slice A0_1 l0_1.length c0_1] 26 (0, 0)) (blk_any BK506.out)) : gb538 ≠ gb506)); have n17_ := Aside0.mk ((by rw [hg]; exact Nat.ne_of_lt (blk_lt (g := gb507) (o := .cells #[.slice A1_0 l1_0.length c1_0, .int .i64 a1_1, .slice A1_2 l1_2.length c1_2] 30 (0, 0)) (blk_any BK507.out)) : gb507 ≠ gb538)); have n18_ := Aside0.mk ((by rw [hg]; exact Nat.ne_of_gt (blk_lt (g := gb507) (o := .cells #[.slice A1_0 l1_0.length c1_0, .int .i64 a1_1, .slice A1_2 l1_2.length c1_2] 30 (0, 0)) (blk_any BK507.out)) : gb538 ≠ gb507)); have n19_ := Aside0.mk ((by rw [hg]; exact Nat.ne_of_lt (blk_lt (g := gb529) (o := .cells #[.slice Ao25 t521.length co25, .int .i64 t524, .slice Ao28 t525.length co28] 30 (0, 0)) (blk_any BK529.out)) : gb529 ≠ gb538)); have n20_ := Aside0.mk ((by rw [hg]; exact Nat.ne_of_gt (blk_lt (g := gb529) (o := .cells #[.slice Ao25 t521.length co25, .int .i64 t524, .slice Ao28 t525.length co28] 30 (0, 0)) (blk_any BK529.out)) : gb538 ≠ gb529)); clear HO510; clear HO513; clear HO516; clear HO520; clear HO523; clear HO527; clear HO532; clear HO536; clear BK506; clear BK507; clear BK529; clear HB; have HO510 := n0_; have HO513 := n1_; have HO516 := n2_; have HO520 := n3_; have HO523 := n4_; have HO527 := n5_; have HO532 := n6_; have HO536 := n7_; have BK506 := n8_; have BK507 := n9_; have BK529 := n10_; have HB := n11_; have BK538 := n12_; have GW538 := n13_; have GE538 := n14_; have NB506_538 := n15_; have NB538_506 := n16_; have NB507_538 := n17_; have NB538_507 := n18_; have NB529_538 := n19_; have NB538_529 := n20_; clear n0_ n1_ n2_ n3_ n4_ n5_ n6_ n7_ n8_ n9_ n10_ n11_ n12_ n13_ n14_ n15_ n16_ n17_ n18_ n19_ n20_; clear hb hbox hg; obtain ⟨Ao37, co37, eo37⟩ := Kd.R_slice HO532.out; subst eo37; have hnb38 := NB538_506.out; have hnc38 := NB506_538.out; have hnb39 := NB538_507.out; have hnc39 := NB507_538.out; have hnb40 := NB538_529.out; have hnc40 := NB529_538.out; have hcz41_0 : w36.cell? ⟨gb538, 0, none⟩ = some (.slice none 0 0) := (blk_cell BK538.out 0).trans rfl; have hcz41_1 : w36.cell? ⟨gb538, 1, none⟩ = some (.int .i64 0) := (blk_cell BK538.out 1).trans rfl; have hcz41_2 : w36.cell? ⟨gb538, 2, none⟩ = some (.slice none 0 0) := (blk_cell BK538.out 2).trans rfl; have hfz41_0 := blk_frozen BK538.out 0; have hfz41_1 := blk_frozen BK538.out 1; have hfz41_2 := blk_frozen BK538.out 2; obtain ⟨Ao42, co42, eo42⟩ := Kd.V_slice HO536.out; subst eo42) | ((with_reducible refine gate_callee (f := 14) rfl ?_); refine goesL_ (some 30) rfl rfl Try.func14 (by kernel_rfl) rfl #[] rfl (by (try simp only [List.map_toArray, List.map_cons, List.map_nil]); first | done | rfl | (simp only [List.length_drop, List.length_take]; rfl)) ?_; (with_reducible refine (fulcrumlaw21_lives.calls k  true _ A8.out).mono ?_); rintro e w43 ⟨rfl, hb⟩; refine ⟨_, rfl, ?_⟩; have n0_ := Aside0.mk (Kd.S_below (by (with_reducible repeat (first | apply Kd.S_alloc | apply Kd.S_drewN | apply Kd.S_drew)); exact (Kd.S_mono (Kd.S_far (p := ⟨gb538, 2, none⟩) (Kd.S_far (p := ⟨gb538, 1, none⟩) (Kd.S_far (p := ⟨gb538, 0, none⟩) (Kd.S_types HO510.out BK538.out (by decide)) (fun _ hk => hk.2) (.slice Ao37 t530.length co37)) (fun _ hk => hk.2) (.int .i64 t533)) (fun _ hk => hk.2) (.slice Ao42 t534.length co42)) (fun _ h_ => h_.1))) hb); have n1_ := Aside0.mk (Kd.R_below (by (with_reducible repeat (first | apply Kd.R_alloc | apply Kd.R_drewN | apply Kd.R_drew)); exact (Kd.R_mono (Kd.R_far (p := ⟨gb538, 2, none⟩) (Kd.R_far (p := ⟨gb538, 1, none⟩) (Kd.R_far (p := ⟨gb538, 0, none⟩) (Kd.R_types HO513.out BK538.out (by decide)) (fun _ hk => hk.2) (.slice Ao37 t530.length co37)) (fun _ hk => hk.2) (.int .i64 t533)) (fun _ hk => hk.2) (.slice Ao42 t534.length co42)) (fun _ h_ => h_.1))) hb); have n2_ := Aside0.mk (Kd.R_below (by (with_reducible repeat (first | apply Kd.R_alloc | apply Kd.R_drewN | apply Kd.R_drew)); exact (Kd.R_mono (Kd.R_far (p := ⟨gb538, 2, none⟩) (Kd.R_far (p := ⟨gb538, 1, none⟩) (Kd.R_far (p := ⟨gb538, 0, none⟩) (Kd.R_types HO516.out BK538.out (by decide)) (fun _ hk => hk.2) (.slice Ao37 t530.length co37)) (fun _ hk => hk.2) (.int .i64 t533)) (fun _ hk => hk.2) (.slice Ao42 t534.length co42)) (fun _ h_ => h_.1))) hb); have n3_ := Aside0.mk (Kd.R_below (by (with_reducible repeat (first | apply Kd.R_alloc | apply Kd.R_drewN | apply Kd.R_drew)); exact (Kd.R_mono (Kd.R_far (p := ⟨gb538, 2, none⟩) (Kd.R_far (p := ⟨gb538, 1, none⟩) (Kd.R_far (p := ⟨gb538, 0, none⟩) (Kd.R_types HO520.out BK538.out (by decide)) (fun _ hk => hk.2) (.slice Ao37 t530.length co37)) (fun _ hk => hk.2) (.int .i64 t533)) (fun _ hk => hk.2) (.slice Ao42 t534.length co42)) (fun _ h_ => h_.1))) hb); have n4_ := Aside0.mk (Kd.R_below (by (with_reducible repeat (first | apply Kd.R_alloc | apply Kd.R_drewN | apply Kd.R_drew)); exact (Kd.R_mono (Kd.R_far (p := ⟨gb538, 2, none⟩) (Kd.R_far (p := ⟨gb538, 1, none⟩) (Kd.R_far (p := ⟨gb538, 0, none⟩) (Kd.R_types HO523.out BK538.out (by decide)) (fun _ hk => hk.2) (.slice Ao37 t530.length co37)) (fun _ hk => hk.2) (.int .i64 t533)) (fun _ hk => hk.2) (.slice Ao42 t534.length co42)) (fun _ h_ => h_.1))) hb); have n5_ := Aside0.mk (Kd.R_below (by (with_reducible repeat (first | apply Kd.R_alloc | apply Kd.R_drewN | apply Kd.R_drew)); exact (Kd.R_mono (Kd.R_far (p := ⟨gb538, 2, none⟩) (Kd.R_far (p := ⟨gb538, 1, none⟩) (Kd.R_far (p := ⟨gb538, 0, none⟩) (Kd.R_types HO527.out BK538.out (by decide)) (fun _ hk => hk.2) (.slice Ao37 t530.length co37)) (fun _ hk => hk.2) (.int .i64 t533)) (fun _ hk => hk.2) (.slice Ao42 t534.length co42)) (fun _ h_ => h_.1))) hb); have n6_ := Aside0.mk (Kd.R_below (by (with_reducible repeat (first | apply Kd.R_alloc | apply Kd.R_drewN | apply Kd.R_drew)); exact (Kd.R_mono (Kd.R_far (p := ⟨gb538, 2, none⟩) (Kd.R_far (p := ⟨gb538, 1, none⟩) (Kd.R_far (p := ⟨gb538, 0, none⟩) (Kd.R_types HO532.out BK538.out (by decide)) (fun _ hk => hk.2) (.slice Ao37 t530.length co37)) (fun _ hk => hk.2) (.int .i64 t533)) (fun _ hk => hk.2) (.slice Ao42 t534.length co42)) (fun _ h_ => h_.1))) hb); have n7_ := Aside0.mk (Kd.V_below (by (with_reducible repeat (first | apply Kd.V_alloc | apply Kd.V_drewN | apply Kd.V_drew)); exact (Kd.V_mono (Kd.V_far (p := ⟨gb538, 2, none⟩) (Kd.V_far (p := ⟨gb538, 1, none⟩) (Kd.V_far (p := ⟨gb538, 0, none⟩) (Kd.V_mono HO536.out (fun k_ hk => (⟨hk, hk.2⟩ : _ ∧ k_ ≠ gb538))) (fun _ hk => hk.2) (.slice Ao37 t530.length co37)) (fun _ hk => hk.2) (.int .i64 t533)) (fun _ hk => hk.2) (.slice Ao42 t534.length co42)) (fun _ h_ => h_.1))) hb); have n8_ := Aside0.mk (blk_below (g := gb506) (o := .cells #[.slice A0_0 l0_0.length c0_0, .slice A0_1 l0_1.length c0_1] 26 (0, 0)) (by (with_reducible repeat (first | refine blk_drewN ?_ _ | refine blk_drew ?_ | refine blk_alloc ?_ _)); refine blk_far ?_ NB506_538.out _; (with_reducible repeat (first | refine blk_drewN ?_ _ | refine blk_drew ?_ | refine blk_alloc ?_ _)); refine blk_far ?_ NB506_538.out _; (with_reducible repeat (first | refine blk_drewN ?_ _ | refine blk_drew ?_ | refine blk_alloc ?_ _)); refine blk_far ?_ NB506_538.out _; exact blk_any BK506.out) hb); have n9_ := Aside0.mk (blk_below (g := gb507) (o := .cells #[.slice A1_0 l1_0.length c1_0, .int .i64 a1_1, .slice A1_2 l1_2.length c1_2] 30 (0, 0)) (by (with_reducible repeat (first | refine blk_drewN ?_ _ | refine blk_drew ?_ | refine blk_alloc ?_ _)); refine blk_far ?_ NB507_538.out _; (with_reducible repeat (first | refine blk_drewN ?_ _ | refine blk_drew ?_ | refine blk_alloc ?_ _)); refine blk_far ?_ NB507_538.out _; (with_reducible repeat (first | refine blk_drewN ?_ _ | refine blk_drew ?_ | refine blk_alloc ?_ _)); refine blk_far ?_ NB507_538.out _; exact blk_any BK507.out) hb); have n10_ := Aside0.mk (blk_below (g := gb529) (o := .cells #[.slice Ao25 t521.length co25, .int .i64 t524, .slice Ao28 t525.length co28] 30 (0, 0)) (by (with_reducible repeat (first | refine blk_drewN ?_ _ | refine blk_drew ?_ | refine blk_alloc ?_ _)); refine blk_far ?_ NB529_538.out _; (with_reducible repeat (first | refine blk_drewN ?_ _ | refine blk_drew ?_ | refine blk_alloc ?_ _)); refine blk_far ?_ NB529_538.out _; (with_reducible repeat (first | refine blk_drewN ?_ _ | refine blk_drew ?_ | refine blk_alloc ?_ _)); refine blk_far ?_ NB529_538.out _; exact blk_any BK529.out) hb); have n11_ := Aside0.mk (blk_below (g := gb538) (o := .cells #[.slice Ao37 t530.length co37, .int .i64 t533, .slice Ao42 t534.length co42] 30 (0, 0)) (by (with_reducible repeat (first | refine blk_drewN ?_ _ | refine blk_drew ?_ | refine blk_alloc ?_ _)); refine blk_put (cs := #[.slice Ao37 t530.length co37, .int .i64 t533, .slice none 0 0]) ?_ 2 _ rfl; (with_reducible repeat (first | refine blk_drewN ?_ _ | refine blk_drew ?_ | refine blk_alloc ?_ _)); refine blk_put (cs := #[.slice Ao37 t530.length co37, .int .i64 0, .slice none 0 0]) ?_ 1 _ rfl; (with_reducible repeat (first | refine blk_drewN ?_ _ | refine blk_drew ?_ | refine blk_alloc ?_ _)); refine blk_put (cs := #[.slice none 0 0, .int .i64 0, .slice none 0 0]) ?_ 0 _ rfl; exact blk_any BK538.out) hb); have n12_ := Aside0.mk (below_step (by repeat (first | (with_reducible first | exact HB.out | apply below_alloc | apply pw_below_drewN | apply below_drew1 | refine below_set ?_ GE506.out | refine below_set ?_ GE507.out | refine below_set ?_ GE529.out | refine below_set ?_ GE538.out) | exact HB.out)) hb); clear HO510; clear HO513; clear HO516; clear HO520; clear HO523; clear HO527; clear HO532; clear HO536; clear BK506; clear BK507; clear BK529; clear BK538; clear HB; have HO510 := n0_; have HO513 := n1_; have HO516 := n2_; have HO520 := n3_; have HO523 := n4_; have HO527 := n5_; have HO532 := n6_; have HO536 := n7_; have BK506 := n8_; have BK507 := n9_; have BK529 := n10_; have BK538 := n11_; have HB := n12_; clear n0_ n1_ n2_ n3_ n4_ n5_ n6_ n7_ n8_ n9_ n10_ n11_ n12_; (try clear hb); (try clear hb2); (try clear hk); (try clear hi); have hcz44_0 : w43.cell? ⟨gb529, 0, none⟩ = some (.slice Ao25 t521.length co25) := (blk_cell BK529.out 0).trans rfl; have hcz44_1 : w43.cell? ⟨gb529, 1, none⟩ = some (.int .i64 t524) := (blk_cell BK529.out 1).trans rfl; have hcz44_2 : w43.cell? ⟨gb529, 2, none⟩ = some (.slice Ao28 t525.length co28) := (blk_cell BK529.out 2).trans rfl; have hfz44_0 := blk_frozen BK529.out 0; have hfz44_1 := blk_frozen BK529.out 1; have hfz44_2 := blk_frozen BK529.out 2; have hcz45_0 : w43.cell? ⟨gb538, 0, none⟩ = some (.slice Ao37 t530.length co37) := (blk_cell BK538.out 0).trans rfl; have hcz45_1 : w43.cell? ⟨gb538, 1, none⟩ = some (.int .i64 t533) := (blk_cell BK538.out 1).trans rfl; have hcz45_2 : w43.cell? ⟨gb538, 2, none⟩ = some (.slice Ao42 t534.length co42) := (blk_cell BK538.out 2).trans rfl; have hfz45_0 := blk_frozen BK538.out 0; have hfz45_1 := blk_frozen BK538.out 1; have hfz45_2 := blk_frozen BK538.out 2) | (go_at_call 19; (with_reducible refine (fulcrumlaw21_alike.calls k _ _ t521 t524 _ _ t525 _ _ t530 t533 _ _ t534 true _ ?side1 ?side2 ?side3 ?side4 ?side5 ?side6 ?side7 ?side8 A11.out).mono ?_); (case side1 => repeat (first | exact (Kd.R_reads' HO523.out).2.2 | (with_reducible refine Kd.C_alloc ?_ _) | (with_reducible refine Kd.C_drewN ?_ _) | (with_reducible refine Kd.C_drew ?_))); (case side2 => exact (Kd.R_reads' HO523.out).2.1); (case side3 => repeat (first | exact (Kd.R_reads' HO527.out).2.2 | (with_reducible refine Kd.C_alloc ?_ _) | (with_reducible refine Kd.C_drewN ?_ _) | (with_reducible refine Kd.C_drew ?_))); (case side4 => exact (Kd.R_reads' HO527.out).2.1); (case side5 => repeat (first | exact (Kd.R_reads' HO532.out).2.2 | (with_reducible refine Kd.C_alloc ?_ _) | (with_reducible refine Kd.C_drewN ?_ _) | (with_reducible refine Kd.C_drew ?_))); (case side6 => exact (Kd.R_reads' HO532.out).2.1); (case side7 => repeat (first | exact (Kd.V_reads' HO536.out).2.2 | (with_reducible refine Kd.C_alloc ?_ _) | (with_reducible refine Kd.C_drewN ?_ _) | (with_reducible refine Kd.C_drew ?_))); (case side8 => exact (Kd.V_reads' HO536.out).2.1); rintro e w46 ⟨rfl, hb⟩; have n0_ := Aside0.mk (Kd.S_below (S_any HO510.out) hb); have n1_ := Aside0.mk (Kd.R_below (R_any HO513.out) hb); have n2_ := Aside0.mk (Kd.R_below (R_any HO516.out) hb); have n3_ := Aside0.mk (Kd.R_below (R_any HO520.out) hb); have n4_ := Aside0.mk (Kd.R_below (R_any HO523.out) hb); have n5_ := Aside0.mk (Kd.R_below (R_any HO527.out) hb); have n6_ := Aside0.mk (Kd.R_below (R_any HO532.out) hb); have n7_ := Aside0.mk (Kd.V_below (by (with_reducible repeat (first | apply Kd.V_alloc | apply Kd.V_drewN | apply Kd.V_drew)); exact HO536.out) hb); have n8_ := Aside0.mk (blk_below (g := gb506) (o := .cells #[.slice A0_0 l0_0.length c0_0, .slice A0_1 l0_1.length c0_1] 26 (0, 0)) (blk_any BK506.out) hb); have n9_ := Aside0.mk (blk_below (g := gb507) (o := .cells #[.slice A1_0 l1_0.length c1_0, .int .i64 a1_1, .slice A1_2 l1_2.length c1_2] 30 (0, 0)) (blk_any BK507.out) hb); have n10_ := Aside0.mk (blk_below (g := gb529) (o := .cells #[.slice Ao25 t521.length co25, .int .i64 t524, .slice Ao28 t525.length co28] 30 (0, 0)) (blk_any BK529.out) hb); have n11_ := Aside0.mk (blk_below (g := gb538) (o := .cells #[.slice Ao37 t530.length co37, .int .i64 t533, .slice Ao42 t534.length co42] 30 (0, 0)) (blk_any BK538.out) hb); have n12_ := Aside0.mk (below_step (by repeat (first | (with_reducible first | exact HB.out | apply below_alloc | apply pw_below_drewN | apply below_drew1 | refine below_set ?_ GE506.out | refine below_set ?_ GE507.out | refine below_set ?_ GE529.out | refine below_set ?_ GE538.out) | exact HB.out)) hb); clear HO510; clear HO513; clear HO516; clear HO520; clear HO523; clear HO527; clear HO532; clear HO536; clear BK506; clear BK507; clear BK529; clear BK538; clear HB; have HO510 := n0_; have HO513 := n1_; have HO516 := n2_; have HO520 := n3_; have HO523 := n4_; have HO527 := n5_; have HO532 := n6_; have HO536 := n7_; have BK506 := n8_; have BK507 := n9_; have BK529 := n10_; have BK538 := n11_; have HB := n12_; clear n0_ n1_ n2_ n3_ n4_ n5_ n6_ n7_ n8_ n9_ n10_ n11_ n12_; (try clear hb); (try clear hb2); (try clear hk); (try clear hi)))
   go_ret
   exact ⟨by first | rfl | (simp [errW_none, errW_some] <;> rfl) | (simp [*, errW_none, errW_some] <;> rfl), by repeat (first | (with_reducible first | exact HB.out | apply below_alloc | apply pw_below_drewN | apply below_drew1 | refine below_set ?_ GE506.out | refine below_set ?_ GE507.out | refine below_set ?_ GE529.out | refine below_set ?_ GE538.out) | exact HB.out)⟩
  ·rw [if_neg c10] at H
   exact absurd (H.trans (congrArg some hr_)) (by simp)
 ·replace c9 := Bool.eq_false_iff.mpr c9
  subst c9
  have H1 : (some false) = some r := by rw [if_neg (show ¬ (false = true) by decide)] at H; exact H
  exact absurd (H1.trans (congrArg some hr_)) (by simp)
end Go.Proofs.Ytboalbiicmcljaa.PAN
