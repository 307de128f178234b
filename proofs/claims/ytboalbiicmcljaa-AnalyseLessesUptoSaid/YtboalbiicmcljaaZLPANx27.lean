import Derived.Test.YtboalbiicmcljaaZLPANx0
import Derived.Test.YtboalbiicmcljaaZLPANx12
import Derived.Test.YtboalbiicmcljaaZLPANx13
import Derived.Test.YtboalbiicmcljaaZLPANx14
import Derived.Test.YtboalbiicmcljaaZLPANx25
import Derived.Test.YtboalbiicmcljaaZLPANx26
namespace Go.Proofs.Ytboalbiicmcljaa.PAN
open Go.Proofs.YtboalbiicmcljaaH
open Go.RowKit Go.Proofs.YtboalbiicmcljaaW.PrintWords Go.Proofs.YtboalbiicmcljaaW.PrintLast Go.Proofs.YtboalbiicmcljaaW.PrintMore
attribute [local go_sem] max2_int min2_int max_two min_two max_three min_three max_four min_four   -- for this text's walks alone
set_option linter.unusedVariables false
set_option linter.unusedSimpArgs false
mutual
def fulcrumref21_Less.l0 : Nat → List (List Int) → List (S49) → Int → List Int → List Int → Int → List Int → Int → List Int → Option (List Int × Int × List Int × Int)
 | 0, _, _, _, _, _, _, _, _, _ => none
 | k + 1, x0, x1, x9, x10, x11, x12, x463000, x463001, x463002 => if x12 < (x463002.length : Int) then (if 0 ≤ x12 then (if x11.length < 17592186044416 then (fulcrumref21_Less.l0 k x0 x1 x9 x10 (x11 ++ [rd x463002 x12]) (wrap64 (x12 + 1)) x463000 x463001 x463002) else (none)) else (none)) else ((fulcrumref21_without.f k x10 x9).bind fun t477 => ((fulcrumref21_falling.f k x1 t477).bind fun t480 => (fulcrumref21_Less.l1 k x0 x1 x9 x10 x11 t480 0)))
def fulcrumref21_Less.l1 : Nat → List (List Int) → List (S49) → Int → List Int → List Int → List Int → Int → Option (List Int × Int × List Int × Int)
 | 0, _, _, _, _, _, _, _ => none
 | k + 1, x0, x1, x9, x10, x11, x13, x14 => if x14 < (x13.length : Int) then (if 0 ≤ x14 then ((fulcrumref21_needless.f k x0 x1 x10 (rd x13 x14)).bind fun t491 => (if t491 = true then ((fulcrumref21_resolved.f k x0 x1 x10 (rd x13 x14)).bind fun bt493 => (if x11.length < 17592186044416 then ((fulcrumref21_cleaned.f k x0 x1 bt493.1 (x11 ++ [bt493.2])).bind fun bt500 => (fulcrumref21_Less.l1 k x0 x1 x9 bt500.1 bt500.2 x13 (wrap64 (x14 + 1)))) else (none))) else (fulcrumref21_Less.l1 k x0 x1 x9 x10 x11 x13 (wrap64 (x14 + 1))))) else (none)) else ((fulcrumref21_learnt.f k x1 x9 x10 x11).bind fun bt483 => (some (bt483.1, bt483.2.1, bt483.2.2, 0)))
end
def fulcrumref21_Less.f (k : Nat) (l0 : List (List Int)) (l1 : List (S49)) (l2_0 : List Int) (a2_1 : Int) (l2_2 : List Int) : Option (List Int × Int × List Int × Int) := (fulcrumref21_Check.f k l0 l1).bind fun t464 => (if t464 = 0 then ((fulcrumref21_right.f k l1 l2_0).bind fun t465 => (if t465 = true then (if 0 < (l2_0.length : Int) then ((fulcrumref21_set.f k l2_0).bind fun t467 => (fulcrumref21_Less.l0 k l0 l1 (rd l2_0 0) t467 (([] : List Int)) 0 l2_0 a2_1 l2_2)) else (none)) else (some (([] : List Int), 0, ([] : List Int), 210)))) else (some (([] : List Int), 0, ([] : List Int), t464)))
theorem fulcrumref21_Less.mono_l : ∀ k, (∀ y0 y1 y2 y3 y4 y5 y6 y7 y8, LeO (fulcrumref21_Less.l0 k y0 y1 y2 y3 y4 y5 y6 y7 y8) (fulcrumref21_Less.l0 (k + 1) y0 y1 y2 y3 y4 y5 y6 y7 y8)) ∧ (∀ y0 y1 y2 y3 y4 y5 y6, LeO (fulcrumref21_Less.l1 k y0 y1 y2 y3 y4 y5 y6) (fulcrumref21_Less.l1 (k + 1) y0 y1 y2 y3 y4 y5 y6))
 | 0 => ⟨fun _ _ _ _ _ _ _ _ _ r h => by simp [fulcrumref21_Less.l0] at h, fun _ _ _ _ _ _ _ r h => by simp [fulcrumref21_Less.l1] at h⟩
 | k + 1 => by
  obtain ⟨ih0, ih1⟩ := fulcrumref21_Less.mono_l k
  refine ⟨?_, ?_⟩
  ·intro y0 y1 y2 y3 y4 y5 y6 y7 y8
   unfold fulcrumref21_Less.l0
   repeat' first
   | (with_reducible exact ih0 _ _ _ _ _ _ _ _ _)
   | (with_reducible exact ih1 _ _ _ _ _ _ _)
   | (with_reducible exact fulcrumref21_Check.mono _ _ _)
   | (with_reducible exact fulcrumref21_cleaned.mono _ _ _ _ _)
   | (with_reducible exact fulcrumref21_falling.mono _ _ _)
   | (with_reducible exact fulcrumref21_learnt.mono _ _ _ _ _)
   | (with_reducible exact fulcrumref21_needless.mono _ _ _ _ _)
   | (with_reducible exact fulcrumref21_resolved.mono _ _ _ _ _)
   | (with_reducible exact fulcrumref21_right.mono _ _ _)
   | (with_reducible exact fulcrumref21_set.mono _ _)
   | (with_reducible exact fulcrumref21_without.mono _ _ _)
   | (with_reducible exact LeO.refl _)
   | (with_reducible exact LeO.none _)
   | (with_reducible refine LeO.ite ?_ ?_)
   | (with_reducible refine LeO.bind ?_ (fun _ => ?_))
   | exact ih0 _ _ _ _ _ _ _ _ _
   | exact ih1 _ _ _ _ _ _ _
   | exact fulcrumref21_Check.mono _ _ _
   | exact fulcrumref21_cleaned.mono _ _ _ _ _
   | exact fulcrumref21_falling.mono _ _ _
   | exact fulcrumref21_learnt.mono _ _ _ _ _
   | exact fulcrumref21_needless.mono _ _ _ _ _
   | exact fulcrumref21_resolved.mono _ _ _ _ _
   | exact fulcrumref21_right.mono _ _ _
   | exact fulcrumref21_set.mono _ _
   | exact fulcrumref21_without.mono _ _ _
   | exact LeO.none _
   | refine LeO.ite ?_ ?_
   | refine LeO.bind ?_ (fun _ => ?_)
  ·intro y0 y1 y2 y3 y4 y5 y6
   unfold fulcrumref21_Less.l1
   repeat' first
   | (with_reducible exact ih0 _ _ _ _ _ _ _ _ _)
   | (with_reducible exact ih1 _ _ _ _ _ _ _)
   | (with_reducible exact fulcrumref21_Check.mono _ _ _)
   | (with_reducible exact fulcrumref21_cleaned.mono _ _ _ _ _)
   | (with_reducible exact fulcrumref21_falling.mono _ _ _)
   | (with_reducible exact fulcrumref21_learnt.mono _ _ _ _ _)
   | (with_reducible exact fulcrumref21_needless.mono _ _ _ _ _)
   | (with_reducible exact fulcrumref21_resolved.mono _ _ _ _ _)
   | (with_reducible exact fulcrumref21_right.mono _ _ _)
   | (with_reducible exact fulcrumref21_set.mono _ _)
   | (with_reducible exact fulcrumref21_without.mono _ _ _)
   | (with_reducible exact LeO.refl _)
   | (with_reducible exact LeO.none _)
   | (with_reducible refine LeO.ite ?_ ?_)
   | (with_reducible refine LeO.bind ?_ (fun _ => ?_))
   | exact ih0 _ _ _ _ _ _ _ _ _
   | exact ih1 _ _ _ _ _ _ _
   | exact fulcrumref21_Check.mono _ _ _
   | exact fulcrumref21_cleaned.mono _ _ _ _ _
   | exact fulcrumref21_falling.mono _ _ _
   | exact fulcrumref21_learnt.mono _ _ _ _ _
   | exact fulcrumref21_needless.mono _ _ _ _ _
   | exact fulcrumref21_resolved.mono _ _ _ _ _
   | exact fulcrumref21_right.mono _ _ _
   | exact fulcrumref21_set.mono _ _
   | exact fulcrumref21_without.mono _ _ _
   | exact LeO.none _
   | refine LeO.ite ?_ ?_
   | refine LeO.bind ?_ (fun _ => ?_)
theorem fulcrumref21_Less.mono : ∀ a0 a1 a2 a3 a4 k, LeO (fulcrumref21_Less.f k a0 a1 a2 a3 a4) (fulcrumref21_Less.f (k + 1) a0 a1 a2 a3 a4) := by
 intro a0 a1 a2 a3 a4 k
 obtain ⟨ih0, ih1⟩ := fulcrumref21_Less.mono_l k
 unfold fulcrumref21_Less.f
 repeat' first
   | (with_reducible exact ih0 _ _ _ _ _ _ _ _ _)
   | (with_reducible exact ih1 _ _ _ _ _ _ _)
   | (with_reducible exact fulcrumref21_Check.mono _ _ _)
   | (with_reducible exact fulcrumref21_cleaned.mono _ _ _ _ _)
   | (with_reducible exact fulcrumref21_falling.mono _ _ _)
   | (with_reducible exact fulcrumref21_learnt.mono _ _ _ _ _)
   | (with_reducible exact fulcrumref21_needless.mono _ _ _ _ _)
   | (with_reducible exact fulcrumref21_resolved.mono _ _ _ _ _)
   | (with_reducible exact fulcrumref21_right.mono _ _ _)
   | (with_reducible exact fulcrumref21_set.mono _ _)
   | (with_reducible exact fulcrumref21_without.mono _ _ _)
   | (with_reducible exact LeO.refl _)
   | (with_reducible exact LeO.none _)
   | (with_reducible refine LeO.ite ?_ ?_)
   | (with_reducible refine LeO.bind ?_ (fun _ => ?_))
   | exact ih0 _ _ _ _ _ _ _ _ _
   | exact ih1 _ _ _ _ _ _ _
   | exact fulcrumref21_Check.mono _ _ _
   | exact fulcrumref21_cleaned.mono _ _ _ _ _
   | exact fulcrumref21_falling.mono _ _ _
   | exact fulcrumref21_learnt.mono _ _ _ _ _
   | exact fulcrumref21_needless.mono _ _ _ _ _
   | exact fulcrumref21_resolved.mono _ _ _ _ _
   | exact fulcrumref21_right.mono _ _ _
   | exact fulcrumref21_set.mono _ _
   | exact fulcrumref21_without.mono _ _ _
   | exact LeO.none _
   | refine LeO.ite ?_ ?_
   | refine LeO.bind ?_ (fun _ => ?_)
set_option maxHeartbeats 8000000 in
set_option maxRecDepth 100000 in
theorem fulcrumref21_Less.calls (k : Nat) (A0 : Option Addr) (c0 : Nat) (l0 : List (List Int)) (A1 : Option Addr) (c1 : Nat) (l1 : List (S49)) (A2_0 : Option Addr) (c2_0 : Nat) (l2_0 : List Int) (a2_1 : Int) (A2_2 : Option Addr) (c2_2 : Nat) (l2_2 : List Int) (r1 : List Int) (r2 : Int) (r3 : List Int) (r4 : Int) (w : World) (hr0 : Kd.C (Kd.slice 3 (Kd.int .i64)) w A0 l0.length l0) (hc0 : l0.length ≤ c0) (hr1 : Kd.C k49 w A1 l1.length l1) (hc1 : l1.length ≤ c1) (hr2_0 : Kd.C (Kd.int .i64) w A2_0 l2_0.length l2_0) (hc2_0 : l2_0.length ≤ c2_0) (hr2_2 : Kd.C (Kd.int .i64) w A2_2 l2_2.length l2_2) (hc2_2 : l2_2.length ≤ c2_2) (h : fulcrumref21_Less.f k l0 l1 l2_0 a2_1 l2_2 = some (r1, r2, r3, r4)) :
  Calls Try.prog 32 #[.slice A0 l0.length c0, .slice A1 l1.length c1, .agg #[.slice A2_0 l2_0.length c2_0, .int .i64 a2_1, .slice A2_2 l2_2.length c2_2]] w fun e w' => ∃ v0_ v2_ : Value, e = .returned (.tuple #[.agg #[v0_, .int .i64 r2, v2_], .int .i64 r4]) ∧ Kd.R (Kd.int .i64) 3 w' w.heap.size (fun k_ => (w.heap.size ≤ k_)) v0_ r1 ∧ Kd.V (Kd.int .i64) 3 w' w.heap.size (fun k_ => (w.heap.size ≤ k_) ∧ some k_ ≠ (v0_ : Value).ownBlock) v2_ r3 ∧ Below w.heap.size w w' := by
 have hu30 := Try.underlying30
 have HR0 := Aside0.mk hr0
 have HC0 := Aside0.mk hc0
 clear hr0 hc0
 have HR1 := Aside0.mk hr1
 have HC1 := Aside0.mk hc1
 clear hr1 hc1
 have HR2_0 := Aside0.mk hr2_0
 have HC2_0 := Aside0.mk hc2_0
 clear hr2_0 hc2_0
 have HR2_2 := Aside0.mk hr2_2
 have HC2_2 := Aside0.mk hc2_2
 clear hr2_2 hc2_2
 have HB := Aside0.mk (Below.refl w.heap.size w)
 have H : ((fulcrumref21_Check.f k l0 l1).bind fun t464 => (if t464 = 0 then ((fulcrumref21_right.f k l1 l2_0).bind fun t465 => (if t465 = true then (if 0 < (l2_0.length : Int) then ((fulcrumref21_set.f k l2_0).bind fun t467 => (fulcrumref21_Less.l0 k l0 l1 (rd l2_0 0) t467 (([] : List Int)) 0 l2_0 a2_1 l2_2)) else (none)) else (some (([] : List Int), 0, ([] : List Int), 210)))) else (some (([] : List Int), 0, ([] : List Int), t464)))) = some (r1, r2, r3, r4) := h
 clear h
 replace H := Option.bind_eq_some_iff.mp H
 obtain ⟨t464, A40, H⟩ := H
 replace H : (if t464 = 0 then ((fulcrumref21_right.f k l1 l2_0).bind fun t465 => (if t465 = true then (if 0 < (l2_0.length : Int) then ((fulcrumref21_set.f k l2_0).bind fun t467 => (fulcrumref21_Less.l0 k l0 l1 (rd l2_0 0) t467 (([] : List Int)) 0 l2_0 a2_1 l2_2)) else (none)) else (some (([] : List Int), 0, ([] : List Int), 210)))) else (some (([] : List Int), 0, ([] : List Int), t464))) = some (r1, r2, r3, r4) := H
 have A4 := Aside0.mk A40
 clear A40
 by_cases c5 : t464 = 0
 ·rw [if_pos c5] at H
  have c5b0 : (t464 == 0) = true := beq_iff_eq.mpr c5
  have c5b1 : (t464 != 0) = false := bne_eq_false_iff_eq.mpr c5
  clear c5
  replace H := Option.bind_eq_some_iff.mp H
  obtain ⟨t465, A60, H⟩ := H
  replace H : (if t465 = true then (if 0 < (l2_0.length : Int) then ((fulcrumref21_set.f k l2_0).bind fun t467 => (fulcrumref21_Less.l0 k l0 l1 (rd l2_0 0) t467 (([] : List Int)) 0 l2_0 a2_1 l2_2)) else (none)) else (some (([] : List Int), 0, ([] : List Int), 210))) = some (r1, r2, r3, r4) := H
  have A6 := Aside0.mk A60
  clear A60
  by_cases c7 : t465 = true
  ·subst c7
   have H1 : (if 0 < (l2_0.length : Int) then ((fulcrumref21_set.f k l2_0).bind fun t467 => (fulcrumref21_Less.l0 k l0 l1 (rd l2_0 0) t467 (([] : List Int)) 0 l2_0 a2_1 l2_2)) else (none)) = some (r1, r2, r3, r4) := by rw [if_pos rfl] at H; exact H
   clear H
   have H := H1
   clear H1
   by_cases c8 : 0 < (l2_0.length : Int)
   ·rw [if_pos c8] at H
    have c8b0 : decide (0 < (l2_0.length : Int)) = true := decide_eq_true c8
    have c8b1 : decide (0 < l2_0.length) = true := decide_eq_true (by omega)
    clear c8
    replace H := Option.bind_eq_some_iff.mp H
    obtain ⟨t467, A90, H⟩ := H
    replace H : (fulcrumref21_Less.l0 k l0 l1 (rd l2_0 0) t467 (([] : List Int)) 0 l2_0 a2_1 l2_2) = some (r1, r2, r3, r4) := H
    have A9 := Aside0.mk A90
    clear A90
    obtain ⟨y470, hy470⟩ : ∃ y_ : List Int, y_ = (([] : List Int)) := ⟨_, rfl⟩
    replace H : (fulcrumref21_Less.l0 k l0 l1 (rd l2_0 0) t467 y470 0 l2_0 a2_1 l2_2) = some (r1, r2, r3, r4) := by first | (rw [hy470]; with_reducible exact H) | (have H2_ := (Option.bind_some _ _).symm.trans H; rw [hy470]; with_reducible exact H2_) | (have H2_ := (Option.bind_some _ _).symm.trans H; with_reducible exact H2_) | with_reducible exact H | (rw [hy470]; exact H) | exact H
    have Ny470 := Aside0.mk hy470
    clear hy470
    have H' := Aside0.mk H
    clear H
    go_enter Try.func32, Try.ntmps32
    go_wp2_with (first | ((with_reducible refine gate_dst (N := 5) rfl ?_); refine box_event ?hg (N := 5) ?hd (cs := #[.slice A2_0 l2_0.length c2_0, .int .i64 a2_1, .slice A2_2 l2_2.length c2_2]) (t := 30) ?hr ?_; (case hd => rfl); (case hg => rfl); (case hr => first | (go_simp; done) | (go_simp; rfl)); intro gb462 hg w10 hbox hb; have n0_ := Aside0.mk (below_step (bel_any HB.out) hb); have n1_ := Aside0.mk (hbox); have n2_ := Aside0.mk ((by rw [hg]; exact (below_size (bel_any HB.out)) : w.heap.size ≤ gb462)); have n3_ := Aside0.mk ((by rw [hg]; exact (below_size (bel_any HB.out)) : w.heap.size ≤ gb462)); clear HB; have HB := n0_; have BK462 := n1_; have GW462 := n2_; have GE462 := n3_; clear n0_ n1_ n2_ n3_; clear hb hbox hg) | ((with_reducible refine gate_dst (N := 6) rfl ?_); refine box_event ?hg (N := 6) ?hd (cs := #[.slice none 0 0, .int .i64 0, .slice none 0 0]) (t := 30) ?hr ?_; (case hd => rfl); (case hg => rfl); (case hr => first | (go_simp; done) | (go_simp; rfl)); intro gb463 hg w11 hbox hb; have n0_ := Aside0.mk (blk_below (g := gb462) (o := .cells #[.slice A2_0 l2_0.length c2_0, .int .i64 a2_1, .slice A2_2 l2_2.length c2_2] 30 (0, 0)) (blk_any BK462.out) hb); have n1_ := Aside0.mk (below_step (by repeat (first | (with_reducible first | exact HB.out | apply below_alloc | apply pw_below_drewN | apply below_drew1 | refine below_set ?_ GE462.out) | exact HB.out)) hb); have n2_ := Aside0.mk (hbox); have n3_ := Aside0.mk ((by rw [hg]; exact (below_size (by repeat (first | (with_reducible first | exact HB.out | apply below_alloc | apply pw_below_drewN | apply below_drew1 | refine below_set ?_ GE462.out) | exact HB.out))) : w.heap.size ≤ gb463)); have n4_ := Aside0.mk ((by rw [hg]; exact (below_size (by repeat (first | (with_reducible first | exact HB.out | apply below_alloc | apply pw_below_drewN | apply below_drew1 | refine below_set ?_ GE462.out) | exact HB.out))) : w.heap.size ≤ gb463)); have n5_ := Aside0.mk ((by rw [hg]; exact Nat.ne_of_lt (blk_lt (g := gb462) (o := .cells #[.slice A2_0 l2_0.length c2_0, .int .i64 a2_1, .slice A2_2 l2_2.length c2_2] 30 (0, 0)) (blk_any BK462.out)) : gb462 ≠ gb463)); have n6_ := Aside0.mk ((by rw [hg]; exact Nat.ne_of_gt (blk_lt (g := gb462) (o := .cells #[.slice A2_0 l2_0.length c2_0, .int .i64 a2_1, .slice A2_2 l2_2.length c2_2] 30 (0, 0)) (blk_any BK462.out)) : gb463 ≠ gb462)); clear BK462; clear HB; have BK462 := n0_; have HB := n1_; have BK463 := n2_; have GW463 := n3_; have GE463 := n4_; have NB462_463 := n5_; have NB463_462 := n6_; clear n0_ n1_ n2_ n3_ n4_ n5_ n6_; clear hb hbox hg) | ((with_reducible refine gate_callee (f := 21) rfl ?_); refine goesL_ (some 18) rfl rfl Try.func21 (by kernel_rfl) rfl #[.slice A0 l0.length c0, .slice A1 l1.length c1] rfl (by (try simp only [List.map_toArray, List.map_cons, List.map_nil]); first | done | rfl | (simp only [List.length_drop, List.length_take]; rfl)) ?_; (with_reducible refine (fulcrumref21_Check.calls k _ _ l0 _ _ l1 t464 _ ?side1 ?side2 ?side3 ?side4 A4.out).mono ?_); (case side1 => repeat (first | exact (Kd.C_below HR0.out HB.out) | (with_reducible refine Kd.C_alloc ?_ _) | (with_reducible refine Kd.C_drewN ?_ _) | (with_reducible refine Kd.C_drew ?_))); (case side2 => exact HC0.out); (case side3 => repeat (first | exact (Kd.C_below HR1.out HB.out) | (with_reducible refine Kd.C_alloc ?_ _) | (with_reducible refine Kd.C_drewN ?_ _) | (with_reducible refine Kd.C_drew ?_))); (case side4 => exact HC1.out); rintro e w12 ⟨rfl, hb⟩; refine ⟨_, rfl, ?_⟩; have n0_ := Aside0.mk (blk_below (g := gb462) (o := .cells #[.slice A2_0 l2_0.length c2_0, .int .i64 a2_1, .slice A2_2 l2_2.length c2_2] 30 (0, 0)) (blk_any BK462.out) hb); have n1_ := Aside0.mk (blk_below (g := gb463) (o := .cells #[.slice none 0 0, .int .i64 0, .slice none 0 0] 30 (0, 0)) (blk_any BK463.out) hb); have n2_ := Aside0.mk (below_step (by repeat (first | (with_reducible first | exact HB.out | apply below_alloc | apply pw_below_drewN | apply below_drew1 | refine below_set ?_ GE462.out | refine below_set ?_ GE463.out) | exact HB.out)) hb); clear BK462; clear BK463; clear HB; have BK462 := n0_; have BK463 := n1_; have HB := n2_; clear n0_ n1_ n2_; (try clear hb); (try clear hb2); (try clear hk); (try clear hi); have hnb13 := NB462_463.out; have hnc13 := NB463_462.out; have hcz14_0 : w12.cell? ⟨gb462, 0, none⟩ = some (.slice A2_0 l2_0.length c2_0) := (blk_cell BK462.out 0).trans rfl; have hcz14_1 : w12.cell? ⟨gb462, 1, none⟩ = some (.int .i64 a2_1) := (blk_cell BK462.out 1).trans rfl; have hcz14_2 : w12.cell? ⟨gb462, 2, none⟩ = some (.slice A2_2 l2_2.length c2_2) := (blk_cell BK462.out 2).trans rfl; have hfz14_0 := blk_frozen BK462.out 0; have hfz14_1 := blk_frozen BK462.out 1; have hfz14_2 := blk_frozen BK462.out 2) | ((with_reducible refine gate_callee (f := 60) rfl ?_); refine goesL_ (some 26) rfl rfl Try.func60 (by kernel_rfl) rfl #[.slice A1 l1.length c1, .slice A2_0 l2_0.length c2_0] rfl (by (try simp only [List.map_toArray, List.map_cons, List.map_nil]); first | done | rfl | (simp only [List.length_drop, List.length_take]; rfl)) ?_; (with_reducible refine (fulcrumref21_right.calls k _ _ l1 _ _ l2_0 true _ ?side1 ?side2 ?side3 ?side4 A6.out).mono ?_); (case side1 => repeat (first | exact (Kd.C_below HR1.out HB.out) | (with_reducible refine Kd.C_alloc ?_ _) | (with_reducible refine Kd.C_drewN ?_ _) | (with_reducible refine Kd.C_drew ?_))); (case side2 => exact HC1.out); (case side3 => repeat (first | exact (Kd.C_below HR2_0.out HB.out) | (with_reducible refine Kd.C_alloc ?_ _) | (with_reducible refine Kd.C_drewN ?_ _) | (with_reducible refine Kd.C_drew ?_))); (case side4 => exact HC2_0.out); rintro e w15 ⟨rfl, hb⟩; refine ⟨_, rfl, ?_⟩; have n0_ := Aside0.mk (blk_below (g := gb462) (o := .cells #[.slice A2_0 l2_0.length c2_0, .int .i64 a2_1, .slice A2_2 l2_2.length c2_2] 30 (0, 0)) (blk_any BK462.out) hb); have n1_ := Aside0.mk (blk_below (g := gb463) (o := .cells #[.slice none 0 0, .int .i64 0, .slice none 0 0] 30 (0, 0)) (blk_any BK463.out) hb); have n2_ := Aside0.mk (below_step (by repeat (first | (with_reducible first | exact HB.out | apply below_alloc | apply pw_below_drewN | apply below_drew1 | refine below_set ?_ GE462.out | refine below_set ?_ GE463.out) | exact HB.out)) hb); clear BK462; clear BK463; clear HB; have BK462 := n0_; have BK463 := n1_; have HB := n2_; clear n0_ n1_ n2_; (try clear hb); (try clear hb2); (try clear hk); (try clear hi); have hcz16_0 : w15.cell? ⟨gb462, 0, none⟩ = some (.slice A2_0 l2_0.length c2_0) := (blk_cell BK462.out 0).trans rfl; have hcz16_1 : w15.cell? ⟨gb462, 1, none⟩ = some (.int .i64 a2_1) := (blk_cell BK462.out 1).trans rfl; have hcz16_2 : w15.cell? ⟨gb462, 2, none⟩ = some (.slice A2_2 l2_2.length c2_2) := (blk_cell BK462.out 2).trans rfl; have hfz16_0 := blk_frozen BK462.out 0; have hfz16_1 := blk_frozen BK462.out 1; have hfz16_2 := blk_frozen BK462.out 2; have p466 : 0 ≤ (0 : Int) := (by omega); have q466 : 0 < (l2_0.length : Int) := odt; obtain ⟨ad466, e466, hx466_0⟩ := Kd.at_int HR2_0.out 0 p466 q466; cases e466; have qi466 : (0 < l2_0.length) = True := eq_true (by omega); (try rw [show ((0 : Int)).toNat = 0 from rfl] at hx466_0); (try rw [Addr.add_zero'] at hx466_0); replace hx466_0 := (HB.out.cell (World.block_lt_of_cell? w _ hx466_0)).trans hx466_0; replace p466 := eq_true p466; replace q466 := eq_true q466) | ((with_reducible refine gate_callee (f := 43) rfl ?_); refine goesL_ (some 35) rfl rfl Try.func43 (by kernel_rfl) rfl #[.slice (some ad466) l2_0.length c2_0] rfl (by (try simp only [List.map_toArray, List.map_cons, List.map_nil]); first | done | rfl | (simp only [List.length_drop, List.length_take]; rfl)) ?_; (with_reducible refine (fulcrumref21_set.calls k _ _ l2_0 t467 _ ?side1 ?side2 A9.out).mono ?_); (case side1 => repeat (first | exact (Kd.C_below HR2_0.out HB.out) | (with_reducible refine Kd.C_alloc ?_ _) | (with_reducible refine Kd.C_drewN ?_ _) | (with_reducible refine Kd.C_drew ?_))); (case side2 => exact HC2_0.out); rintro e w17 ⟨v468, rfl, ho0, hb⟩; refine ⟨_, rfl, ?_⟩; have n0_ := Aside0.mk (Kd.R_lower (Kd.R_newM (M := fun k_ => (w.heap.size ≤ k_)) ho0 (below_size (by repeat (first | (with_reducible first | exact HB.out | apply below_alloc | apply pw_below_drewN | apply below_drew1 | refine below_set ?_ GE462.out | refine below_set ?_ GE463.out) | exact HB.out))) (fun k_ h_ => h_)) (below_size (by repeat (first | (with_reducible first | exact HB.out | apply below_alloc | apply pw_below_drewN | apply below_drew1 | refine below_set ?_ GE462.out | refine below_set ?_ GE463.out) | exact HB.out)))); have n1_ := Aside0.mk (blk_below (g := gb462) (o := .cells #[.slice (some ad466) l2_0.length c2_0, .int .i64 a2_1, .slice A2_2 l2_2.length c2_2] 30 (0, 0)) (blk_any BK462.out) hb); have n2_ := Aside0.mk (blk_below (g := gb463) (o := .cells #[.slice none 0 0, .int .i64 0, .slice none 0 0] 30 (0, 0)) (blk_any BK463.out) hb); have n3_ := Aside0.mk (below_step (by repeat (first | (with_reducible first | exact HB.out | apply below_alloc | apply pw_below_drewN | apply below_drew1 | refine below_set ?_ GE462.out | refine below_set ?_ GE463.out) | exact HB.out)) hb); clear BK462; clear BK463; clear HB; have HO469 := n0_; have BK462 := n1_; have BK463 := n2_; have HB := n3_; clear n0_ n1_ n2_ n3_; (try clear hb); (try clear hb2); (try clear hk); (try clear hi); (try clear ho0)) | ((with_reducible refine gate_dst (N := 36) rfl ?_); refine Kd.R_lit (Kd.int .i64) _ 3 ?hg (N := 36) ?hd (xs := ([] : List Int)) (inner := []) (ok := fun _ => True) (okp := fun _ => True) ?hr ?hp (fun _ hk => hk) trivial (Below.refl _ _) (Nat.le_refl _) (by simp) ?_; (case hd => rfl); (case hg => rfl); (case hr => first | (go_simp; done) | (go_simp; rfl)); (case hp => exact (Reps.none _ _)); intro v471 w18 ho19 hb hg_ hnew_; clear hg_ hnew_; (first | rw [← Ny470.out] at ho19 | (simp only [Int.reduceToNat] at ho19; rw [← Ny470.out] at ho19)); have n0_ := Aside0.mk (Kd.R_elder' (R_any HO469.out) (Kd.R_base ho19) hb); have n1_ := Aside0.mk (Kd.R_lower (Kd.R_new' (Kd.R_newM (M := fun k_ => (w.heap.size ≤ k_)) ho19 (below_size (by repeat (first | (with_reducible first | exact HB.out | apply below_alloc | apply pw_below_drewN | apply below_drew1 | refine below_set ?_ GE462.out | refine below_set ?_ GE463.out) | exact HB.out))) (fun k_ h_ => h_)) (Kd.R_lt (R_any HO469.out))) (below_size (by repeat (first | (with_reducible first | exact HB.out | apply below_alloc | apply pw_below_drewN | apply below_drew1 | refine below_set ?_ GE462.out | refine below_set ?_ GE463.out) | exact HB.out)))); have n2_ := Aside0.mk (blk_below (g := gb462) (o := .cells #[.slice (some ad466) l2_0.length c2_0, .int .i64 a2_1, .slice A2_2 l2_2.length c2_2] 30 (0, 0)) (blk_any BK462.out) hb); have n3_ := Aside0.mk (blk_below (g := gb463) (o := .cells #[.slice none 0 0, .int .i64 0, .slice none 0 0] 30 (0, 0)) (blk_any BK463.out) hb); have n4_ := Aside0.mk (below_step (by repeat (first | (with_reducible first | exact HB.out | apply below_alloc | apply pw_below_drewN | apply below_drew1 | refine below_set ?_ GE462.out | refine below_set ?_ GE463.out) | exact HB.out)) hb); clear HO469; clear BK462; clear BK463; clear HB; have HO469 := n0_; have HO472 := n1_; have BK462 := n2_; have BK463 := n3_; have HB := n4_; clear n0_ n1_ n2_ n3_ n4_; clear hb ho19))
    go_loopg [11, 12] k (fun kq v11 v12 w' => ∃ (x11_1 : List Int) (x12_1 : Int), v12 = .int .i64 x12_1 ∧ Aside0 (fulcrumref21_Less.l0 kq l0 l1 (rd l2_0 0) t467 x11_1 x12_1 l2_0 a2_1 l2_2 = some (r1, r2, r3, r4)) ∧ Aside0 (kq ≤ k) ∧ Aside0 (Kd.V (Kd.int .i64) 3 w' w.heap.size (fun k_ => (w.heap.size ≤ k_) ∧ some k_ ≠ (v11 : Value).ownBlock ∧ k_ ≠ gb462 ∧ k_ ≠ gb463) v468 t467) ∧ Aside0 (Kd.R (Kd.int .i64) 3 w' w.heap.size (fun k_ => (w.heap.size ≤ k_)) v11 x11_1) ∧ Aside0 (w'.heap[gb462]? = some (.cells #[(.slice (some ad466) l2_0.length c2_0), .int .i64 a2_1, (.slice A2_2 l2_2.length c2_2)] 30 (0, 0))) ∧ Aside0 (w'.heap[gb463]? = some (.cells #[(.slice none 0 0), .int .i64 0, (.slice none 0 0)] 30 (0, 0))) ∧ Aside0 (Below w.heap.size w w'))
    case atStart => exact ⟨(y470), (0), (by first | rfl | (simp; done) | (simp [*]; done)), H', ⟨Nat.le_refl _⟩, ⟨Kd.R_V (by (with_reducible repeat (first | apply Kd.R_alloc | apply Kd.R_drewN | apply Kd.R_drew)); exact Kd.R_mono (Kd.R_types (Kd.R_types HO469.out BK462.out (by decide)) BK463.out (by decide)) (fun _ hk => ⟨hk.1.1.1.1, ⟨hk.1.1.2, ⟨hk.1.2, hk.2⟩⟩⟩))⟩, ⟨by (with_reducible repeat (first | apply Kd.R_alloc | apply Kd.R_drewN | apply Kd.R_drew)); exact Kd.R_mono HO472.out (fun _ hk => hk.1.1)⟩, ⟨blk_any BK462.out⟩, ⟨blk_any BK463.out⟩, ⟨by repeat (first | (with_reducible first | exact HB.out | apply below_alloc | apply pw_below_drewN | apply below_drew1 | refine below_set ?_ GE462.out | refine below_set ?_ GE463.out) | exact HB.out)⟩⟩
    case round =>
     clear H'
     try clear c1
     try clear c2
     try clear p2
     try clear c3
     try clear c4
     try clear p4
     try clear q4
     try clear hx4
     try clear qi4
     try clear c5
     try clear c5b0
     try clear c5b1
     try clear c6
     try clear c7
     try clear c8
     try clear c8b0
     try clear c8b1
     try clear c13
     try clear hcz14_0
     try clear hcz14_1
     try clear hcz14_2
     try clear hcz16_0
     try clear hcz16_1
     try clear hcz16_2
     try clear hfz14_0
     try clear hfz14_1
     try clear hfz14_2
     try clear hfz16_0
     try clear hfz16_1
     try clear hfz16_2
     try clear hx466_0
     try clear p466
     try clear q466
     obtain ⟨x11_1, x12_1, rfl, HA, HK1, HO_10, HO_11, BK462, BK463, HB⟩ := hrel
     cases gk with
     | zero => exact absurd HA.out (by simp [fulcrumref21_Less.l0])
     | succ k1 =>
      have H := HA.out
      clear HA
      simp only [fulcrumref21_Less.l0] at H
      by_cases c20 : x12_1 < (l2_2.length : Int)
      ·rw [if_pos c20] at H
       have c20b0 : decide (x12_1 < (l2_2.length : Int)) = true := decide_eq_true c20
       clear c20
       by_cases c21 : 0 ≤ x12_1
       ·rw [if_pos c21] at H
        have c21b0 : decide (0 ≤ x12_1) = true := decide_eq_true c21
        clear c21
        by_cases c22 : x11_1.length < 17592186044416
        ·rw [if_pos c22] at H
         have LMc22 := Aside0.mk c22
         clear c22
         obtain ⟨y474, hy474⟩ : ∃ y_ : List Int, y_ = (x11_1 ++ [rd l2_2 x12_1]) := ⟨_, rfl⟩
         replace H : (fulcrumref21_Less.l0 k1 l0 l1 (rd l2_0 0) t467 y474 (wrap64 (x12_1 + 1)) l2_0 a2_1 l2_2) = some (r1, r2, r3, r4) := by first | (rw [hy474]; with_reducible exact H) | (have H2_ := (Option.bind_some _ _).symm.trans H; rw [hy474]; with_reducible exact H2_) | (have H2_ := (Option.bind_some _ _).symm.trans H; with_reducible exact H2_) | with_reducible exact H | (rw [hy474]; exact H) | exact H
         have Ny474 := Aside0.mk hy474
         clear hy474
         have H' := Aside0.mk H
         clear H
         have hnb23 := NB462_463.out
         have hnc23 := NB463_462.out
         have hcz24_0 : wr.cell? ⟨gb462, 0, none⟩ = some (.slice (some ad466) l2_0.length c2_0) := (blk_cell BK462.out 0).trans rfl
         have hcz24_1 : wr.cell? ⟨gb462, 1, none⟩ = some (.int .i64 a2_1) := (blk_cell BK462.out 1).trans rfl
         have hcz24_2 : wr.cell? ⟨gb462, 2, none⟩ = some (.slice A2_2 l2_2.length c2_2) := (blk_cell BK462.out 2).trans rfl
         have hfz24_0 := blk_frozen BK462.out 0
         have hfz24_1 := blk_frozen BK462.out 1
         have hfz24_2 := blk_frozen BK462.out 2
         have p473 : 0 ≤ (x12_1 : Int) := odt
         have q473 : x12_1 < (l2_2.length : Int) := odt
         obtain ⟨ad473, e473, hx473_0⟩ := Kd.at_int HR2_2.out x12_1 p473 q473
         cases e473
         replace hx473_0 := (HB.out.cell (World.block_lt_of_cell? w _ hx473_0)).trans hx473_0
         replace p473 := eq_true p473
         replace q473 := eq_true q473
         go_wp2_with (first | ((with_reducible refine gate_builtin (b := .append) (xs := #[.tmp 44, .tmp 50]) rfl ?_); at_builtin; refine Kd.R_append (Kd.int .i64) (w0 := w) w.heap.size rfl (.tmp 44) (.tmp 50) 27 3 (.int .i64 0) 8 rfl Try.underlying27 info3 rfl (by decide) (by omega) u11 x11_1 (rd l2_2 x12_1) [.int .i64 (rd l2_2 x12_1)] (fun k_ => (w.heap.size ≤ k_)) (fun _ => False) rfl rfl ?aP (fun _ hk => hk.elim) ?aF ?aO ?aB ?aS ?aL ?_; (case aP => exact rfl); (case aB => exact (by repeat (first | (with_reducible first | exact HB.out | apply below_alloc | apply pw_below_drewN | apply below_drew1 | refine below_set ?_ GE462.out | refine below_set ?_ GE463.out) | exact HB.out))); (case aF => exact (fun k_ hk => (Nat.le_trans (below_size (by repeat (first | (with_reducible first | exact HB.out | apply below_alloc | apply pw_below_drewN | apply below_drew1 | refine below_set ?_ GE462.out | refine below_set ?_ GE463.out) | exact HB.out))) hk))); (case aO => exact (R_any HO_11.out)); (case aS => exact (below_size (by repeat (first | (with_reducible first | exact HB.out | apply below_alloc | apply pw_below_drewN | apply below_drew1 | refine below_set ?_ GE462.out | refine below_set ?_ GE463.out) | exact HB.out)))); (case aL => have := LMc22.out; omega); intro v475 w25 ho hb hg hat; rw [← Ny474.out] at ho; have n0_ := Aside0.mk (Kd.V_afterv (ok := (fun k_ => (w.heap.size ≤ k_) ∧ k_ ≠ gb462 ∧ k_ ≠ gb463)) (by (with_reducible repeat (first | apply Kd.V_alloc | apply Kd.V_drewN | apply Kd.V_drew)); exact Kd.V_mono HO_10.out (fun _ hk => ⟨⟨hk.1, ⟨hk.2.2.1, hk.2.2.2⟩⟩, hk.2.1⟩)) hg hat); have n1_ := Aside0.mk (blk_grown (g := gb462) (o := .cells #[.slice (some ad466) l2_0.length c2_0, .int .i64 a2_1, .slice (some ad473) l2_2.length c2_2] 30 (0, 0)) (blk_any BK462.out) hg (Kd.R_ne HO_11.out BK462.out (by decide))); have n2_ := Aside0.mk (blk_grown (g := gb463) (o := .cells #[.slice none 0 0, .int .i64 0, .slice none 0 0] 30 (0, 0)) (blk_any BK463.out) hg (Kd.R_ne HO_11.out BK463.out (by decide))); have n3_ := Aside0.mk (hb); have n4_ := Aside0.mk (ho); clear HO_10; clear BK462; clear BK463; clear HB; clear HO_11; have HO_10 := n0_; have BK462 := n1_; have BK463 := n2_; have HB := n3_; have HO476 := n4_; clear n0_ n1_ n2_ n3_ n4_; clear ho hb hg hat))
         go_roundg k1
         case measure => have := HK1.out; omega
         case rel => exact ⟨(y474), (wrap64 (x12_1 + 1)), (by first | rfl | (simp; done) | (simp [*]; done)), H', ⟨by have := HK1.out; omega⟩, ⟨by (with_reducible repeat (first | apply Kd.V_alloc | apply Kd.V_drewN | apply Kd.V_drew)); exact Kd.V_mono HO_10.out (fun _ hk => ⟨hk.1.1, ⟨hk.2, ⟨hk.1.2.1, hk.1.2.2⟩⟩⟩)⟩, ⟨R_any HO476.out⟩, ⟨blk_any BK462.out⟩, ⟨blk_any BK463.out⟩, ⟨by repeat (first | (with_reducible first | exact HB.out | apply below_alloc | apply pw_below_drewN | apply below_drew1 | refine below_set ?_ GE462.out | refine below_set ?_ GE463.out) | exact HB.out)⟩⟩
        ·rw [if_neg c22] at H
         exact absurd H (by simp)
       ·rw [if_neg c21] at H
        exact absurd H (by simp)
      ·rw [if_neg c20] at H
       have c20b0 : decide (x12_1 < (l2_2.length : Int)) = false := decide_eq_false c20
       clear c20
       replace H := Option.bind_eq_some_iff.mp H
       obtain ⟨t477, A260, H⟩ := H
       replace H : ((fulcrumref21_falling.f k1 l1 t477).bind fun t480 => (fulcrumref21_Less.l1 k1 l0 l1 (rd l2_0 0) t467 x11_1 t480 0)) = some (r1, r2, r3, r4) := H
       have A26 := Aside0.mk A260
       clear A260
       replace H := Option.bind_eq_some_iff.mp H
       obtain ⟨t480, A270, H⟩ := H
       replace H : (fulcrumref21_Less.l1 k1 l0 l1 (rd l2_0 0) t467 x11_1 t480 0) = some (r1, r2, r3, r4) := H
       have A27 := Aside0.mk A270
       clear A270
       have H' := Aside0.mk H
       clear H
       have hnb28 := NB462_463.out
       have hnc28 := NB463_462.out
       have hcz29_0 : wr.cell? ⟨gb462, 0, none⟩ = some (.slice (some ad466) l2_0.length c2_0) := (blk_cell BK462.out 0).trans rfl
       have hcz29_1 : wr.cell? ⟨gb462, 1, none⟩ = some (.int .i64 a2_1) := (blk_cell BK462.out 1).trans rfl
       have hcz29_2 : wr.cell? ⟨gb462, 2, none⟩ = some (.slice A2_2 l2_2.length c2_2) := (blk_cell BK462.out 2).trans rfl
       have hfz29_0 := blk_frozen BK462.out 0
       have hfz29_1 := blk_frozen BK462.out 1
       have hfz29_2 := blk_frozen BK462.out 2
       obtain ⟨Ao30, co30, eo30⟩ := Kd.V_slice HO_10.out
       subst eo30
       go_wp2_with (first | ((with_reducible refine gate_callee (f := 62) rfl ?_); refine goesL_ (some 55) rfl rfl Try.func62 (by kernel_rfl) rfl #[.slice Ao30 t467.length co30, .int .i64 (rd l2_0 0)] rfl (by (try simp only [List.map_toArray, List.map_cons, List.map_nil]); first | done | rfl | (simp only [List.length_drop, List.length_take]; rfl)) ?_; (with_reducible refine (fulcrumref21_without.calls k1 _ _ t467 (rd l2_0 0) t477 _ ?side1 ?side2 A26.out).mono ?_); (case side1 => repeat (first | exact (Kd.V_reads' HO_10.out).2.2 | (with_reducible refine Kd.C_alloc ?_ _) | (with_reducible refine Kd.C_drewN ?_ _) | (with_reducible refine Kd.C_drew ?_))); (case side2 => exact (Kd.V_reads' HO_10.out).2.1); rintro e w31 ⟨v478, rfl, ho0, hb⟩; refine ⟨_, rfl, ?_⟩; have n0_ := Aside0.mk (Kd.V_elder' (by (with_reducible repeat (first | apply Kd.V_alloc | apply Kd.V_drewN | apply Kd.V_drew)); exact HO_10.out) (Kd.R_base ho0) hb); have n1_ := Aside0.mk (Kd.R_elder' (R_any HO_11.out) (Kd.R_base ho0) hb); have n2_ := Aside0.mk (Kd.R_lower (Kd.R_new' (Kd.R_newM (M := fun k_ => (w.heap.size ≤ k_)) ho0 (below_size (by repeat (first | (with_reducible first | exact HB.out | apply below_alloc | apply pw_below_drewN | apply below_drew1 | refine below_set ?_ GE462.out | refine below_set ?_ GE463.out) | exact HB.out))) (fun k_ h_ => h_)) (Kd.R_lt (R_any HO_11.out))) (below_size (by repeat (first | (with_reducible first | exact HB.out | apply below_alloc | apply pw_below_drewN | apply below_drew1 | refine below_set ?_ GE462.out | refine below_set ?_ GE463.out) | exact HB.out)))); have n3_ := Aside0.mk (blk_below (g := gb462) (o := .cells #[.slice (some ad466) l2_0.length c2_0, .int .i64 a2_1, .slice A2_2 l2_2.length c2_2] 30 (0, 0)) (blk_any BK462.out) hb); have n4_ := Aside0.mk (blk_below (g := gb463) (o := .cells #[.slice none 0 0, .int .i64 0, .slice none 0 0] 30 (0, 0)) (blk_any BK463.out) hb); have n5_ := Aside0.mk (below_step (by repeat (first | (with_reducible first | exact HB.out | apply below_alloc | apply pw_below_drewN | apply below_drew1 | refine below_set ?_ GE462.out | refine below_set ?_ GE463.out) | exact HB.out)) hb); clear HO_10; clear HO_11; clear BK462; clear BK463; clear HB; have HO_10 := n0_; have HO_11 := n1_; have HO479 := n2_; have BK462 := n3_; have BK463 := n4_; have HB := n5_; clear n0_ n1_ n2_ n3_ n4_ n5_; (try clear hb); (try clear hb2); (try clear hk); (try clear hi); (try clear ho0); obtain ⟨Ao32, co32, eo32⟩ := Kd.R_slice HO479.out; subst eo32) | ((with_reducible refine gate_callee (f := 61) rfl ?_); refine goesL_ (some 56) rfl rfl Try.func61 (by kernel_rfl) rfl #[.slice A1 l1.length c1, .slice Ao32 t477.length co32] rfl (by (try simp only [List.map_toArray, List.map_cons, List.map_nil]); first | done | rfl | (simp only [List.length_drop, List.length_take]; rfl)) ?_; (with_reducible refine (fulcrumref21_falling.calls k1 _ _ l1 _ _ t477 t480 _ ?side1 ?side2 ?side3 ?side4 A27.out).mono ?_); (case side1 => repeat (first | exact (Kd.C_below HR1.out HB.out) | (with_reducible refine Kd.C_alloc ?_ _) | (with_reducible refine Kd.C_drewN ?_ _) | (with_reducible refine Kd.C_drew ?_))); (case side2 => exact HC1.out); (case side3 => repeat (first | exact (Kd.R_reads' HO479.out).2.2 | (with_reducible refine Kd.C_alloc ?_ _) | (with_reducible refine Kd.C_drewN ?_ _) | (with_reducible refine Kd.C_drew ?_))); (case side4 => exact (Kd.R_reads' HO479.out).2.1); rintro e w33 ⟨v481, rfl, ho0, hb⟩; refine ⟨_, rfl, ?_⟩; have n0_ := Aside0.mk (Kd.V_elder' (by (with_reducible repeat (first | apply Kd.V_alloc | apply Kd.V_drewN | apply Kd.V_drew)); exact HO_10.out) (Kd.R_base ho0) hb); have n1_ := Aside0.mk (Kd.R_elder' (R_any HO_11.out) (Kd.R_base ho0) hb); have n2_ := Aside0.mk (Kd.R_elder' (R_any HO479.out) (Kd.R_base ho0) hb); have n3_ := Aside0.mk (Kd.R_lower (Kd.R_new' (Kd.R_new' (Kd.R_newM (M := fun k_ => (w.heap.size ≤ k_)) ho0 (below_size (by repeat (first | (with_reducible first | exact HB.out | apply below_alloc | apply pw_below_drewN | apply below_drew1 | refine below_set ?_ GE462.out | refine below_set ?_ GE463.out) | exact HB.out))) (fun k_ h_ => h_)) (Kd.R_lt (R_any HO_11.out))) (Kd.R_lt (R_any HO479.out))) (below_size (by repeat (first | (with_reducible first | exact HB.out | apply below_alloc | apply pw_below_drewN | apply below_drew1 | refine below_set ?_ GE462.out | refine below_set ?_ GE463.out) | exact HB.out)))); have n4_ := Aside0.mk (blk_below (g := gb462) (o := .cells #[.slice (some ad466) l2_0.length c2_0, .int .i64 a2_1, .slice A2_2 l2_2.length c2_2] 30 (0, 0)) (blk_any BK462.out) hb); have n5_ := Aside0.mk (blk_below (g := gb463) (o := .cells #[.slice none 0 0, .int .i64 0, .slice none 0 0] 30 (0, 0)) (blk_any BK463.out) hb); have n6_ := Aside0.mk (below_step (by repeat (first | (with_reducible first | exact HB.out | apply below_alloc | apply pw_below_drewN | apply below_drew1 | refine below_set ?_ GE462.out | refine below_set ?_ GE463.out) | exact HB.out)) hb); clear HO_10; clear HO_11; clear HO479; clear BK462; clear BK463; clear HB; have HO_10 := n0_; have HO_11 := n1_; have HO479 := n2_; have HO482 := n3_; have BK462 := n4_; have BK463 := n5_; have HB := n6_; clear n0_ n1_ n2_ n3_ n4_ n5_ n6_; (try clear hb); (try clear hb2); (try clear hk); (try clear hi); (try clear ho0)))
       go_loopg [10, 11, 14] k1 (fun kq v10 v11 v14 w' => ∃ (x10_2 : List Int) (x11_2 : List Int) (x14_2 : Int), v14 = .int .i64 x14_2 ∧ Aside0 (fulcrumref21_Less.l1 kq l0 l1 (rd l2_0 0) x10_2 x11_2 t480 x14_2 = some (r1, r2, r3, r4)) ∧ Aside0 (kq ≤ k1) ∧ Aside0 (Kd.V (Kd.int .i64) 3 w' w.heap.size (fun k_ => (w.heap.size ≤ k_) ∧ some k_ ≠ (v11 : Value).ownBlock ∧ some k_ ≠ (v481 : Value).ownBlock ∧ k_ ≠ gb462 ∧ k_ ≠ gb463) v10 x10_2) ∧ Aside0 (Kd.R (Kd.int .i64) 3 w' w.heap.size (fun k_ => (w.heap.size ≤ k_) ∧ some k_ ≠ (v481 : Value).ownBlock) v11 x11_2) ∧ Aside0 (Kd.R (Kd.int .i64) 3 w' w.heap.size (fun k_ => (w.heap.size ≤ k_) ∧ some k_ ≠ (v11 : Value).ownBlock) v481 t480) ∧ Aside0 (w'.heap[gb462]? = some (.cells #[(.slice (some ad466) l2_0.length c2_0), .int .i64 a2_1, (.slice A2_2 l2_2.length c2_2)] 30 (0, 0))) ∧ Aside0 (w'.heap[gb463]? = some (.cells #[(.slice none 0 0), .int .i64 0, (.slice none 0 0)] 30 (0, 0))) ∧ Aside0 (Below w.heap.size w w'))
       case atStart => exact ⟨(t467), (x11_1), (0), (by first | rfl | (simp; done) | (simp [*]; done)), H', ⟨Nat.le_refl _⟩, ⟨by (with_reducible repeat (first | apply Kd.V_alloc | apply Kd.V_drewN | apply Kd.V_drew)); exact Kd.V_mono HO_10.out (fun _ hk => ⟨hk.1.1.1, ⟨hk.1.1.2.1, ⟨hk.2, ⟨hk.1.1.2.2.1, hk.1.1.2.2.2⟩⟩⟩⟩)⟩, ⟨by (with_reducible repeat (first | apply Kd.R_alloc | apply Kd.R_drewN | apply Kd.R_drew)); exact Kd.R_mono HO_11.out (fun _ hk => ⟨hk.1.1, hk.2⟩)⟩, ⟨by (with_reducible repeat (first | apply Kd.R_alloc | apply Kd.R_drewN | apply Kd.R_drew)); exact Kd.R_mono HO482.out (fun _ hk => ⟨hk.1.1.1, hk.1.2⟩)⟩, ⟨blk_any BK462.out⟩, ⟨blk_any BK463.out⟩, ⟨by repeat (first | (with_reducible first | exact HB.out | apply below_alloc | apply pw_below_drewN | apply below_drew1 | refine below_set ?_ GE462.out | refine below_set ?_ GE463.out) | exact HB.out)⟩⟩
       case round =>
        clear H'
        try clear c1
        try clear c2
        try clear p2
        try clear c3
        try clear c4
        try clear p4
        try clear q4
        try clear hx4
        try clear qi4
        try clear c5
        try clear c5b0
        try clear c5b1
        try clear c6
        try clear p6
        try clear c7
        try clear c8
        try clear c8b0
        try clear c8b1
        try clear c13
        try clear c20
        try clear c20b0
        try clear c21
        try clear c21b0
        try clear c22
        try clear c23
        try clear c28
        try clear c32
        try clear hcz14_0
        try clear hcz14_1
        try clear hcz14_2
        try clear hcz16_0
        try clear hcz16_1
        try clear hcz16_2
        try clear hcz24_0
        try clear hcz24_1
        try clear hcz24_2
        try clear hcz29_0
        try clear hcz29_1
        try clear hcz29_2
        try clear hfz14_0
        try clear hfz14_1
        try clear hfz14_2
        try clear hfz16_0
        try clear hfz16_1
        try clear hfz16_2
        try clear hfz24_0
        try clear hfz24_1
        try clear hfz24_2
        try clear hfz29_0
        try clear hfz29_1
        try clear hfz29_2
        try clear hx466_0
        try clear hx473_0
        try clear p2
        try clear p4
        try clear p466
        try clear p473
        try clear q4
        try clear q466
        try clear q473
        obtain ⟨x10_2, x11_2, x14_2, rfl, HA, HK2, HO_10, HO_11, HO_13, BK462, BK463, HB⟩ := hrel
        cases gk with
        | zero => exact absurd HA.out (by simp [fulcrumref21_Less.l1])
        | succ k2 =>
         have H := HA.out
         clear HA
         simp only [fulcrumref21_Less.l1] at H
         by_cases c34 : x14_2 < (t480.length : Int)
         ·rw [if_pos c34] at H
          have c34b0 : decide (x14_2 < (t480.length : Int)) = true := decide_eq_true c34
          clear c34
          by_cases c35 : 0 ≤ x14_2
          ·rw [if_pos c35] at H
           have c35b0 : decide (0 ≤ x14_2) = true := decide_eq_true c35
           clear c35
           replace H := Option.bind_eq_some_iff.mp H
           obtain ⟨t491, A360, H⟩ := H
           replace H : (if t491 = true then ((fulcrumref21_resolved.f k2 l0 l1 x10_2 (rd t480 x14_2)).bind fun bt493 => (if x11_2.length < 17592186044416 then ((fulcrumref21_cleaned.f k2 l0 l1 bt493.1 (x11_2 ++ [bt493.2])).bind fun bt500 => (fulcrumref21_Less.l1 k2 l0 l1 (rd l2_0 0) bt500.1 bt500.2 t480 (wrap64 (x14_2 + 1)))) else (none))) else (fulcrumref21_Less.l1 k2 l0 l1 (rd l2_0 0) x10_2 x11_2 t480 (wrap64 (x14_2 + 1)))) = some (r1, r2, r3, r4) := H
           have A36 := Aside0.mk A360
           clear A360
           by_cases c37 : t491 = true
           ·subst c37
            have H1 : ((fulcrumref21_resolved.f k2 l0 l1 x10_2 (rd t480 x14_2)).bind fun bt493 => (if x11_2.length < 17592186044416 then ((fulcrumref21_cleaned.f k2 l0 l1 bt493.1 (x11_2 ++ [bt493.2])).bind fun bt500 => (fulcrumref21_Less.l1 k2 l0 l1 (rd l2_0 0) bt500.1 bt500.2 t480 (wrap64 (x14_2 + 1)))) else (none))) = some (r1, r2, r3, r4) := by rw [if_pos rfl] at H; exact H
            clear H
            have H := H1
            clear H1
            replace H := Option.bind_eq_some_iff.mp H
            obtain ⟨⟨t493, t494⟩, A380, H⟩ := H
            replace H : (if x11_2.length < 17592186044416 then ((fulcrumref21_cleaned.f k2 l0 l1 t493 (x11_2 ++ [t494])).bind fun bt500 => (fulcrumref21_Less.l1 k2 l0 l1 (rd l2_0 0) bt500.1 bt500.2 t480 (wrap64 (x14_2 + 1)))) else (none)) = some (r1, r2, r3, r4) := H
            have A38 := Aside0.mk A380
            clear A380
            by_cases c39 : x11_2.length < 17592186044416
            ·rw [if_pos c39] at H
             have LMc39 := Aside0.mk c39
             clear c39
             obtain ⟨y497, hy497⟩ : ∃ y_ : List Int, y_ = (x11_2 ++ [t494]) := ⟨_, rfl⟩
             replace H : ((fulcrumref21_cleaned.f k2 l0 l1 t493 y497).bind fun bt500 => (fulcrumref21_Less.l1 k2 l0 l1 (rd l2_0 0) bt500.1 bt500.2 t480 (wrap64 (x14_2 + 1)))) = some (r1, r2, r3, r4) := by first | (rw [hy497]; with_reducible exact H) | (have H2_ := (Option.bind_some _ _).symm.trans H; rw [hy497]; with_reducible exact H2_) | (have H2_ := (Option.bind_some _ _).symm.trans H; with_reducible exact H2_) | with_reducible exact H | (rw [hy497]; exact H) | exact H
             have Ny497 := Aside0.mk hy497
             clear hy497
             replace H := Option.bind_eq_some_iff.mp H
             obtain ⟨⟨t500, t503⟩, A400, H⟩ := H
             replace H : (fulcrumref21_Less.l1 k2 l0 l1 (rd l2_0 0) t500 t503 t480 (wrap64 (x14_2 + 1))) = some (r1, r2, r3, r4) := H
             have A40 := Aside0.mk A400
             clear A400
             have H' := Aside0.mk H
             clear H
             obtain ⟨Ao41, co41, eo41⟩ := Kd.R_slice HO_13.out
             subst eo41
             have p490 : 0 ≤ (x14_2 : Int) := odt
             have q490 : x14_2 < (t480.length : Int) := odt
             obtain ⟨ad490, e490, hx490_0⟩ := Kd.at_int (Kd.R_reads' HO_13.out).2.2 x14_2 p490 q490
             cases e490
             replace p490 := eq_true p490
             replace q490 := eq_true q490
             obtain ⟨Ao42, co42, eo42⟩ := Kd.V_slice HO_10.out
             subst eo42
             go_wp2_with (first | ((with_reducible refine gate_callee (f := 63) rfl ?_); refine goesL_ (some 70) rfl rfl Try.func63 (by kernel_rfl) rfl #[.slice A0 l0.length c0, .slice A1 l1.length c1, .slice Ao42 x10_2.length co42, .int .i64 (rd t480 x14_2)] rfl (by (try simp only [List.map_toArray, List.map_cons, List.map_nil]); first | done | rfl | (simp only [List.length_drop, List.length_take]; rfl)) ?_; (with_reducible refine (fulcrumref21_needless.calls k2 _ _ l0 _ _ l1 _ _ x10_2 (rd t480 x14_2) true _ ?side1 ?side2 ?side3 ?side4 ?side5 ?side6 A36.out).mono ?_); (case side1 => repeat (first | exact (Kd.C_below HR0.out HB.out) | (with_reducible refine Kd.C_alloc ?_ _) | (with_reducible refine Kd.C_drewN ?_ _) | (with_reducible refine Kd.C_drew ?_))); (case side2 => exact HC0.out); (case side3 => repeat (first | exact (Kd.C_below HR1.out HB.out) | (with_reducible refine Kd.C_alloc ?_ _) | (with_reducible refine Kd.C_drewN ?_ _) | (with_reducible refine Kd.C_drew ?_))); (case side4 => exact HC1.out); (case side5 => repeat (first | exact (Kd.V_reads' HO_10.out).2.2 | (with_reducible refine Kd.C_alloc ?_ _) | (with_reducible refine Kd.C_drewN ?_ _) | (with_reducible refine Kd.C_drew ?_))); (case side6 => exact (Kd.V_reads' HO_10.out).2.1); rintro e w' ⟨rfl, ⟨nd, rfl⟩⟩; refine ⟨_, rfl, ?_⟩; have p492 : 0 ≤ (x14_2 : Int) := odt; have q492 : x14_2 < (t480.length : Int) := odt; obtain ⟨ad492, e492, hx492_0⟩ := Kd.at_int (Kd.R_reads' HO_13.out).2.2 x14_2 p492 q492; obtain rfl : ad490 = ad492 := (by injection e492); replace p492 := eq_true p492; replace q492 := eq_true q492) | ((with_reducible refine gate_callee (f := 48) rfl ?_); refine goesL_ (some 79) rfl rfl Try.func48 (by kernel_rfl) rfl #[.slice A0 l0.length c0, .slice A1 l1.length c1, .slice Ao42 x10_2.length co42, .int .i64 (rd t480 x14_2)] rfl (by (try simp only [List.map_toArray, List.map_cons, List.map_nil]); first | done | rfl | (simp only [List.length_drop, List.length_take]; rfl)) ?_; (with_reducible refine (fulcrumref21_resolved.calls k2 _ _ l0 _ _ l1 _ _ x10_2 (rd t480 x14_2) t493 t494 _ ?side1 ?side2 ?side3 ?side4 ?side5 ?side6 A38.out).mono ?_); (case side1 => repeat (first | exact (Kd.C_below HR0.out (by repeat (first | (with_reducible first | exact HB.out | apply below_alloc | apply pw_below_drewN | apply below_drew1 | refine below_set ?_ GE462.out | refine below_set ?_ GE463.out) | exact HB.out))) | (with_reducible refine Kd.C_alloc ?_ _) | (with_reducible refine Kd.C_drewN ?_ _) | (with_reducible refine Kd.C_drew ?_))); (case side2 => exact HC0.out); (case side3 => repeat (first | exact (Kd.C_below HR1.out (by repeat (first | (with_reducible first | exact HB.out | apply below_alloc | apply pw_below_drewN | apply below_drew1 | refine below_set ?_ GE462.out | refine below_set ?_ GE463.out) | exact HB.out))) | (with_reducible refine Kd.C_alloc ?_ _) | (with_reducible refine Kd.C_drewN ?_ _) | (with_reducible refine Kd.C_drew ?_))); (case side4 => exact HC1.out); (case side5 => repeat (first | exact (Kd.V_reads' HO_10.out).2.2 | (with_reducible refine Kd.C_alloc ?_ _) | (with_reducible refine Kd.C_drewN ?_ _) | (with_reducible refine Kd.C_drew ?_))); (case side6 => exact (Kd.V_reads' HO_10.out).2.1); rintro e w43 ⟨v495, rfl, ho0, hb⟩; refine ⟨_, rfl, ?_⟩; have n0_ := Aside0.mk (Kd.V_elder' (by (with_reducible repeat (first | apply Kd.V_alloc | apply Kd.V_drewN | apply Kd.V_drew)); exact HO_10.out) (Kd.R_base ho0) hb); have n1_ := Aside0.mk (Kd.R_elder' (R_any HO_11.out) (Kd.R_base ho0) hb); have n2_ := Aside0.mk (Kd.R_elder' (R_any HO_13.out) (Kd.R_base ho0) hb); have n3_ := Aside0.mk (Kd.R_lower (Kd.R_new' (Kd.R_new' (Kd.R_newM (M := fun k_ => (w.heap.size ≤ k_)) ho0 (below_size (by repeat (first | (with_reducible first | exact HB.out | apply below_alloc | apply pw_below_drewN | apply below_drew1 | refine below_set ?_ GE462.out | refine below_set ?_ GE463.out) | exact HB.out))) (fun k_ h_ => h_)) (Kd.R_lt (R_any HO_11.out))) (Kd.R_lt (R_any HO_13.out))) (below_size (by repeat (first | (with_reducible first | exact HB.out | apply below_alloc | apply pw_below_drewN | apply below_drew1 | refine below_set ?_ GE462.out | refine below_set ?_ GE463.out) | exact HB.out)))); have n4_ := Aside0.mk (blk_below (g := gb462) (o := .cells #[.slice (some ad466) l2_0.length c2_0, .int .i64 a2_1, .slice A2_2 l2_2.length c2_2] 30 (0, 0)) (blk_any BK462.out) hb); have n5_ := Aside0.mk (blk_below (g := gb463) (o := .cells #[.slice none 0 0, .int .i64 0, .slice none 0 0] 30 (0, 0)) (blk_any BK463.out) hb); have n6_ := Aside0.mk (below_step (by repeat (first | (with_reducible first | exact HB.out | apply below_alloc | apply pw_below_drewN | apply below_drew1 | refine below_set ?_ GE462.out | refine below_set ?_ GE463.out) | exact HB.out)) hb); clear HO_10; clear HO_11; clear HO_13; clear BK462; clear BK463; clear HB; have HO_10 := n0_; have HO_11 := n1_; have HO_13 := n2_; have HO496 := n3_; have BK462 := n4_; have BK463 := n5_; have HB := n6_; clear n0_ n1_ n2_ n3_ n4_ n5_ n6_; (try clear hb); (try clear hb2); (try clear hk); (try clear hi); (try clear ho0)) | ((with_reducible refine gate_builtin (b := .append) (xs := #[.tmp 86, .tmp 88]) rfl ?_); at_builtin; refine Kd.R_append (Kd.int .i64) (w0 := w) w.heap.size rfl (.tmp 86) (.tmp 88) 27 3 (.int .i64 0) 8 rfl Try.underlying27 info3 rfl (by decide) (by omega) u11 x11_2 t494 [.int .i64 t494] (fun k_ => (w.heap.size ≤ k_) ∧ some k_ ≠ (.slice (some ad490) t480.length co41 : Value).ownBlock ∧ some k_ ≠ (v495 : Value).ownBlock) (fun _ => False) rfl rfl ?aP (fun _ hk => hk.elim) ?aF ?aO ?aB ?aS ?aL ?_; (case aP => exact rfl); (case aB => exact (by repeat (first | (with_reducible first | exact HB.out | apply below_alloc | apply pw_below_drewN | apply below_drew1 | refine below_set ?_ GE462.out | refine below_set ?_ GE463.out) | exact HB.out))); (case aF => exact (fun k_ hk => ⟨(Nat.le_trans (below_size (by repeat (first | (with_reducible first | exact HB.out | apply below_alloc | apply pw_below_drewN | apply below_drew1 | refine below_set ?_ GE462.out | refine below_set ?_ GE463.out) | exact HB.out))) hk), Kd.fresh' (Kd.R_lt (R_any HO_13.out)) k_ hk, Kd.fresh' (Kd.R_lt (R_any HO496.out)) k_ hk⟩)); (case aO => exact (by (with_reducible repeat (first | apply Kd.R_alloc | apply Kd.R_drewN | apply Kd.R_drew)); exact Kd.R_mono HO_11.out (fun _ hk => ⟨hk.1.1, ⟨hk.1.2, hk.2⟩⟩))); (case aS => exact (below_size (by repeat (first | (with_reducible first | exact HB.out | apply below_alloc | apply pw_below_drewN | apply below_drew1 | refine below_set ?_ GE462.out | refine below_set ?_ GE463.out) | exact HB.out)))); (case aL => have := LMc39.out; omega); intro v498 w44 ho hb hg hat; rw [← Ny497.out] at ho; have n0_ := Aside0.mk (Kd.V_afterv (ok := (fun k_ => (w.heap.size ≤ k_) ∧ some k_ ≠ (.slice (some ad490) t480.length co41 : Value).ownBlock ∧ some k_ ≠ (v495 : Value).ownBlock ∧ k_ ≠ gb462 ∧ k_ ≠ gb463)) (by (with_reducible repeat (first | apply Kd.V_alloc | apply Kd.V_drewN | apply Kd.V_drew)); exact Kd.V_mono HO_10.out (fun _ hk => ⟨⟨hk.1.1, ⟨hk.1.2.2.1, ⟨hk.2, ⟨hk.1.2.2.2.1, hk.1.2.2.2.2⟩⟩⟩⟩, hk.1.2.1⟩)) hg hat); have n1_ := Aside0.mk (Kd.R_after (ok := (fun k_ => (w.heap.size ≤ k_) ∧ some k_ ≠ (v495 : Value).ownBlock)) (by (with_reducible repeat (first | apply Kd.R_alloc | apply Kd.R_drewN | apply Kd.R_drew)); exact Kd.R_mono HO_13.out (fun _ hk => ⟨⟨hk.1.1, hk.2⟩, hk.1.2⟩)) hg hat); have n2_ := Aside0.mk (blk_grown (g := gb462) (o := .cells #[.slice (some ad466) l2_0.length c2_0, .int .i64 a2_1, .slice A2_2 l2_2.length c2_2] 30 (0, 0)) (blk_any BK462.out) hg (Kd.R_ne HO_11.out BK462.out (by decide))); have n3_ := Aside0.mk (blk_grown (g := gb463) (o := .cells #[.slice none 0 0, .int .i64 0, .slice none 0 0] 30 (0, 0)) (blk_any BK463.out) hg (Kd.R_ne HO_11.out BK463.out (by decide))); have n4_ := Aside0.mk (Kd.R_after (ok := (fun k_ => (w.heap.size ≤ k_) ∧ some k_ ≠ (.slice (some ad490) t480.length co41 : Value).ownBlock)) (by (with_reducible repeat (first | apply Kd.R_alloc | apply Kd.R_drewN | apply Kd.R_drew)); exact Kd.R_mono HO496.out (fun _ hk => ⟨⟨hk.1.1.1, hk.2⟩, hk.1.2⟩)) hg hat); have n5_ := Aside0.mk (hb); have n6_ := Aside0.mk (ho); clear HO_10; clear HO_13; clear BK462; clear BK463; clear HO496; clear HB; clear HO_11; have HO_10 := n0_; have HO_13 := n1_; have BK462 := n2_; have BK463 := n3_; have HO496 := n4_; have HB := n5_; have HO499 := n6_; clear n0_ n1_ n2_ n3_ n4_ n5_ n6_; clear ho hb hg hat; obtain ⟨Ao45, co45, eo45⟩ := Kd.R_slice HO496.out; subst eo45; obtain ⟨Ao46, co46, eo46⟩ := Kd.R_slice HO499.out; subst eo46) | ((with_reducible refine gate_callee (f := 46) rfl ?_); refine goesL_ (some 90) rfl rfl Try.func46 (by kernel_rfl) rfl #[.slice A0 l0.length c0, .slice A1 l1.length c1, .slice Ao45 t493.length co45, .slice Ao46 y497.length co46] rfl (by (try simp only [List.map_toArray, List.map_cons, List.map_nil]); first | done | rfl | (simp only [List.length_drop, List.length_take]; rfl)) ?_; (with_reducible refine (fulcrumref21_cleaned.calls k2 _ _ l0 _ _ l1 (fun k_ => some k_ = (.slice Ao45 t493.length co45 : Value).ownBlock) _ _ t493 _ _ y497 t500 t503 _ ?side1 ?side2 ?side3 ?side4 ?side5 ?side6 ?side7 A40.out).mono ?_); (case side1 => repeat (first | exact (Kd.C_below HR0.out HB.out) | (with_reducible refine Kd.C_alloc ?_ _) | (with_reducible refine Kd.C_drewN ?_ _) | (with_reducible refine Kd.C_drew ?_))); (case side2 => exact HC0.out); (case side3 => repeat (first | exact (Kd.C_below HR1.out HB.out) | (with_reducible refine Kd.C_alloc ?_ _) | (with_reducible refine Kd.C_drewN ?_ _) | (with_reducible refine Kd.C_drew ?_))); (case side4 => exact HC1.out); (case side5 => exact Kd.R_V (Kd.R_tight rfl (Kd.R_types (Kd.R_types (HO496.out) BK462.out (by decide)) BK463.out (by decide)))); (case side6 => repeat (first | exact (Kd.R_reads' HO499.out).2.2 | (with_reducible refine Kd.C_alloc ?_ _) | (with_reducible refine Kd.C_drewN ?_ _) | (with_reducible refine Kd.C_drew ?_))); (case side7 => exact (Kd.R_reads' HO499.out).2.1); rintro e w47 ⟨v501, v504, rfl, ho0, ho1, hb⟩; refine ⟨_, rfl, ?_⟩; have n0_ := Aside0.mk (Kd.V_elder' (by (with_reducible repeat (first | apply Kd.V_alloc | apply Kd.V_drewN | apply Kd.V_drew)); exact HO_10.out) (Kd.R_base ho1) hb); have n1_ := Aside0.mk (Kd.R_elder' (R_any HO_13.out) (Kd.R_base ho1) hb); have n2_ := Aside0.mk (Kd.R_elder' (R_any HO496.out) (Kd.R_base ho1) hb); have n3_ := Aside0.mk (Kd.R_elder' (R_any HO499.out) (Kd.R_base ho1) hb); have n4_ := Aside0.mk (Kd.V_lower (Kd.V_mono (ok' := fun k_ => (w.heap.size ≤ k_) ∧ some k_ ≠ (v504 : Value).ownBlock ∧ some k_ ≠ (.slice (some ad490) t480.length co41 : Value).ownBlock ∧ some k_ ≠ (.slice Ao46 y497.length co46 : Value).ownBlock ∧ k_ ≠ gb462 ∧ k_ ≠ gb463) ho0 (fun k_ hk_ => ⟨Or.elim hk_.1 (fun hs_ => ((Kd.R_types (Kd.R_types (HO496.out) BK462.out (by decide)) BK463.out (by decide)).1 k_ hs_.symm).1.1.1.1) (fun hn_ => (Nat.le_trans (below_size (by repeat (first | (with_reducible first | exact HB.out | apply below_alloc | apply pw_below_drewN | apply below_drew1 | refine below_set ?_ GE462.out | refine below_set ?_ GE463.out) | exact HB.out))) hn_)), hk_.2, Or.elim hk_.1 (fun hs_ => ((Kd.R_types (Kd.R_types (HO496.out) BK462.out (by decide)) BK463.out (by decide)).1 k_ hs_.symm).1.1.1.2) (fun hn_ => (Kd.fresh' (Kd.R_lt (R_any HO_13.out)) k_ hn_)), Or.elim hk_.1 (fun hs_ => ((Kd.R_types (Kd.R_types (HO496.out) BK462.out (by decide)) BK463.out (by decide)).1 k_ hs_.symm).1.1.2) (fun hn_ => (Kd.fresh' (Kd.R_lt (R_any HO499.out)) k_ hn_)), Or.elim hk_.1 (fun hs_ => ((Kd.R_types (Kd.R_types (HO496.out) BK462.out (by decide)) BK463.out (by decide)).1 k_ hs_.symm).1.2) (fun hn_ => (Kd.freshB (g := gb462) (o := .cells #[.slice (some ad466) l2_0.length c2_0, .int .i64 a2_1, .slice A2_2 l2_2.length c2_2] 30 (0, 0)) (blk_any BK462.out) k_ hn_)), Or.elim hk_.1 (fun hs_ => ((Kd.R_types (Kd.R_types (HO496.out) BK462.out (by decide)) BK463.out (by decide)).1 k_ hs_.symm).2) (fun hn_ => (Kd.freshB (g := gb463) (o := .cells #[.slice none 0 0, .int .i64 0, .slice none 0 0] 30 (0, 0)) (blk_any BK463.out) k_ hn_))⟩)) (below_size (by repeat (first | (with_reducible first | exact HB.out | apply below_alloc | apply pw_below_drewN | apply below_drew1 | refine below_set ?_ GE462.out | refine below_set ?_ GE463.out) | exact HB.out)))); have n5_ := Aside0.mk (Kd.R_lower (Kd.R_new' (Kd.R_new' (Kd.R_new' (Kd.R_newM (M := fun k_ => (w.heap.size ≤ k_)) (Kd.R_mono (ok' := fun k_ => True) ho1 (fun _ hk_ => trivial)) (below_size (by repeat (first | (with_reducible first | exact HB.out | apply below_alloc | apply pw_below_drewN | apply below_drew1 | refine below_set ?_ GE462.out | refine below_set ?_ GE463.out) | exact HB.out))) (fun k_ h_ => h_)) (Kd.R_lt (R_any HO_13.out))) (Kd.R_lt (R_any HO496.out))) (Kd.R_lt (R_any HO499.out))) (below_size (by repeat (first | (with_reducible first | exact HB.out | apply below_alloc | apply pw_below_drewN | apply below_drew1 | refine below_set ?_ GE462.out | refine below_set ?_ GE463.out) | exact HB.out)))); have n6_ := Aside0.mk (blk_below (g := gb462) (o := .cells #[.slice (some ad466) l2_0.length c2_0, .int .i64 a2_1, .slice A2_2 l2_2.length c2_2] 30 (0, 0)) (blk_any BK462.out) hb); have n7_ := Aside0.mk (blk_below (g := gb463) (o := .cells #[.slice none 0 0, .int .i64 0, .slice none 0 0] 30 (0, 0)) (blk_any BK463.out) hb); have n8_ := Aside0.mk (below_step (by repeat (first | (with_reducible first | exact HB.out | apply below_alloc | apply pw_below_drewN | apply below_drew1 | refine below_set ?_ GE462.out | refine below_set ?_ GE463.out) | exact HB.out)) hb); clear HO_10; clear HO_13; clear HO496; clear HO499; clear BK462; clear BK463; clear HB; have HO_10 := n0_; have HO_13 := n1_; have HO496 := n2_; have HO499 := n3_; have HO502 := n4_; have HO505 := n5_; have BK462 := n6_; have BK463 := n7_; have HB := n8_; clear n0_ n1_ n2_ n3_ n4_ n5_ n6_ n7_ n8_; (try clear hb); (try clear hb2); (try clear hk); (try clear hi); (try clear ho0); (try clear ho1)))
             go_roundg k2
             case measure => have := HK1.out; have := HK2.out; omega
             case rel => exact ⟨(t500), (t503), (wrap64 (x14_2 + 1)), (by first | rfl | (simp; done) | (simp [*]; done)), H', ⟨by have := HK1.out; have := HK2.out; omega⟩, ⟨by (with_reducible repeat (first | apply Kd.V_alloc | apply Kd.V_drewN | apply Kd.V_drew)); exact Kd.V_mono HO502.out (fun _ hk => ⟨hk.1, ⟨hk.2.1, ⟨hk.2.2.1, ⟨hk.2.2.2.2.1, hk.2.2.2.2.2⟩⟩⟩⟩)⟩, ⟨by (with_reducible repeat (first | apply Kd.R_alloc | apply Kd.R_drewN | apply Kd.R_drew)); exact Kd.R_mono HO505.out (fun _ hk => ⟨hk.1.1.1.1, hk.1.1.2⟩)⟩, ⟨by (with_reducible repeat (first | apply Kd.R_alloc | apply Kd.R_drewN | apply Kd.R_drew)); exact Kd.R_mono HO_13.out (fun _ hk => ⟨hk.1.1.1, hk.2⟩)⟩, ⟨blk_any BK462.out⟩, ⟨blk_any BK463.out⟩, ⟨by repeat (first | (with_reducible first | exact HB.out | apply below_alloc | apply pw_below_drewN | apply below_drew1 | refine below_set ?_ GE462.out | refine below_set ?_ GE463.out) | exact HB.out)⟩⟩
            ·rw [if_neg c39] at H
             exact absurd H (by simp)
           ·replace c37 := Bool.eq_false_iff.mpr c37
            subst c37
            have H1 : (fulcrumref21_Less.l1 k2 l0 l1 (rd l2_0 0) x10_2 x11_2 t480 (wrap64 (x14_2 + 1))) = some (r1, r2, r3, r4) := by rw [if_neg (show ¬ (false = true) by decide)] at H; exact H
            clear H
            have H := H1
            clear H1
            have H' := Aside0.mk H
            clear H
            obtain ⟨Ao48, co48, eo48⟩ := Kd.R_slice HO_13.out
            subst eo48
            have p490 : 0 ≤ (x14_2 : Int) := odt
            have q490 : x14_2 < (t480.length : Int) := odt
            obtain ⟨ad490, e490, hx490_0⟩ := Kd.at_int (Kd.R_reads' HO_13.out).2.2 x14_2 p490 q490
            cases e490
            replace p490 := eq_true p490
            replace q490 := eq_true q490
            obtain ⟨Ao49, co49, eo49⟩ := Kd.V_slice HO_10.out
            subst eo49
            go_wp2_with (first | ((with_reducible refine gate_callee (f := 63) rfl ?_); refine goesL_ (some 70) rfl rfl Try.func63 (by kernel_rfl) rfl #[.slice A0 l0.length c0, .slice A1 l1.length c1, .slice Ao49 x10_2.length co49, .int .i64 (rd t480 x14_2)] rfl (by (try simp only [List.map_toArray, List.map_cons, List.map_nil]); first | done | rfl | (simp only [List.length_drop, List.length_take]; rfl)) ?_; (with_reducible refine (fulcrumref21_needless.calls k2 _ _ l0 _ _ l1 _ _ x10_2 (rd t480 x14_2) false _ ?side1 ?side2 ?side3 ?side4 ?side5 ?side6 A36.out).mono ?_); (case side1 => repeat (first | exact (Kd.C_below HR0.out HB.out) | (with_reducible refine Kd.C_alloc ?_ _) | (with_reducible refine Kd.C_drewN ?_ _) | (with_reducible refine Kd.C_drew ?_))); (case side2 => exact HC0.out); (case side3 => repeat (first | exact (Kd.C_below HR1.out HB.out) | (with_reducible refine Kd.C_alloc ?_ _) | (with_reducible refine Kd.C_drewN ?_ _) | (with_reducible refine Kd.C_drew ?_))); (case side4 => exact HC1.out); (case side5 => repeat (first | exact (Kd.V_reads' HO_10.out).2.2 | (with_reducible refine Kd.C_alloc ?_ _) | (with_reducible refine Kd.C_drewN ?_ _) | (with_reducible refine Kd.C_drew ?_))); (case side6 => exact (Kd.V_reads' HO_10.out).2.1); rintro e w' ⟨rfl, ⟨nd, rfl⟩⟩; refine ⟨_, rfl, ?_⟩))
            go_roundg k2
            case measure => have := HK1.out; have := HK2.out; omega
            case rel => exact ⟨(x10_2), (x11_2), (wrap64 (x14_2 + 1)), (by first | rfl | (simp; done) | (simp [*]; done)), H', ⟨by have := HK1.out; have := HK2.out; omega⟩, ⟨by (with_reducible repeat (first | apply Kd.V_alloc | apply Kd.V_drewN | apply Kd.V_drew)); exact HO_10.out⟩, ⟨R_any HO_11.out⟩, ⟨R_any HO_13.out⟩, ⟨blk_any BK462.out⟩, ⟨blk_any BK463.out⟩, ⟨by repeat (first | (with_reducible first | exact HB.out | apply below_alloc | apply pw_below_drewN | apply below_drew1 | refine below_set ?_ GE462.out | refine below_set ?_ GE463.out) | exact HB.out)⟩⟩
          ·rw [if_neg c35] at H
           exact absurd H (by simp)
         ·rw [if_neg c34] at H
          have c34b0 : decide (x14_2 < (t480.length : Int)) = false := decide_eq_false c34
          clear c34
          replace H := Option.bind_eq_some_iff.mp H
          obtain ⟨⟨t483, t486, t487⟩, A500, H⟩ := H
          replace H : (some (t483, t486, t487, 0)) = some (r1, r2, r3, r4) := H
          have A50 := Aside0.mk A500
          clear A500
          simp only [Option.some.injEq, Prod.mk.injEq] at H
          obtain ⟨rfl, rfl, rfl, rfl⟩ := H
          obtain ⟨Ao51, co51, eo51⟩ := Kd.R_slice HO_13.out
          subst eo51
          obtain ⟨Ao52, co52, eo52⟩ := Kd.V_slice HO_10.out
          subst eo52
          obtain ⟨Ao53, co53, eo53⟩ := Kd.R_slice HO_11.out
          subst eo53
          go_wp2_with (first | ((with_reducible refine gate_callee (f := 47) rfl ?_); refine goesL_ (some 97) rfl rfl Try.func47 (by kernel_rfl) rfl #[.slice A1 l1.length c1, .int .i64 (rd l2_0 0), .slice Ao52 x10_2.length co52, .slice Ao53 x11_2.length co53] rfl (by (try simp only [List.map_toArray, List.map_cons, List.map_nil]); first | done | rfl | (simp only [List.length_drop, List.length_take]; rfl)) ?_; (with_reducible refine (fulcrumref21_learnt.calls k2 _ _ l1 (rd l2_0 0) _ _ x10_2 (fun k_ => some k_ = (.slice Ao53 x11_2.length co53 : Value).ownBlock) _ _ x11_2 t483 t486 t487 _ ?side1 ?side2 ?side3 ?side4 ?side5 A50.out).mono ?_); (case side1 => repeat (first | exact (Kd.C_below HR1.out HB.out) | (with_reducible refine Kd.C_alloc ?_ _) | (with_reducible refine Kd.C_drewN ?_ _) | (with_reducible refine Kd.C_drew ?_))); (case side2 => exact HC1.out); (case side3 => repeat (first | exact (Kd.V_reads' HO_10.out).2.2 | (with_reducible refine Kd.C_alloc ?_ _) | (with_reducible refine Kd.C_drewN ?_ _) | (with_reducible refine Kd.C_drew ?_))); (case side4 => exact (Kd.V_reads' HO_10.out).2.1); (case side5 => exact Kd.R_V (Kd.R_tight rfl (Kd.R_types (Kd.R_types (HO_11.out) BK462.out (by decide)) BK463.out (by decide)))); rintro e w54 ⟨v484, v488, rfl, ho0, ho1, hb⟩; refine ⟨_, rfl, ?_⟩; have n0_ := Aside0.mk (Kd.V_elder' (by (with_reducible repeat (first | apply Kd.V_alloc | apply Kd.V_drewN | apply Kd.V_drew)); exact HO_10.out) (Kd.R_base ho0) hb); have n1_ := Aside0.mk (Kd.R_elder' (R_any HO_11.out) (Kd.R_base ho0) hb); have n2_ := Aside0.mk (Kd.R_elder' (R_any HO_13.out) (Kd.R_base ho0) hb); have n3_ := Aside0.mk (Kd.R_lower (Kd.R_new' (Kd.R_new' (Kd.R_newM (M := fun k_ => (w.heap.size ≤ k_)) (Kd.R_mono (ok' := fun k_ => True) ho0 (fun _ hk_ => trivial)) (below_size (by repeat (first | (with_reducible first | exact HB.out | apply below_alloc | apply pw_below_drewN | apply below_drew1 | refine below_set ?_ GE462.out | refine below_set ?_ GE463.out) | exact HB.out))) (fun k_ h_ => h_)) (Kd.R_lt (R_any HO_11.out))) (Kd.R_lt (R_any HO_13.out))) (below_size (by repeat (first | (with_reducible first | exact HB.out | apply below_alloc | apply pw_below_drewN | apply below_drew1 | refine below_set ?_ GE462.out | refine below_set ?_ GE463.out) | exact HB.out)))); have n4_ := Aside0.mk (Kd.V_lower (Kd.V_mono (ok' := fun k_ => (w.heap.size ≤ k_) ∧ some k_ ≠ (v484 : Value).ownBlock ∧ some k_ ≠ (.slice Ao51 t480.length co51 : Value).ownBlock ∧ k_ ≠ gb462 ∧ k_ ≠ gb463) ho1 (fun k_ hk_ => ⟨Or.elim hk_.1 (fun hs_ => ((Kd.R_types (Kd.R_types (HO_11.out) BK462.out (by decide)) BK463.out (by decide)).1 k_ hs_.symm).1.1.1) (fun hn_ => (Nat.le_trans (below_size (by repeat (first | (with_reducible first | exact HB.out | apply below_alloc | apply pw_below_drewN | apply below_drew1 | refine below_set ?_ GE462.out | refine below_set ?_ GE463.out) | exact HB.out))) hn_)), hk_.2, Or.elim hk_.1 (fun hs_ => ((Kd.R_types (Kd.R_types (HO_11.out) BK462.out (by decide)) BK463.out (by decide)).1 k_ hs_.symm).1.1.2) (fun hn_ => (Kd.fresh' (Kd.R_lt (R_any HO_13.out)) k_ hn_)), Or.elim hk_.1 (fun hs_ => ((Kd.R_types (Kd.R_types (HO_11.out) BK462.out (by decide)) BK463.out (by decide)).1 k_ hs_.symm).1.2) (fun hn_ => (Kd.freshB (g := gb462) (o := .cells #[.slice (some ad466) l2_0.length c2_0, .int .i64 a2_1, .slice A2_2 l2_2.length c2_2] 30 (0, 0)) (blk_any BK462.out) k_ hn_)), Or.elim hk_.1 (fun hs_ => ((Kd.R_types (Kd.R_types (HO_11.out) BK462.out (by decide)) BK463.out (by decide)).1 k_ hs_.symm).2) (fun hn_ => (Kd.freshB (g := gb463) (o := .cells #[.slice none 0 0, .int .i64 0, .slice none 0 0] 30 (0, 0)) (blk_any BK463.out) k_ hn_))⟩)) (below_size (by repeat (first | (with_reducible first | exact HB.out | apply below_alloc | apply pw_below_drewN | apply below_drew1 | refine below_set ?_ GE462.out | refine below_set ?_ GE463.out) | exact HB.out)))); have n5_ := Aside0.mk (blk_below (g := gb462) (o := .cells #[.slice (some ad466) l2_0.length c2_0, .int .i64 a2_1, .slice A2_2 l2_2.length c2_2] 30 (0, 0)) (blk_any BK462.out) hb); have n6_ := Aside0.mk (blk_below (g := gb463) (o := .cells #[.slice none 0 0, .int .i64 0, .slice none 0 0] 30 (0, 0)) (blk_any BK463.out) hb); have n7_ := Aside0.mk (below_step (by repeat (first | (with_reducible first | exact HB.out | apply below_alloc | apply pw_below_drewN | apply below_drew1 | refine below_set ?_ GE462.out | refine below_set ?_ GE463.out) | exact HB.out)) hb); clear HO_10; clear HO_11; clear HO_13; clear BK462; clear BK463; clear HB; have HO_10 := n0_; have HO_11 := n1_; have HO_13 := n2_; have HO485 := n3_; have HO489 := n4_; have BK462 := n5_; have BK463 := n6_; have HB := n7_; clear n0_ n1_ n2_ n3_ n4_ n5_ n6_ n7_; (try clear hb); (try clear hb2); (try clear hk); (try clear hi); (try clear ho0); (try clear ho1); obtain ⟨Ao55, co55, eo55⟩ := Kd.R_slice HO485.out; subst eo55; have hnb56 := NB463_462.out; have hnc56 := NB462_463.out; have hcz57_0 : w54.cell? ⟨gb463, 0, none⟩ = some (.slice none 0 0) := (blk_cell BK463.out 0).trans rfl; have hcz57_1 : w54.cell? ⟨gb463, 1, none⟩ = some (.int .i64 0) := (blk_cell BK463.out 1).trans rfl; have hcz57_2 : w54.cell? ⟨gb463, 2, none⟩ = some (.slice none 0 0) := (blk_cell BK463.out 2).trans rfl; have hfz57_0 := blk_frozen BK463.out 0; have hfz57_1 := blk_frozen BK463.out 1; have hfz57_2 := blk_frozen BK463.out 2; obtain ⟨Ao58, co58, eo58⟩ := Kd.V_slice HO489.out; subst eo58))
          refine bodyPost_ret (results_ct rfl _ _ gb463 30 #[.slice Ao55 t483.length co55, .int .i64 t486, .slice Ao58 t487.length co58] (0, 0) _ rfl (by (with_reducible repeat (first | refine blk_drewN ?_ _ | refine blk_drew ?_ | refine blk_alloc ?_ _)); refine blk_put (cs := #[.slice Ao55 t483.length co55, .int .i64 t486, .slice none 0 0]) ?_ 2 _ rfl; (with_reducible repeat (first | refine blk_drewN ?_ _ | refine blk_drew ?_ | refine blk_alloc ?_ _)); refine blk_put (cs := #[.slice Ao55 t483.length co55, .int .i64 0, .slice none 0 0]) ?_ 1 _ rfl; (with_reducible repeat (first | refine blk_drewN ?_ _ | refine blk_drew ?_ | refine blk_alloc ?_ _)); refine blk_put (cs := #[.slice none 0 0, .int .i64 0, .slice none 0 0]) ?_ 0 _ rfl; exact blk_any BK463.out) Try.underlying30 rfl (by kernel_rfl)) rfl ?_
          exact ⟨_, _, by first | rfl | (simp [errW_none, errW_some] <;> rfl) | (simp [*, errW_none, errW_some] <;> rfl), by (with_reducible repeat (first | apply Kd.R_alloc | apply Kd.R_drewN | apply Kd.R_drew)); exact Kd.R_mono (Kd.R_far (p := ⟨gb463, 2, none⟩) (Kd.R_far (p := ⟨gb463, 1, none⟩) (Kd.R_far (p := ⟨gb463, 0, none⟩) (Kd.R_types HO485.out BK463.out (by decide)) (fun _ hk => hk.2) (.slice Ao55 t483.length co55)) (fun _ hk => hk.2) (.int .i64 t486)) (fun _ hk => hk.2) (.slice Ao58 t487.length co58)) (fun _ hk => hk.1.1.1.1), by (with_reducible repeat (first | apply Kd.V_alloc | apply Kd.V_drewN | apply Kd.V_drew)); exact Kd.V_mono (Kd.V_far (p := ⟨gb463, 2, none⟩) (Kd.V_far (p := ⟨gb463, 1, none⟩) (Kd.V_far (p := ⟨gb463, 0, none⟩) (Kd.V_mono HO489.out (fun k_ hk => (⟨hk, hk.2.2.2.2⟩ : _ ∧ k_ ≠ gb463))) (fun _ hk => hk.2) (.slice Ao55 t483.length co55)) (fun _ hk => hk.2) (.int .i64 t486)) (fun _ hk => hk.2) (.slice Ao58 t487.length co58)) (fun _ hk => ⟨hk.1.1, hk.1.2.1⟩), by repeat (first | (with_reducible first | exact HB.out | apply below_alloc | apply pw_below_drewN | apply below_drew1 | refine below_set ?_ GE462.out | refine below_set ?_ GE463.out) | exact HB.out)⟩
   ·rw [if_neg c8] at H
    exact absurd H (by simp)
  ·replace c7 := Bool.eq_false_iff.mpr c7
   subst c7
   have H1 : (some (([] : List Int), 0, ([] : List Int), 210)) = some (r1, r2, r3, r4) := by rw [if_neg (show ¬ (false = true) by decide)] at H; exact H
   clear H
   have H := H1
   clear H1
   simp only [Option.some.injEq, Prod.mk.injEq] at H
   obtain ⟨rfl, rfl, rfl, rfl⟩ := H
   go_enter Try.func32, Try.ntmps32
   go_wp2_with (first | ((with_reducible refine gate_dst (N := 5) rfl ?_); refine box_event ?hg (N := 5) ?hd (cs := #[.slice A2_0 l2_0.length c2_0, .int .i64 a2_1, .slice A2_2 l2_2.length c2_2]) (t := 30) ?hr ?_; (case hd => rfl); (case hg => rfl); (case hr => first | (go_simp; done) | (go_simp; rfl)); intro gb462 hg w59 hbox hb; have n0_ := Aside0.mk (below_step (bel_any HB.out) hb); have n1_ := Aside0.mk (hbox); have n2_ := Aside0.mk ((by rw [hg]; exact (below_size (bel_any HB.out)) : w.heap.size ≤ gb462)); have n3_ := Aside0.mk ((by rw [hg]; exact (below_size (bel_any HB.out)) : w.heap.size ≤ gb462)); clear HB; have HB := n0_; have BK462 := n1_; have GW462 := n2_; have GE462 := n3_; clear n0_ n1_ n2_ n3_; clear hb hbox hg) | ((with_reducible refine gate_dst (N := 6) rfl ?_); refine box_event ?hg (N := 6) ?hd (cs := #[.slice none 0 0, .int .i64 0, .slice none 0 0]) (t := 30) ?hr ?_; (case hd => rfl); (case hg => rfl); (case hr => first | (go_simp; done) | (go_simp; rfl)); intro gb463 hg w60 hbox hb; have n0_ := Aside0.mk (blk_below (g := gb462) (o := .cells #[.slice A2_0 l2_0.length c2_0, .int .i64 a2_1, .slice A2_2 l2_2.length c2_2] 30 (0, 0)) (blk_any BK462.out) hb); have n1_ := Aside0.mk (below_step (by repeat (first | (with_reducible first | exact HB.out | apply below_alloc | apply pw_below_drewN | apply below_drew1 | refine below_set ?_ GE462.out) | exact HB.out)) hb); have n2_ := Aside0.mk (hbox); have n3_ := Aside0.mk ((by rw [hg]; exact (below_size (by repeat (first | (with_reducible first | exact HB.out | apply below_alloc | apply pw_below_drewN | apply below_drew1 | refine below_set ?_ GE462.out) | exact HB.out))) : w.heap.size ≤ gb463)); have n4_ := Aside0.mk ((by rw [hg]; exact (below_size (by repeat (first | (with_reducible first | exact HB.out | apply below_alloc | apply pw_below_drewN | apply below_drew1 | refine below_set ?_ GE462.out) | exact HB.out))) : w.heap.size ≤ gb463)); have n5_ := Aside0.mk ((by rw [hg]; exact Nat.ne_of_lt (blk_lt (g := gb462) (o := .cells #[.slice A2_0 l2_0.length c2_0, .int .i64 a2_1, .slice A2_2 l2_2.length c2_2] 30 (0, 0)) (blk_any BK462.out)) : gb462 ≠ gb463)); have n6_ := Aside0.mk ((by rw [hg]; exact Nat.ne_of_gt (blk_lt (g := gb462) (o := .cells #[.slice A2_0 l2_0.length c2_0, .int .i64 a2_1, .slice A2_2 l2_2.length c2_2] 30 (0, 0)) (blk_any BK462.out)) : gb463 ≠ gb462)); clear BK462; clear HB; have BK462 := n0_; have HB := n1_; have BK463 := n2_; have GW463 := n3_; have GE463 := n4_; have NB462_463 := n5_; have NB463_462 := n6_; clear n0_ n1_ n2_ n3_ n4_ n5_ n6_; clear hb hbox hg) | ((with_reducible refine gate_callee (f := 21) rfl ?_); refine goesL_ (some 18) rfl rfl Try.func21 (by kernel_rfl) rfl #[.slice A0 l0.length c0, .slice A1 l1.length c1] rfl (by (try simp only [List.map_toArray, List.map_cons, List.map_nil]); first | done | rfl | (simp only [List.length_drop, List.length_take]; rfl)) ?_; (with_reducible refine (fulcrumref21_Check.calls k _ _ l0 _ _ l1 t464 _ ?side1 ?side2 ?side3 ?side4 A4.out).mono ?_); (case side1 => repeat (first | exact (Kd.C_below HR0.out HB.out) | (with_reducible refine Kd.C_alloc ?_ _) | (with_reducible refine Kd.C_drewN ?_ _) | (with_reducible refine Kd.C_drew ?_))); (case side2 => exact HC0.out); (case side3 => repeat (first | exact (Kd.C_below HR1.out HB.out) | (with_reducible refine Kd.C_alloc ?_ _) | (with_reducible refine Kd.C_drewN ?_ _) | (with_reducible refine Kd.C_drew ?_))); (case side4 => exact HC1.out); rintro e w61 ⟨rfl, hb⟩; refine ⟨_, rfl, ?_⟩; have n0_ := Aside0.mk (blk_below (g := gb462) (o := .cells #[.slice A2_0 l2_0.length c2_0, .int .i64 a2_1, .slice A2_2 l2_2.length c2_2] 30 (0, 0)) (blk_any BK462.out) hb); have n1_ := Aside0.mk (blk_below (g := gb463) (o := .cells #[.slice none 0 0, .int .i64 0, .slice none 0 0] 30 (0, 0)) (blk_any BK463.out) hb); have n2_ := Aside0.mk (below_step (by repeat (first | (with_reducible first | exact HB.out | apply below_alloc | apply pw_below_drewN | apply below_drew1 | refine below_set ?_ GE462.out | refine below_set ?_ GE463.out) | exact HB.out)) hb); clear BK462; clear BK463; clear HB; have BK462 := n0_; have BK463 := n1_; have HB := n2_; clear n0_ n1_ n2_; (try clear hb); (try clear hb2); (try clear hk); (try clear hi); have hnb62 := NB462_463.out; have hnc62 := NB463_462.out; have hcz63_0 : w61.cell? ⟨gb462, 0, none⟩ = some (.slice A2_0 l2_0.length c2_0) := (blk_cell BK462.out 0).trans rfl; have hcz63_1 : w61.cell? ⟨gb462, 1, none⟩ = some (.int .i64 a2_1) := (blk_cell BK462.out 1).trans rfl; have hcz63_2 : w61.cell? ⟨gb462, 2, none⟩ = some (.slice A2_2 l2_2.length c2_2) := (blk_cell BK462.out 2).trans rfl; have hfz63_0 := blk_frozen BK462.out 0; have hfz63_1 := blk_frozen BK462.out 1; have hfz63_2 := blk_frozen BK462.out 2) | ((with_reducible refine gate_callee (f := 60) rfl ?_); refine goesL_ (some 26) rfl rfl Try.func60 (by kernel_rfl) rfl #[.slice A1 l1.length c1, .slice A2_0 l2_0.length c2_0] rfl (by (try simp only [List.map_toArray, List.map_cons, List.map_nil]); first | done | rfl | (simp only [List.length_drop, List.length_take]; rfl)) ?_; (with_reducible refine (fulcrumref21_right.calls k _ _ l1 _ _ l2_0 false _ ?side1 ?side2 ?side3 ?side4 A6.out).mono ?_); (case side1 => repeat (first | exact (Kd.C_below HR1.out HB.out) | (with_reducible refine Kd.C_alloc ?_ _) | (with_reducible refine Kd.C_drewN ?_ _) | (with_reducible refine Kd.C_drew ?_))); (case side2 => exact HC1.out); (case side3 => repeat (first | exact (Kd.C_below HR2_0.out HB.out) | (with_reducible refine Kd.C_alloc ?_ _) | (with_reducible refine Kd.C_drewN ?_ _) | (with_reducible refine Kd.C_drew ?_))); (case side4 => exact HC2_0.out); rintro e w64 ⟨rfl, hb⟩; refine ⟨_, rfl, ?_⟩; have n0_ := Aside0.mk (blk_below (g := gb462) (o := .cells #[.slice A2_0 l2_0.length c2_0, .int .i64 a2_1, .slice A2_2 l2_2.length c2_2] 30 (0, 0)) (blk_any BK462.out) hb); have n1_ := Aside0.mk (blk_below (g := gb463) (o := .cells #[.slice none 0 0, .int .i64 0, .slice none 0 0] 30 (0, 0)) (blk_any BK463.out) hb); have n2_ := Aside0.mk (below_step (by repeat (first | (with_reducible first | exact HB.out | apply below_alloc | apply pw_below_drewN | apply below_drew1 | refine below_set ?_ GE462.out | refine below_set ?_ GE463.out) | exact HB.out)) hb); clear BK462; clear BK463; clear HB; have BK462 := n0_; have BK463 := n1_; have HB := n2_; clear n0_ n1_ n2_; (try clear hb); (try clear hb2); (try clear hk); (try clear hi); have hcz65_0 : w64.cell? ⟨gb463, 0, none⟩ = some (.slice none 0 0) := (blk_cell BK463.out 0).trans rfl; have hcz65_1 : w64.cell? ⟨gb463, 1, none⟩ = some (.int .i64 0) := (blk_cell BK463.out 1).trans rfl; have hcz65_2 : w64.cell? ⟨gb463, 2, none⟩ = some (.slice none 0 0) := (blk_cell BK463.out 2).trans rfl; have hfz65_0 := blk_frozen BK463.out 0; have hfz65_1 := blk_frozen BK463.out 1; have hfz65_2 := blk_frozen BK463.out 2))
   refine bodyPost_ret (results_ct rfl _ _ gb463 30 #[.slice none 0 0, .int .i64 0, .slice none 0 0] (0, 0) _ rfl (by (with_reducible repeat (first | refine blk_drewN ?_ _ | refine blk_drew ?_ | refine blk_alloc ?_ _)); refine blk_put (cs := #[.slice none 0 0, .int .i64 0, .slice none 0 0]) ?_ 2 _ rfl; (with_reducible repeat (first | refine blk_drewN ?_ _ | refine blk_drew ?_ | refine blk_alloc ?_ _)); refine blk_put (cs := #[.slice none 0 0, .int .i64 0, .slice none 0 0]) ?_ 1 _ rfl; (with_reducible repeat (first | refine blk_drewN ?_ _ | refine blk_drew ?_ | refine blk_alloc ?_ _)); refine blk_put (cs := #[.slice none 0 0, .int .i64 0, .slice none 0 0]) ?_ 0 _ rfl; exact blk_any BK463.out) Try.underlying30 rfl (by kernel_rfl)) rfl ?_
   exact ⟨_, _, by first | rfl | (simp [errW_none, errW_some] <;> rfl) | (simp [*, errW_none, errW_some] <;> rfl), by first | exact Kd.R_nil _ _ _ _ _ | exact Kd.N_nil _ _ _ _ _ | exact Kd.V_nil _ _ _ _ _ | exact Kd.Q_nil _ _ _ _ _ | exact Kd.S_nil _ _ _ _ _, (by first | exact Kd.V_nil _ _ _ _ _ | exact Kd.R_V (by first | exact Kd.R_nil _ _ _ _ _ | exact Kd.N_nil _ _ _ _ _ | exact Kd.V_nil _ _ _ _ _ | exact Kd.Q_nil _ _ _ _ _ | exact Kd.S_nil _ _ _ _ _)), by repeat (first | (with_reducible first | exact HB.out | apply below_alloc | apply pw_below_drewN | apply below_drew1 | refine below_set ?_ GE462.out | refine below_set ?_ GE463.out) | exact HB.out)⟩
 ·rw [if_neg c5] at H
  have c5b0 : (t464 == 0) = false := beq_eq_false_iff_ne.mpr c5
  have c5b1 : (t464 != 0) = true := bne_iff_ne.mpr c5
  simp only [Option.some.injEq, Prod.mk.injEq] at H
  obtain ⟨rfl, rfl, rfl, rfl⟩ := H
  go_enter Try.func32, Try.ntmps32
  go_wp2_with (first | ((with_reducible refine gate_dst (N := 5) rfl ?_); refine box_event ?hg (N := 5) ?hd (cs := #[.slice A2_0 l2_0.length c2_0, .int .i64 a2_1, .slice A2_2 l2_2.length c2_2]) (t := 30) ?hr ?_; (case hd => rfl); (case hg => rfl); (case hr => first | (go_simp; done) | (go_simp; rfl)); intro gb462 hg w66 hbox hb; have n0_ := Aside0.mk (below_step (bel_any HB.out) hb); have n1_ := Aside0.mk (hbox); have n2_ := Aside0.mk ((by rw [hg]; exact (below_size (bel_any HB.out)) : w.heap.size ≤ gb462)); have n3_ := Aside0.mk ((by rw [hg]; exact (below_size (bel_any HB.out)) : w.heap.size ≤ gb462)); clear HB; have HB := n0_; have BK462 := n1_; have GW462 := n2_; have GE462 := n3_; clear n0_ n1_ n2_ n3_; clear hb hbox hg) | ((with_reducible refine gate_dst (N := 6) rfl ?_); refine box_event ?hg (N := 6) ?hd (cs := #[.slice none 0 0, .int .i64 0, .slice none 0 0]) (t := 30) ?hr ?_; (case hd => rfl); (case hg => rfl); (case hr => first | (go_simp; done) | (go_simp; rfl)); intro gb463 hg w67 hbox hb; have n0_ := Aside0.mk (blk_below (g := gb462) (o := .cells #[.slice A2_0 l2_0.length c2_0, .int .i64 a2_1, .slice A2_2 l2_2.length c2_2] 30 (0, 0)) (blk_any BK462.out) hb); have n1_ := Aside0.mk (below_step (by repeat (first | (with_reducible first | exact HB.out | apply below_alloc | apply pw_below_drewN | apply below_drew1 | refine below_set ?_ GE462.out) | exact HB.out)) hb); have n2_ := Aside0.mk (hbox); have n3_ := Aside0.mk ((by rw [hg]; exact (below_size (by repeat (first | (with_reducible first | exact HB.out | apply below_alloc | apply pw_below_drewN | apply below_drew1 | refine below_set ?_ GE462.out) | exact HB.out))) : w.heap.size ≤ gb463)); have n4_ := Aside0.mk ((by rw [hg]; exact (below_size (by repeat (first | (with_reducible first | exact HB.out | apply below_alloc | apply pw_below_drewN | apply below_drew1 | refine below_set ?_ GE462.out) | exact HB.out))) : w.heap.size ≤ gb463)); have n5_ := Aside0.mk ((by rw [hg]; exact Nat.ne_of_lt (blk_lt (g := gb462) (o := .cells #[.slice A2_0 l2_0.length c2_0, .int .i64 a2_1, .slice A2_2 l2_2.length c2_2] 30 (0, 0)) (blk_any BK462.out)) : gb462 ≠ gb463)); have n6_ := Aside0.mk ((by rw [hg]; exact Nat.ne_of_gt (blk_lt (g := gb462) (o := .cells #[.slice A2_0 l2_0.length c2_0, .int .i64 a2_1, .slice A2_2 l2_2.length c2_2] 30 (0, 0)) (blk_any BK462.out)) : gb463 ≠ gb462)); clear BK462; clear HB; have BK462 := n0_; have HB := n1_; have BK463 := n2_; have GW463 := n3_; have GE463 := n4_; have NB462_463 := n5_; have NB463_462 := n6_; clear n0_ n1_ n2_ n3_ n4_ n5_ n6_; clear hb hbox hg) | ((with_reducible refine gate_callee (f := 21) rfl ?_); refine goesL_ (some 18) rfl rfl Try.func21 (by kernel_rfl) rfl #[.slice A0 l0.length c0, .slice A1 l1.length c1] rfl (by (try simp only [List.map_toArray, List.map_cons, List.map_nil]); first | done | rfl | (simp only [List.length_drop, List.length_take]; rfl)) ?_; (with_reducible refine (fulcrumref21_Check.calls k _ _ l0 _ _ l1 t464 _ ?side1 ?side2 ?side3 ?side4 A4.out).mono ?_); (case side1 => repeat (first | exact (Kd.C_below HR0.out HB.out) | (with_reducible refine Kd.C_alloc ?_ _) | (with_reducible refine Kd.C_drewN ?_ _) | (with_reducible refine Kd.C_drew ?_))); (case side2 => exact HC0.out); (case side3 => repeat (first | exact (Kd.C_below HR1.out HB.out) | (with_reducible refine Kd.C_alloc ?_ _) | (with_reducible refine Kd.C_drewN ?_ _) | (with_reducible refine Kd.C_drew ?_))); (case side4 => exact HC1.out); rintro e w68 ⟨rfl, hb⟩; refine ⟨_, rfl, ?_⟩; have n0_ := Aside0.mk (blk_below (g := gb462) (o := .cells #[.slice A2_0 l2_0.length c2_0, .int .i64 a2_1, .slice A2_2 l2_2.length c2_2] 30 (0, 0)) (blk_any BK462.out) hb); have n1_ := Aside0.mk (blk_below (g := gb463) (o := .cells #[.slice none 0 0, .int .i64 0, .slice none 0 0] 30 (0, 0)) (blk_any BK463.out) hb); have n2_ := Aside0.mk (below_step (by repeat (first | (with_reducible first | exact HB.out | apply below_alloc | apply pw_below_drewN | apply below_drew1 | refine below_set ?_ GE462.out | refine below_set ?_ GE463.out) | exact HB.out)) hb); clear BK462; clear BK463; clear HB; have BK462 := n0_; have BK463 := n1_; have HB := n2_; clear n0_ n1_ n2_; (try clear hb); (try clear hb2); (try clear hk); (try clear hi); have hnb69 := NB463_462.out; have hnc69 := NB462_463.out; have hcz70_0 : w68.cell? ⟨gb463, 0, none⟩ = some (.slice none 0 0) := (blk_cell BK463.out 0).trans rfl; have hcz70_1 : w68.cell? ⟨gb463, 1, none⟩ = some (.int .i64 0) := (blk_cell BK463.out 1).trans rfl; have hcz70_2 : w68.cell? ⟨gb463, 2, none⟩ = some (.slice none 0 0) := (blk_cell BK463.out 2).trans rfl; have hfz70_0 := blk_frozen BK463.out 0; have hfz70_1 := blk_frozen BK463.out 1; have hfz70_2 := blk_frozen BK463.out 2))
  refine bodyPost_ret (results_ct rfl _ _ gb463 30 #[.slice none 0 0, .int .i64 0, .slice none 0 0] (0, 0) _ rfl (by (with_reducible repeat (first | refine blk_drewN ?_ _ | refine blk_drew ?_ | refine blk_alloc ?_ _)); refine blk_put (cs := #[.slice none 0 0, .int .i64 0, .slice none 0 0]) ?_ 2 _ rfl; (with_reducible repeat (first | refine blk_drewN ?_ _ | refine blk_drew ?_ | refine blk_alloc ?_ _)); refine blk_put (cs := #[.slice none 0 0, .int .i64 0, .slice none 0 0]) ?_ 1 _ rfl; (with_reducible repeat (first | refine blk_drewN ?_ _ | refine blk_drew ?_ | refine blk_alloc ?_ _)); refine blk_put (cs := #[.slice none 0 0, .int .i64 0, .slice none 0 0]) ?_ 0 _ rfl; exact blk_any BK463.out) Try.underlying30 rfl (by kernel_rfl)) rfl ?_
  exact ⟨_, _, by first | rfl | (simp [errW_none, errW_some] <;> rfl) | (simp [*, errW_none, errW_some] <;> rfl), by first | exact Kd.R_nil _ _ _ _ _ | exact Kd.N_nil _ _ _ _ _ | exact Kd.V_nil _ _ _ _ _ | exact Kd.Q_nil _ _ _ _ _ | exact Kd.S_nil _ _ _ _ _, (by first | exact Kd.V_nil _ _ _ _ _ | exact Kd.R_V (by first | exact Kd.R_nil _ _ _ _ _ | exact Kd.N_nil _ _ _ _ _ | exact Kd.V_nil _ _ _ _ _ | exact Kd.Q_nil _ _ _ _ _ | exact Kd.S_nil _ _ _ _ _)), by repeat (first | (with_reducible first | exact HB.out | apply below_alloc | apply pw_below_drewN | apply below_drew1 | refine below_set ?_ GE462.out | refine below_set ?_ GE463.out) | exact HB.out)⟩
end Go.Proofs.Ytboalbiicmcljaa.PAN
