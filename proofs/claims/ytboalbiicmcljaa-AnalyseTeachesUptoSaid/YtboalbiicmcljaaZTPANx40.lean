import Derived.Test.YtboalbiicmcljaaZTPANx0
import Derived.Test.YtboalbiicmcljaaZTPANx8
import Derived.Test.YtboalbiicmcljaaZTPANx10
import Derived.Test.YtboalbiicmcljaaZTPANx36
import Derived.Test.YtboalbiicmcljaaZTPANx37
import Derived.Test.YtboalbiicmcljaaZTPANx39
namespace Go.Proofs.Ytboalbiicmcljaa.PAN
open Go.Proofs.YtboalbiicmcljaaH
open Go.RowKit Go.Proofs.YtboalbiicmcljaaW.PrintWords Go.Proofs.YtboalbiicmcljaaW.PrintLast Go.Proofs.YtboalbiicmcljaaW.PrintMore
attribute [local go_sem] max2_int min2_int max_two min_two max_three min_three max_four min_four   -- for this text's walks alone
set_option linter.unusedVariables false
set_option linter.unusedSimpArgs false
mutual
def fulcrumlaw21_teaches.j0 : Nat → Bool → List (List Int) → List (S49) → List Int → Int → List Int → Option (Bool)
 | 0, _, _, _, _, _, _ => none
 | k + 1, x36, x732000, x732001, x733000, x733001, x733002 => if x36 = true then (some false) else (if 0 < (x733000.length : Int) then ((fulcrumlaw21_level.f k x732001 (rd x733000 0)).bind fun t748 => (fulcrumlaw21_teaches.l0 k t748 0 1 x732000 x732001 x733000 x733001 x733002)) else (none))
def fulcrumlaw21_teaches.l0 : Nat → Int → Int → Int → List (List Int) → List (S49) → List Int → Int → List Int → Option (Bool)
 | 0, _, _, _, _, _, _, _, _ => none
 | k + 1, x7, x8, x9, x732000, x732001, x733000, x733001, x733002 => if x9 < (x733000.length : Int) then (if 0 ≤ x9 then ((fulcrumlaw21_level.f k x732001 (rd x733000 x9)).bind fun t750 => (if t750 < 1 then (fulcrumlaw21_teaches.j2 k x7 x8 x9 t750 true x732000 x732001 x733000 x733001 x733002) else (fulcrumlaw21_teaches.j2 k x7 x8 x9 t750 (decide (t750 ≥ x7)) x732000 x732001 x733000 x733001 x733002))) else (none)) else (if x7 > x8 then (some (x733001 == x8)) else (some false))
def fulcrumlaw21_teaches.j2 : Nat → Int → Int → Int → Int → Bool → List (List Int) → List (S49) → List Int → Int → List Int → Option (Bool)
 | 0, _, _, _, _, _, _, _, _, _, _ => none
 | k + 1, x7, x8, x9, x10, x65, x732000, x732001, x733000, x733001, x733002 => if x65 = true then (some false) else (if x10 > x8 then (fulcrumlaw21_teaches.l0 k x7 x10 (wrap64 (x9 + 1)) x732000 x732001 x733000 x733001 x733002) else (fulcrumlaw21_teaches.l0 k x7 x8 (wrap64 (x9 + 1)) x732000 x732001 x733000 x733001 x733002))
end
def fulcrumlaw21_teaches.f (k : Nat) (l0_0 : List (List Int)) (l0_1 : List (S49)) (l1_0 : List Int) (a1_1 : Int) (l1_2 : List Int) : Option (Bool) := (fulcrumlaw21_twin.f k l0_0).bind fun t733 => ((fulcrumlaw21_ints.f k l1_2).bind fun t736 => ((analyse_Replay.f t733 t736).bind fun bt739 => (if bt739.2 = 0 then (if (l1_0.length : Int) = 0 then (fulcrumlaw21_teaches.j0 k true l0_0 l0_1 l1_0 a1_1 l1_2) else ((fulcrumref21_Sorted.f k l1_0).bind fun t743 => ((fulcrumlaw21_same.f k bt739.1 t743).bind fun t746 => (fulcrumlaw21_teaches.j0 k (!t746) l0_0 l0_1 l1_0 a1_1 l1_2)))) else (fulcrumlaw21_teaches.j0 k true l0_0 l0_1 l1_0 a1_1 l1_2))))
theorem fulcrumlaw21_teaches.mono_l : ∀ k, (∀ y0 y1 y2 y3 y4 y5, LeO (fulcrumlaw21_teaches.j0 k y0 y1 y2 y3 y4 y5) (fulcrumlaw21_teaches.j0 (k + 1) y0 y1 y2 y3 y4 y5)) ∧ (∀ y0 y1 y2 y3 y4 y5 y6 y7, LeO (fulcrumlaw21_teaches.l0 k y0 y1 y2 y3 y4 y5 y6 y7) (fulcrumlaw21_teaches.l0 (k + 1) y0 y1 y2 y3 y4 y5 y6 y7)) ∧ (∀ y0 y1 y2 y3 y4 y5 y6 y7 y8 y9, LeO (fulcrumlaw21_teaches.j2 k y0 y1 y2 y3 y4 y5 y6 y7 y8 y9) (fulcrumlaw21_teaches.j2 (k + 1) y0 y1 y2 y3 y4 y5 y6 y7 y8 y9))
 | 0 => ⟨fun _ _ _ _ _ _ r h => by simp [fulcrumlaw21_teaches.j0] at h, fun _ _ _ _ _ _ _ _ r h => by simp [fulcrumlaw21_teaches.l0] at h, fun _ _ _ _ _ _ _ _ _ _ r h => by simp [fulcrumlaw21_teaches.j2] at h⟩
 | k + 1 => by
  obtain ⟨ih0, ih1, ih2⟩ := fulcrumlaw21_teaches.mono_l k
  refine ⟨?_, ?_, ?_⟩
  ·intro y0 y1 y2 y3 y4 y5
   unfold fulcrumlaw21_teaches.j0
   repeat' first
   | (with_reducible exact ih0 _ _ _ _ _ _)
   | (with_reducible exact ih1 _ _ _ _ _ _ _ _)
   | (with_reducible exact ih2 _ _ _ _ _ _ _ _ _ _)
   | (with_reducible exact fulcrumlaw21_ints.mono _ _)
   | (with_reducible exact fulcrumlaw21_level.mono _ _ _)
   | (with_reducible exact fulcrumlaw21_same.mono _ _ _)
   | (with_reducible exact fulcrumlaw21_twin.mono _ _)
   | (with_reducible exact fulcrumref21_Sorted.mono _ _)
   | (with_reducible exact LeO.refl _)
   | (with_reducible exact LeO.none _)
   | (with_reducible refine LeO.ite ?_ ?_)
   | (with_reducible refine LeO.bind ?_ (fun _ => ?_))
   | exact ih0 _ _ _ _ _ _
   | exact ih1 _ _ _ _ _ _ _ _
   | exact ih2 _ _ _ _ _ _ _ _ _ _
   | exact fulcrumlaw21_ints.mono _ _
   | exact fulcrumlaw21_level.mono _ _ _
   | exact fulcrumlaw21_same.mono _ _ _
   | exact fulcrumlaw21_twin.mono _ _
   | exact fulcrumref21_Sorted.mono _ _
   | exact LeO.none _
   | refine LeO.ite ?_ ?_
   | refine LeO.bind ?_ (fun _ => ?_)
  ·intro y0 y1 y2 y3 y4 y5 y6 y7
   unfold fulcrumlaw21_teaches.l0
   repeat' first
   | (with_reducible exact ih0 _ _ _ _ _ _)
   | (with_reducible exact ih1 _ _ _ _ _ _ _ _)
   | (with_reducible exact ih2 _ _ _ _ _ _ _ _ _ _)
   | (with_reducible exact fulcrumlaw21_ints.mono _ _)
   | (with_reducible exact fulcrumlaw21_level.mono _ _ _)
   | (with_reducible exact fulcrumlaw21_same.mono _ _ _)
   | (with_reducible exact fulcrumlaw21_twin.mono _ _)
   | (with_reducible exact fulcrumref21_Sorted.mono _ _)
   | (with_reducible exact LeO.refl _)
   | (with_reducible exact LeO.none _)
   | (with_reducible refine LeO.ite ?_ ?_)
   | (with_reducible refine LeO.bind ?_ (fun _ => ?_))
   | exact ih0 _ _ _ _ _ _
   | exact ih1 _ _ _ _ _ _ _ _
   | exact ih2 _ _ _ _ _ _ _ _ _ _
   | exact fulcrumlaw21_ints.mono _ _
   | exact fulcrumlaw21_level.mono _ _ _
   | exact fulcrumlaw21_same.mono _ _ _
   | exact fulcrumlaw21_twin.mono _ _
   | exact fulcrumref21_Sorted.mono _ _
   | exact LeO.none _
   | refine LeO.ite ?_ ?_
   | refine LeO.bind ?_ (fun _ => ?_)
  ·intro y0 y1 y2 y3 y4 y5 y6 y7 y8 y9
   unfold fulcrumlaw21_teaches.j2
   repeat' first
   | (with_reducible exact ih0 _ _ _ _ _ _)
   | (with_reducible exact ih1 _ _ _ _ _ _ _ _)
   | (with_reducible exact ih2 _ _ _ _ _ _ _ _ _ _)
   | (with_reducible exact fulcrumlaw21_ints.mono _ _)
   | (with_reducible exact fulcrumlaw21_level.mono _ _ _)
   | (with_reducible exact fulcrumlaw21_same.mono _ _ _)
   | (with_reducible exact fulcrumlaw21_twin.mono _ _)
   | (with_reducible exact fulcrumref21_Sorted.mono _ _)
   | (with_reducible exact LeO.refl _)
   | (with_reducible exact LeO.none _)
   | (with_reducible refine LeO.ite ?_ ?_)
   | (with_reducible refine LeO.bind ?_ (fun _ => ?_))
   | exact ih0 _ _ _ _ _ _
   | exact ih1 _ _ _ _ _ _ _ _
   | exact ih2 _ _ _ _ _ _ _ _ _ _
   | exact fulcrumlaw21_ints.mono _ _
   | exact fulcrumlaw21_level.mono _ _ _
   | exact fulcrumlaw21_same.mono _ _ _
   | exact fulcrumlaw21_twin.mono _ _
   | exact fulcrumref21_Sorted.mono _ _
   | exact LeO.none _
   | refine LeO.ite ?_ ?_
   | refine LeO.bind ?_ (fun _ => ?_)
theorem fulcrumlaw21_teaches.mono : ∀ a0 a1 a2 a3 a4 k, LeO (fulcrumlaw21_teaches.f k a0 a1 a2 a3 a4) (fulcrumlaw21_teaches.f (k + 1) a0 a1 a2 a3 a4) := by
 intro a0 a1 a2 a3 a4 k
 obtain ⟨ih0, ih1, ih2⟩ := fulcrumlaw21_teaches.mono_l k
 unfold fulcrumlaw21_teaches.f
 repeat' first
   | (with_reducible exact ih0 _ _ _ _ _ _)
   | (with_reducible exact ih1 _ _ _ _ _ _ _ _)
   | (with_reducible exact ih2 _ _ _ _ _ _ _ _ _ _)
   | (with_reducible exact fulcrumlaw21_ints.mono _ _)
   | (with_reducible exact fulcrumlaw21_level.mono _ _ _)
   | (with_reducible exact fulcrumlaw21_same.mono _ _ _)
   | (with_reducible exact fulcrumlaw21_twin.mono _ _)
   | (with_reducible exact fulcrumref21_Sorted.mono _ _)
   | (with_reducible exact LeO.refl _)
   | (with_reducible exact LeO.none _)
   | (with_reducible refine LeO.ite ?_ ?_)
   | (with_reducible refine LeO.bind ?_ (fun _ => ?_))
   | exact ih0 _ _ _ _ _ _
   | exact ih1 _ _ _ _ _ _ _ _
   | exact ih2 _ _ _ _ _ _ _ _ _ _
   | exact fulcrumlaw21_ints.mono _ _
   | exact fulcrumlaw21_level.mono _ _ _
   | exact fulcrumlaw21_same.mono _ _ _
   | exact fulcrumlaw21_twin.mono _ _
   | exact fulcrumref21_Sorted.mono _ _
   | exact LeO.none _
   | refine LeO.ite ?_ ?_
   | refine LeO.bind ?_ (fun _ => ?_)
def fulcrumlaw21_teaches.T1 : Bool × List (List Nat × List Nat) := (true, [([], []), ([0], [0]), ([1], [1]), ([], []), ([3], [3]), ([4, 2], [4]), ([2, 5, 5], [2, 5]), ([6], [6]), ([7], [7]), ([7], [7]), ([8, 6, 0, 1, 2, 3, 4, 5, 6, 7, 8], [8]), ([9, 10, 0, 1, 2, 3, 4, 5, 6, 7, 8, 9, 10], [9])])
def fulcrumlaw21_teaches.B1 : List Nat := [0, 1, 3, 0, 8, 31, 63, 127, 255, 255, 511, 2047]
theorem fulcrumlaw21_teaches.tab1 : rtab .any (opsOf Try.f35 1) = fulcrumlaw21_teaches.T1 := by kernel_rfl
theorem fulcrumlaw21_teaches.bits1 : waitsOk fulcrumlaw21_teaches.T1.2 fulcrumlaw21_teaches.B1 = true := by kernel_rfl
def fulcrumlaw21_teaches.T4 : Bool × List (List Nat × List Nat) := (true, [([], []), ([0], [0]), ([], []), ([2], [2]), ([3], [3]), ([4], [4]), ([1, 5], [1, 5]), ([6, 6, 0, 1, 2, 3, 4, 5, 6], [6])])
def fulcrumlaw21_teaches.B4 : List Nat := [0, 1, 0, 4, 12, 28, 63, 127]
theorem fulcrumlaw21_teaches.tab4 : rtab .any (opsOf Try.f35 4) = fulcrumlaw21_teaches.T4 := by kernel_rfl
theorem fulcrumlaw21_teaches.bits4 : waitsOk fulcrumlaw21_teaches.T4.2 fulcrumlaw21_teaches.B4 = true := by kernel_rfl
def fulcrumlaw21_teaches.T9 : Bool × List (List Nat × List Nat) := (true, [([], []), ([0], [0]), ([], []), ([2], [2]), ([], []), ([3, 4], [3, 4]), ([5], [5]), ([1, 6], [1, 6]), ([7, 7, 0, 1, 2, 3, 4, 5, 6, 7], [7])])
def fulcrumlaw21_teaches.B9 : List Nat := [0, 1, 0, 4, 0, 28, 60, 127, 255]
theorem fulcrumlaw21_teaches.tab9 : rtab .any (opsOf Try.f35 9) = fulcrumlaw21_teaches.T9 := by kernel_rfl
theorem fulcrumlaw21_teaches.bits9 : waitsOk fulcrumlaw21_teaches.T9.2 fulcrumlaw21_teaches.B9 = true := by kernel_rfl
set_option maxHeartbeats 8000000 in
set_option maxRecDepth 100000 in
theorem fulcrumlaw21_teaches.calls (k : Nat) (A0_0 : Option Addr) (c0_0 : Nat) (l0_0 : List (List Int)) (A0_1 : Option Addr) (c0_1 : Nat) (l0_1 : List (S49)) (A1_0 : Option Addr) (c1_0 : Nat) (l1_0 : List Int) (a1_1 : Int) (A1_2 : Option Addr) (c1_2 : Nat) (l1_2 : List Int) (r : Bool) (w : World) (hr0_0 : Kd.C (Kd.slice 3 (Kd.int .i64)) w A0_0 l0_0.length l0_0) (hc0_0 : l0_0.length ≤ c0_0) (hr0_1 : Kd.C k49 w A0_1 l0_1.length l0_1) (hc0_1 : l0_1.length ≤ c0_1) (hr1_0 : Kd.C (Kd.int .i64) w A1_0 l1_0.length l1_0) (hc1_0 : l1_0.length ≤ c1_0) (hr1_2 : Kd.C (Kd.int .i64) w A1_2 l1_2.length l1_2) (hc1_2 : l1_2.length ≤ c1_2) (h : fulcrumlaw21_teaches.f k l0_0 l0_1 l1_0 a1_1 l1_2 = some r) :
  Calls Try.prog 35 #[.agg #[.slice A0_0 l0_0.length c0_0, .slice A0_1 l0_1.length c0_1], .agg #[.slice A1_0 l1_0.length c1_0, .int .i64 a1_1, .slice A1_2 l1_2.length c1_2]] w fun e w' => e = .returned (.bool r) ∧ Below w.heap.size w w' := by
 have hu26 := Try.underlying26
 have hu30 := Try.underlying30
 have HR0_0 := Aside0.mk hr0_0
 have HC0_0 := Aside0.mk hc0_0
 clear hr0_0 hc0_0
 have HR0_1 := Aside0.mk hr0_1
 have HC0_1 := Aside0.mk hc0_1
 clear hr0_1 hc0_1
 have HR1_0 := Aside0.mk hr1_0
 have HC1_0 := Aside0.mk hc1_0
 clear hr1_0 hc1_0
 have HR1_2 := Aside0.mk hr1_2
 have HC1_2 := Aside0.mk hc1_2
 clear hr1_2 hc1_2
 have HB := Aside0.mk (Below.refl w.heap.size w)
 have H : ((fulcrumlaw21_twin.f k l0_0).bind fun t733 => ((fulcrumlaw21_ints.f k l1_2).bind fun t736 => ((analyse_Replay.f t733 t736).bind fun bt739 => (if bt739.2 = 0 then (if (l1_0.length : Int) = 0 then (fulcrumlaw21_teaches.j0 k true l0_0 l0_1 l1_0 a1_1 l1_2) else ((fulcrumref21_Sorted.f k l1_0).bind fun t743 => ((fulcrumlaw21_same.f k bt739.1 t743).bind fun t746 => (fulcrumlaw21_teaches.j0 k (!t746) l0_0 l0_1 l1_0 a1_1 l1_2)))) else (fulcrumlaw21_teaches.j0 k true l0_0 l0_1 l1_0 a1_1 l1_2))))) = some r := h
 clear h
 replace H := Option.bind_eq_some_iff.mp H
 obtain ⟨t733, A30, H⟩ := H
 replace H : ((fulcrumlaw21_ints.f k l1_2).bind fun t736 => ((analyse_Replay.f t733 t736).bind fun bt739 => (if bt739.2 = 0 then (if (l1_0.length : Int) = 0 then (fulcrumlaw21_teaches.j0 k true l0_0 l0_1 l1_0 a1_1 l1_2) else ((fulcrumref21_Sorted.f k l1_0).bind fun t743 => ((fulcrumlaw21_same.f k bt739.1 t743).bind fun t746 => (fulcrumlaw21_teaches.j0 k (!t746) l0_0 l0_1 l1_0 a1_1 l1_2)))) else (fulcrumlaw21_teaches.j0 k true l0_0 l0_1 l1_0 a1_1 l1_2)))) = some r := H
 have A3 := Aside0.mk A30
 clear A30
 replace H := Option.bind_eq_some_iff.mp H
 obtain ⟨t736, A40, H⟩ := H
 replace H : ((analyse_Replay.f t733 t736).bind fun bt739 => (if bt739.2 = 0 then (if (l1_0.length : Int) = 0 then (fulcrumlaw21_teaches.j0 k true l0_0 l0_1 l1_0 a1_1 l1_2) else ((fulcrumref21_Sorted.f k l1_0).bind fun t743 => ((fulcrumlaw21_same.f k bt739.1 t743).bind fun t746 => (fulcrumlaw21_teaches.j0 k (!t746) l0_0 l0_1 l1_0 a1_1 l1_2)))) else (fulcrumlaw21_teaches.j0 k true l0_0 l0_1 l1_0 a1_1 l1_2))) = some r := H
 have A4 := Aside0.mk A40
 clear A40
 replace H := Option.bind_eq_some_iff.mp H
 obtain ⟨⟨t739, t740⟩, A50, H⟩ := H
 replace H : (if t740 = 0 then (if (l1_0.length : Int) = 0 then (fulcrumlaw21_teaches.j0 k true l0_0 l0_1 l1_0 a1_1 l1_2) else ((fulcrumref21_Sorted.f k l1_0).bind fun t743 => ((fulcrumlaw21_same.f k t739 t743).bind fun t746 => (fulcrumlaw21_teaches.j0 k (!t746) l0_0 l0_1 l1_0 a1_1 l1_2)))) else (fulcrumlaw21_teaches.j0 k true l0_0 l0_1 l1_0 a1_1 l1_2)) = some r := H
 have A5 := Aside0.mk A50
 clear A50
 have HC6 := Aside0.mk H
 clear H
 go_enter Try.func35, Try.ntmps35
 try go_wp2_with (first | ((with_reducible refine gate_dst (N := 2) rfl ?_); (try (refine gate_guard (by rfl) ?_; dsimp only)); refine box_event ?hg (N := 2) ?hd (cs := #[.slice A0_0 l0_0.length c0_0, .slice A0_1 l0_1.length c0_1]) (t := 26) ?hr ?_; (case hd => rfl); (case hg => rfl); (case hr => first | (go_simp; done) | (go_simp; rfl)); intro gb731 hg w7 hbox hb; have n0_ := Aside0.mk (below_step (bel_any HB.out) hb); have n1_ := Aside0.mk (hbox); have n2_ := Aside0.mk ((by rw [hg]; exact (below_size (bel_any HB.out)) : w.heap.size ≤ gb731)); have n3_ := Aside0.mk ((by rw [hg]; exact (below_size (bel_any HB.out)) : w.heap.size ≤ gb731)); clear HB; have HB := n0_; have BK731 := n1_; have GW731 := n2_; have GE731 := n3_; clear n0_ n1_ n2_ n3_; clear hb hbox hg) | ((with_reducible refine gate_dst (N := 3) rfl ?_); (try (refine gate_guard (by rfl) ?_; dsimp only)); refine box_event ?hg (N := 3) ?hd (cs := #[.slice A1_0 l1_0.length c1_0, .int .i64 a1_1, .slice A1_2 l1_2.length c1_2]) (t := 30) ?hr ?_; (case hd => rfl); (case hg => rfl); (case hr => first | (go_simp; done) | (go_simp; rfl)); intro gb732 hg w8 hbox hb; have n0_ := Aside0.mk (blk_below (g := gb731) (o := .cells #[.slice A0_0 l0_0.length c0_0, .slice A0_1 l0_1.length c0_1] 26 (0, 0)) (blk_any BK731.out) hb); have n1_ := Aside0.mk (below_step (by repeat (first | (with_reducible first | exact HB.out | apply below_alloc | apply pw_below_drewN | apply below_drew1 | refine below_set ?_ GE731.out) | exact HB.out)) hb); have n2_ := Aside0.mk (hbox); have n3_ := Aside0.mk ((by rw [hg]; exact (below_size (by repeat (first | (with_reducible first | exact HB.out | apply below_alloc | apply pw_below_drewN | apply below_drew1 | refine below_set ?_ GE731.out) | exact HB.out))) : w.heap.size ≤ gb732)); have n4_ := Aside0.mk ((by rw [hg]; exact (below_size (by repeat (first | (with_reducible first | exact HB.out | apply below_alloc | apply pw_below_drewN | apply below_drew1 | refine below_set ?_ GE731.out) | exact HB.out))) : w.heap.size ≤ gb732)); have n5_ := Aside0.mk ((by rw [hg]; exact Nat.ne_of_lt (blk_lt (g := gb731) (o := .cells #[.slice A0_0 l0_0.length c0_0, .slice A0_1 l0_1.length c0_1] 26 (0, 0)) (blk_any BK731.out)) : gb731 ≠ gb732)); have n6_ := Aside0.mk ((by rw [hg]; exact Nat.ne_of_gt (blk_lt (g := gb731) (o := .cells #[.slice A0_0 l0_0.length c0_0, .slice A0_1 l0_1.length c0_1] 26 (0, 0)) (blk_any BK731.out)) : gb732 ≠ gb731)); clear BK731; clear HB; have BK731 := n0_; have HB := n1_; have BK732 := n2_; have GW732 := n3_; have GE732 := n4_; have NB731_732 := n5_; have NB732_731 := n6_; clear n0_ n1_ n2_ n3_ n4_ n5_ n6_; clear hb hbox hg))
 have n0_ := Aside0.mk (blk_drew BK731.out)
 have n1_ := Aside0.mk (blk_drew BK732.out)
 have n2_ := Aside0.mk (below_drew1 HB.out)
 clear BK731
 clear BK732
 clear HB
 have BK731 := n0_
 have BK732 := n1_
 have HB := n2_
 clear n0_ n1_ n2_
 refine start_ (n := 12) (S := fun w' => w'.cell? ⟨gb731, 0, none⟩ = some (.slice A0_0 l0_0.length c0_0) ∧ w'.cell? ⟨gb731, 1, none⟩ = some (.slice A0_1 l0_1.length c0_1) ∧ w'.cell? ⟨gb732, 0, none⟩ = some (.slice A1_0 l1_0.length c1_0) ∧ w'.cell? ⟨gb732, 1, none⟩ = some (.int .i64 a1_1) ∧ w'.cell? ⟨gb732, 2, none⟩ = some (.slice A1_2 l1_2.length c1_2)) (ds := []) #[false, false, false, false, false, false, false, false, false, false, false, false] (by kernel_rfl) rfl rfl ⟨(blk_cell BK731.out 0).trans rfl, (blk_cell BK731.out 1).trans rfl, (blk_cell BK732.out 0).trans rfl, (blk_cell BK732.out 1).trans rfl, (blk_cell BK732.out 2).trans rfl⟩ (fun hHeld => ?_); refine with_tabW fulcrumlaw21_teaches.tab1 fulcrumlaw21_teaches.bits1 (fun HT_ HW_ => ?_)
 generalize w8.drew = w9 at BK731 BK732 HB hHeld ⊢
 refine pure_ (i := 0) (N := some 12) (v := ?_) (a' := ?_) #[true, false, false, false, false, false, false, false, false, false, false, false] rfl rfl (any_of HT_.out (by kernel_rfl)) (fun _ _ _ h => h) (Or.inl ⟨by rfl, ?_⟩) ?_ ?_
 rotate_left
 ·intro w'
  go_simp
  with_reducible rfl
 rotate_left
 ·simp only [Act.put, List.setIfInBounds_toArray, List.set_cons_zero, List.set_cons_succ, i64_w, i32_w]
  rfl
 refine pure_ (i := 3) (N := some 15) (v := ?_) (a' := ?_) #[true, false, false, true, false, false, false, false, false, false, false, false] rfl rfl (any_of HT_.out (by kernel_rfl)) (fun _ _ _ h => h) (Or.inl ⟨by rfl, ?_⟩) ?_ ?_
 rotate_left
 ·intro w'
  go_simp
  with_reducible rfl
 rotate_left
 ·simp only [Act.put, List.setIfInBounds_toArray, List.set_cons_zero, List.set_cons_succ, i64_w, i32_w]
  rfl
 refine take_ (i := 1) (N := some 13) (v := ?_) (a' := ?_) #[true, true, false, true, false, false, false, false, false, false, false, false] rfl rfl (take_ofW HT_.out HW_.out (by kernel_rfl)) (fun _ _ _ h => h) (Or.inl ⟨by rfl, ?_⟩) hHeld ?_ ?_
 rotate_left
 ·rintro w' ⟨s0, s1, s2, s3, s4⟩
  go_simp
  with_reducible rfl
 rotate_left
 ·simp only [Act.put, List.setIfInBounds_toArray, List.set_cons_zero, List.set_cons_succ, i64_w, i32_w]
  rfl
 refine take_ (i := 4) (N := some 16) (v := ?_) (a' := ?_) #[true, true, false, true, true, false, false, false, false, false, false, false] rfl rfl (take_ofW HT_.out HW_.out (by kernel_rfl)) (fun _ _ _ h => h) (Or.inl ⟨by rfl, ?_⟩) hHeld ?_ ?_
 rotate_left
 ·rintro w' ⟨s0, s1, s2, s3, s4⟩
  go_simp
  with_reducible rfl
 rotate_left
 ·simp only [Act.put, List.setIfInBounds_toArray, List.set_cons_zero, List.set_cons_succ, i64_w, i32_w]
  rfl
 refine one_ (i := 2) (N := some 14) #[true, true, true, true, true, false, false, false, false, false, false, false] rfl rfl (one_of HT_.out (by kernel_rfl)) (by decide) (fun K hK => ?_)
 refine goes_ Try.func16 (by kernel_rfl) rfl #[.slice A0_0 l0_0.length c0_0] (by rfl) rfl rfl (by (try simp only [List.map_toArray, List.map_cons, List.map_nil]); first | done | rfl | (simp only [List.length_drop, List.length_take]; rfl)) ?_
 with_reducible refine (fulcrumlaw21_twin.calls k _ _ l0_0 t733 _ ?side1 ?side2 A3.out).mono ?_
 (case side1 => repeat (first | exact (Kd.C_below HR0_0.out HB.out) | (with_reducible refine Kd.C_alloc ?_ _) | (with_reducible refine Kd.C_drewN ?_ _) | (with_reducible refine Kd.C_drew ?_)))
 (case side2 => exact HC0_0.out)
 rintro e w10 ⟨v734, rfl, ho0, hb⟩
 refine ⟨_, rfl, ?_⟩
 have n0_ := Aside0.mk (Kd.S_lower ho0 (below_size (by repeat (first | (with_reducible first | exact HB.out | apply below_alloc | apply pw_below_drewN | apply below_drew1 | refine below_set ?_ GE731.out | refine below_set ?_ GE732.out) | exact HB.out))))
 have n1_ := Aside0.mk (blk_below (g := gb731) (o := .cells #[.slice A0_0 l0_0.length c0_0, .slice A0_1 l0_1.length c0_1] 26 (0, 0)) (blk_any BK731.out) hb)
 have n2_ := Aside0.mk (blk_below (g := gb732) (o := .cells #[.slice A1_0 l1_0.length c1_0, .int .i64 a1_1, .slice A1_2 l1_2.length c1_2] 30 (0, 0)) (blk_any BK732.out) hb)
 have n3_ := Aside0.mk (below_step (by repeat (first | (with_reducible first | exact HB.out | apply below_alloc | apply pw_below_drewN | apply below_drew1 | refine below_set ?_ GE731.out | refine below_set ?_ GE732.out) | exact HB.out)) hb)
 clear BK731
 clear BK732
 clear HB
 have HO735 := n0_
 have BK731 := n1_
 have BK732 := n2_
 have HB := n3_
 clear n0_ n1_ n2_ n3_
 (try clear hb)
 (try clear hb2)
 (try clear hk)
 (try clear hi)
 (try clear ho0)
 refine hK.out _ _ ⟨(blk_cell BK731.out 0).trans rfl, (blk_cell BK731.out 1).trans rfl, (blk_cell BK732.out 0).trans rfl, (blk_cell BK732.out 1).trans rfl, (blk_cell BK732.out 2).trans rfl⟩ (fun hHeld => ?_)
 clear hK K
 refine norm_ (a' := ?_) ?_ ?_
 rotate_left
 ·show Act.put _ (some 14) _ = _
  simp only [Act.put, List.setIfInBounds_toArray, List.set_cons_zero, List.set_cons_succ, i64_w, i32_w]
  rfl
 refine one_ (i := 5) (N := some 17) #[true, true, true, true, true, true, false, false, false, false, false, false] rfl rfl (one_of HT_.out (by kernel_rfl)) (by decide) (fun K hK => ?_)
 refine goes_ Try.func23 (by kernel_rfl) rfl #[.slice A1_2 l1_2.length c1_2] (by rfl) rfl rfl (by (try simp only [List.map_toArray, List.map_cons, List.map_nil]); first | done | rfl | (simp only [List.length_drop, List.length_take]; rfl)) ?_
 with_reducible refine (fulcrumlaw21_ints.calls k _ _ l1_2 t736 _ ?side1 ?side2 A4.out).mono ?_
 (case side1 => repeat (first | exact (Kd.C_below HR1_2.out HB.out) | (with_reducible refine Kd.C_alloc ?_ _) | (with_reducible refine Kd.C_drewN ?_ _) | (with_reducible refine Kd.C_drew ?_)))
 (case side2 => exact HC1_2.out)
 rintro e w11 ⟨v737, rfl, ho0, hb⟩
 refine ⟨_, rfl, ?_⟩
 have n0_ := Aside0.mk (Kd.S_elder' (S_any HO735.out) (Kd.R_base ho0) hb)
 have n1_ := Aside0.mk (Kd.R_lower ho0 (below_size (by repeat (first | (with_reducible first | exact HB.out | apply below_alloc | apply pw_below_drewN | apply below_drew1 | refine below_set ?_ GE731.out | refine below_set ?_ GE732.out) | exact HB.out))))
 have n2_ := Aside0.mk (blk_below (g := gb731) (o := .cells #[.slice A0_0 l0_0.length c0_0, .slice A0_1 l0_1.length c0_1] 26 (0, 0)) (blk_any BK731.out) hb)
 have n3_ := Aside0.mk (blk_below (g := gb732) (o := .cells #[.slice A1_0 l1_0.length c1_0, .int .i64 a1_1, .slice A1_2 l1_2.length c1_2] 30 (0, 0)) (blk_any BK732.out) hb)
 have n4_ := Aside0.mk (below_step (by repeat (first | (with_reducible first | exact HB.out | apply below_alloc | apply pw_below_drewN | apply below_drew1 | refine below_set ?_ GE731.out | refine below_set ?_ GE732.out) | exact HB.out)) hb)
 clear HO735
 clear BK731
 clear BK732
 clear HB
 have HO735 := n0_
 have HO738 := n1_
 have BK731 := n2_
 have BK732 := n3_
 have HB := n4_
 clear n0_ n1_ n2_ n3_ n4_
 (try clear hb)
 (try clear hb2)
 (try clear hk)
 (try clear hi)
 (try clear ho0)
 obtain ⟨Ao12, co12, eo12⟩ := Kd.S_slice HO735.out
 (first | subst eo12 | (injection eo12 with f1_ f2_ f3_; have f4_ := f1_.symm; have f5_ := f3_.symm; clear f1_ f2_ f3_; subst f4_; subst f5_))
 obtain ⟨Ao13, co13, eo13⟩ := Kd.R_slice HO738.out
 (first | subst eo13 | (injection eo13 with f1_ f2_ f3_; have f4_ := f1_.symm; have f5_ := f3_.symm; clear f1_ f2_ f3_; subst f4_; subst f5_))
 refine hK.out _ _ ⟨(blk_cell BK731.out 0).trans rfl, (blk_cell BK731.out 1).trans rfl, (blk_cell BK732.out 0).trans rfl, (blk_cell BK732.out 1).trans rfl, (blk_cell BK732.out 2).trans rfl⟩ (fun hHeld => ?_)
 clear hK K
 refine norm_ (a' := ?_) ?_ ?_
 rotate_left
 ·show Act.put _ (some 17) _ = _
  simp only [Act.put, List.setIfInBounds_toArray, List.set_cons_zero, List.set_cons_succ, i64_w, i32_w]
  rfl
 refine one_ (i := 6) (N := some 18) #[true, true, true, true, true, true, true, false, false, false, false, false] rfl rfl (one_of HT_.out (by kernel_rfl)) (by decide) (fun K hK => ?_)
 refine goes_ Try.func33 (by kernel_rfl) rfl #[.slice Ao12 t733.length co12, .slice Ao13 t736.length co13] (by rfl) rfl rfl (by (try simp only [List.map_toArray, List.map_cons, List.map_nil]); first | done | rfl | (simp only [List.length_drop, List.length_take]; rfl)) ?_
 with_reducible refine (analyse_Replay.calls _ _ t733 _ _ t736 t739 t740 _ ?side1 ?side2 ?side3 ?side4 A5.out).mono ?_
 (case side1 => repeat (first | exact (Kd.S_reads' HO735.out).2.2 | (with_reducible refine Kd.C_alloc ?_ _) | (with_reducible refine Kd.C_drewN ?_ _) | (with_reducible refine Kd.C_drew ?_)))
 (case side2 => exact (Kd.S_reads' HO735.out).2.1)
 (case side3 => repeat (first | exact (Kd.R_reads' HO738.out).2.2 | (with_reducible refine Kd.C_alloc ?_ _) | (with_reducible refine Kd.C_drewN ?_ _) | (with_reducible refine Kd.C_drew ?_)))
 (case side4 => exact (Kd.R_reads' HO738.out).2.1)
 rintro e w14 ⟨v741, rfl, ho0, hb⟩
 refine ⟨_, rfl, ?_⟩
 have n0_ := Aside0.mk (Kd.S_elder' (S_any HO735.out) (Kd.R_base ho0) hb)
 have n1_ := Aside0.mk (Kd.R_elder' (R_any HO738.out) (Kd.R_base ho0) hb)
 have n2_ := Aside0.mk (Kd.R_lower (Kd.R_new' ho0 (Kd.R_lt (R_any HO738.out))) (below_size (by repeat (first | (with_reducible first | exact HB.out | apply below_alloc | apply pw_below_drewN | apply below_drew1 | refine below_set ?_ GE731.out | refine below_set ?_ GE732.out) | exact HB.out))))
 have n3_ := Aside0.mk (blk_below (g := gb731) (o := .cells #[.slice A0_0 l0_0.length c0_0, .slice A0_1 l0_1.length c0_1] 26 (0, 0)) (blk_any BK731.out) hb)
 have n4_ := Aside0.mk (blk_below (g := gb732) (o := .cells #[.slice A1_0 l1_0.length c1_0, .int .i64 a1_1, .slice A1_2 l1_2.length c1_2] 30 (0, 0)) (blk_any BK732.out) hb)
 have n5_ := Aside0.mk (below_step (by repeat (first | (with_reducible first | exact HB.out | apply below_alloc | apply pw_below_drewN | apply below_drew1 | refine below_set ?_ GE731.out | refine below_set ?_ GE732.out) | exact HB.out)) hb)
 clear HO735
 clear HO738
 clear BK731
 clear BK732
 clear HB
 have HO735 := n0_
 have HO738 := n1_
 have HO742 := n2_
 have BK731 := n3_
 have BK732 := n4_
 have HB := n5_
 clear n0_ n1_ n2_ n3_ n4_ n5_
 (try clear hb)
 (try clear hb2)
 (try clear hk)
 (try clear hi)
 (try clear ho0)
 refine hK.out _ _ ⟨(blk_cell BK731.out 0).trans rfl, (blk_cell BK731.out 1).trans rfl, (blk_cell BK732.out 0).trans rfl, (blk_cell BK732.out 1).trans rfl, (blk_cell BK732.out 2).trans rfl⟩ (fun hHeld => ?_)
 clear hK K
 refine norm_ (a' := ?_) ?_ ?_
 rotate_left
 ·show Act.put _ (some 18) _ = _
  simp only [Act.put, List.setIfInBounds_toArray, List.set_cons_zero, List.set_cons_succ, i64_w, i32_w]
  rfl
 refine pure_ (i := 7) (N := some 11) (v := ?_) (a' := ?_) #[true, true, true, true, true, true, true, true, false, false, false, false] rfl rfl (any_of HT_.out (by kernel_rfl)) (fun _ _ _ h => h) (Or.inl ⟨by rfl, ?_⟩) ?_ ?_
 rotate_left
 ·intro w'
  go_simp
  with_reducible rfl
 rotate_left
 ·simp only [Act.put, List.setIfInBounds_toArray, List.set_cons_zero, List.set_cons_succ, i64_w, i32_w]
  rfl
 refine pure_ (i := 8) (N := some 19) (v := ?_) (a' := ?_) #[true, true, true, true, true, true, true, true, true, false, false, false] rfl rfl (any_of HT_.out (by kernel_rfl)) (fun _ _ _ h => h) (Or.inl ⟨by rfl, ?_⟩) ?_ ?_
 rotate_left
 ·intro w'
  go_simp
  with_reducible rfl
 rotate_left
 ·simp only [Act.put, List.setIfInBounds_toArray, List.set_cons_zero, List.set_cons_succ, i64_w, i32_w]
  rfl
 refine pure_ (i := 9) (N := some 20) (v := ?_) (a' := ?_) #[true, true, true, true, true, true, true, true, true, true, false, false] rfl rfl (any_of HT_.out (by kernel_rfl)) (fun _ _ _ h => h) (Or.inl ⟨by rfl, ?_⟩) ?_ ?_
 rotate_left
 ·intro w'
  go_simp
  with_reducible rfl
 rotate_left
 ·simp only [Act.put, List.setIfInBounds_toArray, List.set_cons_zero, List.set_cons_succ, i64_w, i32_w]
  rfl
 refine pure_ (i := 10) (N := some 5) (v := ?_) (a' := ?_) #[true, true, true, true, true, true, true, true, true, true, true, false] rfl rfl (any_of HT_.out (by kernel_rfl)) (fun _ _ _ h => h) (Or.inl ⟨by rfl, ?_⟩) ?_ ?_
 rotate_left
 ·intro w'
  go_simp
  with_reducible rfl
 rotate_left
 ·simp only [Act.put, List.setIfInBounds_toArray, List.set_cons_zero, List.set_cons_succ, i64_w, i32_w]
  rfl
 refine pure_ (i := 11) (N := some 6) (v := ?_) (a' := ?_) #[true, true, true, true, true, true, true, true, true, true, true, true] rfl rfl (any_of HT_.out (by kernel_rfl)) (fun _ _ _ h => h) (Or.inl ⟨by rfl, ?_⟩) ?_ ?_
 rotate_left
 ·intro w'
  go_simp
  with_reducible rfl
 rotate_left
 ·simp only [Act.put, List.setIfInBounds_toArray, List.set_cons_zero, List.set_cons_succ, i64_w, i32_w]
  rfl
 refine done_ (done_of HT_.out (by kernel_rfl)) ?_
 go_upto_region 2 with (fail)
 go_cut [36] (fun v36 wc => ∃ (kq : Nat) (x36_5 : Bool), v36 = .bool x36_5 ∧ Aside0 (fulcrumlaw21_teaches.j0 kq x36_5 l0_0 l0_1 l1_0 a1_1 l1_2 = some r) ∧ Aside0 (kq ≤ k) ∧ Aside0 (wc.heap[gb731]? = some (.cells #[(.slice A0_0 l0_0.length c0_0), (.slice A0_1 l0_1.length c0_1)] 26 (0, 0))) ∧ Aside0 (wc.heap[gb732]? = some (.cells #[(.slice A1_0 l1_0.length c1_0), .int .i64 a1_1, (.slice A1_2 l1_2.length c1_2)] 30 (0, 0))) ∧ Aside0 (Below w.heap.size w wc))
 case first =>
  have H := HC6.out
  clear HC6
  by_cases c15 : t740 = 0
  ·rw [if_pos c15] at H
   have c15b0 : (t740 == 0) = true := beq_iff_eq.mpr c15
   have c15b1 : (t740 != 0) = false := bne_eq_false_iff_eq.mpr c15
   clear c15
   (first | rw [c15b0] | (simp only [i64_w, i32_w]; rw [c15b0]) | skip)
   by_cases c16 : (l1_0.length : Int) = 0
   ·rw [if_pos c16] at H
    have c16b0 : ((l1_0.length : Int) == 0) = true := beq_iff_eq.mpr c16
    have c16b1 : ((l1_0.length : Int) != 0) = false := bne_eq_false_iff_eq.mpr c16
    clear c16
    have H' := Aside0.mk H
    clear H
    have hnb17 := NB732_731.out
    have hnc17 := NB731_732.out
    have hcz18_0 : w14.cell? ⟨gb732, 0, none⟩ = some (.slice A1_0 l1_0.length c1_0) := (blk_cell BK732.out 0).trans rfl
    have hcz18_1 : w14.cell? ⟨gb732, 1, none⟩ = some (.int .i64 a1_1) := (blk_cell BK732.out 1).trans rfl
    have hcz18_2 : w14.cell? ⟨gb732, 2, none⟩ = some (.slice A1_2 l1_2.length c1_2) := (blk_cell BK732.out 2).trans rfl
    have hfz18_0 := blk_frozen BK732.out 0
    have hfz18_1 := blk_frozen BK732.out 1
    have hfz18_2 := blk_frozen BK732.out 2
    go_wp2
    go_meet
    case rel => exact ⟨_, (true), (by first | rfl | (simp; done) | (simp [*]; done)), H', ⟨by first | omega | exact Nat.le_refl _⟩, ⟨blk_any BK731.out⟩, ⟨blk_any BK732.out⟩, ⟨by repeat (first | (with_reducible first | exact HB.out | apply below_alloc | apply pw_below_drewN | apply below_drew1 | refine below_set ?_ GE731.out | refine below_set ?_ GE732.out) | exact HB.out)⟩⟩
   ·rw [if_neg c16] at H
    have c16b0 : ((l1_0.length : Int) == 0) = false := beq_eq_false_iff_ne.mpr c16
    have c16b1 : ((l1_0.length : Int) != 0) = true := bne_iff_ne.mpr c16
    have c16b2 : ¬ (l1_0 = []) := fun h_ => c16 (by rw [h_]; rfl)
    replace H := Option.bind_eq_some_iff.mp H
    obtain ⟨t743, A190, H⟩ := H
    replace H : ((fulcrumlaw21_same.f k t739 t743).bind fun t746 => (fulcrumlaw21_teaches.j0 k (!t746) l0_0 l0_1 l1_0 a1_1 l1_2)) = some r := H
    have A19 := Aside0.mk A190
    clear A190
    replace H := Option.bind_eq_some_iff.mp H
    obtain ⟨t746, A200, H⟩ := H
    replace H : (fulcrumlaw21_teaches.j0 k (!t746) l0_0 l0_1 l1_0 a1_1 l1_2) = some r := H
    have A20 := Aside0.mk A200
    clear A200
    have H' := Aside0.mk H
    clear H
    have hnb21 := NB732_731.out
    have hnc21 := NB731_732.out
    have hcz22_0 : w14.cell? ⟨gb732, 0, none⟩ = some (.slice A1_0 l1_0.length c1_0) := (blk_cell BK732.out 0).trans rfl
    have hcz22_1 : w14.cell? ⟨gb732, 1, none⟩ = some (.int .i64 a1_1) := (blk_cell BK732.out 1).trans rfl
    have hcz22_2 : w14.cell? ⟨gb732, 2, none⟩ = some (.slice A1_2 l1_2.length c1_2) := (blk_cell BK732.out 2).trans rfl
    have hfz22_0 := blk_frozen BK732.out 0
    have hfz22_1 := blk_frozen BK732.out 1
    have hfz22_2 := blk_frozen BK732.out 2
    go_wp2_with (first | (go_at_call 67; (with_reducible refine (fulcrumref21_Sorted.calls k _ _ l1_0 t743 _ ?side1 ?side2 A19.out).mono ?_); (case side1 => repeat (first | exact (Kd.C_below HR1_0.out HB.out) | (with_reducible refine Kd.C_alloc ?_ _) | (with_reducible refine Kd.C_drewN ?_ _) | (with_reducible refine Kd.C_drew ?_))); (case side2 => exact HC1_0.out); rintro e w23 ⟨v744, rfl, ho0, hb⟩; have n0_ := Aside0.mk (Kd.S_elder' (S_any HO735.out) (Kd.R_base ho0) hb); have n1_ := Aside0.mk (Kd.R_elder' (R_any HO738.out) (Kd.R_base ho0) hb); have n2_ := Aside0.mk (Kd.R_elder' (R_any HO742.out) (Kd.R_base ho0) hb); have n3_ := Aside0.mk (Kd.R_lower (Kd.R_new' (Kd.R_new' ho0 (Kd.R_lt (R_any HO738.out))) (Kd.R_lt (R_any HO742.out))) (below_size (by repeat (first | (with_reducible first | exact HB.out | apply below_alloc | apply pw_below_drewN | apply below_drew1 | refine below_set ?_ GE731.out | refine below_set ?_ GE732.out) | exact HB.out)))); have n4_ := Aside0.mk (blk_below (g := gb731) (o := .cells #[.slice A0_0 l0_0.length c0_0, .slice A0_1 l0_1.length c0_1] 26 (0, 0)) (blk_any BK731.out) hb); have n5_ := Aside0.mk (blk_below (g := gb732) (o := .cells #[.slice A1_0 l1_0.length c1_0, .int .i64 a1_1, .slice A1_2 l1_2.length c1_2] 30 (0, 0)) (blk_any BK732.out) hb); have n6_ := Aside0.mk (below_step (by repeat (first | (with_reducible first | exact HB.out | apply below_alloc | apply pw_below_drewN | apply below_drew1 | refine below_set ?_ GE731.out | refine below_set ?_ GE732.out) | exact HB.out)) hb); clear HO735; clear HO738; clear HO742; clear BK731; clear BK732; clear HB; have HO735 := n0_; have HO738 := n1_; have HO742 := n2_; have HO745 := n3_; have BK731 := n4_; have BK732 := n5_; have HB := n6_; clear n0_ n1_ n2_ n3_ n4_ n5_ n6_; (try clear hb); (try clear hb2); (try clear hk); (try clear hi); (try clear ho0); obtain ⟨Ao24, co24, eo24⟩ := Kd.R_slice HO742.out; subst eo24; obtain ⟨Ao25, co25, eo25⟩ := Kd.R_slice HO745.out; subst eo25) | (go_at_call 27; (with_reducible refine (fulcrumlaw21_same.calls k _ _ t739 _ _ t743 t746 _ ?side1 ?side2 ?side3 ?side4 A20.out).mono ?_); (case side1 => repeat (first | exact (Kd.R_reads' HO742.out).2.2 | (with_reducible refine Kd.C_alloc ?_ _) | (with_reducible refine Kd.C_drewN ?_ _) | (with_reducible refine Kd.C_drew ?_))); (case side2 => exact (Kd.R_reads' HO742.out).2.1); (case side3 => repeat (first | exact (Kd.R_reads' HO745.out).2.2 | (with_reducible refine Kd.C_alloc ?_ _) | (with_reducible refine Kd.C_drewN ?_ _) | (with_reducible refine Kd.C_drew ?_))); (case side4 => exact (Kd.R_reads' HO745.out).2.1); rintro e w' ⟨rfl, ⟨nd, rfl⟩⟩))
    go_meet
    case rel => exact ⟨_, (!t746), (by first | rfl | (simp; done) | (simp [*]; done)), H', ⟨by first | omega | exact Nat.le_refl _⟩, ⟨blk_any BK731.out⟩, ⟨blk_any BK732.out⟩, ⟨by repeat (first | (with_reducible first | exact HB.out | apply below_alloc | apply pw_below_drewN | apply below_drew1 | refine below_set ?_ GE731.out | refine below_set ?_ GE732.out) | exact HB.out)⟩⟩
  ·rw [if_neg c15] at H
   have c15b0 : (t740 == 0) = false := beq_eq_false_iff_ne.mpr c15
   have c15b1 : (t740 != 0) = true := bne_iff_ne.mpr c15
   (first | rw [c15b0] | (simp only [i64_w, i32_w]; rw [c15b0]) | skip)
   have H' := Aside0.mk H
   clear H
   go_wp2
   go_meet
   case rel => exact ⟨_, (true), (by first | rfl | (simp; done) | (simp [*]; done)), H', ⟨by first | omega | exact Nat.le_refl _⟩, ⟨blk_any BK731.out⟩, ⟨blk_any BK732.out⟩, ⟨by repeat (first | (with_reducible first | exact HB.out | apply below_alloc | apply pw_below_drewN | apply below_drew1 | refine below_set ?_ GE731.out | refine below_set ?_ GE732.out) | exact HB.out)⟩⟩
 case rest =>
  clear HC6
  try clear c1
  try clear c2
  try clear p2
  try clear c3
  try clear c15
  try clear c15b0
  try clear c15b1
  try clear c16
  try clear c16b0
  try clear c16b1
  try clear c16b2
  try clear c17
  try clear c21
  try clear c23
  try clear hcz18_0
  try clear hcz18_1
  try clear hcz18_2
  try clear hcz22_0
  try clear hcz22_1
  try clear hcz22_2
  try clear hfz18_0
  try clear hfz18_1
  try clear hfz18_2
  try clear hfz22_0
  try clear hfz22_1
  try clear hfz22_2
  obtain ⟨kq, x36_5, rfl, HA, HJ5, BK731, BK732, HB⟩ := hcut
  cases kq with
  | zero => exact absurd HA.out (by simp [fulcrumlaw21_teaches.j0])
  | succ kj5 =>
   have H := HA.out
   clear HA
   simp only [fulcrumlaw21_teaches.j0] at H
   by_cases c26 : x36_5 = true
   ·subst c26
    have H1 : (some false) = some r := by rw [if_pos rfl] at H; exact H
    clear H
    have H := H1
    clear H1
    obtain rfl := Option.some.inj H
    go_wp2
    go_ret
    exact ⟨by first | rfl | (simp [errW_none, errW_some] <;> rfl) | (simp [*, errW_none, errW_some] <;> rfl), by repeat (first | (with_reducible first | exact HB.out | apply below_alloc | apply pw_below_drewN | apply below_drew1 | refine below_set ?_ GE731.out | refine below_set ?_ GE732.out) | exact HB.out)⟩
   ·replace c26 := Bool.eq_false_iff.mpr c26
    subst c26
    have H1 : (if 0 < (l1_0.length : Int) then ((fulcrumlaw21_level.f kj5 l0_1 (rd l1_0 0)).bind fun t748 => (fulcrumlaw21_teaches.l0 kj5 t748 0 1 l0_0 l0_1 l1_0 a1_1 l1_2)) else (none)) = some r := by rw [if_neg (show ¬ (false = true) by decide)] at H; exact H
    clear H
    have H := H1
    clear H1
    by_cases c27 : 0 < (l1_0.length : Int)
    ·rw [if_pos c27] at H
     have c27b0 : decide (0 < (l1_0.length : Int)) = true := decide_eq_true c27
     have c27b1 : decide (0 < l1_0.length) = true := decide_eq_true (by omega)
     clear c27
     replace H := Option.bind_eq_some_iff.mp H
     obtain ⟨t748, A280, H⟩ := H
     replace H : (fulcrumlaw21_teaches.l0 kj5 t748 0 1 l0_0 l0_1 l1_0 a1_1 l1_2) = some r := H
     have A28 := Aside0.mk A280
     clear A280
     have H' := Aside0.mk H
     clear H
     try go_wp2
     have n0_ := Aside0.mk (blk_drew BK731.out)
     have n1_ := Aside0.mk (blk_drew BK732.out)
     have n2_ := Aside0.mk (below_drew1 HB.out)
     clear BK731
     clear BK732
     clear HB
     have BK731 := n0_
     have BK732 := n1_
     have HB := n2_
     clear n0_ n1_ n2_
     have p747 : 0 ≤ (0 : Int) := (by omega)
     have q747 : 0 < (l1_0.length : Int) := odt
     obtain ⟨ad747, e747, hx747_0⟩ := Kd.at_int HR1_0.out 0 p747 q747
     have hw747_0 := hx747_0
     (try rw [show ((0 : Int)).toNat = 0 from rfl] at hw747_0)
     (try rw [show 0 * 1 = 0 from rfl] at hw747_0)
     (try rw [Addr.add_zero'] at hw747_0)
     cases e747
     have qi747 : (0 < l1_0.length) = True := eq_true (by omega)
     (try rw [show ((0 : Int)).toNat = 0 from rfl] at hx747_0)
     (try rw [Addr.add_zero'] at hx747_0)
     replace hx747_0 := (HB.out.cell (World.block_lt_of_cell? w _ hx747_0)).trans hx747_0
     replace p747 := eq_true p747
     replace q747 := eq_true q747
     refine start_ (n := 8) (S := fun w' => w'.cell? ⟨gb731, 0, none⟩ = some (.slice A0_0 l0_0.length c0_0) ∧ w'.cell? ⟨gb731, 1, none⟩ = some (.slice A0_1 l0_1.length c0_1) ∧ w'.cell? ⟨gb732, 0, none⟩ = some (.slice (some ad747) l1_0.length c1_0) ∧ w'.cell? ⟨gb732, 1, none⟩ = some (.int .i64 a1_1) ∧ w'.cell? ⟨gb732, 2, none⟩ = some (.slice A1_2 l1_2.length c1_2) ∧ w'.cell? ad747 = some (.int .i64 (rd l1_0 0))) (ds := []) #[false, false, false, false, false, false, false, false] (by kernel_rfl) rfl rfl ⟨(blk_cell BK731.out 0).trans rfl, (blk_cell BK731.out 1).trans rfl, (blk_cell BK732.out 0).trans rfl, (blk_cell BK732.out 1).trans rfl, (blk_cell BK732.out 2).trans rfl, ((HB.out.cell (World.block_lt_of_cell? w _ hw747_0)).trans hw747_0)⟩ (fun hHeld => ?_); refine with_tabW fulcrumlaw21_teaches.tab4 fulcrumlaw21_teaches.bits4 (fun HT_ HW_ => ?_)
     generalize wc.drew = w29 at BK731 BK732 HB hx747_0 hHeld ⊢
     refine pure_ (i := 0) (N := some 37) (v := ?_) (a' := ?_) #[true, false, false, false, false, false, false, false] rfl rfl (any_of HT_.out (by kernel_rfl)) (fun _ _ _ h => h) (Or.inl ⟨by rfl, ?_⟩) ?_ ?_
     rotate_left
     ·intro w'
      go_simp
      with_reducible rfl
     rotate_left
     ·simp only [Act.put, List.setIfInBounds_toArray, List.set_cons_zero, List.set_cons_succ, i64_w, i32_w]
      rfl
     refine pure_ (i := 2) (N := some 39) (v := ?_) (a' := ?_) #[true, false, true, false, false, false, false, false] rfl rfl (any_of HT_.out (by kernel_rfl)) (fun _ _ _ h => h) (Or.inl ⟨by rfl, ?_⟩) ?_ ?_
     rotate_left
     ·intro w'
      go_simp
      with_reducible rfl
     rotate_left
     ·simp only [Act.put, List.setIfInBounds_toArray, List.set_cons_zero, List.set_cons_succ, i64_w, i32_w]
      rfl
     refine take_ (i := 1) (N := some 38) (v := ?_) (a' := ?_) #[true, true, true, false, false, false, false, false] rfl rfl (take_ofW HT_.out HW_.out (by kernel_rfl)) (fun _ _ _ h => h) (Or.inl ⟨by rfl, ?_⟩) hHeld ?_ ?_
     rotate_left
     ·rintro w' ⟨s0, s1, s2, s3, s4, s5⟩
      go_simp
      with_reducible rfl
     rotate_left
     ·simp only [Act.put, List.setIfInBounds_toArray, List.set_cons_zero, List.set_cons_succ, i64_w, i32_w]
      rfl
     refine take_ (i := 3) (N := some 40) (v := ?_) (a' := ?_) #[true, true, true, true, false, false, false, false] rfl rfl (take_ofW HT_.out HW_.out (by kernel_rfl)) (fun _ _ _ h => h) (Or.inl ⟨by rfl, ?_⟩) hHeld ?_ ?_
     rotate_left
     ·rintro w' ⟨s0, s1, s2, s3, s4, s5⟩
      go_simp
      with_reducible rfl
     rotate_left
     ·simp only [Act.put, List.setIfInBounds_toArray, List.set_cons_zero, List.set_cons_succ, i64_w, i32_w]
      rfl
     refine pure_ (i := 4) (N := some 41) (v := ?_) (a' := ?_) #[true, true, true, true, true, false, false, false] rfl rfl (any_of HT_.out (by kernel_rfl)) (fun _ _ _ h => h) (Or.inl ⟨by rfl, ?_⟩) ?_ ?_
     rotate_left
     ·intro w'
      go_simp
      with_reducible rfl
     rotate_left
     ·simp only [Act.put, List.setIfInBounds_toArray, List.set_cons_zero, List.set_cons_succ, i64_w, i32_w]
      rfl
     refine take_ (i := 5) (N := some 42) (v := ?_) (a' := ?_) #[true, true, true, true, true, true, false, false] rfl rfl (take_ofW HT_.out HW_.out (by kernel_rfl)) (fun _ _ _ h => h) (Or.inl ⟨by rfl, ?_⟩) hHeld ?_ ?_
     rotate_left
     ·rintro w' ⟨s0, s1, s2, s3, s4, s5⟩
      go_simp
      with_reducible rfl
     rotate_left
     ·simp only [Act.put, List.setIfInBounds_toArray, List.set_cons_zero, List.set_cons_succ, i64_w, i32_w]
      rfl
     refine one_ (i := 6) (N := some 43) #[true, true, true, true, true, true, true, false] rfl rfl (one_of HT_.out (by kernel_rfl)) (by decide) (fun K hK => ?_)
     refine goes_ Try.func68 (by kernel_rfl) rfl #[.slice A0_1 l0_1.length c0_1, .int .i64 (rd l1_0 0)] (by rfl) rfl rfl (by (try simp only [List.map_toArray, List.map_cons, List.map_nil]); first | done | rfl | (simp only [List.length_drop, List.length_take]; rfl)) ?_
     with_reducible refine (fulcrumlaw21_level.calls kj5 _ _ l0_1 (rd l1_0 0) t748 _ ?side1 ?side2 A28.out).mono ?_
     (case side1 => repeat (first | exact (Kd.C_below HR0_1.out HB.out) | (with_reducible refine Kd.C_alloc ?_ _) | (with_reducible refine Kd.C_drewN ?_ _) | (with_reducible refine Kd.C_drew ?_)))
     (case side2 => exact HC0_1.out)
     rintro e w' ⟨rfl, ⟨nd, rfl⟩⟩
     refine ⟨_, rfl, ?_⟩
     refine hK.out _ _ ⟨(blk_cell BK731.out 0).trans rfl, (blk_cell BK731.out 1).trans rfl, (blk_cell BK732.out 0).trans rfl, (blk_cell BK732.out 1).trans rfl, (blk_cell BK732.out 2).trans rfl, ((HB.out.cell (World.block_lt_of_cell? w _ hw747_0)).trans hw747_0)⟩ (fun hHeld => ?_)
     clear hK K
     refine norm_ (a' := ?_) ?_ ?_
     rotate_left
     ·show Act.put _ (some 43) _ = _
      simp only [Act.put, List.setIfInBounds_toArray, List.set_cons_zero, List.set_cons_succ, i64_w, i32_w]
      rfl
     refine pure_ (i := 7) (N := some 7) (v := ?_) (a' := ?_) #[true, true, true, true, true, true, true, true] rfl rfl (any_of HT_.out (by kernel_rfl)) (fun _ _ _ h => h) (Or.inl ⟨by rfl, ?_⟩) ?_ ?_
     rotate_left
     ·intro w'
      go_simp
      with_reducible rfl
     rotate_left
     ·simp only [Act.put, List.setIfInBounds_toArray, List.set_cons_zero, List.set_cons_succ, i64_w, i32_w]
      rfl
     refine done_ (done_of HT_.out (by kernel_rfl)) ?_
     try go_wp2
     go_loopg [8, 9] kj5 (fun kq v8 v9 w' => ∃ (x8_2 : Int) (x9_2 : Int), v8 = .int .i64 x8_2 ∧ v9 = .int .i64 x9_2 ∧ Aside0 (fulcrumlaw21_teaches.l0 kq t748 x8_2 x9_2 l0_0 l0_1 l1_0 a1_1 l1_2 = some r) ∧ Aside0 (kq ≤ kj5) ∧ Aside0 (w'.heap[gb731]? = some (.cells #[(.slice A0_0 l0_0.length c0_0), (.slice A0_1 l0_1.length c0_1)] 26 (0, 0))) ∧ Aside0 (w'.heap[gb732]? = some (.cells #[(.slice (some ad747) l1_0.length c1_0), .int .i64 a1_1, (.slice A1_2 l1_2.length c1_2)] 30 (0, 0))) ∧ Aside0 (Below w.heap.size w w'))
     case atStart => exact ⟨(0), (1), (by first | rfl | (simp; done) | (simp [*]; done)), (by first | rfl | (simp; done) | (simp [*]; done)), H', ⟨Nat.le_refl _⟩, ⟨blk_any BK731.out⟩, ⟨blk_any BK732.out⟩, ⟨by repeat (first | (with_reducible first | exact HB.out | apply below_alloc | apply pw_below_drewN | apply below_drew1 | refine below_set ?_ GE731.out | refine below_set ?_ GE732.out) | exact HB.out)⟩⟩
     case round =>
      clear H'
      try clear c1
      try clear c2
      try clear p2
      try clear c3
      try clear c6
      try clear p7
      try clear q7
      try clear hx7
      try clear qi7
      try clear c15
      try clear c15b0
      try clear c15b1
      try clear c16
      try clear c16b0
      try clear c16b1
      try clear c16b2
      try clear c17
      try clear c21
      try clear c23
      try clear c26
      try clear c27
      try clear c27b0
      try clear c27b1
      try clear hcz18_0
      try clear hcz18_1
      try clear hcz18_2
      try clear hcz22_0
      try clear hcz22_1
      try clear hcz22_2
      try clear hfz18_0
      try clear hfz18_1
      try clear hfz18_2
      try clear hfz22_0
      try clear hfz22_1
      try clear hfz22_2
      try clear hx747_0
      try clear p2
      try clear p747
      try clear q747
      obtain ⟨x8_2, x9_2, rfl, rfl, HA, HK2, BK731, BK732, HB⟩ := hrel
      cases gk with
      | zero => exact absurd HA.out (by simp [fulcrumlaw21_teaches.l0])
      | succ k2 =>
       have H := HA.out
       clear HA
       simp only [fulcrumlaw21_teaches.l0] at H
       by_cases c30 : x9_2 < (l1_0.length : Int)
       ·rw [if_pos c30] at H
        have c30b0 : decide (x9_2 < (l1_0.length : Int)) = true := decide_eq_true c30
        clear c30
        by_cases c31 : 0 ≤ x9_2
        ·rw [if_pos c31] at H
         have c31b0 : decide (0 ≤ x9_2) = true := decide_eq_true c31
         clear c31
         replace H := Option.bind_eq_some_iff.mp H
         obtain ⟨t750, A320, H⟩ := H
         replace H : (if t750 < 1 then (fulcrumlaw21_teaches.j2 k2 t748 x8_2 x9_2 t750 true l0_0 l0_1 l1_0 a1_1 l1_2) else (fulcrumlaw21_teaches.j2 k2 t748 x8_2 x9_2 t750 (decide (t750 ≥ t748)) l0_0 l0_1 l1_0 a1_1 l1_2)) = some r := H
         have A32 := Aside0.mk A320
         clear A320
         have HC33 := Aside0.mk H
         clear H
         have hnb34 := NB732_731.out
         have hnc34 := NB731_732.out
         have hcz35_0 : wr.cell? ⟨gb732, 0, none⟩ = some (.slice (some ad747) l1_0.length c1_0) := (blk_cell BK732.out 0).trans rfl
         have hcz35_1 : wr.cell? ⟨gb732, 1, none⟩ = some (.int .i64 a1_1) := (blk_cell BK732.out 1).trans rfl
         have hcz35_2 : wr.cell? ⟨gb732, 2, none⟩ = some (.slice A1_2 l1_2.length c1_2) := (blk_cell BK732.out 2).trans rfl
         have hfz35_0 := blk_frozen BK732.out 0
         have hfz35_1 := blk_frozen BK732.out 1
         have hfz35_2 := blk_frozen BK732.out 2
         try go_wp2
         have n0_ := Aside0.mk (blk_drew BK731.out)
         have n1_ := Aside0.mk (blk_drew BK732.out)
         have n2_ := Aside0.mk (below_drew1 HB.out)
         clear BK731
         clear BK732
         clear HB
         have BK731 := n0_
         have BK732 := n1_
         have HB := n2_
         clear n0_ n1_ n2_
         have p749 : 0 ≤ (x9_2 : Int) := odt
         have q749 : x9_2 < (l1_0.length : Int) := odt
         obtain ⟨ad749, e749, hx749_0⟩ := Kd.at_int HR1_0.out x9_2 p749 q749
         have hw749_0 := hx749_0
         obtain rfl : ad747 = ad749 := (by injection e749)
         replace hx749_0 := (HB.out.cell (World.block_lt_of_cell? w _ hx749_0)).trans hx749_0
         replace p749 := eq_true p749
         replace q749 := eq_true q749
         refine start_ (n := 9) (S := fun w' => w'.cell? ⟨gb731, 0, none⟩ = some (.slice A0_0 l0_0.length c0_0) ∧ w'.cell? ⟨gb731, 1, none⟩ = some (.slice A0_1 l0_1.length c0_1) ∧ w'.cell? ⟨gb732, 0, none⟩ = some (.slice (some ad747) l1_0.length c1_0) ∧ w'.cell? ⟨gb732, 1, none⟩ = some (.int .i64 a1_1) ∧ w'.cell? ⟨gb732, 2, none⟩ = some (.slice A1_2 l1_2.length c1_2) ∧ w'.cell? (ad747.add (x9_2).toNat) = some (.int .i64 (rd l1_0 x9_2))) (ds := []) #[false, false, false, false, false, false, false, false, false] (by kernel_rfl) rfl rfl ⟨(blk_cell BK731.out 0).trans rfl, (blk_cell BK731.out 1).trans rfl, (blk_cell BK732.out 0).trans rfl, (blk_cell BK732.out 1).trans rfl, (blk_cell BK732.out 2).trans rfl, ((HB.out.cell (World.block_lt_of_cell? w _ hw749_0)).trans hw749_0)⟩ (fun hHeld => ?_); refine with_tabW fulcrumlaw21_teaches.tab9 fulcrumlaw21_teaches.bits9 (fun HT_ HW_ => ?_)
         generalize wr.drew = w36 at BK731 BK732 HB hx749_0 hHeld ⊢
         refine pure_ (i := 0) (N := some 51) (v := ?_) (a' := ?_) #[true, false, false, false, false, false, false, false, false] rfl rfl (any_of HT_.out (by kernel_rfl)) (fun _ _ _ h => h) (Or.inl ⟨by rfl, ?_⟩) ?_ ?_
         rotate_left
         ·intro w'
          go_simp
          with_reducible rfl
         rotate_left
         ·simp only [Act.put, List.setIfInBounds_toArray, List.set_cons_zero, List.set_cons_succ, i64_w, i32_w]
          rfl
         refine pure_ (i := 2) (N := some 53) (v := ?_) (a' := ?_) #[true, false, true, false, false, false, false, false, false] rfl rfl (any_of HT_.out (by kernel_rfl)) (fun _ _ _ h => h) (Or.inl ⟨by rfl, ?_⟩) ?_ ?_
         rotate_left
         ·intro w'
          go_simp
          with_reducible rfl
         rotate_left
         ·simp only [Act.put, List.setIfInBounds_toArray, List.set_cons_zero, List.set_cons_succ, i64_w, i32_w]
          rfl
         refine pure_ (i := 4) (N := some 55) (v := ?_) (a' := ?_) #[true, false, true, false, true, false, false, false, false] rfl rfl (any_of HT_.out (by kernel_rfl)) (fun _ _ _ h => h) (Or.inl ⟨by rfl, ?_⟩) ?_ ?_
         rotate_left
         ·intro w'
          go_simp
          with_reducible rfl
         rotate_left
         ·simp only [Act.put, List.setIfInBounds_toArray, List.set_cons_zero, List.set_cons_succ, i64_w, i32_w]
          rfl
         refine take_ (i := 1) (N := some 52) (v := ?_) (a' := ?_) #[true, true, true, false, true, false, false, false, false] rfl rfl (take_ofW HT_.out HW_.out (by kernel_rfl)) (fun _ _ _ h => h) (Or.inl ⟨by rfl, ?_⟩) hHeld ?_ ?_
         rotate_left
         ·rintro w' ⟨s0, s1, s2, s3, s4, s5⟩
          go_simp
          with_reducible rfl
         rotate_left
         ·simp only [Act.put, List.setIfInBounds_toArray, List.set_cons_zero, List.set_cons_succ, i64_w, i32_w]
          rfl
         refine take_ (i := 3) (N := some 54) (v := ?_) (a' := ?_) #[true, true, true, true, true, false, false, false, false] rfl rfl (take_ofW HT_.out HW_.out (by kernel_rfl)) (fun _ _ _ h => h) (Or.inl ⟨by rfl, ?_⟩) hHeld ?_ ?_
         rotate_left
         ·rintro w' ⟨s0, s1, s2, s3, s4, s5⟩
          go_simp
          with_reducible rfl
         rotate_left
         ·simp only [Act.put, List.setIfInBounds_toArray, List.set_cons_zero, List.set_cons_succ, i64_w, i32_w]
          rfl
         refine pure_ (i := 5) (N := some 56) (v := ?_) (a' := ?_) #[true, true, true, true, true, true, false, false, false] rfl rfl (any_of HT_.out (by kernel_rfl)) (fun _ _ _ h => h) (Or.inl ⟨by rfl, ?_⟩) ?_ ?_
         rotate_left
         ·intro w'
          go_simp
          with_reducible rfl
         rotate_left
         ·simp only [Act.put, List.setIfInBounds_toArray, List.set_cons_zero, List.set_cons_succ, i64_w, i32_w]
          rfl
         refine take_ (i := 6) (N := some 57) (v := ?_) (a' := ?_) #[true, true, true, true, true, true, true, false, false] rfl rfl (take_ofW HT_.out HW_.out (by kernel_rfl)) (fun _ _ _ h => h) (Or.inl ⟨by rfl, ?_⟩) hHeld ?_ ?_
         rotate_left
         ·rintro w' ⟨s0, s1, s2, s3, s4, s5⟩
          go_simp
          with_reducible rfl
         rotate_left
         ·simp only [Act.put, List.setIfInBounds_toArray, List.set_cons_zero, List.set_cons_succ, i64_w, i32_w]
          rfl
         refine one_ (i := 7) (N := some 58) #[true, true, true, true, true, true, true, true, false] rfl rfl (one_of HT_.out (by kernel_rfl)) (by decide) (fun K hK => ?_)
         refine goes_ Try.func68 (by kernel_rfl) rfl #[.slice A0_1 l0_1.length c0_1, .int .i64 (rd l1_0 x9_2)] (by rfl) rfl rfl (by (try simp only [List.map_toArray, List.map_cons, List.map_nil]); first | done | rfl | (simp only [List.length_drop, List.length_take]; rfl)) ?_
         with_reducible refine (fulcrumlaw21_level.calls k2 _ _ l0_1 (rd l1_0 x9_2) t750 _ ?side1 ?side2 A32.out).mono ?_
         (case side1 => repeat (first | exact (Kd.C_below HR0_1.out HB.out) | (with_reducible refine Kd.C_alloc ?_ _) | (with_reducible refine Kd.C_drewN ?_ _) | (with_reducible refine Kd.C_drew ?_)))
         (case side2 => exact HC0_1.out)
         rintro e w' ⟨rfl, ⟨nd, rfl⟩⟩
         refine ⟨_, rfl, ?_⟩
         refine hK.out _ _ ⟨(blk_cell BK731.out 0).trans rfl, (blk_cell BK731.out 1).trans rfl, (blk_cell BK732.out 0).trans rfl, (blk_cell BK732.out 1).trans rfl, (blk_cell BK732.out 2).trans rfl, ((HB.out.cell (World.block_lt_of_cell? w _ hw749_0)).trans hw749_0)⟩ (fun hHeld => ?_)
         clear hK K
         refine norm_ (a' := ?_) ?_ ?_
         rotate_left
         ·show Act.put _ (some 58) _ = _
          simp only [Act.put, List.setIfInBounds_toArray, List.set_cons_zero, List.set_cons_succ, i64_w, i32_w]
          rfl
         refine pure_ (i := 8) (N := some 10) (v := ?_) (a' := ?_) #[true, true, true, true, true, true, true, true, true] rfl rfl (any_of HT_.out (by kernel_rfl)) (fun _ _ _ h => h) (Or.inl ⟨by rfl, ?_⟩) ?_ ?_
         rotate_left
         ·intro w'
          go_simp
          with_reducible rfl
         rotate_left
         ·simp only [Act.put, List.setIfInBounds_toArray, List.set_cons_zero, List.set_cons_succ, i64_w, i32_w]
          rfl
         refine done_ (done_of HT_.out (by kernel_rfl)) ?_
         go_upto_region 10 with (fail)
         go_cut [65] (fun v65 wc => ∃ (kq : Nat) (x65_32 : Bool), v65 = .bool x65_32 ∧ Aside0 (fulcrumlaw21_teaches.j2 kq t748 x8_2 x9_2 t750 x65_32 l0_0 l0_1 l1_0 a1_1 l1_2 = some r) ∧ Aside0 (kq ≤ k2) ∧ Aside0 (wc.heap[gb731]? = some (.cells #[(.slice A0_0 l0_0.length c0_0), (.slice A0_1 l0_1.length c0_1)] 26 (0, 0))) ∧ Aside0 (wc.heap[gb732]? = some (.cells #[(.slice (some ad747) l1_0.length c1_0), .int .i64 a1_1, (.slice A1_2 l1_2.length c1_2)] 30 (0, 0))) ∧ Aside0 (Below w.heap.size w wc))
         case first =>
          have H := HC33.out
          clear HC33
          by_cases c37 : t750 < 1
          ·rw [if_pos c37] at H
           have c37b0 : decide (t750 < 1) = true := decide_eq_true c37
           clear c37
           (first | rw [c37b0] | (simp only [i64_w, i32_w]; rw [c37b0]) | skip)
           have H' := Aside0.mk H
           clear H
           go_wp2
           go_meet
           case rel => exact ⟨_, (true), (by first | rfl | (simp; done) | (simp [*]; done)), H', ⟨by have := HJ5.out; have := HK2.out; first | omega | exact Nat.le_refl _⟩, ⟨blk_any BK731.out⟩, ⟨blk_any BK732.out⟩, ⟨by repeat (first | (with_reducible first | exact HB.out | apply below_alloc | apply pw_below_drewN | apply below_drew1 | refine below_set ?_ GE731.out | refine below_set ?_ GE732.out) | exact HB.out)⟩⟩
          ·rw [if_neg c37] at H
           have c37b0 : decide (t750 < 1) = false := decide_eq_false c37
           clear c37
           (first | rw [c37b0] | (simp only [i64_w, i32_w]; rw [c37b0]) | skip)
           have H' := Aside0.mk H
           clear H
           go_wp2
           go_meet
           case rel => exact ⟨_, (decide (t750 ≥ t748)), (by first | rfl | (simp; done) | (simp [*]; done)), H', ⟨by have := HJ5.out; have := HK2.out; first | omega | exact Nat.le_refl _⟩, ⟨blk_any BK731.out⟩, ⟨blk_any BK732.out⟩, ⟨by repeat (first | (with_reducible first | exact HB.out | apply below_alloc | apply pw_below_drewN | apply below_drew1 | refine below_set ?_ GE731.out | refine below_set ?_ GE732.out) | exact HB.out)⟩⟩
         case rest =>
          clear HC33
          try clear c1
          try clear c2
          try clear p2
          try clear c3
          try clear c6
          try clear p7
          try clear q7
          try clear hx7
          try clear qi7
          try clear c15
          try clear c15b0
          try clear c15b1
          try clear c16
          try clear c16b0
          try clear c16b1
          try clear c16b2
          try clear c17
          try clear c21
          try clear c23
          try clear c26
          try clear c27
          try clear c27b0
          try clear c27b1
          try clear c30
          try clear c30b0
          try clear c31
          try clear c31b0
          try clear c33
          try clear c34
          try clear c37
          try clear c37b0
          try clear hcz18_0
          try clear hcz18_1
          try clear hcz18_2
          try clear hcz22_0
          try clear hcz22_1
          try clear hcz22_2
          try clear hcz35_0
          try clear hcz35_1
          try clear hcz35_2
          try clear hfz18_0
          try clear hfz18_1
          try clear hfz18_2
          try clear hfz22_0
          try clear hfz22_1
          try clear hfz22_2
          try clear hfz35_0
          try clear hfz35_1
          try clear hfz35_2
          try clear hx747_0
          try clear hx749_0
          try clear p2
          try clear p7
          try clear p747
          try clear p749
          try clear q7
          try clear q747
          try clear q749
          obtain ⟨kq, x65_32, rfl, HA, HJ32, BK731, BK732, HB⟩ := hcut
          cases kq with
          | zero => exact absurd HA.out (by simp [fulcrumlaw21_teaches.j2])
          | succ kj32 =>
           have H := HA.out
           clear HA
           simp only [fulcrumlaw21_teaches.j2] at H
           by_cases c38 : x65_32 = true
           ·subst c38
            have H1 : (some false) = some r := by rw [if_pos rfl] at H; exact H
            clear H
            have H := H1
            clear H1
            obtain rfl := Option.some.inj H
            go_wp2
            go_ret
            exact ⟨by first | rfl | (simp [errW_none, errW_some] <;> rfl) | (simp [*, errW_none, errW_some] <;> rfl), by repeat (first | (with_reducible first | exact HB.out | apply below_alloc | apply pw_below_drewN | apply below_drew1 | refine below_set ?_ GE731.out | refine below_set ?_ GE732.out) | exact HB.out)⟩
           ·replace c38 := Bool.eq_false_iff.mpr c38
            subst c38
            have H1 : (if t750 > x8_2 then (fulcrumlaw21_teaches.l0 kj32 t748 t750 (wrap64 (x9_2 + 1)) l0_0 l0_1 l1_0 a1_1 l1_2) else (fulcrumlaw21_teaches.l0 kj32 t748 x8_2 (wrap64 (x9_2 + 1)) l0_0 l0_1 l1_0 a1_1 l1_2)) = some r := by rw [if_neg (show ¬ (false = true) by decide)] at H; exact H
            clear H
            have H := H1
            clear H1
            by_cases c39 : t750 > x8_2
            ·rw [if_pos c39] at H
             have c39b0 : decide (x8_2 < t750) = true := decide_eq_true c39
             clear c39
             have H' := Aside0.mk H
             clear H
             go_wp2
             go_roundg kj32
             case measure => have := HJ5.out; have := HK2.out; have := HJ32.out; omega
             case rel => exact ⟨(t750), (wrap64 (x9_2 + 1)), (by first | rfl | (simp; done) | (simp [*]; done)), (by first | rfl | (simp; done) | (simp [*]; done)), H', ⟨by have := HJ5.out; have := HK2.out; have := HJ32.out; omega⟩, ⟨blk_any BK731.out⟩, ⟨blk_any BK732.out⟩, ⟨by repeat (first | (with_reducible first | exact HB.out | apply below_alloc | apply pw_below_drewN | apply below_drew1 | refine below_set ?_ GE731.out | refine below_set ?_ GE732.out) | exact HB.out)⟩⟩
            ·rw [if_neg c39] at H
             have c39b0 : decide (x8_2 < t750) = false := decide_eq_false c39
             clear c39
             have H' := Aside0.mk H
             clear H
             go_wp2
             go_roundg kj32
             case measure => have := HJ5.out; have := HK2.out; have := HJ32.out; omega
             case rel => exact ⟨(x8_2), (wrap64 (x9_2 + 1)), (by first | rfl | (simp; done) | (simp [*]; done)), (by first | rfl | (simp; done) | (simp [*]; done)), H', ⟨by have := HJ5.out; have := HK2.out; have := HJ32.out; omega⟩, ⟨blk_any BK731.out⟩, ⟨blk_any BK732.out⟩, ⟨by repeat (first | (with_reducible first | exact HB.out | apply below_alloc | apply pw_below_drewN | apply below_drew1 | refine below_set ?_ GE731.out | refine below_set ?_ GE732.out) | exact HB.out)⟩⟩
        ·rw [if_neg c31] at H
         exact absurd H (by simp)
       ·rw [if_neg c30] at H
        have c30b0 : decide (x9_2 < (l1_0.length : Int)) = false := decide_eq_false c30
        clear c30
        by_cases c40 : t748 > x8_2
        ·rw [if_pos c40] at H
         have c40b0 : decide (x8_2 < t748) = true := decide_eq_true c40
         clear c40
         obtain rfl := Option.some.inj H
         have hnb41 := NB732_731.out
         have hnc41 := NB731_732.out
         have hcz42_0 : wr.cell? ⟨gb732, 0, none⟩ = some (.slice (some ad747) l1_0.length c1_0) := (blk_cell BK732.out 0).trans rfl
         have hcz42_1 : wr.cell? ⟨gb732, 1, none⟩ = some (.int .i64 a1_1) := (blk_cell BK732.out 1).trans rfl
         have hcz42_2 : wr.cell? ⟨gb732, 2, none⟩ = some (.slice A1_2 l1_2.length c1_2) := (blk_cell BK732.out 2).trans rfl
         have hfz42_0 := blk_frozen BK732.out 0
         have hfz42_1 := blk_frozen BK732.out 1
         have hfz42_2 := blk_frozen BK732.out 2
         go_wp2
         go_ret
         exact ⟨by first | rfl | (simp [errW_none, errW_some] <;> rfl) | (simp [*, errW_none, errW_some] <;> rfl), by repeat (first | (with_reducible first | exact HB.out | apply below_alloc | apply pw_below_drewN | apply below_drew1 | refine below_set ?_ GE731.out | refine below_set ?_ GE732.out) | exact HB.out)⟩
        ·rw [if_neg c40] at H
         have c40b0 : decide (x8_2 < t748) = false := decide_eq_false c40
         clear c40
         obtain rfl := Option.some.inj H
         have hnb43 := NB732_731.out
         have hnc43 := NB731_732.out
         have hcz44_0 : wr.cell? ⟨gb732, 0, none⟩ = some (.slice (some ad747) l1_0.length c1_0) := (blk_cell BK732.out 0).trans rfl
         have hcz44_1 : wr.cell? ⟨gb732, 1, none⟩ = some (.int .i64 a1_1) := (blk_cell BK732.out 1).trans rfl
         have hcz44_2 : wr.cell? ⟨gb732, 2, none⟩ = some (.slice A1_2 l1_2.length c1_2) := (blk_cell BK732.out 2).trans rfl
         have hfz44_0 := blk_frozen BK732.out 0
         have hfz44_1 := blk_frozen BK732.out 1
         have hfz44_2 := blk_frozen BK732.out 2
         go_wp2
         go_ret
         exact ⟨by first | rfl | (simp [errW_none, errW_some] <;> rfl) | (simp [*, errW_none, errW_some] <;> rfl), by repeat (first | (with_reducible first | exact HB.out | apply below_alloc | apply pw_below_drewN | apply below_drew1 | refine below_set ?_ GE731.out | refine below_set ?_ GE732.out) | exact HB.out)⟩
    ·rw [if_neg c27] at H
     exact absurd H (by simp)
end Go.Proofs.Ytboalbiicmcljaa.PAN
