import Derived.Test.YtboalbiicmcljaaZTPANx0
import Derived.Test.YtboalbiicmcljaaZTPANx10
import Derived.Test.YtboalbiicmcljaaZTPANx12
namespace Go.Proofs.Ytboalbiicmcljaa.PAN
open Go.Proofs.YtboalbiicmcljaaH
open Go.RowKit Go.Proofs.YtboalbiicmcljaaW.PrintWords Go.Proofs.YtboalbiicmcljaaW.PrintLast Go.Proofs.YtboalbiicmcljaaW.PrintMore
attribute [local go_sem] max2_int min2_int max_two min_two max_three min_three max_four min_four   -- for this text's walks alone
set_option linter.unusedVariables false
set_option linter.unusedSimpArgs false
mutual
def fulcrumref21_Final.l0 : Nat → List (List Int) → List (S49) → List Int → List Int → Int → Option (List Int × Int)
 | 0, _, _, _, _, _ => none
 | k + 1, x0, x1, x9, x10, x11 => if x11 ≥ 0 then (if 0 ≤ x11 then (if x11 < (x1.length : Int) then ((fulcrumref21_has.f k x9 ((rd_T49 x1 x11).f0)).bind fun t404 => (if t404 = true then (if ((rd_T49 x1 x11).f2) < 0 then (if x10.length < 17592186044416 then (fulcrumref21_Final.l0 k x0 x1 x9 (x10 ++ [(rd_T49 x1 x11).f0]) (wrap64 (x11 - 1))) else (none)) else (if 0 ≤ ((rd_T49 x1 x11).f2) then (if ((rd_T49 x1 x11).f2) < (x0.length : Int) then (fulcrumref21_Final.l1 k x0 x1 x9 x10 x11 (rd_L1 x0 ((rd_T49 x1 x11).f2)) 0) else (none)) else (none))) else (fulcrumref21_Final.l0 k x0 x1 x9 x10 (wrap64 (x11 - 1))))) else (none)) else (none)) else (fulcrumref21_Final.l2 k x10 (([] : List Int)) (wrap64 ((x10.length : Int) - 1)))
def fulcrumref21_Final.l1 : Nat → List (List Int) → List (S49) → List Int → List Int → Int → List Int → Int → Option (List Int × Int)
 | 0, _, _, _, _, _, _, _ => none
 | k + 1, x0, x1, x9, x10, x11, x12, x13 => if x13 < (x12.length : Int) then (if 0 ≤ x13 then (if 0 ≤ x11 then (if x11 < (x1.length : Int) then (if (rd x12 x13) = ((rd_T49 x1 x11).f0) then (fulcrumref21_Final.l1 k x0 x1 x9 x10 x11 x12 (wrap64 (x13 + 1))) else (if x9.length < 17592186044416 then (fulcrumref21_Final.l1 k x0 x1 (x9 ++ [wrap64 (-(rd x12 x13))]) x10 x11 x12 (wrap64 (x13 + 1))) else (none))) else (none)) else (none)) else (none)) else (fulcrumref21_Final.l0 k x0 x1 x9 x10 (wrap64 (x11 - 1)))
def fulcrumref21_Final.l2 : Nat → List Int → List Int → Int → Option (List Int × Int)
 | 0, _, _, _ => none
 | k + 1, x10, x14, x15 => if x15 ≥ 0 then (if 0 ≤ x15 then (if x15 < (x10.length : Int) then (if x14.length < 17592186044416 then (fulcrumref21_Final.l2 k x10 (x14 ++ [rd x10 x15]) (wrap64 (x15 - 1))) else (none)) else (none)) else (none)) else (some (x14, 0))
end
def fulcrumref21_Final.f (k : Nat) (l0 : List (List Int)) (l1 : List (S49)) (a2 : Int) : Option (List Int × Int) := (fulcrumref21_Check.f k l0 l1).bind fun t395 => (if t395 = 0 then ((fulcrumref21_place.f k l1 a2).bind fun t396 => (if t396 < 0 then (some (([] : List Int), 210)) else (fulcrumref21_Final.l0 k l0 l1 (([a2] : List Int)) (([] : List Int)) (wrap64 ((l1.length : Int) - 1))))) else (some (([] : List Int), t395)))
theorem fulcrumref21_Final.mono_l : ∀ k, (∀ y0 y1 y2 y3 y4, LeO (fulcrumref21_Final.l0 k y0 y1 y2 y3 y4) (fulcrumref21_Final.l0 (k + 1) y0 y1 y2 y3 y4)) ∧ (∀ y0 y1 y2 y3 y4 y5 y6, LeO (fulcrumref21_Final.l1 k y0 y1 y2 y3 y4 y5 y6) (fulcrumref21_Final.l1 (k + 1) y0 y1 y2 y3 y4 y5 y6)) ∧ (∀ y0 y1 y2, LeO (fulcrumref21_Final.l2 k y0 y1 y2) (fulcrumref21_Final.l2 (k + 1) y0 y1 y2))
 | 0 => ⟨fun _ _ _ _ _ r h => by simp [fulcrumref21_Final.l0] at h, fun _ _ _ _ _ _ _ r h => by simp [fulcrumref21_Final.l1] at h, fun _ _ _ r h => by simp [fulcrumref21_Final.l2] at h⟩
 | k + 1 => by
  obtain ⟨ih0, ih1, ih2⟩ := fulcrumref21_Final.mono_l k
  refine ⟨?_, ?_, ?_⟩
  ·intro y0 y1 y2 y3 y4
   unfold fulcrumref21_Final.l0
   repeat' first
   | (with_reducible exact ih0 _ _ _ _ _)
   | (with_reducible exact ih1 _ _ _ _ _ _ _)
   | (with_reducible exact ih2 _ _ _)
   | (with_reducible exact fulcrumref21_Check.mono _ _ _)
   | (with_reducible exact fulcrumref21_has.mono _ _ _)
   | (with_reducible exact fulcrumref21_place.mono _ _ _)
   | (with_reducible exact LeO.refl _)
   | (with_reducible exact LeO.none _)
   | (with_reducible refine LeO.ite ?_ ?_)
   | (with_reducible refine LeO.bind ?_ (fun _ => ?_))
   | exact ih0 _ _ _ _ _
   | exact ih1 _ _ _ _ _ _ _
   | exact ih2 _ _ _
   | exact fulcrumref21_Check.mono _ _ _
   | exact fulcrumref21_has.mono _ _ _
   | exact fulcrumref21_place.mono _ _ _
   | exact LeO.none _
   | refine LeO.ite ?_ ?_
   | refine LeO.bind ?_ (fun _ => ?_)
  ·intro y0 y1 y2 y3 y4 y5 y6
   unfold fulcrumref21_Final.l1
   repeat' first
   | (with_reducible exact ih0 _ _ _ _ _)
   | (with_reducible exact ih1 _ _ _ _ _ _ _)
   | (with_reducible exact ih2 _ _ _)
   | (with_reducible exact fulcrumref21_Check.mono _ _ _)
   | (with_reducible exact fulcrumref21_has.mono _ _ _)
   | (with_reducible exact fulcrumref21_place.mono _ _ _)
   | (with_reducible exact LeO.refl _)
   | (with_reducible exact LeO.none _)
   | (with_reducible refine LeO.ite ?_ ?_)
   | (with_reducible refine LeO.bind ?_ (fun _ => ?_))
   | exact ih0 _ _ _ _ _
   | exact ih1 _ _ _ _ _ _ _
   | exact ih2 _ _ _
   | exact fulcrumref21_Check.mono _ _ _
   | exact fulcrumref21_has.mono _ _ _
   | exact fulcrumref21_place.mono _ _ _
   | exact LeO.none _
   | refine LeO.ite ?_ ?_
   | refine LeO.bind ?_ (fun _ => ?_)
  ·intro y0 y1 y2
   unfold fulcrumref21_Final.l2
   repeat' first
   | (with_reducible exact ih0 _ _ _ _ _)
   | (with_reducible exact ih1 _ _ _ _ _ _ _)
   | (with_reducible exact ih2 _ _ _)
   | (with_reducible exact fulcrumref21_Check.mono _ _ _)
   | (with_reducible exact fulcrumref21_has.mono _ _ _)
   | (with_reducible exact fulcrumref21_place.mono _ _ _)
   | (with_reducible exact LeO.refl _)
   | (with_reducible exact LeO.none _)
   | (with_reducible refine LeO.ite ?_ ?_)
   | (with_reducible refine LeO.bind ?_ (fun _ => ?_))
   | exact ih0 _ _ _ _ _
   | exact ih1 _ _ _ _ _ _ _
   | exact ih2 _ _ _
   | exact fulcrumref21_Check.mono _ _ _
   | exact fulcrumref21_has.mono _ _ _
   | exact fulcrumref21_place.mono _ _ _
   | exact LeO.none _
   | refine LeO.ite ?_ ?_
   | refine LeO.bind ?_ (fun _ => ?_)
theorem fulcrumref21_Final.mono : ∀ a0 a1 a2 k, LeO (fulcrumref21_Final.f k a0 a1 a2) (fulcrumref21_Final.f (k + 1) a0 a1 a2) := by
 intro a0 a1 a2 k
 obtain ⟨ih0, ih1, ih2⟩ := fulcrumref21_Final.mono_l k
 unfold fulcrumref21_Final.f
 repeat' first
   | (with_reducible exact ih0 _ _ _ _ _)
   | (with_reducible exact ih1 _ _ _ _ _ _ _)
   | (with_reducible exact ih2 _ _ _)
   | (with_reducible exact fulcrumref21_Check.mono _ _ _)
   | (with_reducible exact fulcrumref21_has.mono _ _ _)
   | (with_reducible exact fulcrumref21_place.mono _ _ _)
   | (with_reducible exact LeO.refl _)
   | (with_reducible exact LeO.none _)
   | (with_reducible refine LeO.ite ?_ ?_)
   | (with_reducible refine LeO.bind ?_ (fun _ => ?_))
   | exact ih0 _ _ _ _ _
   | exact ih1 _ _ _ _ _ _ _
   | exact ih2 _ _ _
   | exact fulcrumref21_Check.mono _ _ _
   | exact fulcrumref21_has.mono _ _ _
   | exact fulcrumref21_place.mono _ _ _
   | exact LeO.none _
   | refine LeO.ite ?_ ?_
   | refine LeO.bind ?_ (fun _ => ?_)
set_option maxHeartbeats 8000000 in
set_option maxRecDepth 100000 in
theorem fulcrumref21_Final.calls (k : Nat) (A0 : Option Addr) (c0 : Nat) (l0 : List (List Int)) (A1 : Option Addr) (c1 : Nat) (l1 : List (S49)) (a2 : Int) (r1 : List Int) (r2 : Int) (w : World) (hr0 : Kd.C (Kd.slice 3 (Kd.int .i64)) w A0 l0.length l0) (hc0 : l0.length ≤ c0) (hr1 : Kd.C k49 w A1 l1.length l1) (hc1 : l1.length ≤ c1) (h : fulcrumref21_Final.f k l0 l1 a2 = some (r1, r2)) :
  Calls Try.prog 26 #[.slice A0 l0.length c0, .slice A1 l1.length c1, .int .i64 a2] w fun e w' => ∃ v0_ : Value, e = .returned (.tuple #[v0_, .int .i64 r2]) ∧ Kd.R (Kd.int .i64) 3 w' w.heap.size (fun _ => True) v0_ r1 ∧ Below w.heap.size w w' := by
 have HR0 := Aside0.mk hr0
 have HC0 := Aside0.mk hc0
 clear hr0 hc0
 have HR1 := Aside0.mk hr1
 have HC1 := Aside0.mk hc1
 clear hr1 hc1
 have HB := Aside0.mk (Below.refl w.heap.size w)
 have H : ((fulcrumref21_Check.f k l0 l1).bind fun t395 => (if t395 = 0 then ((fulcrumref21_place.f k l1 a2).bind fun t396 => (if t396 < 0 then (some (([] : List Int), 210)) else (fulcrumref21_Final.l0 k l0 l1 (([a2] : List Int)) (([] : List Int)) (wrap64 ((l1.length : Int) - 1))))) else (some (([] : List Int), t395)))) = some (r1, r2) := h
 clear h
 replace H := Option.bind_eq_some_iff.mp H
 obtain ⟨t395, A40, H⟩ := H
 replace H : (if t395 = 0 then ((fulcrumref21_place.f k l1 a2).bind fun t396 => (if t396 < 0 then (some (([] : List Int), 210)) else (fulcrumref21_Final.l0 k l0 l1 (([a2] : List Int)) (([] : List Int)) (wrap64 ((l1.length : Int) - 1))))) else (some (([] : List Int), t395))) = some (r1, r2) := H
 have A4 := Aside0.mk A40
 clear A40
 by_cases c5 : t395 = 0
 ·rw [if_pos c5] at H
  have c5b0 : (t395 == 0) = true := beq_iff_eq.mpr c5
  have c5b1 : (t395 != 0) = false := bne_eq_false_iff_eq.mpr c5
  clear c5
  replace H := Option.bind_eq_some_iff.mp H
  obtain ⟨t396, A60, H⟩ := H
  replace H : (if t396 < 0 then (some (([] : List Int), 210)) else (fulcrumref21_Final.l0 k l0 l1 (([a2] : List Int)) (([] : List Int)) (wrap64 ((l1.length : Int) - 1)))) = some (r1, r2) := H
  have A6 := Aside0.mk A60
  clear A60
  by_cases c7 : t396 < 0
  ·rw [if_pos c7] at H
   have c7b0 : decide (t396 < 0) = true := decide_eq_true c7
   clear c7
   simp only [Option.some.injEq, Prod.mk.injEq] at H
   obtain ⟨rfl, rfl⟩ := H
   go_enter Try.func26, Try.ntmps26
   go_wp2_with (first | (go_at_call 21; (with_reducible refine (fulcrumref21_Check.calls k _ _ l0 _ _ l1 t395 _ ?side1 ?side2 ?side3 ?side4 A4.out).mono ?_); (case side1 => repeat (first | exact HR0.out | (with_reducible refine Kd.C_alloc ?_ _) | (with_reducible refine Kd.C_drewN ?_ _) | (with_reducible refine Kd.C_drew ?_))); (case side2 => exact HC0.out); (case side3 => repeat (first | exact HR1.out | (with_reducible refine Kd.C_alloc ?_ _) | (with_reducible refine Kd.C_drewN ?_ _) | (with_reducible refine Kd.C_drew ?_))); (case side4 => exact HC1.out); rintro e w8 ⟨rfl, hb⟩; have n0_ := Aside0.mk (below_step (bel_any HB.out) hb); clear HB; have HB := n0_; clear n0_; (try clear hb); (try clear hb2); (try clear hk); (try clear hi)) | (go_at_call 50; (with_reducible refine (fulcrumref21_place.calls k _ _ l1 a2 t396 _ ?side1 ?side2 A6.out).mono ?_); (case side1 => repeat (first | exact (Kd.C_below HR1.out HB.out) | (with_reducible refine Kd.C_alloc ?_ _) | (with_reducible refine Kd.C_drewN ?_ _) | (with_reducible refine Kd.C_drew ?_))); (case side2 => exact HC1.out); rintro e w' ⟨rfl, ⟨nd, rfl⟩⟩; (try first | exact ⟨rfl, _, World.drewN_drewN _ _ _⟩ | exact ⟨rfl, _, Eq.trans (World.drewN_drewN _ _ _) (congrArg (World.drewN _) (Nat.add_assoc _ _ _))⟩)))
   repeat (go_quiet (first | (go_at_call 21; (with_reducible refine (fulcrumref21_Check.calls k _ _ l0 _ _ l1 t395 _ ?side1 ?side2 ?side3 ?side4 A4.out).mono ?_); (case side1 => repeat (first | exact HR0.out | (with_reducible refine Kd.C_alloc ?_ _) | (with_reducible refine Kd.C_drewN ?_ _) | (with_reducible refine Kd.C_drew ?_))); (case side2 => exact HC0.out); (case side3 => repeat (first | exact HR1.out | (with_reducible refine Kd.C_alloc ?_ _) | (with_reducible refine Kd.C_drewN ?_ _) | (with_reducible refine Kd.C_drew ?_))); (case side4 => exact HC1.out); rintro e w8 ⟨rfl, hb⟩; have n0_ := Aside0.mk (below_step (bel_any HB.out) hb); clear HB; have HB := n0_; clear n0_; (try clear hb); (try clear hb2); (try clear hk); (try clear hi)) | (go_at_call 50; (with_reducible refine (fulcrumref21_place.calls k _ _ l1 a2 t396 _ ?side1 ?side2 A6.out).mono ?_); (case side1 => repeat (first | exact (Kd.C_below HR1.out HB.out) | (with_reducible refine Kd.C_alloc ?_ _) | (with_reducible refine Kd.C_drewN ?_ _) | (with_reducible refine Kd.C_drew ?_))); (case side2 => exact HC1.out); rintro e w' ⟨rfl, ⟨nd, rfl⟩⟩; (try first | exact ⟨rfl, _, World.drewN_drewN _ _ _⟩ | exact ⟨rfl, _, Eq.trans (World.drewN_drewN _ _ _) (congrArg (World.drewN _) (Nat.add_assoc _ _ _))⟩))); try go_wp2_with (first | (go_at_call 21; (with_reducible refine (fulcrumref21_Check.calls k _ _ l0 _ _ l1 t395 _ ?side1 ?side2 ?side3 ?side4 A4.out).mono ?_); (case side1 => repeat (first | exact HR0.out | (with_reducible refine Kd.C_alloc ?_ _) | (with_reducible refine Kd.C_drewN ?_ _) | (with_reducible refine Kd.C_drew ?_))); (case side2 => exact HC0.out); (case side3 => repeat (first | exact HR1.out | (with_reducible refine Kd.C_alloc ?_ _) | (with_reducible refine Kd.C_drewN ?_ _) | (with_reducible refine Kd.C_drew ?_))); (case side4 => exact HC1.out); rintro e w8 ⟨rfl, hb⟩; have n0_ := Aside0.mk (below_step (bel_any HB.out) hb); clear HB; have HB := n0_; clear n0_; (try clear hb); (try clear hb2); (try clear hk); (try clear hi)) | (go_at_call 50; (with_reducible refine (fulcrumref21_place.calls k _ _ l1 a2 t396 _ ?side1 ?side2 A6.out).mono ?_); (case side1 => repeat (first | exact (Kd.C_below HR1.out HB.out) | (with_reducible refine Kd.C_alloc ?_ _) | (with_reducible refine Kd.C_drewN ?_ _) | (with_reducible refine Kd.C_drew ?_))); (case side2 => exact HC1.out); rintro e w' ⟨rfl, ⟨nd, rfl⟩⟩; (try first | exact ⟨rfl, _, World.drewN_drewN _ _ _⟩ | exact ⟨rfl, _, Eq.trans (World.drewN_drewN _ _ _) (congrArg (World.drewN _) (Nat.add_assoc _ _ _))⟩))))
   go_ret2
   exact ⟨_, by first | rfl | (simp [errW_none, errW_some] <;> rfl) | (simp [*, errW_none, errW_some] <;> rfl), by first | exact Kd.R_nil _ _ _ _ _ | exact Kd.N_nil _ _ _ _ _ | exact Kd.V_nil _ _ _ _ _ | exact Kd.Q_nil _ _ _ _ _ | exact Kd.S_nil _ _ _ _ _, bel_any HB.out⟩
  ·rw [if_neg c7] at H
   have c7b0 : decide (t396 < 0) = false := decide_eq_false c7
   clear c7
   obtain ⟨y397, hy397⟩ : ∃ y_ : List Int, y_ = (([a2] : List Int)) := ⟨_, rfl⟩
   replace H : (fulcrumref21_Final.l0 k l0 l1 y397 (([] : List Int)) (wrap64 ((l1.length : Int) - 1))) = some (r1, r2) := by first | (rw [hy397]; with_reducible exact H) | (have H2_ := (Option.bind_some _ _).symm.trans H; rw [hy397]; with_reducible exact H2_) | (have H2_ := (Option.bind_some _ _).symm.trans H; with_reducible exact H2_) | with_reducible exact H | (rw [hy397]; exact H) | exact H
   have Ny397 := Aside0.mk hy397
   clear hy397
   obtain ⟨y400, hy400⟩ : ∃ y_ : List Int, y_ = (([] : List Int)) := ⟨_, rfl⟩
   replace H : (fulcrumref21_Final.l0 k l0 l1 y397 y400 (wrap64 ((l1.length : Int) - 1))) = some (r1, r2) := by first | (rw [hy400]; with_reducible exact H) | (have H2_ := (Option.bind_some _ _).symm.trans H; rw [hy400]; with_reducible exact H2_) | (have H2_ := (Option.bind_some _ _).symm.trans H; with_reducible exact H2_) | with_reducible exact H | (rw [hy400]; exact H) | exact H
   have Ny400 := Aside0.mk hy400
   clear hy400
   have H' := Aside0.mk H
   clear H
   go_enter Try.func26, Try.ntmps26
   go_wp2_with (first | (go_at_call 21; (with_reducible refine (fulcrumref21_Check.calls k _ _ l0 _ _ l1 t395 _ ?side1 ?side2 ?side3 ?side4 A4.out).mono ?_); (case side1 => repeat (first | exact HR0.out | (with_reducible refine Kd.C_alloc ?_ _) | (with_reducible refine Kd.C_drewN ?_ _) | (with_reducible refine Kd.C_drew ?_))); (case side2 => exact HC0.out); (case side3 => repeat (first | exact HR1.out | (with_reducible refine Kd.C_alloc ?_ _) | (with_reducible refine Kd.C_drewN ?_ _) | (with_reducible refine Kd.C_drew ?_))); (case side4 => exact HC1.out); rintro e w9 ⟨rfl, hb⟩; have n0_ := Aside0.mk (below_step (bel_any HB.out) hb); clear HB; have HB := n0_; clear n0_; (try clear hb); (try clear hb2); (try clear hk); (try clear hi)) | (go_at_call 50; (with_reducible refine (fulcrumref21_place.calls k _ _ l1 a2 t396 _ ?side1 ?side2 A6.out).mono ?_); (case side1 => repeat (first | exact (Kd.C_below HR1.out HB.out) | (with_reducible refine Kd.C_alloc ?_ _) | (with_reducible refine Kd.C_drewN ?_ _) | (with_reducible refine Kd.C_drew ?_))); (case side2 => exact HC1.out); rintro e w' ⟨rfl, ⟨nd, rfl⟩⟩; (try first | exact ⟨rfl, _, World.drewN_drewN _ _ _⟩ | exact ⟨rfl, _, Eq.trans (World.drewN_drewN _ _ _) (congrArg (World.drewN _) (Nat.add_assoc _ _ _))⟩)) | ((with_reducible refine gate_dst (N := 27) rfl ?_); refine Kd.R_lit (Kd.int .i64) _ 3 ?hg (N := 27) ?hd (xs := ([a2] : List Int)) (inner := [.int .i64 a2]) (ok := fun _ => True) (okp := fun _ => True) ?hr ?hp (fun _ hk => hk) trivial (Below.refl _ _) (Nat.le_refl _) (by simp) ?_; (case hd => rfl); (case hg => rfl); (case hr => first | (go_simp; done) | (go_simp; rfl)); (case hp => exact (Reps.one (show Kd.M (Kd.int .i64) _ _ _ a2 [.int .i64 a2] from rfl) (Reps.none _ _))); intro v398 w10 ho11 hb hg_ hnew_; clear hg_ hnew_; (first | rw [← Ny397.out] at ho11 | (simp only [Int.reduceToNat] at ho11; rw [← Ny397.out] at ho11)); have n0_ := Aside0.mk (Kd.R_lower ho11 (below_size (bel_any HB.out))); have n1_ := Aside0.mk (below_step (bel_any HB.out) hb); clear HB; have HO399 := n0_; have HB := n1_; clear n0_ n1_; clear hb ho11) | ((with_reducible refine gate_dst (N := 28) rfl ?_); refine Kd.R_lit (Kd.int .i64) _ 3 ?hg (N := 28) ?hd (xs := ([] : List Int)) (inner := []) (ok := fun _ => True) (okp := fun _ => True) ?hr ?hp (fun _ hk => hk) trivial (Below.refl _ _) (Nat.le_refl _) (by simp) ?_; (case hd => rfl); (case hg => rfl); (case hr => first | (go_simp; done) | (go_simp; rfl)); (case hp => exact (Reps.none _ _)); intro v401 w12 ho13 hb hg_ hnew_; clear hg_ hnew_; (first | rw [← Ny400.out] at ho13 | (simp only [Int.reduceToNat] at ho13; rw [← Ny400.out] at ho13)); have n0_ := Aside0.mk (Kd.R_elder' (R_any HO399.out) (Kd.R_base ho13) hb); have n1_ := Aside0.mk (Kd.R_lower (Kd.R_new' ho13 (Kd.R_lt (R_any HO399.out))) (below_size (bel_any HB.out))); have n2_ := Aside0.mk (below_step (bel_any HB.out) hb); clear HO399; clear HB; have HO399 := n0_; have HO402 := n1_; have HB := n2_; clear n0_ n1_ n2_; clear hb ho13))
   repeat (go_quiet (first | (go_at_call 21; (with_reducible refine (fulcrumref21_Check.calls k _ _ l0 _ _ l1 t395 _ ?side1 ?side2 ?side3 ?side4 A4.out).mono ?_); (case side1 => repeat (first | exact HR0.out | (with_reducible refine Kd.C_alloc ?_ _) | (with_reducible refine Kd.C_drewN ?_ _) | (with_reducible refine Kd.C_drew ?_))); (case side2 => exact HC0.out); (case side3 => repeat (first | exact HR1.out | (with_reducible refine Kd.C_alloc ?_ _) | (with_reducible refine Kd.C_drewN ?_ _) | (with_reducible refine Kd.C_drew ?_))); (case side4 => exact HC1.out); rintro e w9 ⟨rfl, hb⟩; have n0_ := Aside0.mk (below_step (bel_any HB.out) hb); clear HB; have HB := n0_; clear n0_; (try clear hb); (try clear hb2); (try clear hk); (try clear hi)) | (go_at_call 50; (with_reducible refine (fulcrumref21_place.calls k _ _ l1 a2 t396 _ ?side1 ?side2 A6.out).mono ?_); (case side1 => repeat (first | exact (Kd.C_below HR1.out HB.out) | (with_reducible refine Kd.C_alloc ?_ _) | (with_reducible refine Kd.C_drewN ?_ _) | (with_reducible refine Kd.C_drew ?_))); (case side2 => exact HC1.out); rintro e w' ⟨rfl, ⟨nd, rfl⟩⟩; (try first | exact ⟨rfl, _, World.drewN_drewN _ _ _⟩ | exact ⟨rfl, _, Eq.trans (World.drewN_drewN _ _ _) (congrArg (World.drewN _) (Nat.add_assoc _ _ _))⟩)) | ((with_reducible refine gate_dst (N := 27) rfl ?_); refine Kd.R_lit (Kd.int .i64) _ 3 ?hg (N := 27) ?hd (xs := ([a2] : List Int)) (inner := [.int .i64 a2]) (ok := fun _ => True) (okp := fun _ => True) ?hr ?hp (fun _ hk => hk) trivial (Below.refl _ _) (Nat.le_refl _) (by simp) ?_; (case hd => rfl); (case hg => rfl); (case hr => first | (go_simp; done) | (go_simp; rfl)); (case hp => exact (Reps.one (show Kd.M (Kd.int .i64) _ _ _ a2 [.int .i64 a2] from rfl) (Reps.none _ _))); intro v398 w10 ho11 hb hg_ hnew_; clear hg_ hnew_; (first | rw [← Ny397.out] at ho11 | (simp only [Int.reduceToNat] at ho11; rw [← Ny397.out] at ho11)); have n0_ := Aside0.mk (Kd.R_lower ho11 (below_size (bel_any HB.out))); have n1_ := Aside0.mk (below_step (bel_any HB.out) hb); clear HB; have HO399 := n0_; have HB := n1_; clear n0_ n1_; clear hb ho11) | ((with_reducible refine gate_dst (N := 28) rfl ?_); refine Kd.R_lit (Kd.int .i64) _ 3 ?hg (N := 28) ?hd (xs := ([] : List Int)) (inner := []) (ok := fun _ => True) (okp := fun _ => True) ?hr ?hp (fun _ hk => hk) trivial (Below.refl _ _) (Nat.le_refl _) (by simp) ?_; (case hd => rfl); (case hg => rfl); (case hr => first | (go_simp; done) | (go_simp; rfl)); (case hp => exact (Reps.none _ _)); intro v401 w12 ho13 hb hg_ hnew_; clear hg_ hnew_; (first | rw [← Ny400.out] at ho13 | (simp only [Int.reduceToNat] at ho13; rw [← Ny400.out] at ho13)); have n0_ := Aside0.mk (Kd.R_elder' (R_any HO399.out) (Kd.R_base ho13) hb); have n1_ := Aside0.mk (Kd.R_lower (Kd.R_new' ho13 (Kd.R_lt (R_any HO399.out))) (below_size (bel_any HB.out))); have n2_ := Aside0.mk (below_step (bel_any HB.out) hb); clear HO399; clear HB; have HO399 := n0_; have HO402 := n1_; have HB := n2_; clear n0_ n1_ n2_; clear hb ho13)); try go_wp2_with (first | (go_at_call 21; (with_reducible refine (fulcrumref21_Check.calls k _ _ l0 _ _ l1 t395 _ ?side1 ?side2 ?side3 ?side4 A4.out).mono ?_); (case side1 => repeat (first | exact HR0.out | (with_reducible refine Kd.C_alloc ?_ _) | (with_reducible refine Kd.C_drewN ?_ _) | (with_reducible refine Kd.C_drew ?_))); (case side2 => exact HC0.out); (case side3 => repeat (first | exact HR1.out | (with_reducible refine Kd.C_alloc ?_ _) | (with_reducible refine Kd.C_drewN ?_ _) | (with_reducible refine Kd.C_drew ?_))); (case side4 => exact HC1.out); rintro e w9 ⟨rfl, hb⟩; have n0_ := Aside0.mk (below_step (bel_any HB.out) hb); clear HB; have HB := n0_; clear n0_; (try clear hb); (try clear hb2); (try clear hk); (try clear hi)) | (go_at_call 50; (with_reducible refine (fulcrumref21_place.calls k _ _ l1 a2 t396 _ ?side1 ?side2 A6.out).mono ?_); (case side1 => repeat (first | exact (Kd.C_below HR1.out HB.out) | (with_reducible refine Kd.C_alloc ?_ _) | (with_reducible refine Kd.C_drewN ?_ _) | (with_reducible refine Kd.C_drew ?_))); (case side2 => exact HC1.out); rintro e w' ⟨rfl, ⟨nd, rfl⟩⟩; (try first | exact ⟨rfl, _, World.drewN_drewN _ _ _⟩ | exact ⟨rfl, _, Eq.trans (World.drewN_drewN _ _ _) (congrArg (World.drewN _) (Nat.add_assoc _ _ _))⟩)) | ((with_reducible refine gate_dst (N := 27) rfl ?_); refine Kd.R_lit (Kd.int .i64) _ 3 ?hg (N := 27) ?hd (xs := ([a2] : List Int)) (inner := [.int .i64 a2]) (ok := fun _ => True) (okp := fun _ => True) ?hr ?hp (fun _ hk => hk) trivial (Below.refl _ _) (Nat.le_refl _) (by simp) ?_; (case hd => rfl); (case hg => rfl); (case hr => first | (go_simp; done) | (go_simp; rfl)); (case hp => exact (Reps.one (show Kd.M (Kd.int .i64) _ _ _ a2 [.int .i64 a2] from rfl) (Reps.none _ _))); intro v398 w10 ho11 hb hg_ hnew_; clear hg_ hnew_; (first | rw [← Ny397.out] at ho11 | (simp only [Int.reduceToNat] at ho11; rw [← Ny397.out] at ho11)); have n0_ := Aside0.mk (Kd.R_lower ho11 (below_size (bel_any HB.out))); have n1_ := Aside0.mk (below_step (bel_any HB.out) hb); clear HB; have HO399 := n0_; have HB := n1_; clear n0_ n1_; clear hb ho11) | ((with_reducible refine gate_dst (N := 28) rfl ?_); refine Kd.R_lit (Kd.int .i64) _ 3 ?hg (N := 28) ?hd (xs := ([] : List Int)) (inner := []) (ok := fun _ => True) (okp := fun _ => True) ?hr ?hp (fun _ hk => hk) trivial (Below.refl _ _) (Nat.le_refl _) (by simp) ?_; (case hd => rfl); (case hg => rfl); (case hr => first | (go_simp; done) | (go_simp; rfl)); (case hp => exact (Reps.none _ _)); intro v401 w12 ho13 hb hg_ hnew_; clear hg_ hnew_; (first | rw [← Ny400.out] at ho13 | (simp only [Int.reduceToNat] at ho13; rw [← Ny400.out] at ho13)); have n0_ := Aside0.mk (Kd.R_elder' (R_any HO399.out) (Kd.R_base ho13) hb); have n1_ := Aside0.mk (Kd.R_lower (Kd.R_new' ho13 (Kd.R_lt (R_any HO399.out))) (below_size (bel_any HB.out))); have n2_ := Aside0.mk (below_step (bel_any HB.out) hb); clear HO399; clear HB; have HO399 := n0_; have HO402 := n1_; have HB := n2_; clear n0_ n1_ n2_; clear hb ho13)))
   go_loopg [9, 10, 11] k (fun kq v9 v10 v11 w' => ∃ (x9_1 : List Int) (x10_1 : List Int) (x11_1 : Int), v11 = .int .i64 x11_1 ∧ Aside0 (fulcrumref21_Final.l0 kq l0 l1 x9_1 x10_1 x11_1 = some (r1, r2)) ∧ Aside0 (kq ≤ k) ∧ Aside0 (Kd.R (Kd.int .i64) 3 w' w.heap.size (fun k_ => some k_ ≠ (v10 : Value).ownBlock) v9 x9_1) ∧ Aside0 (Kd.R (Kd.int .i64) 3 w' w.heap.size (fun k_ => some k_ ≠ (v9 : Value).ownBlock) v10 x10_1) ∧ Aside0 (Below w.heap.size w w'))
   case atStart => exact ⟨(y397), (y400), (wrap64 ((l1.length : Int) - 1)), (by first | rfl | (simp; done) | (simp [*]; done)), H', ⟨Nat.le_refl _⟩, ⟨by (with_reducible repeat (first | apply Kd.R_alloc | apply Kd.R_drewN | apply Kd.R_drew)); exact Kd.R_mono HO399.out (fun _ hk => hk.2)⟩, ⟨by (with_reducible repeat (first | apply Kd.R_alloc | apply Kd.R_drewN | apply Kd.R_drew)); exact Kd.R_mono HO402.out (fun _ hk => hk.2)⟩, ⟨bel_any HB.out⟩⟩
   case round =>
    clear H'
    try clear c1
    try clear c2
    try clear p2
    try clear c5
    try clear c5b0
    try clear c5b1
    try clear p6
    try clear c7
    try clear c7b0
    obtain ⟨x9_1, x10_1, x11_1, rfl, HA, HK1, HO_9, HO_10, HB⟩ := hrel
    cases gk with
    | zero => exact absurd HA.out (by simp [fulcrumref21_Final.l0])
    | succ k1 =>
     have H := HA.out
     clear HA
     simp only [fulcrumref21_Final.l0] at H
     by_cases c14 : x11_1 ≥ 0
     ·rw [if_pos c14] at H
      have c14b0 : decide (0 ≤ x11_1) = true := decide_eq_true c14
      clear c14
      by_cases c15 : 0 ≤ x11_1
      ·rw [if_pos c15] at H
       have c15b0 : decide (0 ≤ x11_1) = true := decide_eq_true c15
       clear c15
       by_cases c16 : x11_1 < (l1.length : Int)
       ·rw [if_pos c16] at H
        have c16b0 : decide (x11_1 < (l1.length : Int)) = true := decide_eq_true c16
        clear c16
        replace H := Option.bind_eq_some_iff.mp H
        obtain ⟨t404, A170, H⟩ := H
        replace H : (if t404 = true then (if ((rd_T49 l1 x11_1).f2) < 0 then (if x10_1.length < 17592186044416 then (fulcrumref21_Final.l0 k1 l0 l1 x9_1 (x10_1 ++ [(rd_T49 l1 x11_1).f0]) (wrap64 (x11_1 - 1))) else (none)) else (if 0 ≤ ((rd_T49 l1 x11_1).f2) then (if ((rd_T49 l1 x11_1).f2) < (l0.length : Int) then (fulcrumref21_Final.l1 k1 l0 l1 x9_1 x10_1 x11_1 (rd_L1 l0 ((rd_T49 l1 x11_1).f2)) 0) else (none)) else (none))) else (fulcrumref21_Final.l0 k1 l0 l1 x9_1 x10_1 (wrap64 (x11_1 - 1)))) = some (r1, r2) := H
        have A17 := Aside0.mk A170
        clear A170
        by_cases c18 : t404 = true
        ·subst c18
         have H1 : (if ((rd_T49 l1 x11_1).f2) < 0 then (if x10_1.length < 17592186044416 then (fulcrumref21_Final.l0 k1 l0 l1 x9_1 (x10_1 ++ [(rd_T49 l1 x11_1).f0]) (wrap64 (x11_1 - 1))) else (none)) else (if 0 ≤ ((rd_T49 l1 x11_1).f2) then (if ((rd_T49 l1 x11_1).f2) < (l0.length : Int) then (fulcrumref21_Final.l1 k1 l0 l1 x9_1 x10_1 x11_1 (rd_L1 l0 ((rd_T49 l1 x11_1).f2)) 0) else (none)) else (none))) = some (r1, r2) := by rw [if_pos rfl] at H; exact H
         clear H
         have H := H1
         clear H1
         by_cases c19 : ((rd_T49 l1 x11_1).f2) < 0
         ·rw [if_pos c19] at H
          have c19b0 : decide (((rd_T49 l1 x11_1).f2) < 0) = true := decide_eq_true c19
          clear c19
          by_cases c20 : x10_1.length < 17592186044416
          ·rw [if_pos c20] at H
           have LMc20 := Aside0.mk c20
           clear c20
           obtain ⟨y407, hy407⟩ : ∃ y_ : List Int, y_ = (x10_1 ++ [(rd_T49 l1 x11_1).f0]) := ⟨_, rfl⟩
           replace H : (fulcrumref21_Final.l0 k1 l0 l1 x9_1 y407 (wrap64 (x11_1 - 1))) = some (r1, r2) := by first | (rw [hy407]; with_reducible exact H) | (have H2_ := (Option.bind_some _ _).symm.trans H; rw [hy407]; with_reducible exact H2_) | (have H2_ := (Option.bind_some _ _).symm.trans H; with_reducible exact H2_) | with_reducible exact H | (rw [hy407]; exact H) | exact H
           have Ny407 := Aside0.mk hy407
           clear hy407
           have H' := Aside0.mk H
           clear H
           have p403 : 0 ≤ (x11_1 : Int) := odt
           have q403 : x11_1 < (l1.length : Int) := odt
           obtain ⟨ad403, e403, hx403_0, hx403_1, hx403_2⟩ := at_T49 HR1.out x11_1 p403 q403
           cases e403
           replace hx403_0 := (HB.out.cell (World.block_lt_of_cell? w _ hx403_0)).trans hx403_0
           replace hx403_1 := (HB.out.cell (World.block_lt_of_cell? w _ hx403_1)).trans hx403_1
           replace hx403_2 := (HB.out.cell (World.block_lt_of_cell? w _ hx403_2)).trans hx403_2
           replace p403 := eq_true p403
           replace q403 := eq_true q403
           obtain ⟨Ao21, co21, eo21⟩ := Kd.R_slice HO_9.out
           subst eo21
           go_wp2_with (first | (go_at_call 56; (with_reducible refine (fulcrumref21_has.calls k1 _ _ x9_1 ((rd_T49 l1 x11_1).f0) true _ ?side1 ?side2 A17.out).mono ?_); (case side1 => repeat (first | exact (Kd.R_reads' HO_9.out).2.2 | (with_reducible refine Kd.C_alloc ?_ _) | (with_reducible refine Kd.C_drewN ?_ _) | (with_reducible refine Kd.C_drew ?_))); (case side2 => exact (Kd.R_reads' HO_9.out).2.1); rintro e w' ⟨rfl, ⟨nd, rfl⟩⟩; (try first | exact ⟨rfl, _, World.drewN_drewN _ _ _⟩ | exact ⟨rfl, _, Eq.trans (World.drewN_drewN _ _ _) (congrArg (World.drewN _) (Nat.add_assoc _ _ _))⟩); have p405 : 0 ≤ (x11_1 : Int) := odt; have q405 : x11_1 < (l1.length : Int) := odt; obtain ⟨ad405, e405, hx405_0, hx405_1, hx405_2⟩ := at_T49 HR1.out x11_1 p405 q405; obtain rfl : ad403 = ad405 := (by injection e405); replace hx405_0 := (HB.out.cell (World.block_lt_of_cell? w _ hx405_0)).trans hx405_0; replace hx405_1 := (HB.out.cell (World.block_lt_of_cell? w _ hx405_1)).trans hx405_1; replace hx405_2 := (HB.out.cell (World.block_lt_of_cell? w _ hx405_2)).trans hx405_2; replace p405 := eq_true p405; replace q405 := eq_true q405; have p406 : 0 ≤ (x11_1 : Int) := odt; have q406 : x11_1 < (l1.length : Int) := odt; obtain ⟨ad406, e406, hx406_0, hx406_1, hx406_2⟩ := at_T49 HR1.out x11_1 p406 q406; obtain rfl : ad403 = ad406 := (by injection e406); replace hx406_0 := (HB.out.cell (World.block_lt_of_cell? w _ hx406_0)).trans hx406_0; replace hx406_1 := (HB.out.cell (World.block_lt_of_cell? w _ hx406_1)).trans hx406_1; replace hx406_2 := (HB.out.cell (World.block_lt_of_cell? w _ hx406_2)).trans hx406_2; replace p406 := eq_true p406; replace q406 := eq_true q406) | ((with_reducible refine gate_builtin (b := .append) (xs := #[.tmp 50, .tmp 56]) rfl ?_); at_builtin; refine Kd.R_append (Kd.int .i64) (w0 := w) w.heap.size rfl (.tmp 50) (.tmp 56) 27 3 (.int .i64 0) 8 rfl Try.underlying27 info3 rfl (by decide) (by omega) u10 x10_1 ((rd_T49 l1 x11_1).f0) [.int .i64 ((rd_T49 l1 x11_1).f0)] (fun k_ => some k_ ≠ (.slice Ao21 x9_1.length co21 : Value).ownBlock) (fun _ => False) rfl rfl ?aP (fun _ hk => hk.elim) ?aF ?aO ?aB ?aS ?aL ?_; (case aP => exact rfl); (case aB => exact (bel_any HB.out)); (case aF => exact (fun k_ hk => Kd.fresh' (Kd.R_lt (R_any HO_9.out)) k_ hk)); (case aO => exact (R_any HO_10.out)); (case aS => exact (below_size (bel_any HB.out))); (case aL => have := LMc20.out; omega); intro v408 w22 ho hb hg hat; rw [← Ny407.out] at ho; have n0_ := Aside0.mk (Kd.R_after (ok := (fun _ => True)) (by (with_reducible repeat (first | apply Kd.R_alloc | apply Kd.R_drewN | apply Kd.R_drew)); exact Kd.R_mono HO_9.out (fun _ hk => ⟨trivial, hk⟩)) hg hat); have n1_ := Aside0.mk (hb); have n2_ := Aside0.mk (ho); clear HO_9; clear HB; clear HO_10; have HO_9 := n0_; have HB := n1_; have HO409 := n2_; clear n0_ n1_ n2_; clear ho hb hg hat))
           repeat (go_quiet (first | (go_at_call 56; (with_reducible refine (fulcrumref21_has.calls k1 _ _ x9_1 ((rd_T49 l1 x11_1).f0) true _ ?side1 ?side2 A17.out).mono ?_); (case side1 => repeat (first | exact (Kd.R_reads' HO_9.out).2.2 | (with_reducible refine Kd.C_alloc ?_ _) | (with_reducible refine Kd.C_drewN ?_ _) | (with_reducible refine Kd.C_drew ?_))); (case side2 => exact (Kd.R_reads' HO_9.out).2.1); rintro e w' ⟨rfl, ⟨nd, rfl⟩⟩; (try first | exact ⟨rfl, _, World.drewN_drewN _ _ _⟩ | exact ⟨rfl, _, Eq.trans (World.drewN_drewN _ _ _) (congrArg (World.drewN _) (Nat.add_assoc _ _ _))⟩); have p405 : 0 ≤ (x11_1 : Int) := odt; have q405 : x11_1 < (l1.length : Int) := odt; obtain ⟨ad405, e405, hx405_0, hx405_1, hx405_2⟩ := at_T49 HR1.out x11_1 p405 q405; obtain rfl : ad403 = ad405 := (by injection e405); replace hx405_0 := (HB.out.cell (World.block_lt_of_cell? w _ hx405_0)).trans hx405_0; replace hx405_1 := (HB.out.cell (World.block_lt_of_cell? w _ hx405_1)).trans hx405_1; replace hx405_2 := (HB.out.cell (World.block_lt_of_cell? w _ hx405_2)).trans hx405_2; replace p405 := eq_true p405; replace q405 := eq_true q405; have p406 : 0 ≤ (x11_1 : Int) := odt; have q406 : x11_1 < (l1.length : Int) := odt; obtain ⟨ad406, e406, hx406_0, hx406_1, hx406_2⟩ := at_T49 HR1.out x11_1 p406 q406; obtain rfl : ad403 = ad406 := (by injection e406); replace hx406_0 := (HB.out.cell (World.block_lt_of_cell? w _ hx406_0)).trans hx406_0; replace hx406_1 := (HB.out.cell (World.block_lt_of_cell? w _ hx406_1)).trans hx406_1; replace hx406_2 := (HB.out.cell (World.block_lt_of_cell? w _ hx406_2)).trans hx406_2; replace p406 := eq_true p406; replace q406 := eq_true q406) | ((with_reducible refine gate_builtin (b := .append) (xs := #[.tmp 50, .tmp 56]) rfl ?_); at_builtin; refine Kd.R_append (Kd.int .i64) (w0 := w) w.heap.size rfl (.tmp 50) (.tmp 56) 27 3 (.int .i64 0) 8 rfl Try.underlying27 info3 rfl (by decide) (by omega) u10 x10_1 ((rd_T49 l1 x11_1).f0) [.int .i64 ((rd_T49 l1 x11_1).f0)] (fun k_ => some k_ ≠ (.slice Ao21 x9_1.length co21 : Value).ownBlock) (fun _ => False) rfl rfl ?aP (fun _ hk => hk.elim) ?aF ?aO ?aB ?aS ?aL ?_; (case aP => exact rfl); (case aB => exact (bel_any HB.out)); (case aF => exact (fun k_ hk => Kd.fresh' (Kd.R_lt (R_any HO_9.out)) k_ hk)); (case aO => exact (R_any HO_10.out)); (case aS => exact (below_size (bel_any HB.out))); (case aL => have := LMc20.out; omega); intro v408 w22 ho hb hg hat; rw [← Ny407.out] at ho; have n0_ := Aside0.mk (Kd.R_after (ok := (fun _ => True)) (by (with_reducible repeat (first | apply Kd.R_alloc | apply Kd.R_drewN | apply Kd.R_drew)); exact Kd.R_mono HO_9.out (fun _ hk => ⟨trivial, hk⟩)) hg hat); have n1_ := Aside0.mk (hb); have n2_ := Aside0.mk (ho); clear HO_9; clear HB; clear HO_10; have HO_9 := n0_; have HB := n1_; have HO409 := n2_; clear n0_ n1_ n2_; clear ho hb hg hat)); try go_wp2_with (first | (go_at_call 56; (with_reducible refine (fulcrumref21_has.calls k1 _ _ x9_1 ((rd_T49 l1 x11_1).f0) true _ ?side1 ?side2 A17.out).mono ?_); (case side1 => repeat (first | exact (Kd.R_reads' HO_9.out).2.2 | (with_reducible refine Kd.C_alloc ?_ _) | (with_reducible refine Kd.C_drewN ?_ _) | (with_reducible refine Kd.C_drew ?_))); (case side2 => exact (Kd.R_reads' HO_9.out).2.1); rintro e w' ⟨rfl, ⟨nd, rfl⟩⟩; (try first | exact ⟨rfl, _, World.drewN_drewN _ _ _⟩ | exact ⟨rfl, _, Eq.trans (World.drewN_drewN _ _ _) (congrArg (World.drewN _) (Nat.add_assoc _ _ _))⟩); have p405 : 0 ≤ (x11_1 : Int) := odt; have q405 : x11_1 < (l1.length : Int) := odt; obtain ⟨ad405, e405, hx405_0, hx405_1, hx405_2⟩ := at_T49 HR1.out x11_1 p405 q405; obtain rfl : ad403 = ad405 := (by injection e405); replace hx405_0 := (HB.out.cell (World.block_lt_of_cell? w _ hx405_0)).trans hx405_0; replace hx405_1 := (HB.out.cell (World.block_lt_of_cell? w _ hx405_1)).trans hx405_1; replace hx405_2 := (HB.out.cell (World.block_lt_of_cell? w _ hx405_2)).trans hx405_2; replace p405 := eq_true p405; replace q405 := eq_true q405; have p406 : 0 ≤ (x11_1 : Int) := odt; have q406 : x11_1 < (l1.length : Int) := odt; obtain ⟨ad406, e406, hx406_0, hx406_1, hx406_2⟩ := at_T49 HR1.out x11_1 p406 q406; obtain rfl : ad403 = ad406 := (by injection e406); replace hx406_0 := (HB.out.cell (World.block_lt_of_cell? w _ hx406_0)).trans hx406_0; replace hx406_1 := (HB.out.cell (World.block_lt_of_cell? w _ hx406_1)).trans hx406_1; replace hx406_2 := (HB.out.cell (World.block_lt_of_cell? w _ hx406_2)).trans hx406_2; replace p406 := eq_true p406; replace q406 := eq_true q406) | ((with_reducible refine gate_builtin (b := .append) (xs := #[.tmp 50, .tmp 56]) rfl ?_); at_builtin; refine Kd.R_append (Kd.int .i64) (w0 := w) w.heap.size rfl (.tmp 50) (.tmp 56) 27 3 (.int .i64 0) 8 rfl Try.underlying27 info3 rfl (by decide) (by omega) u10 x10_1 ((rd_T49 l1 x11_1).f0) [.int .i64 ((rd_T49 l1 x11_1).f0)] (fun k_ => some k_ ≠ (.slice Ao21 x9_1.length co21 : Value).ownBlock) (fun _ => False) rfl rfl ?aP (fun _ hk => hk.elim) ?aF ?aO ?aB ?aS ?aL ?_; (case aP => exact rfl); (case aB => exact (bel_any HB.out)); (case aF => exact (fun k_ hk => Kd.fresh' (Kd.R_lt (R_any HO_9.out)) k_ hk)); (case aO => exact (R_any HO_10.out)); (case aS => exact (below_size (bel_any HB.out))); (case aL => have := LMc20.out; omega); intro v408 w22 ho hb hg hat; rw [← Ny407.out] at ho; have n0_ := Aside0.mk (Kd.R_after (ok := (fun _ => True)) (by (with_reducible repeat (first | apply Kd.R_alloc | apply Kd.R_drewN | apply Kd.R_drew)); exact Kd.R_mono HO_9.out (fun _ hk => ⟨trivial, hk⟩)) hg hat); have n1_ := Aside0.mk (hb); have n2_ := Aside0.mk (ho); clear HO_9; clear HB; clear HO_10; have HO_9 := n0_; have HB := n1_; have HO409 := n2_; clear n0_ n1_ n2_; clear ho hb hg hat)))
           go_roundg k1
           case measure => have := HK1.out; omega
           case rel => exact ⟨(x9_1), (y407), (wrap64 (x11_1 - 1)), (by first | rfl | (simp; done) | (simp [*]; done)), H', ⟨by have := HK1.out; omega⟩, ⟨by (with_reducible repeat (first | apply Kd.R_alloc | apply Kd.R_drewN | apply Kd.R_drew)); exact Kd.R_mono HO_9.out (fun _ hk => hk.2)⟩, ⟨R_any HO409.out⟩, ⟨bel_any HB.out⟩⟩
          ·rw [if_neg c20] at H
           exact absurd H (by simp)
         ·rw [if_neg c19] at H
          have c19b0 : decide (((rd_T49 l1 x11_1).f2) < 0) = false := decide_eq_false c19
          clear c19
          by_cases c23 : 0 ≤ ((rd_T49 l1 x11_1).f2)
          ·rw [if_pos c23] at H
           have c23b0 : decide (0 ≤ ((rd_T49 l1 x11_1).f2)) = true := decide_eq_true c23
           clear c23
           by_cases c24 : ((rd_T49 l1 x11_1).f2) < (l0.length : Int)
           ·rw [if_pos c24] at H
            have c24b0 : decide (((rd_T49 l1 x11_1).f2) < (l0.length : Int)) = true := decide_eq_true c24
            clear c24
            have H' := Aside0.mk H
            clear H
            have p403 : 0 ≤ (x11_1 : Int) := odt
            have q403 : x11_1 < (l1.length : Int) := odt
            obtain ⟨ad403, e403, hx403_0, hx403_1, hx403_2⟩ := at_T49 HR1.out x11_1 p403 q403
            cases e403
            replace hx403_0 := (HB.out.cell (World.block_lt_of_cell? w _ hx403_0)).trans hx403_0
            replace hx403_1 := (HB.out.cell (World.block_lt_of_cell? w _ hx403_1)).trans hx403_1
            replace hx403_2 := (HB.out.cell (World.block_lt_of_cell? w _ hx403_2)).trans hx403_2
            replace p403 := eq_true p403
            replace q403 := eq_true q403
            obtain ⟨Ao25, co25, eo25⟩ := Kd.R_slice HO_9.out
            subst eo25
            go_wp2_with (first | (go_at_call 56; (with_reducible refine (fulcrumref21_has.calls k1 _ _ x9_1 ((rd_T49 l1 x11_1).f0) true _ ?side1 ?side2 A17.out).mono ?_); (case side1 => repeat (first | exact (Kd.R_reads' HO_9.out).2.2 | (with_reducible refine Kd.C_alloc ?_ _) | (with_reducible refine Kd.C_drewN ?_ _) | (with_reducible refine Kd.C_drew ?_))); (case side2 => exact (Kd.R_reads' HO_9.out).2.1); rintro e w' ⟨rfl, ⟨nd, rfl⟩⟩; (try first | exact ⟨rfl, _, World.drewN_drewN _ _ _⟩ | exact ⟨rfl, _, Eq.trans (World.drewN_drewN _ _ _) (congrArg (World.drewN _) (Nat.add_assoc _ _ _))⟩); have p405 : 0 ≤ (x11_1 : Int) := odt; have q405 : x11_1 < (l1.length : Int) := odt; obtain ⟨ad405, e405, hx405_0, hx405_1, hx405_2⟩ := at_T49 HR1.out x11_1 p405 q405; obtain rfl : ad403 = ad405 := (by injection e405); replace hx405_0 := (HB.out.cell (World.block_lt_of_cell? w _ hx405_0)).trans hx405_0; replace hx405_1 := (HB.out.cell (World.block_lt_of_cell? w _ hx405_1)).trans hx405_1; replace hx405_2 := (HB.out.cell (World.block_lt_of_cell? w _ hx405_2)).trans hx405_2; replace p405 := eq_true p405; replace q405 := eq_true q405; have p410 : 0 ≤ (x11_1 : Int) := odt; have q410 : x11_1 < (l1.length : Int) := odt; obtain ⟨ad410, e410, hx410_0, hx410_1, hx410_2⟩ := at_T49 HR1.out x11_1 p410 q410; obtain rfl : ad403 = ad410 := (by injection e410); replace hx410_0 := (HB.out.cell (World.block_lt_of_cell? w _ hx410_0)).trans hx410_0; replace hx410_1 := (HB.out.cell (World.block_lt_of_cell? w _ hx410_1)).trans hx410_1; replace hx410_2 := (HB.out.cell (World.block_lt_of_cell? w _ hx410_2)).trans hx410_2; replace p410 := eq_true p410; replace q410 := eq_true q410; have p411 : 0 ≤ (((rd_T49 l1 x11_1).f2) : Int) := odt; have q411 : ((rd_T49 l1 x11_1).f2) < (l0.length : Int) := odt; obtain ⟨ad411, A411_0, c411_0, e411, hx411_0, hl411_0, hi411_0⟩ := at_L1 HR0.out ((rd_T49 l1 x11_1).f2) p411 q411; cases e411; replace hx411_0 := (HB.out.cell (World.block_lt_of_cell? w _ hx411_0)).trans hx411_0; have HR411_0 := Aside0.mk hi411_0; have HC411_0 := Aside0.mk hl411_0; clear hi411_0 hl411_0; replace p411 := eq_true p411; replace q411 := eq_true q411))
            repeat (go_quiet (first | (go_at_call 56; (with_reducible refine (fulcrumref21_has.calls k1 _ _ x9_1 ((rd_T49 l1 x11_1).f0) true _ ?side1 ?side2 A17.out).mono ?_); (case side1 => repeat (first | exact (Kd.R_reads' HO_9.out).2.2 | (with_reducible refine Kd.C_alloc ?_ _) | (with_reducible refine Kd.C_drewN ?_ _) | (with_reducible refine Kd.C_drew ?_))); (case side2 => exact (Kd.R_reads' HO_9.out).2.1); rintro e w' ⟨rfl, ⟨nd, rfl⟩⟩; (try first | exact ⟨rfl, _, World.drewN_drewN _ _ _⟩ | exact ⟨rfl, _, Eq.trans (World.drewN_drewN _ _ _) (congrArg (World.drewN _) (Nat.add_assoc _ _ _))⟩); have p405 : 0 ≤ (x11_1 : Int) := odt; have q405 : x11_1 < (l1.length : Int) := odt; obtain ⟨ad405, e405, hx405_0, hx405_1, hx405_2⟩ := at_T49 HR1.out x11_1 p405 q405; obtain rfl : ad403 = ad405 := (by injection e405); replace hx405_0 := (HB.out.cell (World.block_lt_of_cell? w _ hx405_0)).trans hx405_0; replace hx405_1 := (HB.out.cell (World.block_lt_of_cell? w _ hx405_1)).trans hx405_1; replace hx405_2 := (HB.out.cell (World.block_lt_of_cell? w _ hx405_2)).trans hx405_2; replace p405 := eq_true p405; replace q405 := eq_true q405; have p410 : 0 ≤ (x11_1 : Int) := odt; have q410 : x11_1 < (l1.length : Int) := odt; obtain ⟨ad410, e410, hx410_0, hx410_1, hx410_2⟩ := at_T49 HR1.out x11_1 p410 q410; obtain rfl : ad403 = ad410 := (by injection e410); replace hx410_0 := (HB.out.cell (World.block_lt_of_cell? w _ hx410_0)).trans hx410_0; replace hx410_1 := (HB.out.cell (World.block_lt_of_cell? w _ hx410_1)).trans hx410_1; replace hx410_2 := (HB.out.cell (World.block_lt_of_cell? w _ hx410_2)).trans hx410_2; replace p410 := eq_true p410; replace q410 := eq_true q410; have p411 : 0 ≤ (((rd_T49 l1 x11_1).f2) : Int) := odt; have q411 : ((rd_T49 l1 x11_1).f2) < (l0.length : Int) := odt; obtain ⟨ad411, A411_0, c411_0, e411, hx411_0, hl411_0, hi411_0⟩ := at_L1 HR0.out ((rd_T49 l1 x11_1).f2) p411 q411; cases e411; replace hx411_0 := (HB.out.cell (World.block_lt_of_cell? w _ hx411_0)).trans hx411_0; have HR411_0 := Aside0.mk hi411_0; have HC411_0 := Aside0.mk hl411_0; clear hi411_0 hl411_0; replace p411 := eq_true p411; replace q411 := eq_true q411)); try go_wp2_with (first | (go_at_call 56; (with_reducible refine (fulcrumref21_has.calls k1 _ _ x9_1 ((rd_T49 l1 x11_1).f0) true _ ?side1 ?side2 A17.out).mono ?_); (case side1 => repeat (first | exact (Kd.R_reads' HO_9.out).2.2 | (with_reducible refine Kd.C_alloc ?_ _) | (with_reducible refine Kd.C_drewN ?_ _) | (with_reducible refine Kd.C_drew ?_))); (case side2 => exact (Kd.R_reads' HO_9.out).2.1); rintro e w' ⟨rfl, ⟨nd, rfl⟩⟩; (try first | exact ⟨rfl, _, World.drewN_drewN _ _ _⟩ | exact ⟨rfl, _, Eq.trans (World.drewN_drewN _ _ _) (congrArg (World.drewN _) (Nat.add_assoc _ _ _))⟩); have p405 : 0 ≤ (x11_1 : Int) := odt; have q405 : x11_1 < (l1.length : Int) := odt; obtain ⟨ad405, e405, hx405_0, hx405_1, hx405_2⟩ := at_T49 HR1.out x11_1 p405 q405; obtain rfl : ad403 = ad405 := (by injection e405); replace hx405_0 := (HB.out.cell (World.block_lt_of_cell? w _ hx405_0)).trans hx405_0; replace hx405_1 := (HB.out.cell (World.block_lt_of_cell? w _ hx405_1)).trans hx405_1; replace hx405_2 := (HB.out.cell (World.block_lt_of_cell? w _ hx405_2)).trans hx405_2; replace p405 := eq_true p405; replace q405 := eq_true q405; have p410 : 0 ≤ (x11_1 : Int) := odt; have q410 : x11_1 < (l1.length : Int) := odt; obtain ⟨ad410, e410, hx410_0, hx410_1, hx410_2⟩ := at_T49 HR1.out x11_1 p410 q410; obtain rfl : ad403 = ad410 := (by injection e410); replace hx410_0 := (HB.out.cell (World.block_lt_of_cell? w _ hx410_0)).trans hx410_0; replace hx410_1 := (HB.out.cell (World.block_lt_of_cell? w _ hx410_1)).trans hx410_1; replace hx410_2 := (HB.out.cell (World.block_lt_of_cell? w _ hx410_2)).trans hx410_2; replace p410 := eq_true p410; replace q410 := eq_true q410; have p411 : 0 ≤ (((rd_T49 l1 x11_1).f2) : Int) := odt; have q411 : ((rd_T49 l1 x11_1).f2) < (l0.length : Int) := odt; obtain ⟨ad411, A411_0, c411_0, e411, hx411_0, hl411_0, hi411_0⟩ := at_L1 HR0.out ((rd_T49 l1 x11_1).f2) p411 q411; cases e411; replace hx411_0 := (HB.out.cell (World.block_lt_of_cell? w _ hx411_0)).trans hx411_0; have HR411_0 := Aside0.mk hi411_0; have HC411_0 := Aside0.mk hl411_0; clear hi411_0 hl411_0; replace p411 := eq_true p411; replace q411 := eq_true q411)))
            go_loopg [9, 13] k1 (fun kq v9 v13 w' => ∃ (x9_2 : List Int) (x13_2 : Int), v13 = .int .i64 x13_2 ∧ Aside0 (fulcrumref21_Final.l1 kq l0 l1 x9_2 x10_1 x11_1 (rd_L1 l0 ((rd_T49 l1 x11_1).f2)) x13_2 = some (r1, r2)) ∧ Aside0 (kq ≤ k1) ∧ Aside0 (Kd.R (Kd.int .i64) 3 w' w.heap.size (fun k_ => some k_ ≠ (u10 : Value).ownBlock) v9 x9_2) ∧ Aside0 (Kd.R (Kd.int .i64) 3 w' w.heap.size (fun k_ => some k_ ≠ (v9 : Value).ownBlock) u10 x10_1) ∧ Aside0 (Below w.heap.size w w'))
            case atStart => exact ⟨(x9_1), (0), (by first | rfl | (simp; done) | (simp [*]; done)), H', ⟨Nat.le_refl _⟩, ⟨R_any HO_9.out⟩, ⟨R_any HO_10.out⟩, ⟨bel_any HB.out⟩⟩
            case round =>
             clear H'
             try clear c1
             try clear c2
             try clear p2
             try clear c4
             try clear p4
             try clear q4
             try clear hx4
             try clear c5
             try clear c5b0
             try clear c5b1
             try clear p6
             try clear c7
             try clear c7b0
             try clear c14
             try clear c14b0
             try clear c15
             try clear c15b0
             try clear c16
             try clear c16b0
             try clear c18
             try clear c19
             try clear c19b0
             try clear c20
             try clear c23
             try clear c23b0
             try clear c24
             try clear c24b0
             try clear hx403_0
             try clear hx403_1
             try clear hx403_2
             try clear hx405_0
             try clear hx405_1
             try clear hx405_2
             try clear hx406_0
             try clear hx406_1
             try clear hx406_2
             try clear hx410_0
             try clear hx410_1
             try clear hx410_2
             try clear hx411_0
             try clear p2
             try clear p403
             try clear p405
             try clear p406
             try clear p410
             try clear p411
             try clear p6
             try clear q403
             try clear q405
             try clear q406
             try clear q410
             try clear q411
             obtain ⟨x9_2, x13_2, rfl, HA, HK2, HO_9, HO_10, HB⟩ := hrel
             cases gk with
             | zero => exact absurd HA.out (by simp [fulcrumref21_Final.l1])
             | succ k2 =>
              have H := HA.out
              clear HA
              simp only [fulcrumref21_Final.l1] at H
              by_cases c26 : x13_2 < ((rd_L1 l0 ((rd_T49 l1 x11_1).f2)).length : Int)
              ·rw [if_pos c26] at H
               have c26b0 : decide (x13_2 < ((rd_L1 l0 ((rd_T49 l1 x11_1).f2)).length : Int)) = true := decide_eq_true c26
               clear c26
               by_cases c27 : 0 ≤ x13_2
               ·rw [if_pos c27] at H
                have c27b0 : decide (0 ≤ x13_2) = true := decide_eq_true c27
                clear c27
                by_cases c28 : 0 ≤ x11_1
                ·rw [if_pos c28] at H
                 have c28b0 : decide (0 ≤ x11_1) = true := decide_eq_true c28
                 clear c28
                 by_cases c29 : x11_1 < (l1.length : Int)
                 ·rw [if_pos c29] at H
                  have c29b0 : decide (x11_1 < (l1.length : Int)) = true := decide_eq_true c29
                  clear c29
                  by_cases c30 : (rd (rd_L1 l0 ((rd_T49 l1 x11_1).f2)) x13_2) = ((rd_T49 l1 x11_1).f0)
                  ·rw [if_pos c30] at H
                   have c30b0 : ((rd (rd_L1 l0 ((rd_T49 l1 x11_1).f2)) x13_2) == ((rd_T49 l1 x11_1).f0)) = true := beq_iff_eq.mpr c30
                   have c30b1 : ((rd (rd_L1 l0 ((rd_T49 l1 x11_1).f2)) x13_2) != ((rd_T49 l1 x11_1).f0)) = false := bne_eq_false_iff_eq.mpr c30
                   clear c30
                   have H' := Aside0.mk H
                   clear H
                   have p412 : 0 ≤ (x13_2 : Int) := odt
                   have q412 : x13_2 < ((rd_L1 l0 ((rd_T49 l1 x11_1).f2)).length : Int) := odt
                   obtain ⟨ad412, e412, hx412_0⟩ := Kd.at_int HR411_0.out x13_2 p412 q412
                   cases e412
                   replace hx412_0 := (HB.out.cell (World.block_lt_of_cell? w _ hx412_0)).trans hx412_0
                   replace p412 := eq_true p412
                   replace q412 := eq_true q412
                   have p413 : 0 ≤ (x11_1 : Int) := odt
                   have q413 : x11_1 < (l1.length : Int) := odt
                   obtain ⟨ad413, e413, hx413_0, hx413_1, hx413_2⟩ := at_T49 HR1.out x11_1 p413 q413
                   obtain rfl : ad403 = ad413 := (by injection e413)
                   replace hx413_0 := (HB.out.cell (World.block_lt_of_cell? w _ hx413_0)).trans hx413_0
                   replace hx413_1 := (HB.out.cell (World.block_lt_of_cell? w _ hx413_1)).trans hx413_1
                   replace hx413_2 := (HB.out.cell (World.block_lt_of_cell? w _ hx413_2)).trans hx413_2
                   replace p413 := eq_true p413
                   replace q413 := eq_true q413
                   go_wp2
                   repeat (go_quiet (fail); try go_wp2)
                   go_roundg k2
                   case measure => have := HK1.out; have := HK2.out; omega
                   case rel => exact ⟨(x9_2), (wrap64 (x13_2 + 1)), (by first | rfl | (simp; done) | (simp [*]; done)), H', ⟨by have := HK1.out; have := HK2.out; omega⟩, ⟨R_any HO_9.out⟩, ⟨R_any HO_10.out⟩, ⟨bel_any HB.out⟩⟩
                  ·rw [if_neg c30] at H
                   have c30b0 : ((rd (rd_L1 l0 ((rd_T49 l1 x11_1).f2)) x13_2) == ((rd_T49 l1 x11_1).f0)) = false := beq_eq_false_iff_ne.mpr c30
                   have c30b1 : ((rd (rd_L1 l0 ((rd_T49 l1 x11_1).f2)) x13_2) != ((rd_T49 l1 x11_1).f0)) = true := bne_iff_ne.mpr c30
                   by_cases c31 : x9_2.length < 17592186044416
                   ·rw [if_pos c31] at H
                    have LMc31 := Aside0.mk c31
                    clear c31
                    obtain ⟨y415, hy415⟩ : ∃ y_ : List Int, y_ = (x9_2 ++ [wrap64 (-(rd (rd_L1 l0 ((rd_T49 l1 x11_1).f2)) x13_2))]) := ⟨_, rfl⟩
                    replace H : (fulcrumref21_Final.l1 k2 l0 l1 y415 x10_1 x11_1 (rd_L1 l0 ((rd_T49 l1 x11_1).f2)) (wrap64 (x13_2 + 1))) = some (r1, r2) := by first | (rw [hy415]; with_reducible exact H) | (have H2_ := (Option.bind_some _ _).symm.trans H; rw [hy415]; with_reducible exact H2_) | (have H2_ := (Option.bind_some _ _).symm.trans H; with_reducible exact H2_) | with_reducible exact H | (rw [hy415]; exact H) | exact H
                    have Ny415 := Aside0.mk hy415
                    clear hy415
                    have H' := Aside0.mk H
                    clear H
                    have p412 : 0 ≤ (x13_2 : Int) := odt
                    have q412 : x13_2 < ((rd_L1 l0 ((rd_T49 l1 x11_1).f2)).length : Int) := odt
                    obtain ⟨ad412, e412, hx412_0⟩ := Kd.at_int HR411_0.out x13_2 p412 q412
                    cases e412
                    replace hx412_0 := (HB.out.cell (World.block_lt_of_cell? w _ hx412_0)).trans hx412_0
                    replace p412 := eq_true p412
                    replace q412 := eq_true q412
                    have p413 : 0 ≤ (x11_1 : Int) := odt
                    have q413 : x11_1 < (l1.length : Int) := odt
                    obtain ⟨ad413, e413, hx413_0, hx413_1, hx413_2⟩ := at_T49 HR1.out x11_1 p413 q413
                    obtain rfl : ad403 = ad413 := (by injection e413)
                    replace hx413_0 := (HB.out.cell (World.block_lt_of_cell? w _ hx413_0)).trans hx413_0
                    replace hx413_1 := (HB.out.cell (World.block_lt_of_cell? w _ hx413_1)).trans hx413_1
                    replace hx413_2 := (HB.out.cell (World.block_lt_of_cell? w _ hx413_2)).trans hx413_2
                    replace p413 := eq_true p413
                    replace q413 := eq_true q413
                    have p414 : 0 ≤ (x13_2 : Int) := odt
                    have q414 : x13_2 < ((rd_L1 l0 ((rd_T49 l1 x11_1).f2)).length : Int) := odt
                    obtain ⟨ad414, e414, hx414_0⟩ := Kd.at_int HR411_0.out x13_2 p414 q414
                    obtain rfl : ad412 = ad414 := (by injection e414)
                    replace hx414_0 := (HB.out.cell (World.block_lt_of_cell? w _ hx414_0)).trans hx414_0
                    replace p414 := eq_true p414
                    replace q414 := eq_true q414
                    go_wp2_with (first | ((with_reducible refine gate_builtin (b := .append) (xs := #[.tmp 82, .tmp 88]) rfl ?_); at_builtin; refine Kd.R_append (Kd.int .i64) (w0 := w) w.heap.size rfl (.tmp 82) (.tmp 88) 27 3 (.int .i64 0) 8 rfl Try.underlying27 info3 rfl (by decide) (by omega) u9 x9_2 (wrap64 (-(rd (rd_L1 l0 ((rd_T49 l1 x11_1).f2)) x13_2))) [.int .i64 (wrap64 (-(rd (rd_L1 l0 ((rd_T49 l1 x11_1).f2)) x13_2)))] (fun k_ => some k_ ≠ (u10 : Value).ownBlock) (fun _ => False) rfl rfl ?aP (fun _ hk => hk.elim) ?aF ?aO ?aB ?aS ?aL ?_; (case aP => exact rfl); (case aB => exact (bel_any HB.out)); (case aF => exact (fun k_ hk => Kd.fresh' (Kd.R_lt (R_any HO_10.out)) k_ hk)); (case aO => exact (R_any HO_9.out)); (case aS => exact (below_size (bel_any HB.out))); (case aL => have := LMc31.out; omega); intro v416 w32 ho hb hg hat; rw [← Ny415.out] at ho; have n0_ := Aside0.mk (Kd.R_after (ok := (fun _ => True)) (by (with_reducible repeat (first | apply Kd.R_alloc | apply Kd.R_drewN | apply Kd.R_drew)); exact Kd.R_mono HO_10.out (fun _ hk => ⟨trivial, hk⟩)) hg hat); have n1_ := Aside0.mk (hb); have n2_ := Aside0.mk (ho); clear HO_10; clear HB; clear HO_9; have HO_10 := n0_; have HB := n1_; have HO417 := n2_; clear n0_ n1_ n2_; clear ho hb hg hat))
                    repeat (go_quiet (first | ((with_reducible refine gate_builtin (b := .append) (xs := #[.tmp 82, .tmp 88]) rfl ?_); at_builtin; refine Kd.R_append (Kd.int .i64) (w0 := w) w.heap.size rfl (.tmp 82) (.tmp 88) 27 3 (.int .i64 0) 8 rfl Try.underlying27 info3 rfl (by decide) (by omega) u9 x9_2 (wrap64 (-(rd (rd_L1 l0 ((rd_T49 l1 x11_1).f2)) x13_2))) [.int .i64 (wrap64 (-(rd (rd_L1 l0 ((rd_T49 l1 x11_1).f2)) x13_2)))] (fun k_ => some k_ ≠ (u10 : Value).ownBlock) (fun _ => False) rfl rfl ?aP (fun _ hk => hk.elim) ?aF ?aO ?aB ?aS ?aL ?_; (case aP => exact rfl); (case aB => exact (bel_any HB.out)); (case aF => exact (fun k_ hk => Kd.fresh' (Kd.R_lt (R_any HO_10.out)) k_ hk)); (case aO => exact (R_any HO_9.out)); (case aS => exact (below_size (bel_any HB.out))); (case aL => have := LMc31.out; omega); intro v416 w32 ho hb hg hat; rw [← Ny415.out] at ho; have n0_ := Aside0.mk (Kd.R_after (ok := (fun _ => True)) (by (with_reducible repeat (first | apply Kd.R_alloc | apply Kd.R_drewN | apply Kd.R_drew)); exact Kd.R_mono HO_10.out (fun _ hk => ⟨trivial, hk⟩)) hg hat); have n1_ := Aside0.mk (hb); have n2_ := Aside0.mk (ho); clear HO_10; clear HB; clear HO_9; have HO_10 := n0_; have HB := n1_; have HO417 := n2_; clear n0_ n1_ n2_; clear ho hb hg hat)); try go_wp2_with (first | ((with_reducible refine gate_builtin (b := .append) (xs := #[.tmp 82, .tmp 88]) rfl ?_); at_builtin; refine Kd.R_append (Kd.int .i64) (w0 := w) w.heap.size rfl (.tmp 82) (.tmp 88) 27 3 (.int .i64 0) 8 rfl Try.underlying27 info3 rfl (by decide) (by omega) u9 x9_2 (wrap64 (-(rd (rd_L1 l0 ((rd_T49 l1 x11_1).f2)) x13_2))) [.int .i64 (wrap64 (-(rd (rd_L1 l0 ((rd_T49 l1 x11_1).f2)) x13_2)))] (fun k_ => some k_ ≠ (u10 : Value).ownBlock) (fun _ => False) rfl rfl ?aP (fun _ hk => hk.elim) ?aF ?aO ?aB ?aS ?aL ?_; (case aP => exact rfl); (case aB => exact (bel_any HB.out)); (case aF => exact (fun k_ hk => Kd.fresh' (Kd.R_lt (R_any HO_10.out)) k_ hk)); (case aO => exact (R_any HO_9.out)); (case aS => exact (below_size (bel_any HB.out))); (case aL => have := LMc31.out; omega); intro v416 w32 ho hb hg hat; rw [← Ny415.out] at ho; have n0_ := Aside0.mk (Kd.R_after (ok := (fun _ => True)) (by (with_reducible repeat (first | apply Kd.R_alloc | apply Kd.R_drewN | apply Kd.R_drew)); exact Kd.R_mono HO_10.out (fun _ hk => ⟨trivial, hk⟩)) hg hat); have n1_ := Aside0.mk (hb); have n2_ := Aside0.mk (ho); clear HO_10; clear HB; clear HO_9; have HO_10 := n0_; have HB := n1_; have HO417 := n2_; clear n0_ n1_ n2_; clear ho hb hg hat)))
                    go_roundg k2
                    case measure => have := HK1.out; have := HK2.out; omega
                    case rel => exact ⟨(y415), (wrap64 (x13_2 + 1)), (by first | rfl | (simp; done) | (simp [*]; done)), H', ⟨by have := HK1.out; have := HK2.out; omega⟩, ⟨R_any HO417.out⟩, ⟨by (with_reducible repeat (first | apply Kd.R_alloc | apply Kd.R_drewN | apply Kd.R_drew)); exact Kd.R_mono HO_10.out (fun _ hk => hk.2)⟩, ⟨bel_any HB.out⟩⟩
                   ·rw [if_neg c31] at H
                    exact absurd H (by simp)
                 ·rw [if_neg c29] at H
                  exact absurd H (by simp)
                ·rw [if_neg c28] at H
                 exact absurd H (by simp)
               ·rw [if_neg c27] at H
                exact absurd H (by simp)
              ·rw [if_neg c26] at H
               have c26b0 : decide (x13_2 < ((rd_L1 l0 ((rd_T49 l1 x11_1).f2)).length : Int)) = false := decide_eq_false c26
               clear c26
               have H' := Aside0.mk H
               clear H
               go_wp2
               repeat (go_quiet (fail); try go_wp2)
               go_roundg k2
               case measure => have := HK1.out; have := HK2.out; omega
               case rel => exact ⟨(x9_2), (x10_1), (wrap64 (x11_1 - 1)), (by first | rfl | (simp; done) | (simp [*]; done)), H', ⟨by have := HK1.out; have := HK2.out; omega⟩, ⟨R_any HO_9.out⟩, ⟨R_any HO_10.out⟩, ⟨bel_any HB.out⟩⟩
           ·rw [if_neg c24] at H
            exact absurd H (by simp)
          ·rw [if_neg c23] at H
           exact absurd H (by simp)
        ·replace c18 := Bool.eq_false_iff.mpr c18
         subst c18
         have H1 : (fulcrumref21_Final.l0 k1 l0 l1 x9_1 x10_1 (wrap64 (x11_1 - 1))) = some (r1, r2) := by rw [if_neg (show ¬ (false = true) by decide)] at H; exact H
         clear H
         have H := H1
         clear H1
         have H' := Aside0.mk H
         clear H
         have p403 : 0 ≤ (x11_1 : Int) := odt
         have q403 : x11_1 < (l1.length : Int) := odt
         obtain ⟨ad403, e403, hx403_0, hx403_1, hx403_2⟩ := at_T49 HR1.out x11_1 p403 q403
         cases e403
         replace hx403_0 := (HB.out.cell (World.block_lt_of_cell? w _ hx403_0)).trans hx403_0
         replace hx403_1 := (HB.out.cell (World.block_lt_of_cell? w _ hx403_1)).trans hx403_1
         replace hx403_2 := (HB.out.cell (World.block_lt_of_cell? w _ hx403_2)).trans hx403_2
         replace p403 := eq_true p403
         replace q403 := eq_true q403
         obtain ⟨Ao33, co33, eo33⟩ := Kd.R_slice HO_9.out
         subst eo33
         go_wp2_with (first | (go_at_call 56; (with_reducible refine (fulcrumref21_has.calls k1 _ _ x9_1 ((rd_T49 l1 x11_1).f0) false _ ?side1 ?side2 A17.out).mono ?_); (case side1 => repeat (first | exact (Kd.R_reads' HO_9.out).2.2 | (with_reducible refine Kd.C_alloc ?_ _) | (with_reducible refine Kd.C_drewN ?_ _) | (with_reducible refine Kd.C_drew ?_))); (case side2 => exact (Kd.R_reads' HO_9.out).2.1); rintro e w' ⟨rfl, ⟨nd, rfl⟩⟩; (try first | exact ⟨rfl, _, World.drewN_drewN _ _ _⟩ | exact ⟨rfl, _, Eq.trans (World.drewN_drewN _ _ _) (congrArg (World.drewN _) (Nat.add_assoc _ _ _))⟩)))
         repeat (go_quiet (first | (go_at_call 56; (with_reducible refine (fulcrumref21_has.calls k1 _ _ x9_1 ((rd_T49 l1 x11_1).f0) false _ ?side1 ?side2 A17.out).mono ?_); (case side1 => repeat (first | exact (Kd.R_reads' HO_9.out).2.2 | (with_reducible refine Kd.C_alloc ?_ _) | (with_reducible refine Kd.C_drewN ?_ _) | (with_reducible refine Kd.C_drew ?_))); (case side2 => exact (Kd.R_reads' HO_9.out).2.1); rintro e w' ⟨rfl, ⟨nd, rfl⟩⟩; (try first | exact ⟨rfl, _, World.drewN_drewN _ _ _⟩ | exact ⟨rfl, _, Eq.trans (World.drewN_drewN _ _ _) (congrArg (World.drewN _) (Nat.add_assoc _ _ _))⟩))); try go_wp2_with (first | (go_at_call 56; (with_reducible refine (fulcrumref21_has.calls k1 _ _ x9_1 ((rd_T49 l1 x11_1).f0) false _ ?side1 ?side2 A17.out).mono ?_); (case side1 => repeat (first | exact (Kd.R_reads' HO_9.out).2.2 | (with_reducible refine Kd.C_alloc ?_ _) | (with_reducible refine Kd.C_drewN ?_ _) | (with_reducible refine Kd.C_drew ?_))); (case side2 => exact (Kd.R_reads' HO_9.out).2.1); rintro e w' ⟨rfl, ⟨nd, rfl⟩⟩; (try first | exact ⟨rfl, _, World.drewN_drewN _ _ _⟩ | exact ⟨rfl, _, Eq.trans (World.drewN_drewN _ _ _) (congrArg (World.drewN _) (Nat.add_assoc _ _ _))⟩))))
         go_roundg k1
         case measure => have := HK1.out; omega
         case rel => exact ⟨(x9_1), (x10_1), (wrap64 (x11_1 - 1)), (by first | rfl | (simp; done) | (simp [*]; done)), H', ⟨by have := HK1.out; omega⟩, ⟨R_any HO_9.out⟩, ⟨R_any HO_10.out⟩, ⟨bel_any HB.out⟩⟩
       ·rw [if_neg c16] at H
        exact absurd H (by simp)
      ·rw [if_neg c15] at H
       exact absurd H (by simp)
     ·rw [if_neg c14] at H
      have c14b0 : decide (0 ≤ x11_1) = false := decide_eq_false c14
      clear c14
      obtain ⟨y418, hy418⟩ : ∃ y_ : List Int, y_ = (([] : List Int)) := ⟨_, rfl⟩
      replace H : (fulcrumref21_Final.l2 k1 x10_1 y418 (wrap64 ((x10_1.length : Int) - 1))) = some (r1, r2) := by first | (rw [hy418]; with_reducible exact H) | (have H2_ := (Option.bind_some _ _).symm.trans H; rw [hy418]; with_reducible exact H2_) | (have H2_ := (Option.bind_some _ _).symm.trans H; with_reducible exact H2_) | with_reducible exact H | (rw [hy418]; exact H) | exact H
      have Ny418 := Aside0.mk hy418
      clear hy418
      have H' := Aside0.mk H
      clear H
      go_wp2_with (first | ((with_reducible refine gate_dst (N := 90) rfl ?_); refine Kd.R_lit (Kd.int .i64) _ 3 ?hg (N := 90) ?hd (xs := ([] : List Int)) (inner := []) (ok := fun _ => True) (okp := fun _ => True) ?hr ?hp (fun _ hk => hk) trivial (Below.refl _ _) (Nat.le_refl _) (by simp) ?_; (case hd => rfl); (case hg => rfl); (case hr => first | (go_simp; done) | (go_simp; rfl)); (case hp => exact (Reps.none _ _)); intro v419 w34 ho35 hb hg_ hnew_; clear hg_ hnew_; (first | rw [← Ny418.out] at ho35 | (simp only [Int.reduceToNat] at ho35; rw [← Ny418.out] at ho35)); have n0_ := Aside0.mk (Kd.R_elder' (R_any HO_9.out) (Kd.R_base ho35) hb); have n1_ := Aside0.mk (Kd.R_elder' (R_any HO_10.out) (Kd.R_base ho35) hb); have n2_ := Aside0.mk (Kd.R_lower (Kd.R_new' (Kd.R_new' ho35 (Kd.R_lt (R_any HO_9.out))) (Kd.R_lt (R_any HO_10.out))) (below_size (bel_any HB.out))); have n3_ := Aside0.mk (below_step (bel_any HB.out) hb); clear HO_9; clear HO_10; clear HB; have HO_9 := n0_; have HO_10 := n1_; have HO420 := n2_; have HB := n3_; clear n0_ n1_ n2_ n3_; clear hb ho35; obtain ⟨Ao36, co36, eo36⟩ := Kd.R_slice HO_10.out; subst eo36))
      repeat (go_quiet (first | ((with_reducible refine gate_dst (N := 90) rfl ?_); refine Kd.R_lit (Kd.int .i64) _ 3 ?hg (N := 90) ?hd (xs := ([] : List Int)) (inner := []) (ok := fun _ => True) (okp := fun _ => True) ?hr ?hp (fun _ hk => hk) trivial (Below.refl _ _) (Nat.le_refl _) (by simp) ?_; (case hd => rfl); (case hg => rfl); (case hr => first | (go_simp; done) | (go_simp; rfl)); (case hp => exact (Reps.none _ _)); intro v419 w34 ho35 hb hg_ hnew_; clear hg_ hnew_; (first | rw [← Ny418.out] at ho35 | (simp only [Int.reduceToNat] at ho35; rw [← Ny418.out] at ho35)); have n0_ := Aside0.mk (Kd.R_elder' (R_any HO_9.out) (Kd.R_base ho35) hb); have n1_ := Aside0.mk (Kd.R_elder' (R_any HO_10.out) (Kd.R_base ho35) hb); have n2_ := Aside0.mk (Kd.R_lower (Kd.R_new' (Kd.R_new' ho35 (Kd.R_lt (R_any HO_9.out))) (Kd.R_lt (R_any HO_10.out))) (below_size (bel_any HB.out))); have n3_ := Aside0.mk (below_step (bel_any HB.out) hb); clear HO_9; clear HO_10; clear HB; have HO_9 := n0_; have HO_10 := n1_; have HO420 := n2_; have HB := n3_; clear n0_ n1_ n2_ n3_; clear hb ho35; obtain ⟨Ao36, co36, eo36⟩ := Kd.R_slice HO_10.out; subst eo36)); try go_wp2_with (first | ((with_reducible refine gate_dst (N := 90) rfl ?_); refine Kd.R_lit (Kd.int .i64) _ 3 ?hg (N := 90) ?hd (xs := ([] : List Int)) (inner := []) (ok := fun _ => True) (okp := fun _ => True) ?hr ?hp (fun _ hk => hk) trivial (Below.refl _ _) (Nat.le_refl _) (by simp) ?_; (case hd => rfl); (case hg => rfl); (case hr => first | (go_simp; done) | (go_simp; rfl)); (case hp => exact (Reps.none _ _)); intro v419 w34 ho35 hb hg_ hnew_; clear hg_ hnew_; (first | rw [← Ny418.out] at ho35 | (simp only [Int.reduceToNat] at ho35; rw [← Ny418.out] at ho35)); have n0_ := Aside0.mk (Kd.R_elder' (R_any HO_9.out) (Kd.R_base ho35) hb); have n1_ := Aside0.mk (Kd.R_elder' (R_any HO_10.out) (Kd.R_base ho35) hb); have n2_ := Aside0.mk (Kd.R_lower (Kd.R_new' (Kd.R_new' ho35 (Kd.R_lt (R_any HO_9.out))) (Kd.R_lt (R_any HO_10.out))) (below_size (bel_any HB.out))); have n3_ := Aside0.mk (below_step (bel_any HB.out) hb); clear HO_9; clear HO_10; clear HB; have HO_9 := n0_; have HO_10 := n1_; have HO420 := n2_; have HB := n3_; clear n0_ n1_ n2_ n3_; clear hb ho35; obtain ⟨Ao36, co36, eo36⟩ := Kd.R_slice HO_10.out; subst eo36)))
      go_loopg [14, 15] k1 (fun kq v14 v15 w' => ∃ (x14_2 : List Int) (x15_2 : Int), v15 = .int .i64 x15_2 ∧ Aside0 (fulcrumref21_Final.l2 kq x10_1 x14_2 x15_2 = some (r1, r2)) ∧ Aside0 (kq ≤ k1) ∧ Aside0 (Kd.R (Kd.int .i64) 3 w' w.heap.size (fun k_ => some k_ ≠ (v14 : Value).ownBlock) (.slice Ao36 x10_1.length co36) x10_1) ∧ Aside0 (Kd.R (Kd.int .i64) 3 w' w.heap.size (fun k_ => some k_ ≠ ((.slice Ao36 x10_1.length co36) : Value).ownBlock) v14 x14_2) ∧ Aside0 (Below w.heap.size w w'))
      case atStart => exact ⟨(y418), (wrap64 ((x10_1.length : Int) - 1)), (by first | rfl | (simp; done) | (simp [*]; done)), H', ⟨Nat.le_refl _⟩, ⟨by (with_reducible repeat (first | apply Kd.R_alloc | apply Kd.R_drewN | apply Kd.R_drew)); exact Kd.R_mono HO_10.out (fun _ hk => hk.2)⟩, ⟨by (with_reducible repeat (first | apply Kd.R_alloc | apply Kd.R_drewN | apply Kd.R_drew)); exact Kd.R_mono HO420.out (fun _ hk => hk.2)⟩, ⟨bel_any HB.out⟩⟩
      case round =>
       clear H'
       try clear c1
       try clear c2
       try clear p2
       try clear c3
       try clear c4
       try clear p4
       try clear q4
       try clear hx4
       try clear c5
       try clear c5b0
       try clear c5b1
       try clear p6
       try clear c7
       try clear c7b0
       try clear c14
       try clear c14b0
       try clear c15
       try clear c15b0
       try clear c16
       try clear c16b0
       try clear c18
       try clear c19
       try clear c19b0
       try clear c20
       try clear c23
       try clear c23b0
       try clear c24
       try clear c24b0
       try clear c26
       try clear c26b0
       try clear c27
       try clear c27b0
       try clear c28
       try clear c28b0
       try clear c29
       try clear c29b0
       try clear c30
       try clear c30b0
       try clear c30b1
       try clear c31
       try clear hx403_0
       try clear hx403_1
       try clear hx403_2
       try clear hx405_0
       try clear hx405_1
       try clear hx405_2
       try clear hx406_0
       try clear hx406_1
       try clear hx406_2
       try clear hx410_0
       try clear hx410_1
       try clear hx410_2
       try clear hx411_0
       try clear hx412_0
       try clear hx413_0
       try clear hx413_1
       try clear hx413_2
       try clear hx414_0
       try clear p2
       try clear p4
       try clear p403
       try clear p405
       try clear p406
       try clear p410
       try clear p411
       try clear p412
       try clear p413
       try clear p414
       try clear p6
       try clear q4
       try clear q403
       try clear q405
       try clear q406
       try clear q410
       try clear q411
       try clear q412
       try clear q413
       try clear q414
       obtain ⟨x14_2, x15_2, rfl, HA, HK2, HO_10, HO_14, HB⟩ := hrel
       cases gk with
       | zero => exact absurd HA.out (by simp [fulcrumref21_Final.l2])
       | succ k2 =>
        have H := HA.out
        clear HA
        simp only [fulcrumref21_Final.l2] at H
        by_cases c37 : x15_2 ≥ 0
        ·rw [if_pos c37] at H
         have c37b0 : decide (0 ≤ x15_2) = true := decide_eq_true c37
         clear c37
         by_cases c38 : 0 ≤ x15_2
         ·rw [if_pos c38] at H
          have c38b0 : decide (0 ≤ x15_2) = true := decide_eq_true c38
          clear c38
          by_cases c39 : x15_2 < (x10_1.length : Int)
          ·rw [if_pos c39] at H
           have c39b0 : decide (x15_2 < (x10_1.length : Int)) = true := decide_eq_true c39
           clear c39
           by_cases c40 : x14_2.length < 17592186044416
           ·rw [if_pos c40] at H
            have LMc40 := Aside0.mk c40
            clear c40
            obtain ⟨y422, hy422⟩ : ∃ y_ : List Int, y_ = (x14_2 ++ [rd x10_1 x15_2]) := ⟨_, rfl⟩
            replace H : (fulcrumref21_Final.l2 k2 x10_1 y422 (wrap64 (x15_2 - 1))) = some (r1, r2) := by first | (rw [hy422]; with_reducible exact H) | (have H2_ := (Option.bind_some _ _).symm.trans H; rw [hy422]; with_reducible exact H2_) | (have H2_ := (Option.bind_some _ _).symm.trans H; with_reducible exact H2_) | with_reducible exact H | (rw [hy422]; exact H) | exact H
            have Ny422 := Aside0.mk hy422
            clear hy422
            have H' := Aside0.mk H
            clear H
            have p421 : 0 ≤ (x15_2 : Int) := odt
            have q421 : x15_2 < (x10_1.length : Int) := odt
            obtain ⟨ad421, e421, hx421_0⟩ := Kd.at_int (Kd.R_reads' HO_10.out).2.2 x15_2 p421 q421
            cases e421
            replace p421 := eq_true p421
            replace q421 := eq_true q421
            go_wp2_with (first | ((with_reducible refine gate_builtin (b := .append) (xs := #[.tmp 98, .tmp 103]) rfl ?_); at_builtin; refine Kd.R_append (Kd.int .i64) (w0 := w) w.heap.size rfl (.tmp 98) (.tmp 103) 27 3 (.int .i64 0) 8 rfl Try.underlying27 info3 rfl (by decide) (by omega) u14 x14_2 (rd x10_1 x15_2) [.int .i64 (rd x10_1 x15_2)] (fun k_ => some k_ ≠ (.slice (some ad421) x10_1.length co36 : Value).ownBlock) (fun _ => False) rfl rfl ?aP (fun _ hk => hk.elim) ?aF ?aO ?aB ?aS ?aL ?_; (case aP => exact rfl); (case aB => exact (bel_any HB.out)); (case aF => exact (fun k_ hk => Kd.fresh' (Kd.R_lt (R_any HO_10.out)) k_ hk)); (case aO => exact (R_any HO_14.out)); (case aS => exact (below_size (bel_any HB.out))); (case aL => have := LMc40.out; omega); intro v423 w41 ho hb hg hat; rw [← Ny422.out] at ho; have n0_ := Aside0.mk (Kd.R_after (ok := (fun _ => True)) (by (with_reducible repeat (first | apply Kd.R_alloc | apply Kd.R_drewN | apply Kd.R_drew)); exact Kd.R_mono HO_10.out (fun _ hk => ⟨trivial, hk⟩)) hg hat); have n1_ := Aside0.mk (hb); have n2_ := Aside0.mk (ho); clear HO_10; clear HB; clear HO_14; have HO_10 := n0_; have HB := n1_; have HO424 := n2_; clear n0_ n1_ n2_; clear ho hb hg hat))
            repeat (go_quiet (first | ((with_reducible refine gate_builtin (b := .append) (xs := #[.tmp 98, .tmp 103]) rfl ?_); at_builtin; refine Kd.R_append (Kd.int .i64) (w0 := w) w.heap.size rfl (.tmp 98) (.tmp 103) 27 3 (.int .i64 0) 8 rfl Try.underlying27 info3 rfl (by decide) (by omega) u14 x14_2 (rd x10_1 x15_2) [.int .i64 (rd x10_1 x15_2)] (fun k_ => some k_ ≠ (.slice (some ad421) x10_1.length co36 : Value).ownBlock) (fun _ => False) rfl rfl ?aP (fun _ hk => hk.elim) ?aF ?aO ?aB ?aS ?aL ?_; (case aP => exact rfl); (case aB => exact (bel_any HB.out)); (case aF => exact (fun k_ hk => Kd.fresh' (Kd.R_lt (R_any HO_10.out)) k_ hk)); (case aO => exact (R_any HO_14.out)); (case aS => exact (below_size (bel_any HB.out))); (case aL => have := LMc40.out; omega); intro v423 w41 ho hb hg hat; rw [← Ny422.out] at ho; have n0_ := Aside0.mk (Kd.R_after (ok := (fun _ => True)) (by (with_reducible repeat (first | apply Kd.R_alloc | apply Kd.R_drewN | apply Kd.R_drew)); exact Kd.R_mono HO_10.out (fun _ hk => ⟨trivial, hk⟩)) hg hat); have n1_ := Aside0.mk (hb); have n2_ := Aside0.mk (ho); clear HO_10; clear HB; clear HO_14; have HO_10 := n0_; have HB := n1_; have HO424 := n2_; clear n0_ n1_ n2_; clear ho hb hg hat)); try go_wp2_with (first | ((with_reducible refine gate_builtin (b := .append) (xs := #[.tmp 98, .tmp 103]) rfl ?_); at_builtin; refine Kd.R_append (Kd.int .i64) (w0 := w) w.heap.size rfl (.tmp 98) (.tmp 103) 27 3 (.int .i64 0) 8 rfl Try.underlying27 info3 rfl (by decide) (by omega) u14 x14_2 (rd x10_1 x15_2) [.int .i64 (rd x10_1 x15_2)] (fun k_ => some k_ ≠ (.slice (some ad421) x10_1.length co36 : Value).ownBlock) (fun _ => False) rfl rfl ?aP (fun _ hk => hk.elim) ?aF ?aO ?aB ?aS ?aL ?_; (case aP => exact rfl); (case aB => exact (bel_any HB.out)); (case aF => exact (fun k_ hk => Kd.fresh' (Kd.R_lt (R_any HO_10.out)) k_ hk)); (case aO => exact (R_any HO_14.out)); (case aS => exact (below_size (bel_any HB.out))); (case aL => have := LMc40.out; omega); intro v423 w41 ho hb hg hat; rw [← Ny422.out] at ho; have n0_ := Aside0.mk (Kd.R_after (ok := (fun _ => True)) (by (with_reducible repeat (first | apply Kd.R_alloc | apply Kd.R_drewN | apply Kd.R_drew)); exact Kd.R_mono HO_10.out (fun _ hk => ⟨trivial, hk⟩)) hg hat); have n1_ := Aside0.mk (hb); have n2_ := Aside0.mk (ho); clear HO_10; clear HB; clear HO_14; have HO_10 := n0_; have HB := n1_; have HO424 := n2_; clear n0_ n1_ n2_; clear ho hb hg hat)))
            go_roundg k2
            case measure => have := HK1.out; have := HK2.out; omega
            case rel => exact ⟨(y422), (wrap64 (x15_2 - 1)), (by first | rfl | (simp; done) | (simp [*]; done)), H', ⟨by have := HK1.out; have := HK2.out; omega⟩, ⟨by (with_reducible repeat (first | apply Kd.R_alloc | apply Kd.R_drewN | apply Kd.R_drew)); exact Kd.R_mono HO_10.out (fun _ hk => hk.2)⟩, ⟨R_any HO424.out⟩, ⟨bel_any HB.out⟩⟩
           ·rw [if_neg c40] at H
            exact absurd H (by simp)
          ·rw [if_neg c39] at H
           exact absurd H (by simp)
         ·rw [if_neg c38] at H
          exact absurd H (by simp)
        ·rw [if_neg c37] at H
         have c37b0 : decide (0 ≤ x15_2) = false := decide_eq_false c37
         clear c37
         simp only [Option.some.injEq, Prod.mk.injEq] at H
         obtain ⟨rfl, rfl⟩ := H
         go_wp2
         repeat (go_quiet (fail); try go_wp2)
         go_ret2
         exact ⟨_, by first | rfl | (simp [errW_none, errW_some] <;> rfl) | (simp [*, errW_none, errW_some] <;> rfl), by (with_reducible repeat (first | apply Kd.R_alloc | apply Kd.R_drewN | apply Kd.R_drew)); exact Kd.R_mono HO_14.out (fun _ hk => trivial), bel_any HB.out⟩
 ·rw [if_neg c5] at H
  have c5b0 : (t395 == 0) = false := beq_eq_false_iff_ne.mpr c5
  have c5b1 : (t395 != 0) = true := bne_iff_ne.mpr c5
  simp only [Option.some.injEq, Prod.mk.injEq] at H
  obtain ⟨rfl, rfl⟩ := H
  go_enter Try.func26, Try.ntmps26
  go_wp2_with (first | (go_at_call 21; (with_reducible refine (fulcrumref21_Check.calls k _ _ l0 _ _ l1 t395 _ ?side1 ?side2 ?side3 ?side4 A4.out).mono ?_); (case side1 => repeat (first | exact HR0.out | (with_reducible refine Kd.C_alloc ?_ _) | (with_reducible refine Kd.C_drewN ?_ _) | (with_reducible refine Kd.C_drew ?_))); (case side2 => exact HC0.out); (case side3 => repeat (first | exact HR1.out | (with_reducible refine Kd.C_alloc ?_ _) | (with_reducible refine Kd.C_drewN ?_ _) | (with_reducible refine Kd.C_drew ?_))); (case side4 => exact HC1.out); rintro e w42 ⟨rfl, hb⟩; have n0_ := Aside0.mk (below_step (bel_any HB.out) hb); clear HB; have HB := n0_; clear n0_; (try clear hb); (try clear hb2); (try clear hk); (try clear hi)))
  repeat (go_quiet (first | (go_at_call 21; (with_reducible refine (fulcrumref21_Check.calls k _ _ l0 _ _ l1 t395 _ ?side1 ?side2 ?side3 ?side4 A4.out).mono ?_); (case side1 => repeat (first | exact HR0.out | (with_reducible refine Kd.C_alloc ?_ _) | (with_reducible refine Kd.C_drewN ?_ _) | (with_reducible refine Kd.C_drew ?_))); (case side2 => exact HC0.out); (case side3 => repeat (first | exact HR1.out | (with_reducible refine Kd.C_alloc ?_ _) | (with_reducible refine Kd.C_drewN ?_ _) | (with_reducible refine Kd.C_drew ?_))); (case side4 => exact HC1.out); rintro e w42 ⟨rfl, hb⟩; have n0_ := Aside0.mk (below_step (bel_any HB.out) hb); clear HB; have HB := n0_; clear n0_; (try clear hb); (try clear hb2); (try clear hk); (try clear hi))); try go_wp2_with (first | (go_at_call 21; (with_reducible refine (fulcrumref21_Check.calls k _ _ l0 _ _ l1 t395 _ ?side1 ?side2 ?side3 ?side4 A4.out).mono ?_); (case side1 => repeat (first | exact HR0.out | (with_reducible refine Kd.C_alloc ?_ _) | (with_reducible refine Kd.C_drewN ?_ _) | (with_reducible refine Kd.C_drew ?_))); (case side2 => exact HC0.out); (case side3 => repeat (first | exact HR1.out | (with_reducible refine Kd.C_alloc ?_ _) | (with_reducible refine Kd.C_drewN ?_ _) | (with_reducible refine Kd.C_drew ?_))); (case side4 => exact HC1.out); rintro e w42 ⟨rfl, hb⟩; have n0_ := Aside0.mk (below_step (bel_any HB.out) hb); clear HB; have HB := n0_; clear n0_; (try clear hb); (try clear hb2); (try clear hk); (try clear hi))))
  go_ret2
  exact ⟨_, by first | rfl | (simp [errW_none, errW_some] <;> rfl) | (simp [*, errW_none, errW_some] <;> rfl), by first | exact Kd.R_nil _ _ _ _ _ | exact Kd.N_nil _ _ _ _ _ | exact Kd.V_nil _ _ _ _ _ | exact Kd.Q_nil _ _ _ _ _ | exact Kd.S_nil _ _ _ _ _, bel_any HB.out⟩
end Go.Proofs.Ytboalbiicmcljaa.PAN
