import Derived.Test.YtboalbiicmcljaaZTPANx0
import Derived.Test.YtboalbiicmcljaaZTPANx9
import Derived.Test.YtboalbiicmcljaaZTPANx10
import Derived.Test.YtboalbiicmcljaaZTPANx12
import Derived.Test.YtboalbiicmcljaaZTPANx20
namespace Go.Proofs.Ytboalbiicmcljaa.PAN
open Go.Proofs.YtboalbiicmcljaaH
open Go.RowKit Go.Proofs.YtboalbiicmcljaaW.PrintWords Go.Proofs.YtboalbiicmcljaaW.PrintLast Go.Proofs.YtboalbiicmcljaaW.PrintMore
attribute [local go_sem] max2_int min2_int max_two min_two max_three min_three max_four min_four   -- for this text's walks alone
set_option linter.unusedVariables false
set_option linter.unusedSimpArgs false
mutual
def fulcrumref21_Glue.l0 : Nat → List (S49) → List Int → List Int → Int → Option (Int × Int)
 | 0, _, _, _, _ => none
 | k + 1, x0, x1, x6, x7 => if x7 < (x1.length : Int) then (if 0 ≤ x7 then ((fulcrumref21_literal.f (rd x1 x7)).bind fun t367 => (if t367 = true then ((fulcrumref21_place.f k x0 (rd x1 x7)).bind fun t369 => ((fulcrumref21_place.f k x0 (wrap64 (-(rd x1 x7)))).bind fun t371 => (if t369 < 0 then (fulcrumref21_Glue.j1 k x0 x1 x6 x7 t369 t371 true) else (if t371 ≥ 0 then (fulcrumref21_Glue.j1 k x0 x1 x6 x7 t369 t371 (decide (t371 < t369))) else (fulcrumref21_Glue.j1 k x0 x1 x6 x7 t369 t371 false))))) else (some (0, 210)))) else (none)) else ((fulcrumref21_set.f k x6).bind fun t363 => (some ((t363.length : Int), 0)))
def fulcrumref21_Glue.j1 : Nat → List (S49) → List Int → List Int → Int → Int → Int → Bool → Option (Int × Int)
 | 0, _, _, _, _, _, _, _ => none
 | k + 1, x0, x1, x6, x7, x8, x9, x46 => if x46 = true then (if x9 < 0 then (some (0, 210)) else (if 0 ≤ x9 then (if x9 < (x0.length : Int) then (if x6.length < 17592186044416 then (fulcrumref21_Glue.l0 k x0 x1 (x6 ++ [(rd_T49 x0 x9).f1]) (wrap64 (x7 + 1))) else (none)) else (none)) else (none))) else (if x8 < 0 then (some (0, 210)) else (if 0 ≤ x8 then (if x8 < (x0.length : Int) then (if x6.length < 17592186044416 then (fulcrumref21_Glue.l0 k x0 x1 (x6 ++ [(rd_T49 x0 x8).f1]) (wrap64 (x7 + 1))) else (none)) else (none)) else (none)))
end
def fulcrumref21_Glue.f (k : Nat) (l0 : List (S49)) (l1 : List Int) : Option (Int × Int) := fulcrumref21_Glue.l0 k l0 l1 (([] : List Int)) 0
theorem fulcrumref21_Glue.mono_l : ∀ k, (∀ y0 y1 y2 y3, LeO (fulcrumref21_Glue.l0 k y0 y1 y2 y3) (fulcrumref21_Glue.l0 (k + 1) y0 y1 y2 y3)) ∧ (∀ y0 y1 y2 y3 y4 y5 y6, LeO (fulcrumref21_Glue.j1 k y0 y1 y2 y3 y4 y5 y6) (fulcrumref21_Glue.j1 (k + 1) y0 y1 y2 y3 y4 y5 y6))
 | 0 => ⟨fun _ _ _ _ r h => by simp [fulcrumref21_Glue.l0] at h, fun _ _ _ _ _ _ _ r h => by simp [fulcrumref21_Glue.j1] at h⟩
 | k + 1 => by
  obtain ⟨ih0, ih1⟩ := fulcrumref21_Glue.mono_l k
  refine ⟨?_, ?_⟩
  ·intro y0 y1 y2 y3
   unfold fulcrumref21_Glue.l0
   repeat' first
   | (with_reducible exact ih0 _ _ _ _)
   | (with_reducible exact ih1 _ _ _ _ _ _ _)
   | (with_reducible exact fulcrumref21_place.mono _ _ _)
   | (with_reducible exact fulcrumref21_set.mono _ _)
   | (with_reducible exact LeO.refl _)
   | (with_reducible exact LeO.none _)
   | (with_reducible refine LeO.ite ?_ ?_)
   | (with_reducible refine LeO.bind ?_ (fun _ => ?_))
   | exact ih0 _ _ _ _
   | exact ih1 _ _ _ _ _ _ _
   | exact fulcrumref21_place.mono _ _ _
   | exact fulcrumref21_set.mono _ _
   | exact LeO.none _
   | refine LeO.ite ?_ ?_
   | refine LeO.bind ?_ (fun _ => ?_)
  ·intro y0 y1 y2 y3 y4 y5 y6
   unfold fulcrumref21_Glue.j1
   repeat' first
   | (with_reducible exact ih0 _ _ _ _)
   | (with_reducible exact ih1 _ _ _ _ _ _ _)
   | (with_reducible exact fulcrumref21_place.mono _ _ _)
   | (with_reducible exact fulcrumref21_set.mono _ _)
   | (with_reducible exact LeO.refl _)
   | (with_reducible exact LeO.none _)
   | (with_reducible refine LeO.ite ?_ ?_)
   | (with_reducible refine LeO.bind ?_ (fun _ => ?_))
   | exact ih0 _ _ _ _
   | exact ih1 _ _ _ _ _ _ _
   | exact fulcrumref21_place.mono _ _ _
   | exact fulcrumref21_set.mono _ _
   | exact LeO.none _
   | refine LeO.ite ?_ ?_
   | refine LeO.bind ?_ (fun _ => ?_)
theorem fulcrumref21_Glue.mono : ∀ a0 a1 k, LeO (fulcrumref21_Glue.f k a0 a1) (fulcrumref21_Glue.f (k + 1) a0 a1) := by
 intro a0 a1 k
 obtain ⟨ih0, ih1⟩ := fulcrumref21_Glue.mono_l k
 unfold fulcrumref21_Glue.f
 repeat' first
   | (with_reducible exact ih0 _ _ _ _)
   | (with_reducible exact ih1 _ _ _ _ _ _ _)
   | (with_reducible exact fulcrumref21_place.mono _ _ _)
   | (with_reducible exact fulcrumref21_set.mono _ _)
   | (with_reducible exact LeO.refl _)
   | (with_reducible exact LeO.none _)
   | (with_reducible refine LeO.ite ?_ ?_)
   | (with_reducible refine LeO.bind ?_ (fun _ => ?_))
   | exact ih0 _ _ _ _
   | exact ih1 _ _ _ _ _ _ _
   | exact fulcrumref21_place.mono _ _ _
   | exact fulcrumref21_set.mono _ _
   | exact LeO.none _
   | refine LeO.ite ?_ ?_
   | refine LeO.bind ?_ (fun _ => ?_)
set_option maxHeartbeats 8000000 in
set_option maxRecDepth 100000 in
theorem fulcrumref21_Glue.calls (k : Nat) (A0 : Option Addr) (c0 : Nat) (l0 : List (S49)) (A1 : Option Addr) (c1 : Nat) (l1 : List Int) (r1 : Int) (r2 : Int) (w : World) (hr0 : Kd.C k49 w A0 l0.length l0) (hc0 : l0.length ≤ c0) (hr1 : Kd.C (Kd.int .i64) w A1 l1.length l1) (hc1 : l1.length ≤ c1) (h : fulcrumref21_Glue.f k l0 l1 = some (r1, r2)) :
  Calls Try.prog 24 #[.slice A0 l0.length c0, .slice A1 l1.length c1] w fun e w' => e = .returned (.tuple #[.int .i64 r1, .int .i64 r2]) ∧ Below w.heap.size w w' := by
 have HR0 := Aside0.mk hr0
 have HC0 := Aside0.mk hc0
 clear hr0 hc0
 have HR1 := Aside0.mk hr1
 have HC1 := Aside0.mk hc1
 clear hr1 hc1
 have HB := Aside0.mk (Below.refl w.heap.size w)
 have H : (fulcrumref21_Glue.l0 k l0 l1 (([] : List Int)) 0) = some (r1, r2) := h
 clear h
 obtain ⟨y360, hy360⟩ : ∃ y_ : List Int, y_ = (([] : List Int)) := ⟨_, rfl⟩
 replace H : (fulcrumref21_Glue.l0 k l0 l1 y360 0) = some (r1, r2) := by first | (rw [hy360]; with_reducible exact H) | (have H2_ := (Option.bind_some _ _).symm.trans H; rw [hy360]; with_reducible exact H2_) | (have H2_ := (Option.bind_some _ _).symm.trans H; with_reducible exact H2_) | with_reducible exact H | (rw [hy360]; exact H) | exact H
 have Ny360 := Aside0.mk hy360
 clear hy360
 have H' := Aside0.mk H
 clear H
 go_enter Try.func24, Try.ntmps24
 go_wp2_with (first | ((with_reducible refine gate_dst (N := 10) rfl ?_); refine Kd.R_lit (Kd.int .i64) _ 3 ?hg (N := 10) ?hd (xs := ([] : List Int)) (inner := []) (ok := fun _ => True) (okp := fun _ => True) ?hr ?hp (fun _ hk => hk) trivial (Below.refl _ _) (Nat.le_refl _) (by simp) ?_; (case hd => rfl); (case hg => rfl); (case hr => first | (go_simp; done) | (go_simp; rfl)); (case hp => exact (Reps.none _ _)); intro v361 w3 ho4 hb hg_ hnew_; clear hg_ hnew_; (first | rw [← Ny360.out] at ho4 | (simp only [Int.reduceToNat] at ho4; rw [← Ny360.out] at ho4)); have n0_ := Aside0.mk (Kd.R_lower ho4 (below_size (bel_any HB.out))); have n1_ := Aside0.mk (below_step (bel_any HB.out) hb); clear HB; have HO362 := n0_; have HB := n1_; clear n0_ n1_; clear hb ho4))
 go_loopg [6, 7] k (fun kq v6 v7 w' => ∃ (x6_1 : List Int) (x7_1 : Int), v7 = .int .i64 x7_1 ∧ Aside0 (fulcrumref21_Glue.l0 kq l0 l1 x6_1 x7_1 = some (r1, r2)) ∧ Aside0 (kq ≤ k) ∧ Aside0 (Kd.R (Kd.int .i64) 3 w' w.heap.size (fun _ => True) v6 x6_1) ∧ Aside0 (Below w.heap.size w w'))
 case atStart => exact ⟨(y360), (0), (by first | rfl | (simp; done) | (simp [*]; done)), H', ⟨Nat.le_refl _⟩, ⟨R_any HO362.out⟩, ⟨bel_any HB.out⟩⟩
 case round =>
  clear H'
  try clear c1
  try clear c2
  try clear p2
  obtain ⟨x6_1, x7_1, rfl, HA, HK1, HO_6, HB⟩ := hrel
  cases gk with
  | zero => exact absurd HA.out (by simp [fulcrumref21_Glue.l0])
  | succ k1 =>
   have H := HA.out
   clear HA
   simp only [fulcrumref21_Glue.l0] at H
   by_cases c5 : x7_1 < (l1.length : Int)
   ·rw [if_pos c5] at H
    have c5b0 : decide (x7_1 < (l1.length : Int)) = true := decide_eq_true c5
    clear c5
    by_cases c6 : 0 ≤ x7_1
    ·rw [if_pos c6] at H
     have c6b0 : decide (0 ≤ x7_1) = true := decide_eq_true c6
     clear c6
     replace H := Option.bind_eq_some_iff.mp H
     obtain ⟨t367, A70, H⟩ := H
     replace H : (if t367 = true then ((fulcrumref21_place.f k1 l0 (rd l1 x7_1)).bind fun t369 => ((fulcrumref21_place.f k1 l0 (wrap64 (-(rd l1 x7_1)))).bind fun t371 => (if t369 < 0 then (fulcrumref21_Glue.j1 k1 l0 l1 x6_1 x7_1 t369 t371 true) else (if t371 ≥ 0 then (fulcrumref21_Glue.j1 k1 l0 l1 x6_1 x7_1 t369 t371 (decide (t371 < t369))) else (fulcrumref21_Glue.j1 k1 l0 l1 x6_1 x7_1 t369 t371 false))))) else (some (0, 210))) = some (r1, r2) := H
     have A7 := Aside0.mk A70
     clear A70
     by_cases c8 : t367 = true
     ·subst c8
      have H1 : ((fulcrumref21_place.f k1 l0 (rd l1 x7_1)).bind fun t369 => ((fulcrumref21_place.f k1 l0 (wrap64 (-(rd l1 x7_1)))).bind fun t371 => (if t369 < 0 then (fulcrumref21_Glue.j1 k1 l0 l1 x6_1 x7_1 t369 t371 true) else (if t371 ≥ 0 then (fulcrumref21_Glue.j1 k1 l0 l1 x6_1 x7_1 t369 t371 (decide (t371 < t369))) else (fulcrumref21_Glue.j1 k1 l0 l1 x6_1 x7_1 t369 t371 false))))) = some (r1, r2) := by rw [if_pos rfl] at H; exact H
      clear H
      have H := H1
      clear H1
      replace H := Option.bind_eq_some_iff.mp H
      obtain ⟨t369, A90, H⟩ := H
      replace H : ((fulcrumref21_place.f k1 l0 (wrap64 (-(rd l1 x7_1)))).bind fun t371 => (if t369 < 0 then (fulcrumref21_Glue.j1 k1 l0 l1 x6_1 x7_1 t369 t371 true) else (if t371 ≥ 0 then (fulcrumref21_Glue.j1 k1 l0 l1 x6_1 x7_1 t369 t371 (decide (t371 < t369))) else (fulcrumref21_Glue.j1 k1 l0 l1 x6_1 x7_1 t369 t371 false)))) = some (r1, r2) := H
      have A9 := Aside0.mk A90
      clear A90
      replace H := Option.bind_eq_some_iff.mp H
      obtain ⟨t371, A100, H⟩ := H
      replace H : (if t369 < 0 then (fulcrumref21_Glue.j1 k1 l0 l1 x6_1 x7_1 t369 t371 true) else (if t371 ≥ 0 then (fulcrumref21_Glue.j1 k1 l0 l1 x6_1 x7_1 t369 t371 (decide (t371 < t369))) else (fulcrumref21_Glue.j1 k1 l0 l1 x6_1 x7_1 t369 t371 false))) = some (r1, r2) := H
      have A10 := Aside0.mk A100
      clear A100
      have HC11 := Aside0.mk H
      clear H
      have p366 : 0 ≤ (x7_1 : Int) := odt
      have q366 : x7_1 < (l1.length : Int) := odt
      obtain ⟨ad366, e366, hx366_0⟩ := Kd.at_int HR1.out x7_1 p366 q366
      cases e366
      replace hx366_0 := (HB.out.cell (World.block_lt_of_cell? w _ hx366_0)).trans hx366_0
      replace p366 := eq_true p366
      replace q366 := eq_true q366
      go_upto_region 9 with (first | ((with_reducible refine gate_callee (f := 49) rfl ?_); refine goesL_ (some 21) rfl rfl Try.func49 (by kernel_rfl) rfl #[.int .i64 (rd l1 x7_1)] rfl (by (try simp only [List.map_toArray, List.map_cons, List.map_nil]); first | done | rfl | (simp only [List.length_drop, List.length_take]; rfl)) ?_; (with_reducible refine (fulcrumref21_literal.calls (rd l1 x7_1) true _ A7.out).mono ?_); rintro e w' ⟨rfl, ⟨nd, rfl⟩⟩; refine ⟨_, rfl, ?_⟩; have p368 : 0 ≤ (x7_1 : Int) := odt; have q368 : x7_1 < (l1.length : Int) := odt; obtain ⟨ad368, e368, hx368_0⟩ := Kd.at_int HR1.out x7_1 p368 q368; obtain rfl : ad366 = ad368 := (by injection e368); replace hx368_0 := (HB.out.cell (World.block_lt_of_cell? w _ hx368_0)).trans hx368_0; replace p368 := eq_true p368; replace q368 := eq_true q368) | ((with_reducible refine gate_callee (f := 50) rfl ?_); refine goesL_ (some 28) rfl rfl Try.func50 (by kernel_rfl) rfl #[.slice A0 l0.length c0, .int .i64 (rd l1 x7_1)] rfl (by (try simp only [List.map_toArray, List.map_cons, List.map_nil]); first | done | rfl | (simp only [List.length_drop, List.length_take]; rfl)) ?_; (with_reducible refine (fulcrumref21_place.calls k1 _ _ l0 (rd l1 x7_1) t369 _ ?side1 ?side2 A9.out).mono ?_); (case side1 => repeat (first | exact (Kd.C_below HR0.out (bel_any HB.out)) | (with_reducible refine Kd.C_alloc ?_ _) | (with_reducible refine Kd.C_drewN ?_ _) | (with_reducible refine Kd.C_drew ?_))); (case side2 => exact HC0.out); rintro e w' ⟨rfl, ⟨nd, rfl⟩⟩; refine ⟨_, rfl, ?_⟩; have p370 : 0 ≤ (x7_1 : Int) := odt; have q370 : x7_1 < (l1.length : Int) := odt; obtain ⟨ad370, e370, hx370_0⟩ := Kd.at_int HR1.out x7_1 p370 q370; obtain rfl : ad366 = ad370 := (by injection e370); replace hx370_0 := (HB.out.cell (World.block_lt_of_cell? w _ hx370_0)).trans hx370_0; replace p370 := eq_true p370; replace q370 := eq_true q370) | ((with_reducible refine gate_callee (f := 50) rfl ?_); refine goesL_ (some 35) rfl rfl Try.func50 (by kernel_rfl) rfl #[.slice A0 l0.length c0, .int .i64 (wrap64 (-(rd l1 x7_1)))] rfl (by (try simp only [List.map_toArray, List.map_cons, List.map_nil]); first | done | rfl | (simp only [List.length_drop, List.length_take]; rfl)) ?_; (with_reducible refine (fulcrumref21_place.calls k1 _ _ l0 (wrap64 (-(rd l1 x7_1))) t371 _ ?side1 ?side2 A10.out).mono ?_); (case side1 => repeat (first | exact (Kd.C_below HR0.out (bel_any HB.out)) | (with_reducible refine Kd.C_alloc ?_ _) | (with_reducible refine Kd.C_drewN ?_ _) | (with_reducible refine Kd.C_drew ?_))); (case side2 => exact HC0.out); rintro e w' ⟨rfl, ⟨nd, rfl⟩⟩; refine ⟨_, rfl, ?_⟩))
      (try simp only [Act.put, List.setIfInBounds_toArray, List.set_cons_zero, List.set_cons_succ])
      go_cut [46] (fun v46 wc => ∃ (kq : Nat) (x46_10 : Bool), v46 = .bool x46_10 ∧ Aside0 (fulcrumref21_Glue.j1 kq l0 l1 x6_1 x7_1 t369 t371 x46_10 = some (r1, r2)) ∧ Aside0 (kq ≤ k1) ∧ Aside0 (Kd.R (Kd.int .i64) 3 wc w.heap.size (fun _ => True) u6 x6_1) ∧ Aside0 (Below w.heap.size w wc))
      case first =>
       have H := HC11.out
       clear HC11
       by_cases c12 : t369 < 0
       ·rw [if_pos c12] at H
        have c12b0 : decide (t369 < 0) = true := decide_eq_true c12
        clear c12
        (first | rw [c12b0] | (simp only [i64_w, i32_w]; rw [c12b0]) | skip)
        have H' := Aside0.mk H
        clear H
        go_wp2
        go_meet
        case rel => exact ⟨_, (true), (by first | rfl | (simp; done) | (simp [*]; done)), H', ⟨by have := HK1.out; first | omega | exact Nat.le_refl _⟩, ⟨R_any HO_6.out⟩, ⟨bel_any HB.out⟩⟩
       ·rw [if_neg c12] at H
        have c12b0 : decide (t369 < 0) = false := decide_eq_false c12
        clear c12
        (first | rw [c12b0] | (simp only [i64_w, i32_w]; rw [c12b0]) | skip)
        by_cases c13 : t371 ≥ 0
        ·rw [if_pos c13] at H
         have c13b0 : decide (0 ≤ t371) = true := decide_eq_true c13
         clear c13
         have H' := Aside0.mk H
         clear H
         go_wp2
         go_meet
         case rel => exact ⟨_, (decide (t371 < t369)), (by first | rfl | (simp; done) | (simp [*]; done)), H', ⟨by have := HK1.out; first | omega | exact Nat.le_refl _⟩, ⟨R_any HO_6.out⟩, ⟨bel_any HB.out⟩⟩
        ·rw [if_neg c13] at H
         have c13b0 : decide (0 ≤ t371) = false := decide_eq_false c13
         clear c13
         have H' := Aside0.mk H
         clear H
         go_wp2
         go_meet
         case rel => exact ⟨_, (false), (by first | rfl | (simp; done) | (simp [*]; done)), H', ⟨by have := HK1.out; first | omega | exact Nat.le_refl _⟩, ⟨R_any HO_6.out⟩, ⟨bel_any HB.out⟩⟩
      case rest =>
       clear HC11
       try clear c1
       try clear c2
       try clear p2
       try clear p3
       try clear q3
       try clear hx3
       try clear c4
       try clear c5
       try clear c5b0
       try clear c6
       try clear c6b0
       try clear p6
       try clear c8
       try clear c12
       try clear c12b0
       try clear c13
       try clear c13b0
       try clear hx366_0
       try clear hx368_0
       try clear hx370_0
       try clear p2
       try clear p366
       try clear p368
       try clear p370
       try clear q366
       try clear q368
       try clear q370
       obtain ⟨kq, x46_10, rfl, HA, HJ10, HO_6, HB⟩ := hcut
       cases kq with
       | zero => exact absurd HA.out (by simp [fulcrumref21_Glue.j1])
       | succ kj10 =>
        have H := HA.out
        clear HA
        simp only [fulcrumref21_Glue.j1] at H
        by_cases c14 : x46_10 = true
        ·subst c14
         have H1 : (if t371 < 0 then (some (0, 210)) else (if 0 ≤ t371 then (if t371 < (l0.length : Int) then (if x6_1.length < 17592186044416 then (fulcrumref21_Glue.l0 kj10 l0 l1 (x6_1 ++ [(rd_T49 l0 t371).f1]) (wrap64 (x7_1 + 1))) else (none)) else (none)) else (none))) = some (r1, r2) := by rw [if_pos rfl] at H; exact H
         clear H
         have H := H1
         clear H1
         by_cases c15 : t371 < 0
         ·rw [if_pos c15] at H
          have c15b0 : decide (t371 < 0) = true := decide_eq_true c15
          clear c15
          simp only [Option.some.injEq, Prod.mk.injEq] at H
          obtain ⟨rfl, rfl⟩ := H
          go_wp2
          go_ret2
          exact ⟨by first | rfl | (simp [errW_none, errW_some] <;> rfl) | (simp [*, errW_none, errW_some] <;> rfl), bel_any HB.out⟩
         ·rw [if_neg c15] at H
          have c15b0 : decide (t371 < 0) = false := decide_eq_false c15
          clear c15
          by_cases c16 : 0 ≤ t371
          ·rw [if_pos c16] at H
           have c16b0 : decide (0 ≤ t371) = true := decide_eq_true c16
           clear c16
           by_cases c17 : t371 < (l0.length : Int)
           ·rw [if_pos c17] at H
            have c17b0 : decide (t371 < (l0.length : Int)) = true := decide_eq_true c17
            clear c17
            by_cases c18 : x6_1.length < 17592186044416
            ·rw [if_pos c18] at H
             have LMc18 := Aside0.mk c18
             clear c18
             obtain ⟨y373, hy373⟩ : ∃ y_ : List Int, y_ = (x6_1 ++ [(rd_T49 l0 t371).f1]) := ⟨_, rfl⟩
             replace H : (fulcrumref21_Glue.l0 kj10 l0 l1 y373 (wrap64 (x7_1 + 1))) = some (r1, r2) := by first | (rw [hy373]; with_reducible exact H) | (have H2_ := (Option.bind_some _ _).symm.trans H; rw [hy373]; with_reducible exact H2_) | (have H2_ := (Option.bind_some _ _).symm.trans H; with_reducible exact H2_) | with_reducible exact H | (rw [hy373]; exact H) | exact H
             have Ny373 := Aside0.mk hy373
             clear hy373
             have H' := Aside0.mk H
             clear H
             have p372 : 0 ≤ (t371 : Int) := odt
             have q372 : t371 < (l0.length : Int) := odt
             obtain ⟨ad372, e372, hx372_0, hx372_1, hx372_2⟩ := at_T49 HR0.out t371 p372 q372
             cases e372
             replace hx372_0 := (HB.out.cell (World.block_lt_of_cell? w _ hx372_0)).trans hx372_0
             replace hx372_1 := (HB.out.cell (World.block_lt_of_cell? w _ hx372_1)).trans hx372_1
             replace hx372_2 := (HB.out.cell (World.block_lt_of_cell? w _ hx372_2)).trans hx372_2
             replace p372 := eq_true p372
             replace q372 := eq_true q372
             go_wp2_with (first | ((with_reducible refine gate_builtin (b := .append) (xs := #[.tmp 50, .tmp 56]) rfl ?_); at_builtin; refine Kd.R_append (Kd.int .i64) (w0 := w) w.heap.size rfl (.tmp 50) (.tmp 56) 27 3 (.int .i64 0) 8 rfl Try.underlying27 info3 rfl (by decide) (by omega) u6 x6_1 ((rd_T49 l0 t371).f1) [.int .i64 ((rd_T49 l0 t371).f1)] (fun _ => True) (fun _ => False) rfl rfl ?aP (fun _ hk => hk.elim) ?aF ?aO ?aB ?aS ?aL ?_; (case aP => exact rfl); (case aB => exact (bel_any HB.out)); (case aF => exact (fun _ _ => trivial)); (case aO => exact (R_any HO_6.out)); (case aS => exact (below_size (bel_any HB.out))); (case aL => have := LMc18.out; omega); intro v374 w19 ho hb hg hat; rw [← Ny373.out] at ho; have n0_ := Aside0.mk (hb); have n1_ := Aside0.mk (ho); clear HB; clear HO_6; have HB := n0_; have HO375 := n1_; clear n0_ n1_; clear ho hb hg hat))
             go_roundg kj10
             case measure => have := HK1.out; have := HJ10.out; omega
             case rel => exact ⟨(y373), (wrap64 (x7_1 + 1)), (by first | rfl | (simp; done) | (simp [*]; done)), H', ⟨by have := HK1.out; have := HJ10.out; omega⟩, ⟨R_any HO375.out⟩, ⟨bel_any HB.out⟩⟩
            ·rw [if_neg c18] at H
             exact absurd H (by simp)
           ·rw [if_neg c17] at H
            exact absurd H (by simp)
          ·rw [if_neg c16] at H
           exact absurd H (by simp)
        ·replace c14 := Bool.eq_false_iff.mpr c14
         subst c14
         have H1 : (if t369 < 0 then (some (0, 210)) else (if 0 ≤ t369 then (if t369 < (l0.length : Int) then (if x6_1.length < 17592186044416 then (fulcrumref21_Glue.l0 kj10 l0 l1 (x6_1 ++ [(rd_T49 l0 t369).f1]) (wrap64 (x7_1 + 1))) else (none)) else (none)) else (none))) = some (r1, r2) := by rw [if_neg (show ¬ (false = true) by decide)] at H; exact H
         clear H
         have H := H1
         clear H1
         by_cases c20 : t369 < 0
         ·rw [if_pos c20] at H
          have c20b0 : decide (t369 < 0) = true := decide_eq_true c20
          clear c20
          simp only [Option.some.injEq, Prod.mk.injEq] at H
          obtain ⟨rfl, rfl⟩ := H
          go_wp2
          go_ret2
          exact ⟨by first | rfl | (simp [errW_none, errW_some] <;> rfl) | (simp [*, errW_none, errW_some] <;> rfl), bel_any HB.out⟩
         ·rw [if_neg c20] at H
          have c20b0 : decide (t369 < 0) = false := decide_eq_false c20
          clear c20
          by_cases c21 : 0 ≤ t369
          ·rw [if_pos c21] at H
           have c21b0 : decide (0 ≤ t369) = true := decide_eq_true c21
           clear c21
           by_cases c22 : t369 < (l0.length : Int)
           ·rw [if_pos c22] at H
            have c22b0 : decide (t369 < (l0.length : Int)) = true := decide_eq_true c22
            clear c22
            by_cases c23 : x6_1.length < 17592186044416
            ·rw [if_pos c23] at H
             have LMc23 := Aside0.mk c23
             clear c23
             obtain ⟨y377, hy377⟩ : ∃ y_ : List Int, y_ = (x6_1 ++ [(rd_T49 l0 t369).f1]) := ⟨_, rfl⟩
             replace H : (fulcrumref21_Glue.l0 kj10 l0 l1 y377 (wrap64 (x7_1 + 1))) = some (r1, r2) := by first | (rw [hy377]; with_reducible exact H) | (have H2_ := (Option.bind_some _ _).symm.trans H; rw [hy377]; with_reducible exact H2_) | (have H2_ := (Option.bind_some _ _).symm.trans H; with_reducible exact H2_) | with_reducible exact H | (rw [hy377]; exact H) | exact H
             have Ny377 := Aside0.mk hy377
             clear hy377
             have H' := Aside0.mk H
             clear H
             have p376 : 0 ≤ (t369 : Int) := odt
             have q376 : t369 < (l0.length : Int) := odt
             obtain ⟨ad376, e376, hx376_0, hx376_1, hx376_2⟩ := at_T49 HR0.out t369 p376 q376
             cases e376
             replace hx376_0 := (HB.out.cell (World.block_lt_of_cell? w _ hx376_0)).trans hx376_0
             replace hx376_1 := (HB.out.cell (World.block_lt_of_cell? w _ hx376_1)).trans hx376_1
             replace hx376_2 := (HB.out.cell (World.block_lt_of_cell? w _ hx376_2)).trans hx376_2
             replace p376 := eq_true p376
             replace q376 := eq_true q376
             go_wp2_with (first | ((with_reducible refine gate_builtin (b := .append) (xs := #[.tmp 50, .tmp 56]) rfl ?_); at_builtin; refine Kd.R_append (Kd.int .i64) (w0 := w) w.heap.size rfl (.tmp 50) (.tmp 56) 27 3 (.int .i64 0) 8 rfl Try.underlying27 info3 rfl (by decide) (by omega) u6 x6_1 ((rd_T49 l0 t369).f1) [.int .i64 ((rd_T49 l0 t369).f1)] (fun _ => True) (fun _ => False) rfl rfl ?aP (fun _ hk => hk.elim) ?aF ?aO ?aB ?aS ?aL ?_; (case aP => exact rfl); (case aB => exact (bel_any HB.out)); (case aF => exact (fun _ _ => trivial)); (case aO => exact (R_any HO_6.out)); (case aS => exact (below_size (bel_any HB.out))); (case aL => have := LMc23.out; omega); intro v378 w24 ho hb hg hat; rw [← Ny377.out] at ho; have n0_ := Aside0.mk (hb); have n1_ := Aside0.mk (ho); clear HB; clear HO_6; have HB := n0_; have HO379 := n1_; clear n0_ n1_; clear ho hb hg hat))
             go_roundg kj10
             case measure => have := HK1.out; have := HJ10.out; omega
             case rel => exact ⟨(y377), (wrap64 (x7_1 + 1)), (by first | rfl | (simp; done) | (simp [*]; done)), H', ⟨by have := HK1.out; have := HJ10.out; omega⟩, ⟨R_any HO379.out⟩, ⟨bel_any HB.out⟩⟩
            ·rw [if_neg c23] at H
             exact absurd H (by simp)
           ·rw [if_neg c22] at H
            exact absurd H (by simp)
          ·rw [if_neg c21] at H
           exact absurd H (by simp)
     ·replace c8 := Bool.eq_false_iff.mpr c8
      subst c8
      have H1 : (some (0, 210)) = some (r1, r2) := by rw [if_neg (show ¬ (false = true) by decide)] at H; exact H
      clear H
      have H := H1
      clear H1
      simp only [Option.some.injEq, Prod.mk.injEq] at H
      obtain ⟨rfl, rfl⟩ := H
      have p366 : 0 ≤ (x7_1 : Int) := odt
      have q366 : x7_1 < (l1.length : Int) := odt
      obtain ⟨ad366, e366, hx366_0⟩ := Kd.at_int HR1.out x7_1 p366 q366
      cases e366
      replace hx366_0 := (HB.out.cell (World.block_lt_of_cell? w _ hx366_0)).trans hx366_0
      replace p366 := eq_true p366
      replace q366 := eq_true q366
      go_wp2_with (first | ((with_reducible refine gate_callee (f := 49) rfl ?_); refine goesL_ (some 21) rfl rfl Try.func49 (by kernel_rfl) rfl #[.int .i64 (rd l1 x7_1)] rfl (by (try simp only [List.map_toArray, List.map_cons, List.map_nil]); first | done | rfl | (simp only [List.length_drop, List.length_take]; rfl)) ?_; (with_reducible refine (fulcrumref21_literal.calls (rd l1 x7_1) false _ A7.out).mono ?_); rintro e w' ⟨rfl, ⟨nd, rfl⟩⟩; refine ⟨_, rfl, ?_⟩))
      go_ret2
      exact ⟨by first | rfl | (simp [errW_none, errW_some] <;> rfl) | (simp [*, errW_none, errW_some] <;> rfl), bel_any HB.out⟩
    ·rw [if_neg c6] at H
     exact absurd H (by simp)
   ·rw [if_neg c5] at H
    have c5b0 : decide (x7_1 < (l1.length : Int)) = false := decide_eq_false c5
    clear c5
    replace H := Option.bind_eq_some_iff.mp H
    obtain ⟨t363, A250, H⟩ := H
    replace H : (some ((t363.length : Int), 0)) = some (r1, r2) := H
    have A25 := Aside0.mk A250
    clear A250
    simp only [Option.some.injEq, Prod.mk.injEq] at H
    obtain ⟨rfl, rfl⟩ := H
    obtain ⟨Ao26, co26, eo26⟩ := Kd.R_slice HO_6.out
    subst eo26
    go_wp2_with (first | ((with_reducible refine gate_callee (f := 43) rfl ?_); refine goesL_ (some 59) rfl rfl Try.func43 (by kernel_rfl) rfl #[.slice Ao26 x6_1.length co26] rfl (by (try simp only [List.map_toArray, List.map_cons, List.map_nil]); first | done | rfl | (simp only [List.length_drop, List.length_take]; rfl)) ?_; (with_reducible refine (fulcrumref21_set.calls k1 _ _ x6_1 t363 _ ?side1 ?side2 A25.out).mono ?_); (case side1 => repeat (first | exact (Kd.R_reads' HO_6.out).2.2 | (with_reducible refine Kd.C_alloc ?_ _) | (with_reducible refine Kd.C_drewN ?_ _) | (with_reducible refine Kd.C_drew ?_))); (case side2 => exact (Kd.R_reads' HO_6.out).2.1); rintro e w27 ⟨v364, rfl, ho0, hb⟩; refine ⟨_, rfl, ?_⟩; have n0_ := Aside0.mk (Kd.R_elder' (R_any HO_6.out) (Kd.R_base ho0) hb); have n1_ := Aside0.mk (Kd.R_lower (Kd.R_new' ho0 (Kd.R_lt (R_any HO_6.out))) (below_size (bel_any HB.out))); have n2_ := Aside0.mk (below_step (bel_any HB.out) hb); clear HO_6; clear HB; have HO_6 := n0_; have HO365 := n1_; have HB := n2_; clear n0_ n1_ n2_; (try clear hb); (try clear hb2); (try clear hk); (try clear hi); (try clear ho0); obtain ⟨Ao28, co28, eo28⟩ := Kd.R_slice HO365.out; subst eo28))
    go_ret2
    exact ⟨by first | rfl | (simp [errW_none, errW_some] <;> rfl) | (simp [*, errW_none, errW_some] <;> rfl), bel_any HB.out⟩
def fulcrumlaw21_AnalyseGlues.f (k : Nat) (l0 : List (S49)) (l1 : List Int) : Option (Bool) := (fulcrumlaw21_marks.f k l0).bind fun t380 => ((fulcrumlaw21_ints.f k l1).bind fun t383 => ((analyse_Glue.f t380 t383).bind fun bt386 => ((fulcrumref21_Glue.f k l0 l1).bind fun bt388 => ((fulcrumlaw21_lives.f k).bind fun t390 => (if t390 = true then (if bt386.1 = bt388.1 then (some (bt386.2 == bt388.2)) else (some false)) else (some false))))))
theorem fulcrumlaw21_AnalyseGlues.mono : ∀ a0 a1 k, LeO (fulcrumlaw21_AnalyseGlues.f k a0 a1) (fulcrumlaw21_AnalyseGlues.f (k + 1) a0 a1) := by
 intro a0 a1 k
 unfold fulcrumlaw21_AnalyseGlues.f
 repeat' first
   | (with_reducible exact fulcrumlaw21_ints.mono _ _)
   | (with_reducible exact fulcrumlaw21_lives.mono _)
   | (with_reducible exact fulcrumlaw21_marks.mono _ _)
   | (with_reducible exact fulcrumref21_Glue.mono _ _ _)
   | (with_reducible exact LeO.refl _)
   | (with_reducible exact LeO.none _)
   | (with_reducible refine LeO.ite ?_ ?_)
   | (with_reducible refine LeO.bind ?_ (fun _ => ?_))
   | exact fulcrumlaw21_ints.mono _ _
   | exact fulcrumlaw21_lives.mono _
   | exact fulcrumlaw21_marks.mono _ _
   | exact fulcrumref21_Glue.mono _ _ _
   | exact LeO.none _
   | refine LeO.ite ?_ ?_
   | refine LeO.bind ?_ (fun _ => ?_)
set_option maxHeartbeats 8000000 in
set_option maxRecDepth 100000 in
theorem fulcrumlaw21_AnalyseGlues.calls (k : Nat) (A0 : Option Addr) (c0 : Nat) (l0 : List (S49)) (A1 : Option Addr) (c1 : Nat) (l1 : List Int) (r : Bool) (w : World) (hr0 : Kd.C k49 w A0 l0.length l0) (hc0 : l0.length ≤ c0) (hr1 : Kd.C (Kd.int .i64) w A1 l1.length l1) (hc1 : l1.length ≤ c1) (h : fulcrumlaw21_AnalyseGlues.f k l0 l1 = some r) (hr_ : r = true := by rfl) :
  Calls Try.prog 6 #[.slice A0 l0.length c0, .slice A1 l1.length c1] w fun e w' => e = .returned (.bool r) ∧ Below w.heap.size w w' := by
 have HR0 := Aside0.mk hr0
 have HC0 := Aside0.mk hc0
 clear hr0 hc0
 have HR1 := Aside0.mk hr1
 have HC1 := Aside0.mk hc1
 clear hr1 hc1
 have HB := Aside0.mk (Below.refl w.heap.size w)
 have H : ((fulcrumlaw21_marks.f k l0).bind fun t380 => ((fulcrumlaw21_ints.f k l1).bind fun t383 => ((analyse_Glue.f t380 t383).bind fun bt386 => ((fulcrumref21_Glue.f k l0 l1).bind fun bt388 => ((fulcrumlaw21_lives.f k).bind fun t390 => (if t390 = true then (if bt386.1 = bt388.1 then (some (bt386.2 == bt388.2)) else (some false)) else (some false))))))) = some r := h
 clear h
 replace H := Option.bind_eq_some_iff.mp H
 obtain ⟨t380, A30, H⟩ := H
 replace H : ((fulcrumlaw21_ints.f k l1).bind fun t383 => ((analyse_Glue.f t380 t383).bind fun bt386 => ((fulcrumref21_Glue.f k l0 l1).bind fun bt388 => ((fulcrumlaw21_lives.f k).bind fun t390 => (if t390 = true then (if bt386.1 = bt388.1 then (some (bt386.2 == bt388.2)) else (some false)) else (some false)))))) = some r := H
 have A3 := Aside0.mk A30
 clear A30
 replace H := Option.bind_eq_some_iff.mp H
 obtain ⟨t383, A40, H⟩ := H
 replace H : ((analyse_Glue.f t380 t383).bind fun bt386 => ((fulcrumref21_Glue.f k l0 l1).bind fun bt388 => ((fulcrumlaw21_lives.f k).bind fun t390 => (if t390 = true then (if bt386.1 = bt388.1 then (some (bt386.2 == bt388.2)) else (some false)) else (some false))))) = some r := H
 have A4 := Aside0.mk A40
 clear A40
 replace H := Option.bind_eq_some_iff.mp H
 obtain ⟨⟨t386, t387⟩, A50, H⟩ := H
 replace H : ((fulcrumref21_Glue.f k l0 l1).bind fun bt388 => ((fulcrumlaw21_lives.f k).bind fun t390 => (if t390 = true then (if t386 = bt388.1 then (some (t387 == bt388.2)) else (some false)) else (some false)))) = some r := H
 have A5 := Aside0.mk A50
 clear A50
 replace H := Option.bind_eq_some_iff.mp H
 obtain ⟨⟨t388, t389⟩, A60, H⟩ := H
 replace H : ((fulcrumlaw21_lives.f k).bind fun t390 => (if t390 = true then (if t386 = t388 then (some (t387 == t389)) else (some false)) else (some false))) = some r := H
 have A6 := Aside0.mk A60
 clear A60
 replace H := Option.bind_eq_some_iff.mp H
 obtain ⟨t390, A70, H⟩ := H
 replace H : (if t390 = true then (if t386 = t388 then (some (t387 == t389)) else (some false)) else (some false)) = some r := H
 have A7 := Aside0.mk A70
 clear A70
 by_cases c8 : t390 = true
 ·subst c8
  have H1 : (if t386 = t388 then (some (t387 == t389)) else (some false)) = some r := by rw [if_pos rfl] at H; exact H
  clear H
  have H := H1
  clear H1
  by_cases c9 : t386 = t388
  ·rw [if_pos c9] at H
   have c9b0 : (t386 == t388) = true := beq_iff_eq.mpr c9
   have c9b1 : (t386 != t388) = false := bne_eq_false_iff_eq.mpr c9
   clear c9
   obtain rfl := Option.some.inj H
   clear hr_
   go_enter Try.func6, Try.ntmps6
   go_wp2_with (first | ((with_reducible refine gate_callee (f := 17) rfl ?_); refine goesL_ (some 11) rfl rfl Try.func17 (by kernel_rfl) rfl #[.slice A0 l0.length c0] rfl (by (try simp only [List.map_toArray, List.map_cons, List.map_nil]); first | done | rfl | (simp only [List.length_drop, List.length_take]; rfl)) ?_; (with_reducible refine (fulcrumlaw21_marks.calls k _ _ l0 t380 _ ?side1 ?side2 A3.out).mono ?_); (case side1 => repeat (first | exact HR0.out | (with_reducible refine Kd.C_alloc ?_ _) | (with_reducible refine Kd.C_drewN ?_ _) | (with_reducible refine Kd.C_drew ?_))); (case side2 => exact HC0.out); rintro e w10 ⟨v381, rfl, ho0, hb⟩; refine ⟨_, rfl, ?_⟩; have n0_ := Aside0.mk (Kd.R_lower ho0 (below_size (bel_any HB.out))); have n1_ := Aside0.mk (below_step (bel_any HB.out) hb); clear HB; have HO382 := n0_; have HB := n1_; clear n0_ n1_; (try clear hb); (try clear hb2); (try clear hk); (try clear hi); (try clear ho0)) | ((with_reducible refine gate_callee (f := 23) rfl ?_); refine goesL_ (some 13) rfl rfl Try.func23 (by kernel_rfl) rfl #[.slice A1 l1.length c1] rfl (by (try simp only [List.map_toArray, List.map_cons, List.map_nil]); first | done | rfl | (simp only [List.length_drop, List.length_take]; rfl)) ?_; (with_reducible refine (fulcrumlaw21_ints.calls k _ _ l1 t383 _ ?side1 ?side2 A4.out).mono ?_); (case side1 => repeat (first | exact (Kd.C_below HR1.out HB.out) | (with_reducible refine Kd.C_alloc ?_ _) | (with_reducible refine Kd.C_drewN ?_ _) | (with_reducible refine Kd.C_drew ?_))); (case side2 => exact HC1.out); rintro e w11 ⟨v384, rfl, ho0, hb⟩; refine ⟨_, rfl, ?_⟩; have n0_ := Aside0.mk (Kd.R_below (R_any HO382.out) hb); have n1_ := Aside0.mk (Kd.R_lower ho0 (below_size (bel_any HB.out))); have n2_ := Aside0.mk (below_step (bel_any HB.out) hb); clear HO382; clear HB; have HO382 := n0_; have HO385 := n1_; have HB := n2_; clear n0_ n1_ n2_; (try clear hb); (try clear hb2); (try clear hk); (try clear hi); (try clear ho0); obtain ⟨Ao12, co12, eo12⟩ := Kd.R_slice HO382.out; subst eo12; obtain ⟨Ao13, co13, eo13⟩ := Kd.R_slice HO385.out; subst eo13) | ((with_reducible refine gate_callee (f := 22) rfl ?_); refine goesL_ (some 14) rfl rfl Try.func22 (by kernel_rfl) rfl #[.slice Ao12 t380.length co12, .slice Ao13 t383.length co13] rfl (by (try simp only [List.map_toArray, List.map_cons, List.map_nil]); first | done | rfl | (simp only [List.length_drop, List.length_take]; rfl)) ?_; (with_reducible refine (analyse_Glue.calls _ _ t380 _ _ t383 t386 t387 _ ?side1 ?side2 ?side3 ?side4 A5.out).mono ?_); (case side1 => repeat (first | exact (Kd.R_reads' HO382.out).2.2 | (with_reducible refine Kd.C_alloc ?_ _) | (with_reducible refine Kd.C_drewN ?_ _) | (with_reducible refine Kd.C_drew ?_))); (case side2 => exact (Kd.R_reads' HO382.out).2.1); (case side3 => repeat (first | exact (Kd.R_reads' HO385.out).2.2 | (with_reducible refine Kd.C_alloc ?_ _) | (with_reducible refine Kd.C_drewN ?_ _) | (with_reducible refine Kd.C_drew ?_))); (case side4 => exact (Kd.R_reads' HO385.out).2.1); rintro e w14 ⟨rfl, hb⟩; refine ⟨_, rfl, ?_⟩; have n0_ := Aside0.mk (Kd.R_below (R_any HO382.out) hb); have n1_ := Aside0.mk (Kd.R_below (R_any HO385.out) hb); have n2_ := Aside0.mk (below_step (bel_any HB.out) hb); clear HO382; clear HO385; clear HB; have HO382 := n0_; have HO385 := n1_; have HB := n2_; clear n0_ n1_ n2_; (try clear hb); (try clear hb2); (try clear hk); (try clear hi)) | ((with_reducible refine gate_callee (f := 24) rfl ?_); refine goesL_ (some 20) rfl rfl Try.func24 (by kernel_rfl) rfl #[.slice A0 l0.length c0, .slice A1 l1.length c1] rfl (by (try simp only [List.map_toArray, List.map_cons, List.map_nil]); first | done | rfl | (simp only [List.length_drop, List.length_take]; rfl)) ?_; (with_reducible refine (fulcrumref21_Glue.calls k _ _ l0 _ _ l1 t388 t389 _ ?side1 ?side2 ?side3 ?side4 A6.out).mono ?_); (case side1 => repeat (first | exact (Kd.C_below HR0.out HB.out) | (with_reducible refine Kd.C_alloc ?_ _) | (with_reducible refine Kd.C_drewN ?_ _) | (with_reducible refine Kd.C_drew ?_))); (case side2 => exact HC0.out); (case side3 => repeat (first | exact (Kd.C_below HR1.out HB.out) | (with_reducible refine Kd.C_alloc ?_ _) | (with_reducible refine Kd.C_drewN ?_ _) | (with_reducible refine Kd.C_drew ?_))); (case side4 => exact HC1.out); rintro e w15 ⟨rfl, hb⟩; refine ⟨_, rfl, ?_⟩; have n0_ := Aside0.mk (Kd.R_below (R_any HO382.out) hb); have n1_ := Aside0.mk (Kd.R_below (R_any HO385.out) hb); have n2_ := Aside0.mk (below_step (bel_any HB.out) hb); clear HO382; clear HO385; clear HB; have HO382 := n0_; have HO385 := n1_; have HB := n2_; clear n0_ n1_ n2_; (try clear hb); (try clear hb2); (try clear hk); (try clear hi)) | ((with_reducible refine gate_callee (f := 14) rfl ?_); refine goesL_ (some 23) rfl rfl Try.func14 (by kernel_rfl) rfl #[] rfl (by (try simp only [List.map_toArray, List.map_cons, List.map_nil]); first | done | rfl | (simp only [List.length_drop, List.length_take]; rfl)) ?_; (with_reducible refine (fulcrumlaw21_lives.calls k  true _ A7.out).mono ?_); rintro e w16 ⟨rfl, hb⟩; refine ⟨_, rfl, ?_⟩; have n0_ := Aside0.mk (Kd.R_below (R_any HO382.out) hb); have n1_ := Aside0.mk (Kd.R_below (R_any HO385.out) hb); have n2_ := Aside0.mk (below_step (bel_any HB.out) hb); clear HO382; clear HO385; clear HB; have HO382 := n0_; have HO385 := n1_; have HB := n2_; clear n0_ n1_ n2_; (try clear hb); (try clear hb2); (try clear hk); (try clear hi)))
   go_ret
   exact ⟨by first | rfl | (simp [errW_none, errW_some] <;> rfl) | (simp [*, errW_none, errW_some] <;> rfl), bel_any HB.out⟩
  ·rw [if_neg c9] at H
   exact absurd (H.trans (congrArg some hr_)) (by simp)
 ·replace c8 := Bool.eq_false_iff.mpr c8
  subst c8
  have H1 : (some false) = some r := by rw [if_neg (show ¬ (false = true) by decide)] at H; exact H
  exact absurd (H1.trans (congrArg some hr_)) (by simp)
end Go.Proofs.Ytboalbiicmcljaa.PAN
