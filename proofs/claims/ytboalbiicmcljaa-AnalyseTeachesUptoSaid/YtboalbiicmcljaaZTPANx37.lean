import Derived.Test.YtboalbiicmcljaaZTPANx0
import Derived.Test.YtboalbiicmcljaaZTPANx12
namespace Go.Proofs.Ytboalbiicmcljaa.PAN
open Go.Proofs.YtboalbiicmcljaaH
open Go.RowKit Go.Proofs.YtboalbiicmcljaaW.PrintWords Go.Proofs.YtboalbiicmcljaaW.PrintLast Go.Proofs.YtboalbiicmcljaaW.PrintMore
attribute [local go_sem] max2_int min2_int max_two min_two max_three min_three max_four min_four   -- for this text's walks alone
set_option linter.unusedVariables false
set_option linter.unusedSimpArgs false
def fulcrumref21_Ahead.f (a0 : Int) (a1 : Int) : Option (Bool) := if a0 < 0 then (if a1 < 0 then (if (wrap64 (-a0)) < (wrap64 (-a1)) then (some true) else (if (wrap64 (-a0)) = (wrap64 (-a1)) then (some (decide (a0 > a1))) else (some false))) else (if (wrap64 (-a0)) < a1 then (some true) else (if (wrap64 (-a0)) = a1 then (some (decide (a0 > a1))) else (some false)))) else (if a1 < 0 then (if a0 < (wrap64 (-a1)) then (some true) else (if a0 = (wrap64 (-a1)) then (some (decide (a0 > a1))) else (some false))) else (if a0 < a1 then (some true) else (if a0 = a1 then (some (decide (a0 > a1))) else (some false))))
set_option maxHeartbeats 8000000 in
set_option maxRecDepth 100000 in
theorem fulcrumref21_Ahead.calls (a0 : Int) (a1 : Int) (r : Bool) (w : World) (h : fulcrumref21_Ahead.f a0 a1 = some r) :
  Calls Try.prog 77 #[.int .i64 a0, .int .i64 a1] w fun e w' => e = .returned (.bool r) ∧ Drawn0 w w' := by
 have H : (if a0 < 0 then (if a1 < 0 then (if (wrap64 (-a0)) < (wrap64 (-a1)) then (some true) else (if (wrap64 (-a0)) = (wrap64 (-a1)) then (some (decide (a0 > a1))) else (some false))) else (if (wrap64 (-a0)) < a1 then (some true) else (if (wrap64 (-a0)) = a1 then (some (decide (a0 > a1))) else (some false)))) else (if a1 < 0 then (if a0 < (wrap64 (-a1)) then (some true) else (if a0 = (wrap64 (-a1)) then (some (decide (a0 > a1))) else (some false))) else (if a0 < a1 then (some true) else (if a0 = a1 then (some (decide (a0 > a1))) else (some false))))) = some r := h
 clear h
 by_cases c3 : a0 < 0
 ·rw [if_pos c3] at H
  have c3b0 : decide (a0 < 0) = true := decide_eq_true c3
  clear c3
  by_cases c4 : a1 < 0
  ·rw [if_pos c4] at H
   have c4b0 : decide (a1 < 0) = true := decide_eq_true c4
   clear c4
   by_cases c5 : (wrap64 (-a0)) < (wrap64 (-a1))
   ·rw [if_pos c5] at H
    have c5b0 : decide ((wrap64 (-a0)) < (wrap64 (-a1))) = true := decide_eq_true c5
    clear c5
    obtain rfl := Option.some.inj H
    go_enter Try.func77, Try.ntmps77
    go_wp2
    go_ret
    exact ⟨by first | rfl | (simp; done) | (simp [*]; done), by repeat (first | exact Drawn0.refl _ | apply Drawn0.step)⟩
   ·rw [if_neg c5] at H
    have c5b0 : decide ((wrap64 (-a0)) < (wrap64 (-a1))) = false := decide_eq_false c5
    clear c5
    by_cases c6 : (wrap64 (-a0)) = (wrap64 (-a1))
    ·rw [if_pos c6] at H
     have c6b0 : ((wrap64 (-a0)) == (wrap64 (-a1))) = true := beq_iff_eq.mpr c6
     have c6b1 : ((wrap64 (-a0)) != (wrap64 (-a1))) = false := bne_eq_false_iff_eq.mpr c6
     clear c6
     obtain rfl := Option.some.inj H
     go_enter Try.func77, Try.ntmps77
     go_wp2
     go_ret
     exact ⟨by first | rfl | (simp; done) | (simp [*]; done), by repeat (first | exact Drawn0.refl _ | apply Drawn0.step)⟩
    ·rw [if_neg c6] at H
     have c6b0 : ((wrap64 (-a0)) == (wrap64 (-a1))) = false := beq_eq_false_iff_ne.mpr c6
     have c6b1 : ((wrap64 (-a0)) != (wrap64 (-a1))) = true := bne_iff_ne.mpr c6
     obtain rfl := Option.some.inj H
     go_enter Try.func77, Try.ntmps77
     go_wp2
     go_ret
     exact ⟨by first | rfl | (simp; done) | (simp [*]; done), by repeat (first | exact Drawn0.refl _ | apply Drawn0.step)⟩
  ·rw [if_neg c4] at H
   have c4b0 : decide (a1 < 0) = false := decide_eq_false c4
   clear c4
   by_cases c7 : (wrap64 (-a0)) < a1
   ·rw [if_pos c7] at H
    have c7b0 : decide ((wrap64 (-a0)) < a1) = true := decide_eq_true c7
    clear c7
    obtain rfl := Option.some.inj H
    go_enter Try.func77, Try.ntmps77
    go_wp2
    go_ret
    exact ⟨by first | rfl | (simp; done) | (simp [*]; done), by repeat (first | exact Drawn0.refl _ | apply Drawn0.step)⟩
   ·rw [if_neg c7] at H
    have c7b0 : decide ((wrap64 (-a0)) < a1) = false := decide_eq_false c7
    clear c7
    by_cases c8 : (wrap64 (-a0)) = a1
    ·rw [if_pos c8] at H
     have c8b0 : ((wrap64 (-a0)) == a1) = true := beq_iff_eq.mpr c8
     have c8b1 : ((wrap64 (-a0)) != a1) = false := bne_eq_false_iff_eq.mpr c8
     clear c8
     obtain rfl := Option.some.inj H
     go_enter Try.func77, Try.ntmps77
     go_wp2
     go_ret
     exact ⟨by first | rfl | (simp; done) | (simp [*]; done), by repeat (first | exact Drawn0.refl _ | apply Drawn0.step)⟩
    ·rw [if_neg c8] at H
     have c8b0 : ((wrap64 (-a0)) == a1) = false := beq_eq_false_iff_ne.mpr c8
     have c8b1 : ((wrap64 (-a0)) != a1) = true := bne_iff_ne.mpr c8
     obtain rfl := Option.some.inj H
     go_enter Try.func77, Try.ntmps77
     go_wp2
     go_ret
     exact ⟨by first | rfl | (simp; done) | (simp [*]; done), by repeat (first | exact Drawn0.refl _ | apply Drawn0.step)⟩
 ·rw [if_neg c3] at H
  have c3b0 : decide (a0 < 0) = false := decide_eq_false c3
  clear c3
  by_cases c9 : a1 < 0
  ·rw [if_pos c9] at H
   have c9b0 : decide (a1 < 0) = true := decide_eq_true c9
   clear c9
   by_cases c10 : a0 < (wrap64 (-a1))
   ·rw [if_pos c10] at H
    have c10b0 : decide (a0 < (wrap64 (-a1))) = true := decide_eq_true c10
    clear c10
    obtain rfl := Option.some.inj H
    go_enter Try.func77, Try.ntmps77
    go_wp2
    go_ret
    exact ⟨by first | rfl | (simp; done) | (simp [*]; done), by repeat (first | exact Drawn0.refl _ | apply Drawn0.step)⟩
   ·rw [if_neg c10] at H
    have c10b0 : decide (a0 < (wrap64 (-a1))) = false := decide_eq_false c10
    clear c10
    by_cases c11 : a0 = (wrap64 (-a1))
    ·rw [if_pos c11] at H
     have c11b0 : (a0 == (wrap64 (-a1))) = true := beq_iff_eq.mpr c11
     have c11b1 : (a0 != (wrap64 (-a1))) = false := bne_eq_false_iff_eq.mpr c11
     clear c11
     obtain rfl := Option.some.inj H
     go_enter Try.func77, Try.ntmps77
     go_wp2
     go_ret
     exact ⟨by first | rfl | (simp; done) | (simp [*]; done), by repeat (first | exact Drawn0.refl _ | apply Drawn0.step)⟩
    ·rw [if_neg c11] at H
     have c11b0 : (a0 == (wrap64 (-a1))) = false := beq_eq_false_iff_ne.mpr c11
     have c11b1 : (a0 != (wrap64 (-a1))) = true := bne_iff_ne.mpr c11
     obtain rfl := Option.some.inj H
     go_enter Try.func77, Try.ntmps77
     go_wp2
     go_ret
     exact ⟨by first | rfl | (simp; done) | (simp [*]; done), by repeat (first | exact Drawn0.refl _ | apply Drawn0.step)⟩
  ·rw [if_neg c9] at H
   have c9b0 : decide (a1 < 0) = false := decide_eq_false c9
   clear c9
   by_cases c12 : a0 < a1
   ·rw [if_pos c12] at H
    have c12b0 : decide (a0 < a1) = true := decide_eq_true c12
    clear c12
    obtain rfl := Option.some.inj H
    go_enter Try.func77, Try.ntmps77
    go_wp2
    go_ret
    exact ⟨by first | rfl | (simp; done) | (simp [*]; done), by repeat (first | exact Drawn0.refl _ | apply Drawn0.step)⟩
   ·rw [if_neg c12] at H
    have c12b0 : decide (a0 < a1) = false := decide_eq_false c12
    clear c12
    by_cases c13 : a0 = a1
    ·rw [if_pos c13] at H
     have c13b0 : (a0 == a1) = true := beq_iff_eq.mpr c13
     have c13b1 : (a0 != a1) = false := bne_eq_false_iff_eq.mpr c13
     clear c13
     obtain rfl := Option.some.inj H
     go_enter Try.func77, Try.ntmps77
     go_wp2
     go_ret
     exact ⟨by first | rfl | (simp; done) | (simp [*]; done), by repeat (first | exact Drawn0.refl _ | apply Drawn0.step)⟩
    ·rw [if_neg c13] at H
     have c13b0 : (a0 == a1) = false := beq_eq_false_iff_ne.mpr c13
     have c13b1 : (a0 != a1) = true := bne_iff_ne.mpr c13
     obtain rfl := Option.some.inj H
     go_enter Try.func77, Try.ntmps77
     go_wp2
     go_ret
     exact ⟨by first | rfl | (simp; done) | (simp [*]; done), by repeat (first | exact Drawn0.refl _ | apply Drawn0.step)⟩
mutual
def fulcrumref21_Sorted.l0 : Nat → List Int → List Int → Option (List Int)
 | 0, _, _ => none
 | k + 1, x3, x4 => if (x4.length : Int) > 0 then (if 0 < (x4.length : Int) then (fulcrumref21_Sorted.l1 k x3 x4 (rd x4 0) 1) else (none)) else (some x3)
def fulcrumref21_Sorted.l1 : Nat → List Int → List Int → Int → Int → Option (List Int)
 | 0, _, _, _, _ => none
 | k + 1, x3, x4, x5, x6 => if x6 < (x4.length : Int) then (if 0 ≤ x6 then ((fulcrumref21_Ahead.f (rd x4 x6) x5).bind fun t672 => (if t672 = true then (fulcrumref21_Sorted.l1 k x3 x4 (rd x4 x6) (wrap64 (x6 + 1))) else (fulcrumref21_Sorted.l1 k x3 x4 x5 (wrap64 (x6 + 1))))) else (none)) else (if x3.length < 17592186044416 then ((fulcrumref21_without.f k x4 x5).bind fun t677 => (fulcrumref21_Sorted.l0 k (x3 ++ [x5]) t677)) else (none))
end
def fulcrumref21_Sorted.f (k : Nat) (l0 : List Int) : Option (List Int) := (fulcrumref21_set.f k l0).bind fun t667 => (fulcrumref21_Sorted.l0 k (([] : List Int)) t667)
theorem fulcrumref21_Sorted.mono_l : ∀ k, (∀ y0 y1, LeO (fulcrumref21_Sorted.l0 k y0 y1) (fulcrumref21_Sorted.l0 (k + 1) y0 y1)) ∧ (∀ y0 y1 y2 y3, LeO (fulcrumref21_Sorted.l1 k y0 y1 y2 y3) (fulcrumref21_Sorted.l1 (k + 1) y0 y1 y2 y3))
 | 0 => ⟨fun _ _ r h => by simp [fulcrumref21_Sorted.l0] at h, fun _ _ _ _ r h => by simp [fulcrumref21_Sorted.l1] at h⟩
 | k + 1 => by
  obtain ⟨ih0, ih1⟩ := fulcrumref21_Sorted.mono_l k
  refine ⟨?_, ?_⟩
  ·intro y0 y1
   unfold fulcrumref21_Sorted.l0
   repeat' first
   | (with_reducible exact ih0 _ _)
   | (with_reducible exact ih1 _ _ _ _)
   | (with_reducible exact fulcrumref21_set.mono _ _)
   | (with_reducible exact fulcrumref21_without.mono _ _ _)
   | (with_reducible exact LeO.refl _)
   | (with_reducible exact LeO.none _)
   | (with_reducible refine LeO.ite ?_ ?_)
   | (with_reducible refine LeO.bind ?_ (fun _ => ?_))
   | exact ih0 _ _
   | exact ih1 _ _ _ _
   | exact fulcrumref21_set.mono _ _
   | exact fulcrumref21_without.mono _ _ _
   | exact LeO.none _
   | refine LeO.ite ?_ ?_
   | refine LeO.bind ?_ (fun _ => ?_)
  ·intro y0 y1 y2 y3
   unfold fulcrumref21_Sorted.l1
   repeat' first
   | (with_reducible exact ih0 _ _)
   | (with_reducible exact ih1 _ _ _ _)
   | (with_reducible exact fulcrumref21_set.mono _ _)
   | (with_reducible exact fulcrumref21_without.mono _ _ _)
   | (with_reducible exact LeO.refl _)
   | (with_reducible exact LeO.none _)
   | (with_reducible refine LeO.ite ?_ ?_)
   | (with_reducible refine LeO.bind ?_ (fun _ => ?_))
   | exact ih0 _ _
   | exact ih1 _ _ _ _
   | exact fulcrumref21_set.mono _ _
   | exact fulcrumref21_without.mono _ _ _
   | exact LeO.none _
   | refine LeO.ite ?_ ?_
   | refine LeO.bind ?_ (fun _ => ?_)
theorem fulcrumref21_Sorted.mono : ∀ a0 k, LeO (fulcrumref21_Sorted.f k a0) (fulcrumref21_Sorted.f (k + 1) a0) := by
 intro a0 k
 obtain ⟨ih0, ih1⟩ := fulcrumref21_Sorted.mono_l k
 unfold fulcrumref21_Sorted.f
 repeat' first
   | (with_reducible exact ih0 _ _)
   | (with_reducible exact ih1 _ _ _ _)
   | (with_reducible exact fulcrumref21_set.mono _ _)
   | (with_reducible exact fulcrumref21_without.mono _ _ _)
   | (with_reducible exact LeO.refl _)
   | (with_reducible exact LeO.none _)
   | (with_reducible refine LeO.ite ?_ ?_)
   | (with_reducible refine LeO.bind ?_ (fun _ => ?_))
   | exact ih0 _ _
   | exact ih1 _ _ _ _
   | exact fulcrumref21_set.mono _ _
   | exact fulcrumref21_without.mono _ _ _
   | exact LeO.none _
   | refine LeO.ite ?_ ?_
   | refine LeO.bind ?_ (fun _ => ?_)
set_option maxHeartbeats 8000000 in
set_option maxRecDepth 100000 in
theorem fulcrumref21_Sorted.calls (k : Nat) (A0 : Option Addr) (c0 : Nat) (l0 : List Int) (r : List Int) (w : World) (hr0 : Kd.C (Kd.int .i64) w A0 l0.length l0) (hc0 : l0.length ≤ c0) (h : fulcrumref21_Sorted.f k l0 = some r) :
  Calls Try.prog 67 #[.slice A0 l0.length c0] w fun e w' => ∃ v0_ : Value, e = .returned (v0_) ∧ Kd.R (Kd.int .i64) 3 w' w.heap.size (fun _ => True) v0_ r ∧ Below w.heap.size w w' := by
 have HR0 := Aside0.mk hr0
 have HC0 := Aside0.mk hc0
 clear hr0 hc0
 have HB := Aside0.mk (Below.refl w.heap.size w)
 have H : ((fulcrumref21_set.f k l0).bind fun t667 => (fulcrumref21_Sorted.l0 k (([] : List Int)) t667)) = some r := h
 clear h
 obtain ⟨y664, hy664⟩ : ∃ y_ : List Int, y_ = (([] : List Int)) := ⟨_, rfl⟩
 replace H : ((fulcrumref21_set.f k l0).bind fun t667 => (fulcrumref21_Sorted.l0 k y664 t667)) = some r := by first | (rw [hy664]; with_reducible exact H) | (have H2_ := (Option.bind_some _ _).symm.trans H; rw [hy664]; with_reducible exact H2_) | (have H2_ := (Option.bind_some _ _).symm.trans H; with_reducible exact H2_) | with_reducible exact H | (rw [hy664]; exact H) | exact H
 have Ny664 := Aside0.mk hy664
 clear hy664
 replace H := Option.bind_eq_some_iff.mp H
 obtain ⟨t667, A20, H⟩ := H
 replace H : (fulcrumref21_Sorted.l0 k y664 t667) = some r := H
 have A2 := Aside0.mk A20
 clear A20
 have H' := Aside0.mk H
 clear H
 go_enter Try.func67, Try.ntmps67
 go_wp2_with (first | ((with_reducible refine gate_dst (N := 7) rfl ?_); refine Kd.R_lit (Kd.int .i64) _ 3 ?hg (N := 7) ?hd (xs := ([] : List Int)) (inner := []) (ok := fun _ => True) (okp := fun _ => True) ?hr ?hp (fun _ hk => hk) trivial (Below.refl _ _) (Nat.le_refl _) (by simp) ?_; (case hd => rfl); (case hg => rfl); (case hr => first | (go_simp; done) | (go_simp; rfl)); (case hp => exact (Reps.none _ _)); intro v665 w3 ho4 hb hg_ hnew_; clear hg_ hnew_; (first | rw [← Ny664.out] at ho4 | (simp only [Int.reduceToNat] at ho4; rw [← Ny664.out] at ho4)); have n0_ := Aside0.mk (Kd.R_lower ho4 (below_size (bel_any HB.out))); have n1_ := Aside0.mk (below_step (bel_any HB.out) hb); clear HB; have HO666 := n0_; have HB := n1_; clear n0_ n1_; clear hb ho4) | ((with_reducible refine gate_callee (f := 43) rfl ?_); refine goesL_ (some 9) rfl rfl Try.func43 (by kernel_rfl) rfl #[.slice A0 l0.length c0] rfl (by (try simp only [List.map_toArray, List.map_cons, List.map_nil]); first | done | rfl | (simp only [List.length_drop, List.length_take]; rfl)) ?_; (with_reducible refine (fulcrumref21_set.calls k _ _ l0 t667 _ ?side1 ?side2 A2.out).mono ?_); (case side1 => repeat (first | exact (Kd.C_below HR0.out HB.out) | (with_reducible refine Kd.C_alloc ?_ _) | (with_reducible refine Kd.C_drewN ?_ _) | (with_reducible refine Kd.C_drew ?_))); (case side2 => exact HC0.out); rintro e w5 ⟨v668, rfl, ho0, hb⟩; refine ⟨_, rfl, ?_⟩; have n0_ := Aside0.mk (Kd.R_elder' (R_any HO666.out) (Kd.R_base ho0) hb); have n1_ := Aside0.mk (Kd.R_lower (Kd.R_new' ho0 (Kd.R_lt (R_any HO666.out))) (below_size (bel_any HB.out))); have n2_ := Aside0.mk (below_step (bel_any HB.out) hb); clear HO666; clear HB; have HO666 := n0_; have HO669 := n1_; have HB := n2_; clear n0_ n1_ n2_; (try clear hb); (try clear hb2); (try clear hk); (try clear hi); (try clear ho0)))
 go_loopg [3, 4] k (fun kq v3 v4 w' => ∃ (x3_1 : List Int) (x4_1 : List Int), Aside0 (fulcrumref21_Sorted.l0 kq x3_1 x4_1 = some r) ∧ Aside0 (kq ≤ k) ∧ Aside0 (Kd.R (Kd.int .i64) 3 w' w.heap.size (fun k_ => some k_ ≠ (v4 : Value).ownBlock) v3 x3_1) ∧ Aside0 (Kd.R (Kd.int .i64) 3 w' w.heap.size (fun k_ => some k_ ≠ (v3 : Value).ownBlock) v4 x4_1) ∧ Aside0 (Below w.heap.size w w'))
 case atStart => exact ⟨(y664), (t667), H', ⟨Nat.le_refl _⟩, ⟨by (with_reducible repeat (first | apply Kd.R_alloc | apply Kd.R_drewN | apply Kd.R_drew)); exact Kd.R_mono HO666.out (fun _ hk => hk.2)⟩, ⟨by (with_reducible repeat (first | apply Kd.R_alloc | apply Kd.R_drewN | apply Kd.R_drew)); exact Kd.R_mono HO669.out (fun _ hk => hk.2)⟩, ⟨bel_any HB.out⟩⟩
 case round =>
  clear H'
  try clear p2
  try clear c4
  obtain ⟨x3_1, x4_1, HA, HK1, HO_3, HO_4, HB⟩ := hrel
  cases gk with
  | zero => exact absurd HA.out (by simp [fulcrumref21_Sorted.l0])
  | succ k1 =>
   have H := HA.out
   clear HA
   simp only [fulcrumref21_Sorted.l0] at H
   by_cases c6 : (x4_1.length : Int) > 0
   ·rw [if_pos c6] at H
    have c6b0 : decide (0 < (x4_1.length : Int)) = true := decide_eq_true c6
    have c6b1 : decide (0 < x4_1.length) = true := decide_eq_true (by omega)
    clear c6
    by_cases c7 : 0 < (x4_1.length : Int)
    ·rw [if_pos c7] at H
     have c7b0 : decide (0 < (x4_1.length : Int)) = true := decide_eq_true c7
     have c7b1 : decide (0 < x4_1.length) = true := decide_eq_true (by omega)
     clear c7
     have H' := Aside0.mk H
     clear H
     obtain ⟨Ao8, co8, eo8⟩ := Kd.R_slice HO_4.out
     subst eo8
     have p670 : 0 ≤ (0 : Int) := (by omega)
     have q670 : 0 < (x4_1.length : Int) := odt
     obtain ⟨ad670, e670, hx670_0⟩ := Kd.at_int (Kd.R_reads' HO_4.out).2.2 0 p670 q670
     cases e670
     have qi670 : (0 < x4_1.length) = True := eq_true (by omega)
     (try rw [show ((0 : Int)).toNat = 0 from rfl] at hx670_0)
     (try rw [Addr.add_zero'] at hx670_0)
     replace p670 := eq_true p670
     replace q670 := eq_true q670
     go_wp2
     go_loopg [5, 6] k1 (fun kq v5 v6 w' => ∃ (x5_2 : Int) (x6_2 : Int), v5 = .int .i64 x5_2 ∧ v6 = .int .i64 x6_2 ∧ Aside0 (fulcrumref21_Sorted.l1 kq x3_1 x4_1 x5_2 x6_2 = some r) ∧ Aside0 (kq ≤ k1) ∧ Aside0 (Kd.R (Kd.int .i64) 3 w' w.heap.size (fun k_ => some k_ ≠ ((.slice (some ad670) x4_1.length co8) : Value).ownBlock) u3 x3_1) ∧ Aside0 (Kd.R (Kd.int .i64) 3 w' w.heap.size (fun k_ => some k_ ≠ (u3 : Value).ownBlock) (.slice (some ad670) x4_1.length co8) x4_1) ∧ Aside0 (Below w.heap.size w w'))
     case atStart => exact ⟨(rd x4_1 0), (1), (by first | rfl | (simp; done) | (simp [*]; done)), (by first | rfl | (simp; done) | (simp [*]; done)), H', ⟨Nat.le_refl _⟩, ⟨R_any HO_3.out⟩, ⟨R_any HO_4.out⟩, ⟨bel_any HB.out⟩⟩
     case round =>
      clear H'
      try clear p2
      try clear c4
      try clear c6
      try clear c6b0
      try clear c6b1
      try clear p6
      try clear q6
      try clear hx6
      try clear qi6
      try clear c7
      try clear c7b0
      try clear c7b1
      try clear hx670_0
      try clear p2
      try clear p670
      try clear q670
      obtain ⟨x5_2, x6_2, rfl, rfl, HA, HK2, HO_3, HO_4, HB⟩ := hrel
      cases gk with
      | zero => exact absurd HA.out (by simp [fulcrumref21_Sorted.l1])
      | succ k2 =>
       have H := HA.out
       clear HA
       simp only [fulcrumref21_Sorted.l1] at H
       by_cases c9 : x6_2 < (x4_1.length : Int)
       ·rw [if_pos c9] at H
        have c9b0 : decide (x6_2 < (x4_1.length : Int)) = true := decide_eq_true c9
        clear c9
        by_cases c10 : 0 ≤ x6_2
        ·rw [if_pos c10] at H
         have c10b0 : decide (0 ≤ x6_2) = true := decide_eq_true c10
         clear c10
         replace H := Option.bind_eq_some_iff.mp H
         obtain ⟨t672, A110, H⟩ := H
         replace H : (if t672 = true then (fulcrumref21_Sorted.l1 k2 x3_1 x4_1 (rd x4_1 x6_2) (wrap64 (x6_2 + 1))) else (fulcrumref21_Sorted.l1 k2 x3_1 x4_1 x5_2 (wrap64 (x6_2 + 1)))) = some r := H
         have A11 := Aside0.mk A110
         clear A110
         by_cases c12 : t672 = true
         ·subst c12
          have H1 : (fulcrumref21_Sorted.l1 k2 x3_1 x4_1 (rd x4_1 x6_2) (wrap64 (x6_2 + 1))) = some r := by rw [if_pos rfl] at H; exact H
          clear H
          have H := H1
          clear H1
          have H' := Aside0.mk H
          clear H
          have p671 : 0 ≤ (x6_2 : Int) := odt
          have q671 : x6_2 < (x4_1.length : Int) := odt
          obtain ⟨ad671, e671, hx671_0⟩ := Kd.at_int (Kd.R_reads' HO_4.out).2.2 x6_2 p671 q671
          obtain rfl : ad670 = ad671 := (by injection e671)
          replace p671 := eq_true p671
          replace q671 := eq_true q671
          go_wp2_with (first | ((with_reducible refine gate_callee (f := 77) rfl ?_); refine goesL_ (some 27) rfl rfl Try.func77 (by kernel_rfl) rfl #[.int .i64 (rd x4_1 x6_2), .int .i64 x5_2] rfl (by (try simp only [List.map_toArray, List.map_cons, List.map_nil]); first | done | rfl | (simp only [List.length_drop, List.length_take]; rfl)) ?_; (with_reducible refine (fulcrumref21_Ahead.calls (rd x4_1 x6_2) x5_2 true _ A11.out).mono ?_); rintro e w' ⟨rfl, ⟨nd, rfl⟩⟩; refine ⟨_, rfl, ?_⟩; have p673 : 0 ≤ (x6_2 : Int) := odt; have q673 : x6_2 < (x4_1.length : Int) := odt; obtain ⟨ad673, e673, hx673_0⟩ := Kd.at_int (Kd.R_reads' HO_4.out).2.2 x6_2 p673 q673; obtain rfl : ad670 = ad673 := (by injection e673); replace p673 := eq_true p673; replace q673 := eq_true q673))
          go_roundg k2
          case measure => have := HK1.out; have := HK2.out; omega
          case rel => exact ⟨(rd x4_1 x6_2), (wrap64 (x6_2 + 1)), (by first | rfl | (simp; done) | (simp [*]; done)), (by first | rfl | (simp; done) | (simp [*]; done)), H', ⟨by have := HK1.out; have := HK2.out; omega⟩, ⟨R_any HO_3.out⟩, ⟨R_any HO_4.out⟩, ⟨bel_any HB.out⟩⟩
         ·replace c12 := Bool.eq_false_iff.mpr c12
          subst c12
          have H1 : (fulcrumref21_Sorted.l1 k2 x3_1 x4_1 x5_2 (wrap64 (x6_2 + 1))) = some r := by rw [if_neg (show ¬ (false = true) by decide)] at H; exact H
          clear H
          have H := H1
          clear H1
          have H' := Aside0.mk H
          clear H
          have p671 : 0 ≤ (x6_2 : Int) := odt
          have q671 : x6_2 < (x4_1.length : Int) := odt
          obtain ⟨ad671, e671, hx671_0⟩ := Kd.at_int (Kd.R_reads' HO_4.out).2.2 x6_2 p671 q671
          obtain rfl : ad670 = ad671 := (by injection e671)
          replace p671 := eq_true p671
          replace q671 := eq_true q671
          go_wp2_with (first | ((with_reducible refine gate_callee (f := 77) rfl ?_); refine goesL_ (some 27) rfl rfl Try.func77 (by kernel_rfl) rfl #[.int .i64 (rd x4_1 x6_2), .int .i64 x5_2] rfl (by (try simp only [List.map_toArray, List.map_cons, List.map_nil]); first | done | rfl | (simp only [List.length_drop, List.length_take]; rfl)) ?_; (with_reducible refine (fulcrumref21_Ahead.calls (rd x4_1 x6_2) x5_2 false _ A11.out).mono ?_); rintro e w' ⟨rfl, ⟨nd, rfl⟩⟩; refine ⟨_, rfl, ?_⟩))
          go_roundg k2
          case measure => have := HK1.out; have := HK2.out; omega
          case rel => exact ⟨(x5_2), (wrap64 (x6_2 + 1)), (by first | rfl | (simp; done) | (simp [*]; done)), (by first | rfl | (simp; done) | (simp [*]; done)), H', ⟨by have := HK1.out; have := HK2.out; omega⟩, ⟨R_any HO_3.out⟩, ⟨R_any HO_4.out⟩, ⟨bel_any HB.out⟩⟩
        ·rw [if_neg c10] at H
         exact absurd H (by simp)
       ·rw [if_neg c9] at H
        have c9b0 : decide (x6_2 < (x4_1.length : Int)) = false := decide_eq_false c9
        clear c9
        by_cases c13 : x3_1.length < 17592186044416
        ·rw [if_pos c13] at H
         have LMc13 := Aside0.mk c13
         clear c13
         obtain ⟨y674, hy674⟩ : ∃ y_ : List Int, y_ = (x3_1 ++ [x5_2]) := ⟨_, rfl⟩
         replace H : ((fulcrumref21_without.f k2 x4_1 x5_2).bind fun t677 => (fulcrumref21_Sorted.l0 k2 y674 t677)) = some r := by first | (rw [hy674]; with_reducible exact H) | (have H2_ := (Option.bind_some _ _).symm.trans H; rw [hy674]; with_reducible exact H2_) | (have H2_ := (Option.bind_some _ _).symm.trans H; with_reducible exact H2_) | with_reducible exact H | (rw [hy674]; exact H) | exact H
         have Ny674 := Aside0.mk hy674
         clear hy674
         replace H := Option.bind_eq_some_iff.mp H
         obtain ⟨t677, A140, H⟩ := H
         replace H : (fulcrumref21_Sorted.l0 k2 y674 t677) = some r := H
         have A14 := Aside0.mk A140
         clear A140
         have H' := Aside0.mk H
         clear H
         go_wp2_with (first | ((with_reducible refine gate_builtin (b := .append) (xs := #[.tmp 32, .tmp 34]) rfl ?_); at_builtin; refine Kd.R_append (Kd.int .i64) (w0 := w) w.heap.size rfl (.tmp 32) (.tmp 34) 28 3 (.int .i64 0) 8 rfl Try.underlying28 info3 rfl (by decide) (by omega) u3 x3_1 x5_2 [.int .i64 x5_2] (fun k_ => some k_ ≠ (.slice (some ad670) x4_1.length co8 : Value).ownBlock) (fun _ => False) rfl rfl ?aP (fun _ hk => hk.elim) ?aF ?aO ?aB ?aS ?aL ?_; (case aP => exact rfl); (case aB => exact (bel_any HB.out)); (case aF => exact (fun k_ hk => Kd.fresh' (Kd.R_lt (R_any HO_4.out)) k_ hk)); (case aO => exact (R_any HO_3.out)); (case aS => exact (below_size (bel_any HB.out))); (case aL => have := LMc13.out; omega); intro v675 w15 ho hb hg hat; rw [← Ny674.out] at ho; have n0_ := Aside0.mk (Kd.R_after (ok := (fun _ => True)) (by (with_reducible repeat (first | apply Kd.R_alloc | apply Kd.R_drewN | apply Kd.R_drew)); exact Kd.R_mono HO_4.out (fun _ hk => ⟨trivial, hk⟩)) hg hat); have n1_ := Aside0.mk (hb); have n2_ := Aside0.mk (ho); clear HO_4; clear HB; clear HO_3; have HO_4 := n0_; have HB := n1_; have HO676 := n2_; clear n0_ n1_ n2_; clear ho hb hg hat) | ((with_reducible refine gate_callee (f := 62) rfl ?_); refine goesL_ (some 38) rfl rfl Try.func62 (by kernel_rfl) rfl #[.slice (some ad670) x4_1.length co8, .int .i64 x5_2] rfl (by (try simp only [List.map_toArray, List.map_cons, List.map_nil]); first | done | rfl | (simp only [List.length_drop, List.length_take]; rfl)) ?_; (with_reducible refine (fulcrumref21_without.calls k2 _ _ x4_1 x5_2 t677 _ ?side1 ?side2 A14.out).mono ?_); (case side1 => repeat (first | exact (Kd.R_reads' HO_4.out).2.2 | (with_reducible refine Kd.C_alloc ?_ _) | (with_reducible refine Kd.C_drewN ?_ _) | (with_reducible refine Kd.C_drew ?_))); (case side2 => exact (Kd.R_reads' HO_4.out).2.1); rintro e w16 ⟨v678, rfl, ho0, hb⟩; refine ⟨_, rfl, ?_⟩; have n0_ := Aside0.mk (Kd.R_elder' (R_any HO_4.out) (Kd.R_base ho0) hb); have n1_ := Aside0.mk (Kd.R_elder' (R_any HO676.out) (Kd.R_base ho0) hb); have n2_ := Aside0.mk (Kd.R_lower (Kd.R_new' (Kd.R_new' ho0 (Kd.R_lt (R_any HO_4.out))) (Kd.R_lt (R_any HO676.out))) (below_size (bel_any HB.out))); have n3_ := Aside0.mk (below_step (bel_any HB.out) hb); clear HO_4; clear HO676; clear HB; have HO_4 := n0_; have HO676 := n1_; have HO679 := n2_; have HB := n3_; clear n0_ n1_ n2_ n3_; (try clear hb); (try clear hb2); (try clear hk); (try clear hi); (try clear ho0)))
         go_roundg k2
         case measure => have := HK1.out; have := HK2.out; omega
         case rel => exact ⟨(y674), (t677), H', ⟨by have := HK1.out; have := HK2.out; omega⟩, ⟨by (with_reducible repeat (first | apply Kd.R_alloc | apply Kd.R_drewN | apply Kd.R_drew)); exact Kd.R_mono HO676.out (fun _ hk => hk.2)⟩, ⟨by (with_reducible repeat (first | apply Kd.R_alloc | apply Kd.R_drewN | apply Kd.R_drew)); exact Kd.R_mono HO679.out (fun _ hk => hk.2)⟩, ⟨bel_any HB.out⟩⟩
        ·rw [if_neg c13] at H
         exact absurd H (by simp)
    ·rw [if_neg c7] at H
     exact absurd H (by simp)
   ·rw [if_neg c6] at H
    have c6b0 : decide (0 < (x4_1.length : Int)) = false := decide_eq_false c6
    have c6b1 : decide (0 < x4_1.length) = false := decide_eq_false (by omega)
    clear c6
    obtain rfl := Option.some.inj H
    obtain ⟨Ao17, co17, eo17⟩ := Kd.R_slice HO_4.out
    subst eo17
    go_wp2
    go_ret
    exact ⟨_, by first | rfl | (simp [errW_none, errW_some] <;> rfl) | (simp [*, errW_none, errW_some] <;> rfl), by (with_reducible repeat (first | apply Kd.R_alloc | apply Kd.R_drewN | apply Kd.R_drew)); exact Kd.R_mono HO_3.out (fun _ hk => trivial), bel_any HB.out⟩
end Go.Proofs.Ytboalbiicmcljaa.PAN
