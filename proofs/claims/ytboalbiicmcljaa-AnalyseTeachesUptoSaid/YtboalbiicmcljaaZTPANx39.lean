import Derived.Test.YtboalbiicmcljaaZTPANx0
import Derived.Test.YtboalbiicmcljaaZTPANx8
import Derived.Test.YtboalbiicmcljaaZTPANx9
import Derived.Test.YtboalbiicmcljaaZTPANx10
import Derived.Test.YtboalbiicmcljaaZTPANx36
import Derived.Test.YtboalbiicmcljaaZTPANx38
namespace Go.Proofs.Ytboalbiicmcljaa.PAN
open Go.Proofs.YtboalbiicmcljaaH
open Go.RowKit Go.Proofs.YtboalbiicmcljaaW.PrintWords Go.Proofs.YtboalbiicmcljaaW.PrintLast Go.Proofs.YtboalbiicmcljaaW.PrintMore
attribute [local go_sem] max2_int min2_int max_two min_two max_three min_three max_four min_four   -- for this text's walks alone
set_option linter.unusedVariables false
set_option linter.unusedSimpArgs false
def fulcrumlaw21_AnalyseReplays.f (k : Nat) (l0 : List (List Int)) (l1 : List Int) : Option (Bool) := (fulcrumlaw21_twin.f k l0).bind fun t713 => ((fulcrumlaw21_ints.f k l1).bind fun t716 => ((analyse_Replay.f t713 t716).bind fun bt719 => ((fulcrumref21_Replay.f k l0 l1).bind fun bt723 => ((fulcrumlaw21_lives.f k).bind fun t727 => (if t727 = true then (if bt719.2 = bt723.2 then ((fulcrumlaw21_same.f k bt719.1 bt723.1).bind fun t728 => (some t728)) else (some false)) else (some false))))))
theorem fulcrumlaw21_AnalyseReplays.mono : ∀ a0 a1 k, LeO (fulcrumlaw21_AnalyseReplays.f k a0 a1) (fulcrumlaw21_AnalyseReplays.f (k + 1) a0 a1) := by
 intro a0 a1 k
 unfold fulcrumlaw21_AnalyseReplays.f
 repeat' first
   | (with_reducible exact fulcrumlaw21_ints.mono _ _)
   | (with_reducible exact fulcrumlaw21_lives.mono _)
   | (with_reducible exact fulcrumlaw21_same.mono _ _ _)
   | (with_reducible exact fulcrumlaw21_twin.mono _ _)
   | (with_reducible exact fulcrumref21_Replay.mono _ _ _)
   | (with_reducible exact LeO.refl _)
   | (with_reducible exact LeO.none _)
   | (with_reducible refine LeO.ite ?_ ?_)
   | (with_reducible refine LeO.bind ?_ (fun _ => ?_))
   | exact fulcrumlaw21_ints.mono _ _
   | exact fulcrumlaw21_lives.mono _
   | exact fulcrumlaw21_same.mono _ _ _
   | exact fulcrumlaw21_twin.mono _ _
   | exact fulcrumref21_Replay.mono _ _ _
   | exact LeO.none _
   | refine LeO.ite ?_ ?_
   | refine LeO.bind ?_ (fun _ => ?_)
set_option maxHeartbeats 8000000 in
set_option maxRecDepth 100000 in
theorem fulcrumlaw21_AnalyseReplays.calls (k : Nat) (A0 : Option Addr) (c0 : Nat) (l0 : List (List Int)) (A1 : Option Addr) (c1 : Nat) (l1 : List Int) (r : Bool) (w : World) (hr0 : Kd.C (Kd.slice 3 (Kd.int .i64)) w A0 l0.length l0) (hc0 : l0.length ≤ c0) (hr1 : Kd.C (Kd.int .i64) w A1 l1.length l1) (hc1 : l1.length ≤ c1) (h : fulcrumlaw21_AnalyseReplays.f k l0 l1 = some r) (hr_ : r = true := by rfl) :
  Calls Try.prog 12 #[.slice A0 l0.length c0, .slice A1 l1.length c1] w fun e w' => e = .returned (.bool r) ∧ Below w.heap.size w w' := by
 have HR0 := Aside0.mk hr0
 have HC0 := Aside0.mk hc0
 clear hr0 hc0
 have HR1 := Aside0.mk hr1
 have HC1 := Aside0.mk hc1
 clear hr1 hc1
 have HB := Aside0.mk (Below.refl w.heap.size w)
 have H : ((fulcrumlaw21_twin.f k l0).bind fun t713 => ((fulcrumlaw21_ints.f k l1).bind fun t716 => ((analyse_Replay.f t713 t716).bind fun bt719 => ((fulcrumref21_Replay.f k l0 l1).bind fun bt723 => ((fulcrumlaw21_lives.f k).bind fun t727 => (if t727 = true then (if bt719.2 = bt723.2 then ((fulcrumlaw21_same.f k bt719.1 bt723.1).bind fun t728 => (some t728)) else (some false)) else (some false))))))) = some r := h
 clear h
 replace H := Option.bind_eq_some_iff.mp H
 obtain ⟨t713, A30, H⟩ := H
 replace H : ((fulcrumlaw21_ints.f k l1).bind fun t716 => ((analyse_Replay.f t713 t716).bind fun bt719 => ((fulcrumref21_Replay.f k l0 l1).bind fun bt723 => ((fulcrumlaw21_lives.f k).bind fun t727 => (if t727 = true then (if bt719.2 = bt723.2 then ((fulcrumlaw21_same.f k bt719.1 bt723.1).bind fun t728 => (some t728)) else (some false)) else (some false)))))) = some r := H
 have A3 := Aside0.mk A30
 clear A30
 replace H := Option.bind_eq_some_iff.mp H
 obtain ⟨t716, A40, H⟩ := H
 replace H : ((analyse_Replay.f t713 t716).bind fun bt719 => ((fulcrumref21_Replay.f k l0 l1).bind fun bt723 => ((fulcrumlaw21_lives.f k).bind fun t727 => (if t727 = true then (if bt719.2 = bt723.2 then ((fulcrumlaw21_same.f k bt719.1 bt723.1).bind fun t728 => (some t728)) else (some false)) else (some false))))) = some r := H
 have A4 := Aside0.mk A40
 clear A40
 replace H := Option.bind_eq_some_iff.mp H
 obtain ⟨⟨t719, t720⟩, A50, H⟩ := H
 replace H : ((fulcrumref21_Replay.f k l0 l1).bind fun bt723 => ((fulcrumlaw21_lives.f k).bind fun t727 => (if t727 = true then (if t720 = bt723.2 then ((fulcrumlaw21_same.f k t719 bt723.1).bind fun t728 => (some t728)) else (some false)) else (some false)))) = some r := H
 have A5 := Aside0.mk A50
 clear A50
 replace H := Option.bind_eq_some_iff.mp H
 obtain ⟨⟨t723, t724⟩, A60, H⟩ := H
 replace H : ((fulcrumlaw21_lives.f k).bind fun t727 => (if t727 = true then (if t720 = t724 then ((fulcrumlaw21_same.f k t719 t723).bind fun t728 => (some t728)) else (some false)) else (some false))) = some r := H
 have A6 := Aside0.mk A60
 clear A60
 replace H := Option.bind_eq_some_iff.mp H
 obtain ⟨t727, A70, H⟩ := H
 replace H : (if t727 = true then (if t720 = t724 then ((fulcrumlaw21_same.f k t719 t723).bind fun t728 => (some t728)) else (some false)) else (some false)) = some r := H
 have A7 := Aside0.mk A70
 clear A70
 by_cases c8 : t727 = true
 ·subst c8
  have H1 : (if t720 = t724 then ((fulcrumlaw21_same.f k t719 t723).bind fun t728 => (some t728)) else (some false)) = some r := by rw [if_pos rfl] at H; exact H
  clear H
  have H := H1
  clear H1
  by_cases c9 : t720 = t724
  ·rw [if_pos c9] at H
   have c9b0 : (t720 == t724) = true := beq_iff_eq.mpr c9
   have c9b1 : (t720 != t724) = false := bne_eq_false_iff_eq.mpr c9
   clear c9
   replace H := Option.bind_eq_some_iff.mp H
   obtain ⟨t728, A100, H⟩ := H
   replace H : (some t728) = some r := H
   have A10 := Aside0.mk A100
   clear A100
   obtain rfl := Option.some.inj H
   subst hr_
   go_enter Try.func12, Try.ntmps12
   go_wp2_with (first | ((with_reducible refine gate_callee (f := 16) rfl ?_); refine goesL_ (some 11) rfl rfl Try.func16 (by kernel_rfl) rfl #[.slice A0 l0.length c0] rfl (by (try simp only [List.map_toArray, List.map_cons, List.map_nil]); first | done | rfl | (simp only [List.length_drop, List.length_take]; rfl)) ?_; (with_reducible refine (fulcrumlaw21_twin.calls k _ _ l0 t713 _ ?side1 ?side2 A3.out).mono ?_); (case side1 => repeat (first | exact HR0.out | (with_reducible refine Kd.C_alloc ?_ _) | (with_reducible refine Kd.C_drewN ?_ _) | (with_reducible refine Kd.C_drew ?_))); (case side2 => exact HC0.out); rintro e w11 ⟨v714, rfl, ho0, hb⟩; refine ⟨_, rfl, ?_⟩; have n0_ := Aside0.mk (Kd.S_lower ho0 (below_size (bel_any HB.out))); have n1_ := Aside0.mk (below_step (bel_any HB.out) hb); clear HB; have HO715 := n0_; have HB := n1_; clear n0_ n1_; (try clear hb); (try clear hb2); (try clear hk); (try clear hi); (try clear ho0)) | ((with_reducible refine gate_callee (f := 23) rfl ?_); refine goesL_ (some 13) rfl rfl Try.func23 (by kernel_rfl) rfl #[.slice A1 l1.length c1] rfl (by (try simp only [List.map_toArray, List.map_cons, List.map_nil]); first | done | rfl | (simp only [List.length_drop, List.length_take]; rfl)) ?_; (with_reducible refine (fulcrumlaw21_ints.calls k _ _ l1 t716 _ ?side1 ?side2 A4.out).mono ?_); (case side1 => repeat (first | exact (Kd.C_below HR1.out HB.out) | (with_reducible refine Kd.C_alloc ?_ _) | (with_reducible refine Kd.C_drewN ?_ _) | (with_reducible refine Kd.C_drew ?_))); (case side2 => exact HC1.out); rintro e w12 ⟨v717, rfl, ho0, hb⟩; refine ⟨_, rfl, ?_⟩; have n0_ := Aside0.mk (Kd.S_elder' (S_any HO715.out) (Kd.R_base ho0) hb); have n1_ := Aside0.mk (Kd.R_lower ho0 (below_size (bel_any HB.out))); have n2_ := Aside0.mk (below_step (bel_any HB.out) hb); clear HO715; clear HB; have HO715 := n0_; have HO718 := n1_; have HB := n2_; clear n0_ n1_ n2_; (try clear hb); (try clear hb2); (try clear hk); (try clear hi); (try clear ho0); obtain ⟨Ao13, co13, eo13⟩ := Kd.S_slice HO715.out; subst eo13; obtain ⟨Ao14, co14, eo14⟩ := Kd.R_slice HO718.out; subst eo14) | ((with_reducible refine gate_callee (f := 33) rfl ?_); refine goesL_ (some 14) rfl rfl Try.func33 (by kernel_rfl) rfl #[.slice Ao13 t713.length co13, .slice Ao14 t716.length co14] rfl (by (try simp only [List.map_toArray, List.map_cons, List.map_nil]); first | done | rfl | (simp only [List.length_drop, List.length_take]; rfl)) ?_; (with_reducible refine (analyse_Replay.calls _ _ t713 _ _ t716 t719 t720 _ ?side1 ?side2 ?side3 ?side4 A5.out).mono ?_); (case side1 => repeat (first | exact (Kd.S_reads' HO715.out).2.2 | (with_reducible refine Kd.C_alloc ?_ _) | (with_reducible refine Kd.C_drewN ?_ _) | (with_reducible refine Kd.C_drew ?_))); (case side2 => exact (Kd.S_reads' HO715.out).2.1); (case side3 => repeat (first | exact (Kd.R_reads' HO718.out).2.2 | (with_reducible refine Kd.C_alloc ?_ _) | (with_reducible refine Kd.C_drewN ?_ _) | (with_reducible refine Kd.C_drew ?_))); (case side4 => exact (Kd.R_reads' HO718.out).2.1); rintro e w15 ⟨v721, rfl, ho0, hb⟩; refine ⟨_, rfl, ?_⟩; have n0_ := Aside0.mk (Kd.S_elder' (S_any HO715.out) (Kd.R_base ho0) hb); have n1_ := Aside0.mk (Kd.R_elder' (R_any HO718.out) (Kd.R_base ho0) hb); have n2_ := Aside0.mk (Kd.R_lower (Kd.R_new' ho0 (Kd.R_lt (R_any HO718.out))) (below_size (bel_any HB.out))); have n3_ := Aside0.mk (below_step (bel_any HB.out) hb); clear HO715; clear HO718; clear HB; have HO715 := n0_; have HO718 := n1_; have HO722 := n2_; have HB := n3_; clear n0_ n1_ n2_ n3_; (try clear hb); (try clear hb2); (try clear hk); (try clear hi); (try clear ho0)) | ((with_reducible refine gate_callee (f := 34) rfl ?_); refine goesL_ (some 20) rfl rfl Try.func34 (by kernel_rfl) rfl #[.slice A0 l0.length c0, .slice A1 l1.length c1] rfl (by (try simp only [List.map_toArray, List.map_cons, List.map_nil]); first | done | rfl | (simp only [List.length_drop, List.length_take]; rfl)) ?_; (with_reducible refine (fulcrumref21_Replay.calls k _ _ l0 _ _ l1 t723 t724 _ ?side1 ?side2 ?side3 ?side4 A6.out).mono ?_); (case side1 => repeat (first | exact (Kd.C_below HR0.out HB.out) | (with_reducible refine Kd.C_alloc ?_ _) | (with_reducible refine Kd.C_drewN ?_ _) | (with_reducible refine Kd.C_drew ?_))); (case side2 => exact HC0.out); (case side3 => repeat (first | exact (Kd.C_below HR1.out HB.out) | (with_reducible refine Kd.C_alloc ?_ _) | (with_reducible refine Kd.C_drewN ?_ _) | (with_reducible refine Kd.C_drew ?_))); (case side4 => exact HC1.out); rintro e w16 ⟨v725, rfl, ho0, hb⟩; refine ⟨_, rfl, ?_⟩; have n0_ := Aside0.mk (Kd.S_elder' (S_any HO715.out) (Kd.R_base ho0) hb); have n1_ := Aside0.mk (Kd.R_elder' (R_any HO718.out) (Kd.R_base ho0) hb); have n2_ := Aside0.mk (Kd.R_elder' (R_any HO722.out) (Kd.R_base ho0) hb); have n3_ := Aside0.mk (Kd.R_lower (Kd.R_new' (Kd.R_new' ho0 (Kd.R_lt (R_any HO718.out))) (Kd.R_lt (R_any HO722.out))) (below_size (bel_any HB.out))); have n4_ := Aside0.mk (below_step (bel_any HB.out) hb); clear HO715; clear HO718; clear HO722; clear HB; have HO715 := n0_; have HO718 := n1_; have HO722 := n2_; have HO726 := n3_; have HB := n4_; clear n0_ n1_ n2_ n3_ n4_; (try clear hb); (try clear hb2); (try clear hk); (try clear hi); (try clear ho0)) | ((with_reducible refine gate_callee (f := 14) rfl ?_); refine goesL_ (some 23) rfl rfl Try.func14 (by kernel_rfl) rfl #[] rfl (by (try simp only [List.map_toArray, List.map_cons, List.map_nil]); first | done | rfl | (simp only [List.length_drop, List.length_take]; rfl)) ?_; (with_reducible refine (fulcrumlaw21_lives.calls k  true _ A7.out).mono ?_); rintro e w17 ⟨rfl, hb⟩; refine ⟨_, rfl, ?_⟩; have n0_ := Aside0.mk (Kd.S_below (S_any HO715.out) hb); have n1_ := Aside0.mk (Kd.R_below (R_any HO718.out) hb); have n2_ := Aside0.mk (Kd.R_below (R_any HO722.out) hb); have n3_ := Aside0.mk (Kd.R_below (R_any HO726.out) hb); have n4_ := Aside0.mk (below_step (bel_any HB.out) hb); clear HO715; clear HO718; clear HO722; clear HO726; clear HB; have HO715 := n0_; have HO718 := n1_; have HO722 := n2_; have HO726 := n3_; have HB := n4_; clear n0_ n1_ n2_ n3_ n4_; (try clear hb); (try clear hb2); (try clear hk); (try clear hi); obtain ⟨Ao18, co18, eo18⟩ := Kd.R_slice HO722.out; subst eo18; obtain ⟨Ao19, co19, eo19⟩ := Kd.R_slice HO726.out; subst eo19) | (go_at_call 27; (with_reducible refine (fulcrumlaw21_same.calls k _ _ t719 _ _ t723 true _ ?side1 ?side2 ?side3 ?side4 A10.out).mono ?_); (case side1 => repeat (first | exact (Kd.R_reads' HO722.out).2.2 | (with_reducible refine Kd.C_alloc ?_ _) | (with_reducible refine Kd.C_drewN ?_ _) | (with_reducible refine Kd.C_drew ?_))); (case side2 => exact (Kd.R_reads' HO722.out).2.1); (case side3 => repeat (first | exact (Kd.R_reads' HO726.out).2.2 | (with_reducible refine Kd.C_alloc ?_ _) | (with_reducible refine Kd.C_drewN ?_ _) | (with_reducible refine Kd.C_drew ?_))); (case side4 => exact (Kd.R_reads' HO726.out).2.1); rintro e w' ⟨rfl, ⟨nd, rfl⟩⟩))
   go_ret
   exact ⟨by first | rfl | (simp [errW_none, errW_some] <;> rfl) | (simp [*, errW_none, errW_some] <;> rfl), bel_any HB.out⟩
  ·rw [if_neg c9] at H
   exact absurd (H.trans (congrArg some hr_)) (by simp)
 ·replace c8 := Bool.eq_false_iff.mpr c8
  subst c8
  have H1 : (some false) = some r := by rw [if_neg (show ¬ (false = true) by decide)] at H; exact H
  exact absurd (H1.trans (congrArg some hr_)) (by simp)/-! ### fulcrumlaw21_level: function 68 -/
def fulcrumlaw21_level.l0 : Nat → List (S49) → Int → Int → Option (Int)
 | 0, _, _, _ => none
 | k + 1, x0, x1, x5 => if x5 < (x0.length : Int) then (if 0 ≤ x5 then (if ((rd_T49 x0 x5).f0) = (wrap64 (-x1)) then (some ((rd_T49 x0 x5).f1)) else (fulcrumlaw21_level.l0 k x0 x1 (wrap64 (x5 + 1)))) else (none)) else (some (-1))
def fulcrumlaw21_level.f (k : Nat) (l0 : List (S49)) (a1 : Int) : Option (Int) := fulcrumlaw21_level.l0 k l0 a1 0
theorem fulcrumlaw21_level.mono_l : ∀ k, (∀ y0 y1 y2, LeO (fulcrumlaw21_level.l0 k y0 y1 y2) (fulcrumlaw21_level.l0 (k + 1) y0 y1 y2))
 | 0 => fun _ _ _ r h => by simp [fulcrumlaw21_level.l0] at h
 | k + 1 => by
  have ih0 := fulcrumlaw21_level.mono_l k
  ·intro y0 y1 y2
   unfold fulcrumlaw21_level.l0
   repeat' first
   | (with_reducible exact ih0 _ _ _)
   | (with_reducible exact LeO.refl _)
   | (with_reducible exact LeO.none _)
   | (with_reducible refine LeO.ite ?_ ?_)
   | (with_reducible refine LeO.bind ?_ (fun _ => ?_))
   | exact ih0 _ _ _
   | exact LeO.none _
   | refine LeO.ite ?_ ?_
   | refine LeO.bind ?_ (fun _ => ?_)
theorem fulcrumlaw21_level.mono : ∀ a0 a1 k, LeO (fulcrumlaw21_level.f k a0 a1) (fulcrumlaw21_level.f (k + 1) a0 a1) := by
 intro a0 a1 k
 have ih0 := fulcrumlaw21_level.mono_l k
 unfold fulcrumlaw21_level.f
 repeat' first
   | (with_reducible exact ih0 _ _ _)
   | (with_reducible exact LeO.refl _)
   | (with_reducible exact LeO.none _)
   | (with_reducible refine LeO.ite ?_ ?_)
   | (with_reducible refine LeO.bind ?_ (fun _ => ?_))
   | exact ih0 _ _ _
   | exact LeO.none _
   | refine LeO.ite ?_ ?_
   | refine LeO.bind ?_ (fun _ => ?_)
set_option maxHeartbeats 8000000 in
set_option maxRecDepth 100000 in
theorem fulcrumlaw21_level.calls (k : Nat) (A0 : Option Addr) (c0 : Nat) (l0 : List (S49)) (a1 : Int) (r : Int) (w : World) (hr0 : Kd.C k49 w A0 l0.length l0) (hc0 : l0.length ≤ c0) (h : fulcrumlaw21_level.f k l0 a1 = some r) :
  Calls Try.prog 68 #[.slice A0 l0.length c0, .int .i64 a1] w fun e w' => e = .returned (.int .i64 r) ∧ Drawn0 w w' := by
 have HR0 := Aside0.mk hr0
 have HC0 := Aside0.mk hc0
 clear hr0 hc0
 have H : (fulcrumlaw21_level.l0 k l0 a1 0) = some r := h
 clear h
 have H' := Aside0.mk H
 clear H
 go_enter Try.func68, Try.ntmps68
 go_wp2
 go_loopg [5] k (fun kq v5 w' => ∃ (x5_1 : Int), v5 = .int .i64 x5_1 ∧ Aside0 (fulcrumlaw21_level.l0 kq l0 a1 x5_1 = some r) ∧ Aside0 (kq ≤ k) ∧ Drawn0 w w')
 case atStart => exact ⟨(0), (by first | rfl | (simp; done) | (simp [*]; done)), H', ⟨Nat.le_refl _⟩, by repeat (first | exact Drawn0.refl _ | apply Drawn0.step)⟩
 case round =>
  clear H'
  try clear p2
  obtain ⟨x5_1, rfl, HA, HK1, ⟨m1, rfl⟩⟩ := hrel
  cases gk with
  | zero => exact absurd HA.out (by simp [fulcrumlaw21_level.l0])
  | succ k1 =>
   have H := HA.out
   clear HA
   simp only [fulcrumlaw21_level.l0] at H
   by_cases c3 : x5_1 < (l0.length : Int)
   ·rw [if_pos c3] at H
    have c3b0 : decide (x5_1 < (l0.length : Int)) = true := decide_eq_true c3
    clear c3
    by_cases c4 : 0 ≤ x5_1
    ·rw [if_pos c4] at H
     have c4b0 : decide (0 ≤ x5_1) = true := decide_eq_true c4
     clear c4
     by_cases c5 : ((rd_T49 l0 x5_1).f0) = (wrap64 (-a1))
     ·rw [if_pos c5] at H
      have c5b0 : (((rd_T49 l0 x5_1).f0) == (wrap64 (-a1))) = true := beq_iff_eq.mpr c5
      have c5b1 : (((rd_T49 l0 x5_1).f0) != (wrap64 (-a1))) = false := bne_eq_false_iff_eq.mpr c5
      clear c5
      obtain rfl := Option.some.inj H
      have p729 : 0 ≤ (x5_1 : Int) := odt
      have q729 : x5_1 < (l0.length : Int) := odt
      obtain ⟨ad729, e729, hx729_0, hx729_1, hx729_2⟩ := at_T49 HR0.out x5_1 p729 q729
      cases e729
      replace p729 := eq_true p729
      replace q729 := eq_true q729
      have p730 : 0 ≤ (x5_1 : Int) := odt
      have q730 : x5_1 < (l0.length : Int) := odt
      obtain ⟨ad730, e730, hx730_0, hx730_1, hx730_2⟩ := at_T49 HR0.out x5_1 p730 q730
      obtain rfl : ad729 = ad730 := (by injection e730)
      replace p730 := eq_true p730
      replace q730 := eq_true q730
      go_wp2
      go_ret
      exact ⟨by first | rfl | (simp; done) | (simp [*]; done), by repeat (first | exact Drawn0.refl _ | apply Drawn0.step)⟩
     ·rw [if_neg c5] at H
      have c5b0 : (((rd_T49 l0 x5_1).f0) == (wrap64 (-a1))) = false := beq_eq_false_iff_ne.mpr c5
      have c5b1 : (((rd_T49 l0 x5_1).f0) != (wrap64 (-a1))) = true := bne_iff_ne.mpr c5
      have H' := Aside0.mk H
      clear H
      have p729 : 0 ≤ (x5_1 : Int) := odt
      have q729 : x5_1 < (l0.length : Int) := odt
      obtain ⟨ad729, e729, hx729_0, hx729_1, hx729_2⟩ := at_T49 HR0.out x5_1 p729 q729
      cases e729
      replace p729 := eq_true p729
      replace q729 := eq_true q729
      go_wp2
      go_roundg k1
      case measure => have := HK1.out; omega
      case rel => exact ⟨(wrap64 (x5_1 + 1)), (by first | rfl | (simp; done) | (simp [*]; done)), H', ⟨by have := HK1.out; omega⟩, by repeat (first | exact Drawn0.refl _ | apply Drawn0.step)⟩
    ·rw [if_neg c4] at H
     exact absurd H (by simp)
   ·rw [if_neg c3] at H
    have c3b0 : decide (x5_1 < (l0.length : Int)) = false := decide_eq_false c3
    clear c3
    obtain rfl := Option.some.inj H
    go_wp2
    go_ret
    exact ⟨by first | rfl | (simp; done) | (simp [*]; done), by repeat (first | exact Drawn0.refl _ | apply Drawn0.step)⟩
end Go.Proofs.Ytboalbiicmcljaa.PAN
