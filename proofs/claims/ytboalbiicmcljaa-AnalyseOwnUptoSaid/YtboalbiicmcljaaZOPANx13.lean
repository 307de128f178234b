import Derived.Test.YtboalbiicmcljaaZOPANx0
import Derived.Test.YtboalbiicmcljaaZOPANx10
import Derived.Test.YtboalbiicmcljaaZOPANx12
namespace Go.Proofs.Ytboalbiicmcljaa.PAN
open Go.Proofs.YtboalbiicmcljaaH
open Go.RowKit Go.Proofs.YtboalbiicmcljaaW.PrintWords Go.Proofs.YtboalbiicmcljaaW.PrintLast Go.Proofs.YtboalbiicmcljaaW.PrintMore
attribute [local go_sem] max2_int min2_int max_two min_two max_three min_three max_four min_four   -- for this text's walks alone
set_option linter.unusedVariables false
set_option linter.unusedSimpArgs false
def fulcrumref21_resolved.l0 : Nat → List (List Int) → Int → Int → List Int → Int → Option (List Int × Int)
 | 0, _, _, _, _, _ => none
 | k + 1, x0, x3, x10, x11, x12 => if 0 ≤ x10 then (if x10 < (x0.length : Int) then (if x12 < ((rd_L1 x0 x10).length : Int) then (if 0 ≤ x12 then (if (rd (rd_L1 x0 x10) x12) = (wrap64 (-x3)) then (fulcrumref21_resolved.l0 k x0 x3 x10 x11 (wrap64 (x12 + 1))) else (if x11.length < 17592186044416 then (fulcrumref21_resolved.l0 k x0 x3 x10 (x11 ++ [rd (rd_L1 x0 x10) x12]) (wrap64 (x12 + 1))) else (none))) else (none)) else ((fulcrumref21_set.f k x11).bind fun t227 => (some (t227, x10)))) else (none)) else (none)
def fulcrumref21_resolved.f (k : Nat) (l0 : List (List Int)) (l1 : List (S49)) (l2 : List Int) (a3 : Int) : Option (List Int × Int) := (fulcrumref21_place.f k l1 (wrap64 (-a3))).bind fun t214 => (if 0 ≤ t214 then (if t214 < (l1.length : Int) then ((fulcrumref21_without.f k l2 a3).bind fun t216 => (fulcrumref21_resolved.l0 k l0 a3 ((rd_T49 l1 t214).f2) t216 0)) else (none)) else (none))
set_option maxHeartbeats 8000000 in
set_option maxRecDepth 100000 in
theorem fulcrumref21_resolved.calls (k : Nat) (A0 : Option Addr) (c0 : Nat) (l0 : List (List Int)) (A1 : Option Addr) (c1 : Nat) (l1 : List (S49)) (A2 : Option Addr) (c2 : Nat) (l2 : List Int) (a3 : Int) (r1 : List Int) (r2 : Int) (w : World) (hr0 : Kd.C (Kd.slice 3 (Kd.int .i64)) w A0 l0.length l0) (hc0 : l0.length ≤ c0) (hr1 : Kd.C k49 w A1 l1.length l1) (hc1 : l1.length ≤ c1) (hr2 : Kd.C (Kd.int .i64) w A2 l2.length l2) (hc2 : l2.length ≤ c2) (h : fulcrumref21_resolved.f k l0 l1 l2 a3 = some (r1, r2)) :
  Calls Try.prog 48 #[.slice A0 l0.length c0, .slice A1 l1.length c1, .slice A2 l2.length c2, .int .i64 a3] w fun e w' => ∃ v0_ : Value, e = .returned (.tuple #[v0_, .int .i64 r2]) ∧ Kd.R (Kd.int .i64) 3 w' w.heap.size (fun _ => True) v0_ r1 ∧ Below w.heap.size w w' := by
 have HR0 := Aside0.mk hr0
 have HC0 := Aside0.mk hc0
 clear hr0 hc0
 have HR1 := Aside0.mk hr1
 have HC1 := Aside0.mk hc1
 clear hr1 hc1
 have HR2 := Aside0.mk hr2
 have HC2 := Aside0.mk hc2
 clear hr2 hc2
 have HB := Aside0.mk (Below.refl w.heap.size w)
 have H : ((fulcrumref21_place.f k l1 (wrap64 (-a3))).bind fun t214 => (if 0 ≤ t214 then (if t214 < (l1.length : Int) then ((fulcrumref21_without.f k l2 a3).bind fun t216 => (fulcrumref21_resolved.l0 k l0 a3 ((rd_T49 l1 t214).f2) t216 0)) else (none)) else (none))) = some (r1, r2) := h
 clear h
 replace H := Option.bind_eq_some_iff.mp H
 obtain ⟨t214, A50, H⟩ := H
 replace H : (if 0 ≤ t214 then (if t214 < (l1.length : Int) then ((fulcrumref21_without.f k l2 a3).bind fun t216 => (fulcrumref21_resolved.l0 k l0 a3 ((rd_T49 l1 t214).f2) t216 0)) else (none)) else (none)) = some (r1, r2) := H
 have A5 := Aside0.mk A50
 clear A50
 by_cases c6 : 0 ≤ t214
 ·rw [if_pos c6] at H
  have c6b0 : decide (0 ≤ t214) = true := decide_eq_true c6
  clear c6
  by_cases c7 : t214 < (l1.length : Int)
  ·rw [if_pos c7] at H
   have c7b0 : decide (t214 < (l1.length : Int)) = true := decide_eq_true c7
   clear c7
   replace H := Option.bind_eq_some_iff.mp H
   obtain ⟨t216, A80, H⟩ := H
   replace H : (fulcrumref21_resolved.l0 k l0 a3 ((rd_T49 l1 t214).f2) t216 0) = some (r1, r2) := H
   have A8 := Aside0.mk A80
   clear A80
   have H' := Aside0.mk H
   clear H
   go_enter Try.func48, Try.ntmps48
   go_wp2_with (first | ((with_reducible refine gate_callee (f := 50) rfl ?_); refine goesL_ (some 17) rfl rfl Try.func50 (by kernel_rfl) rfl #[.slice A1 l1.length c1, .int .i64 (wrap64 (-a3))] rfl (by (try simp only [List.map_toArray, List.map_cons, List.map_nil]); first | done | rfl | (simp only [List.length_drop, List.length_take]; rfl)) ?_; (with_reducible refine (fulcrumref21_place.calls k _ _ l1 (wrap64 (-a3)) t214 _ ?side1 ?side2 A5.out).mono ?_); (case side1 => repeat (first | exact HR1.out | (with_reducible refine Kd.C_alloc ?_ _) | (with_reducible refine Kd.C_drewN ?_ _) | (with_reducible refine Kd.C_drew ?_))); (case side2 => exact HC1.out); rintro e w' ⟨rfl, ⟨nd, rfl⟩⟩; refine ⟨_, rfl, ?_⟩; have p215 : 0 ≤ (t214 : Int) := odt; have q215 : t214 < (l1.length : Int) := odt; obtain ⟨ad215, e215, hx215_0, hx215_1, hx215_2⟩ := at_T49 HR1.out t214 p215 q215; cases e215; replace p215 := eq_true p215; replace q215 := eq_true q215) | ((with_reducible refine gate_callee (f := 62) rfl ?_); refine goesL_ (some 23) rfl rfl Try.func62 (by kernel_rfl) rfl #[.slice A2 l2.length c2, .int .i64 a3] rfl (by (try simp only [List.map_toArray, List.map_cons, List.map_nil]); first | done | rfl | (simp only [List.length_drop, List.length_take]; rfl)) ?_; (with_reducible refine (fulcrumref21_without.calls k _ _ l2 a3 t216 _ ?side1 ?side2 A8.out).mono ?_); (case side1 => repeat (first | exact HR2.out | (with_reducible refine Kd.C_alloc ?_ _) | (with_reducible refine Kd.C_drewN ?_ _) | (with_reducible refine Kd.C_drew ?_))); (case side2 => exact HC2.out); rintro e w9 ⟨v217, rfl, ho0, hb⟩; refine ⟨_, rfl, ?_⟩; have n0_ := Aside0.mk (Kd.R_lower ho0 (below_size (bel_any HB.out))); have n1_ := Aside0.mk (below_step (bel_any HB.out) hb); clear HB; have HO218 := n0_; have HB := n1_; clear n0_ n1_; (try clear hb); (try clear hb2); (try clear hk); (try clear hi); (try clear ho0)))
   go_loopg [11, 12] k (fun kq v11 v12 w' => ∃ (x11_1 : List Int) (x12_1 : Int), v12 = .int .i64 x12_1 ∧ Aside0 (fulcrumref21_resolved.l0 kq l0 a3 ((rd_T49 l1 t214).f2) x11_1 x12_1 = some (r1, r2)) ∧ Aside0 (kq ≤ k) ∧ Aside0 (Kd.R (Kd.int .i64) 3 w' w.heap.size (fun _ => True) v11 x11_1) ∧ Aside0 (Below w.heap.size w w'))
   case atStart => exact ⟨(t216), (0), (by first | rfl | (simp; done) | (simp [*]; done)), H', ⟨Nat.le_refl _⟩, ⟨R_any HO218.out⟩, ⟨bel_any HB.out⟩⟩
   case round =>
    clear H'
    try clear c1
    try clear c2
    try clear p2
    try clear q2
    try clear hx2
    try clear c4
    try clear c5
    try clear c6
    try clear c6b0
    try clear p6
    try clear c7
    try clear c7b0
    try clear hx215_0
    try clear hx215_1
    try clear hx215_2
    try clear p215
    try clear q215
    obtain ⟨x11_1, x12_1, rfl, HA, HK1, HO_11, HB⟩ := hrel
    cases gk with
    | zero => exact absurd HA.out (by simp [fulcrumref21_resolved.l0])
    | succ k1 =>
     have H := HA.out
     clear HA
     simp only [fulcrumref21_resolved.l0] at H
     by_cases c10 : 0 ≤ ((rd_T49 l1 t214).f2)
     ·rw [if_pos c10] at H
      have c10b0 : decide (0 ≤ ((rd_T49 l1 t214).f2)) = true := decide_eq_true c10
      clear c10
      by_cases c11 : ((rd_T49 l1 t214).f2) < (l0.length : Int)
      ·rw [if_pos c11] at H
       have c11b0 : decide (((rd_T49 l1 t214).f2) < (l0.length : Int)) = true := decide_eq_true c11
       clear c11
       by_cases c12 : x12_1 < ((rd_L1 l0 ((rd_T49 l1 t214).f2)).length : Int)
       ·rw [if_pos c12] at H
        have c12b0 : decide (x12_1 < ((rd_L1 l0 ((rd_T49 l1 t214).f2)).length : Int)) = true := decide_eq_true c12
        clear c12
        by_cases c13 : 0 ≤ x12_1
        ·rw [if_pos c13] at H
         have c13b0 : decide (0 ≤ x12_1) = true := decide_eq_true c13
         clear c13
         by_cases c14 : (rd (rd_L1 l0 ((rd_T49 l1 t214).f2)) x12_1) = (wrap64 (-a3))
         ·rw [if_pos c14] at H
          have c14b0 : ((rd (rd_L1 l0 ((rd_T49 l1 t214).f2)) x12_1) == (wrap64 (-a3))) = true := beq_iff_eq.mpr c14
          have c14b1 : ((rd (rd_L1 l0 ((rd_T49 l1 t214).f2)) x12_1) != (wrap64 (-a3))) = false := bne_eq_false_iff_eq.mpr c14
          clear c14
          have H' := Aside0.mk H
          clear H
          have p219 : 0 ≤ (((rd_T49 l1 t214).f2) : Int) := odt
          have q219 : ((rd_T49 l1 t214).f2) < (l0.length : Int) := odt
          obtain ⟨ad219, A219_0, c219_0, e219, hx219_0, hl219_0, hi219_0⟩ := at_L1 HR0.out ((rd_T49 l1 t214).f2) p219 q219
          cases e219
          replace hx219_0 := (HB.out.cell (World.block_lt_of_cell? w _ hx219_0)).trans hx219_0
          have HR219_0 := Aside0.mk hi219_0
          have HC219_0 := Aside0.mk hl219_0
          clear hi219_0 hl219_0
          replace p219 := eq_true p219
          replace q219 := eq_true q219
          have p220 : 0 ≤ (((rd_T49 l1 t214).f2) : Int) := odt
          have q220 : ((rd_T49 l1 t214).f2) < (l0.length : Int) := odt
          obtain ⟨ad220, A220_0, c220_0, e220, hx220_0, hl220_0, hi220_0⟩ := at_L1 HR0.out ((rd_T49 l1 t214).f2) p220 q220
          obtain rfl : ad219 = ad220 := (by injection e220)
          replace hx220_0 := (HB.out.cell (World.block_lt_of_cell? w _ hx220_0)).trans hx220_0
          have HR220_0 := Aside0.mk hi220_0
          have HC220_0 := Aside0.mk hl220_0
          clear hi220_0 hl220_0
          replace p220 := eq_true p220
          replace q220 := eq_true q220
          have ea_ := Option.some.inj (hx219_0.symm.trans hx220_0)
          injection ea_ with ea_ en_ ec_
          subst ea_
          subst ec_
          clear en_
          have p221 : 0 ≤ (x12_1 : Int) := odt
          have q221 : x12_1 < ((rd_L1 l0 ((rd_T49 l1 t214).f2)).length : Int) := odt
          obtain ⟨ad221, e221, hx221_0⟩ := Kd.at_int HR220_0.out x12_1 p221 q221
          cases e221
          replace hx221_0 := (HB.out.cell (World.block_lt_of_cell? w _ hx221_0)).trans hx221_0
          replace p221 := eq_true p221
          replace q221 := eq_true q221
          go_wp2
          go_roundg k1
          case measure => have := HK1.out; omega
          case rel => exact ⟨(x11_1), (wrap64 (x12_1 + 1)), (by first | rfl | (simp; done) | (simp [*]; done)), H', ⟨by have := HK1.out; omega⟩, ⟨R_any HO_11.out⟩, ⟨bel_any HB.out⟩⟩
         ·rw [if_neg c14] at H
          have c14b0 : ((rd (rd_L1 l0 ((rd_T49 l1 t214).f2)) x12_1) == (wrap64 (-a3))) = false := beq_eq_false_iff_ne.mpr c14
          have c14b1 : ((rd (rd_L1 l0 ((rd_T49 l1 t214).f2)) x12_1) != (wrap64 (-a3))) = true := bne_iff_ne.mpr c14
          by_cases c15 : x11_1.length < 17592186044416
          ·rw [if_pos c15] at H
           have LMc15 := Aside0.mk c15
           clear c15
           obtain ⟨y224, hy224⟩ : ∃ y_ : List Int, y_ = (x11_1 ++ [rd (rd_L1 l0 ((rd_T49 l1 t214).f2)) x12_1]) := ⟨_, rfl⟩
           replace H : (fulcrumref21_resolved.l0 k1 l0 a3 ((rd_T49 l1 t214).f2) y224 (wrap64 (x12_1 + 1))) = some (r1, r2) := by first | (rw [hy224]; with_reducible exact H) | (have H2_ := (Option.bind_some _ _).symm.trans H; rw [hy224]; with_reducible exact H2_) | (have H2_ := (Option.bind_some _ _).symm.trans H; with_reducible exact H2_) | with_reducible exact H | (rw [hy224]; exact H) | exact H
           have Ny224 := Aside0.mk hy224
           clear hy224
           have H' := Aside0.mk H
           clear H
           have p219 : 0 ≤ (((rd_T49 l1 t214).f2) : Int) := odt
           have q219 : ((rd_T49 l1 t214).f2) < (l0.length : Int) := odt
           obtain ⟨ad219, A219_0, c219_0, e219, hx219_0, hl219_0, hi219_0⟩ := at_L1 HR0.out ((rd_T49 l1 t214).f2) p219 q219
           cases e219
           replace hx219_0 := (HB.out.cell (World.block_lt_of_cell? w _ hx219_0)).trans hx219_0
           have HR219_0 := Aside0.mk hi219_0
           have HC219_0 := Aside0.mk hl219_0
           clear hi219_0 hl219_0
           replace p219 := eq_true p219
           replace q219 := eq_true q219
           have p220 : 0 ≤ (((rd_T49 l1 t214).f2) : Int) := odt
           have q220 : ((rd_T49 l1 t214).f2) < (l0.length : Int) := odt
           obtain ⟨ad220, A220_0, c220_0, e220, hx220_0, hl220_0, hi220_0⟩ := at_L1 HR0.out ((rd_T49 l1 t214).f2) p220 q220
           obtain rfl : ad219 = ad220 := (by injection e220)
           replace hx220_0 := (HB.out.cell (World.block_lt_of_cell? w _ hx220_0)).trans hx220_0
           have HR220_0 := Aside0.mk hi220_0
           have HC220_0 := Aside0.mk hl220_0
           clear hi220_0 hl220_0
           replace p220 := eq_true p220
           replace q220 := eq_true q220
           have ea_ := Option.some.inj (hx219_0.symm.trans hx220_0)
           injection ea_ with ea_ en_ ec_
           subst ea_
           subst ec_
           clear en_
           have p221 : 0 ≤ (x12_1 : Int) := odt
           have q221 : x12_1 < ((rd_L1 l0 ((rd_T49 l1 t214).f2)).length : Int) := odt
           obtain ⟨ad221, e221, hx221_0⟩ := Kd.at_int HR220_0.out x12_1 p221 q221
           cases e221
           replace hx221_0 := (HB.out.cell (World.block_lt_of_cell? w _ hx221_0)).trans hx221_0
           replace p221 := eq_true p221
           replace q221 := eq_true q221
           have p222 : 0 ≤ (((rd_T49 l1 t214).f2) : Int) := odt
           have q222 : ((rd_T49 l1 t214).f2) < (l0.length : Int) := odt
           obtain ⟨ad222, A222_0, c222_0, e222, hx222_0, hl222_0, hi222_0⟩ := at_L1 HR0.out ((rd_T49 l1 t214).f2) p222 q222
           obtain rfl : ad219 = ad222 := (by injection e222)
           replace hx222_0 := (HB.out.cell (World.block_lt_of_cell? w _ hx222_0)).trans hx222_0
           have HR222_0 := Aside0.mk hi222_0
           have HC222_0 := Aside0.mk hl222_0
           clear hi222_0 hl222_0
           replace p222 := eq_true p222
           replace q222 := eq_true q222
           have ea_ := Option.some.inj (hx219_0.symm.trans hx222_0)
           injection ea_ with ea_ en_ ec_
           subst ea_
           subst ec_
           clear en_
           have p223 : 0 ≤ (x12_1 : Int) := odt
           have q223 : x12_1 < ((rd_L1 l0 ((rd_T49 l1 t214).f2)).length : Int) := odt
           obtain ⟨ad223, e223, hx223_0⟩ := Kd.at_int HR222_0.out x12_1 p223 q223
           cases e223
           replace hx223_0 := (HB.out.cell (World.block_lt_of_cell? w _ hx223_0)).trans hx223_0
           replace p223 := eq_true p223
           replace q223 := eq_true q223
           go_wp2_with (first | ((with_reducible refine gate_builtin (b := .append) (xs := #[.tmp 43, .tmp 51]) rfl ?_); at_builtin; refine Kd.R_append (Kd.int .i64) (w0 := w) w.heap.size rfl (.tmp 43) (.tmp 51) 27 3 (.int .i64 0) 8 rfl Try.underlying27 info3 rfl (by decide) (by omega) u11 x11_1 (rd (rd_L1 l0 ((rd_T49 l1 t214).f2)) x12_1) [.int .i64 (rd (rd_L1 l0 ((rd_T49 l1 t214).f2)) x12_1)] (fun _ => True) (fun _ => False) rfl rfl ?aP (fun _ hk => hk.elim) ?aF ?aO ?aB ?aS ?aL ?_; (case aP => exact rfl); (case aB => exact (bel_any HB.out)); (case aF => exact (fun _ _ => trivial)); (case aO => exact (R_any HO_11.out)); (case aS => exact (below_size (bel_any HB.out))); (case aL => have := LMc15.out; omega); intro v225 w16 ho hb hg hat; rw [← Ny224.out] at ho; have n0_ := Aside0.mk (hb); have n1_ := Aside0.mk (ho); clear HB; clear HO_11; have HB := n0_; have HO226 := n1_; clear n0_ n1_; clear ho hb hg hat))
           go_roundg k1
           case measure => have := HK1.out; omega
           case rel => exact ⟨(y224), (wrap64 (x12_1 + 1)), (by first | rfl | (simp; done) | (simp [*]; done)), H', ⟨by have := HK1.out; omega⟩, ⟨R_any HO226.out⟩, ⟨bel_any HB.out⟩⟩
          ·rw [if_neg c15] at H
           exact absurd H (by simp)
        ·rw [if_neg c13] at H
         exact absurd H (by simp)
       ·rw [if_neg c12] at H
        have c12b0 : decide (x12_1 < ((rd_L1 l0 ((rd_T49 l1 t214).f2)).length : Int)) = false := decide_eq_false c12
        clear c12
        replace H := Option.bind_eq_some_iff.mp H
        obtain ⟨t227, A170, H⟩ := H
        replace H : (some (t227, ((rd_T49 l1 t214).f2))) = some (r1, r2) := H
        have A17 := Aside0.mk A170
        clear A170
        simp only [Option.some.injEq, Prod.mk.injEq] at H
        obtain ⟨rfl, rfl⟩ := H
        have p219 : 0 ≤ (((rd_T49 l1 t214).f2) : Int) := odt
        have q219 : ((rd_T49 l1 t214).f2) < (l0.length : Int) := odt
        obtain ⟨ad219, A219_0, c219_0, e219, hx219_0, hl219_0, hi219_0⟩ := at_L1 HR0.out ((rd_T49 l1 t214).f2) p219 q219
        cases e219
        replace hx219_0 := (HB.out.cell (World.block_lt_of_cell? w _ hx219_0)).trans hx219_0
        have HR219_0 := Aside0.mk hi219_0
        have HC219_0 := Aside0.mk hl219_0
        clear hi219_0 hl219_0
        replace p219 := eq_true p219
        replace q219 := eq_true q219
        obtain ⟨Ao18, co18, eo18⟩ := Kd.R_slice HO_11.out
        subst eo18
        go_wp2_with (first | ((with_reducible refine gate_callee (f := 43) rfl ?_); refine goesL_ (some 54) rfl rfl Try.func43 (by kernel_rfl) rfl #[.slice Ao18 x11_1.length co18] rfl (by (try simp only [List.map_toArray, List.map_cons, List.map_nil]); first | done | rfl | (simp only [List.length_drop, List.length_take]; rfl)) ?_; (with_reducible refine (fulcrumref21_set.calls k1 _ _ x11_1 t227 _ ?side1 ?side2 A17.out).mono ?_); (case side1 => repeat (first | exact (Kd.R_reads' HO_11.out).2.2 | (with_reducible refine Kd.C_alloc ?_ _) | (with_reducible refine Kd.C_drewN ?_ _) | (with_reducible refine Kd.C_drew ?_))); (case side2 => exact (Kd.R_reads' HO_11.out).2.1); rintro e w19 ⟨v228, rfl, ho0, hb⟩; refine ⟨_, rfl, ?_⟩; have n0_ := Aside0.mk (Kd.R_elder' (R_any HO_11.out) (Kd.R_base ho0) hb); have n1_ := Aside0.mk (Kd.R_lower (Kd.R_new' ho0 (Kd.R_lt (R_any HO_11.out))) (below_size (bel_any HB.out))); have n2_ := Aside0.mk (below_step (bel_any HB.out) hb); clear HO_11; clear HB; have HO_11 := n0_; have HO229 := n1_; have HB := n2_; clear n0_ n1_ n2_; (try clear hb); (try clear hb2); (try clear hk); (try clear hi); (try clear ho0)))
        go_ret2
        exact ⟨_, by first | rfl | (simp [errW_none, errW_some] <;> rfl) | (simp [*, errW_none, errW_some] <;> rfl), by (with_reducible repeat (first | apply Kd.R_alloc | apply Kd.R_drewN | apply Kd.R_drew)); exact Kd.R_mono HO229.out (fun _ hk => trivial), bel_any HB.out⟩
      ·rw [if_neg c11] at H
       exact absurd H (by simp)
     ·rw [if_neg c10] at H
      exact absurd H (by simp)
  ·rw [if_neg c7] at H
   exact absurd H (by simp)
 ·rw [if_neg c6] at H
  exact absurd H (by simp)
mutual
def fulcrumref21_cleaned.l0 : Nat → List (List Int) → List (S49) → List Int → List Int → List Int → Int → Option (List Int × List Int)
 | 0, _, _, _, _, _, _ => none
 | k + 1, x0, x1, x2, x3, x10, x11 => if x11 < (x3.length : Int) then (if 0 ≤ x11 then (if x10.length < 17592186044416 then (fulcrumref21_cleaned.l0 k x0 x1 x2 x3 (x10 ++ [rd x3 x11]) (wrap64 (x11 + 1))) else (none)) else (none)) else (fulcrumref21_cleaned.l1 k x0 x1 x2 x10)
def fulcrumref21_cleaned.l1 : Nat → List (List Int) → List (S49) → List Int → List Int → Option (List Int × List Int)
 | 0, _, _, _, _ => none
 | k + 1, x0, x1, x2, x10 => (fulcrumref21_latest.f k x1 x2 0).bind fun bt237 => (if bt237.2 = 0 then (some (x2, x10)) else ((fulcrumref21_resolved.f k x0 x1 x2 bt237.1).bind fun bt239 => (if x10.length < 17592186044416 then (fulcrumref21_cleaned.l1 k x0 x1 bt239.1 (x10 ++ [bt239.2])) else (none))))
end
def fulcrumref21_cleaned.f (k : Nat) (l0 : List (List Int)) (l1 : List (S49)) (l2 : List Int) (l3 : List Int) : Option (List Int × List Int) := fulcrumref21_cleaned.l0 k l0 l1 l2 l3 (([] : List Int)) 0
set_option maxHeartbeats 8000000 in
set_option maxRecDepth 100000 in
theorem fulcrumref21_cleaned.calls (k : Nat) (A0 : Option Addr) (c0 : Nat) (l0 : List (List Int)) (A1 : Option Addr) (c1 : Nat) (l1 : List (S49)) (P2_ : Nat → Prop) (A2 : Option Addr) (c2 : Nat) (l2 : List Int) (A3 : Option Addr) (c3 : Nat) (l3 : List Int) (r1 : List Int) (r2 : List Int) (w : World) (hr0 : Kd.C (Kd.slice 3 (Kd.int .i64)) w A0 l0.length l0) (hc0 : l0.length ≤ c0) (hr1 : Kd.C k49 w A1 l1.length l1) (hc1 : l1.length ≤ c1) (hs2 : Kd.V (Kd.int .i64) 3 w w.heap.size (fun k_ => P2_ k_) (.slice A2 l2.length c2) l2) (hr3 : Kd.C (Kd.int .i64) w A3 l3.length l3) (hc3 : l3.length ≤ c3) (h : fulcrumref21_cleaned.f k l0 l1 l2 l3 = some (r1, r2)) :
  Calls Try.prog 46 #[.slice A0 l0.length c0, .slice A1 l1.length c1, .slice A2 l2.length c2, .slice A3 l3.length c3] w fun e w' => ∃ v0_ v1_ : Value, e = .returned (.tuple #[v0_, v1_]) ∧ Kd.V (Kd.int .i64) 3 w' w.heap.size (fun k_ => (P2_ k_ ∨ w.heap.size ≤ k_) ∧ some k_ ≠ (v1_ : Value).ownBlock) v0_ r1 ∧ Kd.R (Kd.int .i64) 3 w' w.heap.size (fun k_ => (w.heap.size ≤ k_)) v1_ r2 ∧ Below w.heap.size w w' := by
 have HR0 := Aside0.mk hr0
 have HC0 := Aside0.mk hc0
 clear hr0 hc0
 have HR1 := Aside0.mk hr1
 have HC1 := Aside0.mk hc1
 clear hr1 hc1
 have HO2 := Aside0.mk (show Kd.V (Kd.int .i64) 3 w w.heap.size (fun k_ => (P2_ k_ ∨ w.heap.size ≤ k_)) (.slice A2 l2.length c2) l2 from Kd.V_mono hs2 (fun k_ hk => .inl hk))
 have HR3 := Aside0.mk hr3
 have HC3 := Aside0.mk hc3
 clear hr3 hc3
 have HB := Aside0.mk (Below.refl w.heap.size w)
 have H : (fulcrumref21_cleaned.l0 k l0 l1 l2 l3 (([] : List Int)) 0) = some (r1, r2) := h
 clear h
 obtain ⟨y230, hy230⟩ : ∃ y_ : List Int, y_ = (([] : List Int)) := ⟨_, rfl⟩
 replace H : (fulcrumref21_cleaned.l0 k l0 l1 l2 l3 y230 0) = some (r1, r2) := by first | (rw [hy230]; with_reducible exact H) | (have H2_ := (Option.bind_some _ _).symm.trans H; rw [hy230]; with_reducible exact H2_) | (have H2_ := (Option.bind_some _ _).symm.trans H; with_reducible exact H2_) | with_reducible exact H | (rw [hy230]; exact H) | exact H
 have Ny230 := Aside0.mk hy230
 clear hy230
 have H' := Aside0.mk H
 clear H
 go_enter Try.func46, Try.ntmps46
 go_wp2_with (first | ((with_reducible refine gate_dst (N := 15) rfl ?_); refine Kd.R_lit (Kd.int .i64) _ 3 ?hg (N := 15) ?hd (xs := ([] : List Int)) (inner := []) (ok := fun _ => True) (okp := fun _ => True) ?hr ?hp (fun _ hk => hk) trivial (Below.refl _ _) (Nat.le_refl _) (by simp) ?_; (case hd => rfl); (case hg => rfl); (case hr => first | (go_simp; done) | (go_simp; rfl)); (case hp => exact (Reps.none _ _)); intro v231 w5 ho6 hb hg_ hnew_; clear hg_ hnew_; (first | rw [← Ny230.out] at ho6 | (simp only [Int.reduceToNat] at ho6; rw [← Ny230.out] at ho6)); have n0_ := Aside0.mk (Kd.V_elder' (by (with_reducible repeat (first | apply Kd.V_alloc | apply Kd.V_drewN | apply Kd.V_drew)); exact HO2.out) (Kd.R_base ho6) hb); have n1_ := Aside0.mk (Kd.R_lower (Kd.R_newM (M := fun k_ => (w.heap.size ≤ k_)) ho6 (below_size (bel_any HB.out)) (fun k_ h_ => h_)) (below_size (bel_any HB.out))); have n2_ := Aside0.mk (below_step (bel_any HB.out) hb); clear HO2; clear HB; have HO2 := n0_; have HO232 := n1_; have HB := n2_; clear n0_ n1_ n2_; clear hb ho6))
 go_loopg [10, 11] k (fun kq v10 v11 w' => ∃ (x10_1 : List Int) (x11_1 : Int), v11 = .int .i64 x11_1 ∧ Aside0 (fulcrumref21_cleaned.l0 kq l0 l1 l2 l3 x10_1 x11_1 = some (r1, r2)) ∧ Aside0 (kq ≤ k) ∧ Aside0 (Kd.V (Kd.int .i64) 3 w' w.heap.size (fun k_ => (P2_ k_ ∨ w.heap.size ≤ k_) ∧ some k_ ≠ (v10 : Value).ownBlock) (.slice A2 l2.length c2) l2) ∧ Aside0 (Kd.R (Kd.int .i64) 3 w' w.heap.size (fun k_ => (w.heap.size ≤ k_)) v10 x10_1) ∧ Aside0 (Below w.heap.size w w'))
 case atStart => exact ⟨(y230), (0), (by first | rfl | (simp; done) | (simp [*]; done)), H', ⟨Nat.le_refl _⟩, ⟨by (with_reducible repeat (first | apply Kd.V_alloc | apply Kd.V_drewN | apply Kd.V_drew)); exact HO2.out⟩, ⟨by (with_reducible repeat (first | apply Kd.R_alloc | apply Kd.R_drewN | apply Kd.R_drew)); exact Kd.R_mono HO232.out (fun _ hk => hk.1)⟩, ⟨bel_any HB.out⟩⟩
 case round =>
  clear H'
  try clear c1
  try clear c2
  try clear p2
  try clear c3
  try clear c4
  obtain ⟨x10_1, x11_1, rfl, HA, HK1, HO_2, HO_10, HB⟩ := hrel
  cases gk with
  | zero => exact absurd HA.out (by simp [fulcrumref21_cleaned.l0])
  | succ k1 =>
   have H := HA.out
   clear HA
   simp only [fulcrumref21_cleaned.l0] at H
   by_cases c7 : x11_1 < (l3.length : Int)
   ·rw [if_pos c7] at H
    have c7b0 : decide (x11_1 < (l3.length : Int)) = true := decide_eq_true c7
    clear c7
    by_cases c8 : 0 ≤ x11_1
    ·rw [if_pos c8] at H
     have c8b0 : decide (0 ≤ x11_1) = true := decide_eq_true c8
     clear c8
     by_cases c9 : x10_1.length < 17592186044416
     ·rw [if_pos c9] at H
      have LMc9 := Aside0.mk c9
      clear c9
      obtain ⟨y234, hy234⟩ : ∃ y_ : List Int, y_ = (x10_1 ++ [rd l3 x11_1]) := ⟨_, rfl⟩
      replace H : (fulcrumref21_cleaned.l0 k1 l0 l1 l2 l3 y234 (wrap64 (x11_1 + 1))) = some (r1, r2) := by first | (rw [hy234]; with_reducible exact H) | (have H2_ := (Option.bind_some _ _).symm.trans H; rw [hy234]; with_reducible exact H2_) | (have H2_ := (Option.bind_some _ _).symm.trans H; with_reducible exact H2_) | with_reducible exact H | (rw [hy234]; exact H) | exact H
      have Ny234 := Aside0.mk hy234
      clear hy234
      have H' := Aside0.mk H
      clear H
      have p233 : 0 ≤ (x11_1 : Int) := odt
      have q233 : x11_1 < (l3.length : Int) := odt
      obtain ⟨ad233, e233, hx233_0⟩ := Kd.at_int HR3.out x11_1 p233 q233
      cases e233
      replace hx233_0 := (HB.out.cell (World.block_lt_of_cell? w _ hx233_0)).trans hx233_0
      replace p233 := eq_true p233
      replace q233 := eq_true q233
      go_wp2_with (first | ((with_reducible refine gate_builtin (b := .append) (xs := #[.tmp 22, .tmp 27]) rfl ?_); at_builtin; refine Kd.R_append (Kd.int .i64) (w0 := w) w.heap.size rfl (.tmp 22) (.tmp 27) 27 3 (.int .i64 0) 8 rfl Try.underlying27 info3 rfl (by decide) (by omega) u10 x10_1 (rd l3 x11_1) [.int .i64 (rd l3 x11_1)] (fun k_ => (w.heap.size ≤ k_)) (fun _ => False) rfl rfl ?aP (fun _ hk => hk.elim) ?aF ?aO ?aB ?aS ?aL ?_; (case aP => exact rfl); (case aB => exact (bel_any HB.out)); (case aF => exact (fun k_ hk => (Nat.le_trans (below_size (bel_any HB.out)) hk))); (case aO => exact (R_any HO_10.out)); (case aS => exact (below_size (bel_any HB.out))); (case aL => have := LMc9.out; omega); intro v235 w10 ho hb hg hat; rw [← Ny234.out] at ho; have n0_ := Aside0.mk (Kd.V_afterv (ok := (fun k_ => (P2_ k_ ∨ w.heap.size ≤ k_))) (by (with_reducible repeat (first | apply Kd.V_alloc | apply Kd.V_drewN | apply Kd.V_drew)); exact HO_2.out) hg hat); have n1_ := Aside0.mk (hb); have n2_ := Aside0.mk (ho); clear HO_2; clear HB; clear HO_10; have HO_2 := n0_; have HB := n1_; have HO236 := n2_; clear n0_ n1_ n2_; clear ho hb hg hat))
      go_roundg k1
      case measure => have := HK1.out; omega
      case rel => exact ⟨(y234), (wrap64 (x11_1 + 1)), (by first | rfl | (simp; done) | (simp [*]; done)), H', ⟨by have := HK1.out; omega⟩, ⟨by (with_reducible repeat (first | apply Kd.V_alloc | apply Kd.V_drewN | apply Kd.V_drew)); exact HO_2.out⟩, ⟨R_any HO236.out⟩, ⟨bel_any HB.out⟩⟩
     ·rw [if_neg c9] at H
      exact absurd H (by simp)
    ·rw [if_neg c8] at H
     exact absurd H (by simp)
   ·rw [if_neg c7] at H
    have c7b0 : decide (x11_1 < (l3.length : Int)) = false := decide_eq_false c7
    clear c7
    have H' := Aside0.mk H
    clear H
    go_wp2
    go_loopg [2, 10] k1 (fun kq v2 v10 w' => ∃ (x2_2 : List Int) (x10_2 : List Int), Aside0 (fulcrumref21_cleaned.l1 kq l0 l1 x2_2 x10_2 = some (r1, r2)) ∧ Aside0 (kq ≤ k1) ∧ Aside0 (Kd.V (Kd.int .i64) 3 w' w.heap.size (fun k_ => (P2_ k_ ∨ w.heap.size ≤ k_) ∧ some k_ ≠ (v10 : Value).ownBlock) v2 x2_2) ∧ Aside0 (Kd.R (Kd.int .i64) 3 w' w.heap.size (fun k_ => (w.heap.size ≤ k_)) v10 x10_2) ∧ Aside0 (Below w.heap.size w w'))
    case atStart => exact ⟨(l2), (x10_1), H', ⟨Nat.le_refl _⟩, ⟨by (with_reducible repeat (first | apply Kd.V_alloc | apply Kd.V_drewN | apply Kd.V_drew)); exact HO_2.out⟩, ⟨R_any HO_10.out⟩, ⟨bel_any HB.out⟩⟩
    case round =>
     clear H'
     try clear c1
     try clear c2
     try clear p2
     try clear q2
     try clear hx2
     try clear c3
     try clear c4
     try clear p6
     try clear c7
     try clear c7b0
     try clear c8
     try clear c8b0
     try clear c9
     try clear hx233_0
     try clear p2
     try clear p233
     try clear q233
     obtain ⟨x2_2, x10_2, HA, HK2, HO_2, HO_10, HB⟩ := hrel
     cases gk with
     | zero => exact absurd HA.out (by simp [fulcrumref21_cleaned.l1])
     | succ k2 =>
      have H := HA.out
      clear HA
      simp only [fulcrumref21_cleaned.l1] at H
      replace H := Option.bind_eq_some_iff.mp H
      obtain ⟨⟨t237, t238⟩, A110, H⟩ := H
      replace H : (if t238 = 0 then (some (x2_2, x10_2)) else ((fulcrumref21_resolved.f k2 l0 l1 x2_2 t237).bind fun bt239 => (if x10_2.length < 17592186044416 then (fulcrumref21_cleaned.l1 k2 l0 l1 bt239.1 (x10_2 ++ [bt239.2])) else (none)))) = some (r1, r2) := H
      have A11 := Aside0.mk A110
      clear A110
      by_cases c12 : t238 = 0
      ·rw [if_pos c12] at H
       have c12b0 : (t238 == 0) = true := beq_iff_eq.mpr c12
       have c12b1 : (t238 != 0) = false := bne_eq_false_iff_eq.mpr c12
       clear c12
       simp only [Option.some.injEq, Prod.mk.injEq] at H
       obtain ⟨rfl, rfl⟩ := H
       obtain ⟨Ao13, co13, eo13⟩ := Kd.V_slice HO_2.out
       subst eo13
       go_wp2_with (first | ((with_reducible refine gate_callee (f := 45) rfl ?_); refine goesL_ (some 32) rfl rfl Try.func45 (by kernel_rfl) rfl #[.slice A1 l1.length c1, .slice Ao13 x2_2.length co13, .int .i64 0] rfl (by (try simp only [List.map_toArray, List.map_cons, List.map_nil]); first | done | rfl | (simp only [List.length_drop, List.length_take]; rfl)) ?_; (with_reducible refine (fulcrumref21_latest.calls k2 _ _ l1 _ _ x2_2 0 t237 t238 _ ?side1 ?side2 ?side3 ?side4 A11.out).mono ?_); (case side1 => repeat (first | exact (Kd.C_below HR1.out HB.out) | (with_reducible refine Kd.C_alloc ?_ _) | (with_reducible refine Kd.C_drewN ?_ _) | (with_reducible refine Kd.C_drew ?_))); (case side2 => exact HC1.out); (case side3 => repeat (first | exact (Kd.V_reads' HO_2.out).2.2 | (with_reducible refine Kd.C_alloc ?_ _) | (with_reducible refine Kd.C_drewN ?_ _) | (with_reducible refine Kd.C_drew ?_))); (case side4 => exact (Kd.V_reads' HO_2.out).2.1); rintro e w' ⟨rfl, ⟨nd, rfl⟩⟩; refine ⟨_, rfl, ?_⟩))
       go_ret2
       exact ⟨_, _, by first | rfl | (simp [errW_none, errW_some] <;> rfl) | (simp [*, errW_none, errW_some] <;> rfl), by (with_reducible repeat (first | apply Kd.V_alloc | apply Kd.V_drewN | apply Kd.V_drew)); exact HO_2.out, R_any HO_10.out, bel_any HB.out⟩
      ·rw [if_neg c12] at H
       have c12b0 : (t238 == 0) = false := beq_eq_false_iff_ne.mpr c12
       have c12b1 : (t238 != 0) = true := bne_iff_ne.mpr c12
       replace H := Option.bind_eq_some_iff.mp H
       obtain ⟨⟨t239, t240⟩, A140, H⟩ := H
       replace H : (if x10_2.length < 17592186044416 then (fulcrumref21_cleaned.l1 k2 l0 l1 t239 (x10_2 ++ [t240])) else (none)) = some (r1, r2) := H
       have A14 := Aside0.mk A140
       clear A140
       by_cases c15 : x10_2.length < 17592186044416
       ·rw [if_pos c15] at H
        have LMc15 := Aside0.mk c15
        clear c15
        obtain ⟨y243, hy243⟩ : ∃ y_ : List Int, y_ = (x10_2 ++ [t240]) := ⟨_, rfl⟩
        replace H : (fulcrumref21_cleaned.l1 k2 l0 l1 t239 y243) = some (r1, r2) := by first | (rw [hy243]; with_reducible exact H) | (have H2_ := (Option.bind_some _ _).symm.trans H; rw [hy243]; with_reducible exact H2_) | (have H2_ := (Option.bind_some _ _).symm.trans H; with_reducible exact H2_) | with_reducible exact H | (rw [hy243]; exact H) | exact H
        have Ny243 := Aside0.mk hy243
        clear hy243
        have H' := Aside0.mk H
        clear H
        obtain ⟨Ao16, co16, eo16⟩ := Kd.V_slice HO_2.out
        subst eo16
        go_wp2_with (first | ((with_reducible refine gate_callee (f := 45) rfl ?_); refine goesL_ (some 32) rfl rfl Try.func45 (by kernel_rfl) rfl #[.slice A1 l1.length c1, .slice Ao16 x2_2.length co16, .int .i64 0] rfl (by (try simp only [List.map_toArray, List.map_cons, List.map_nil]); first | done | rfl | (simp only [List.length_drop, List.length_take]; rfl)) ?_; (with_reducible refine (fulcrumref21_latest.calls k2 _ _ l1 _ _ x2_2 0 t237 t238 _ ?side1 ?side2 ?side3 ?side4 A11.out).mono ?_); (case side1 => repeat (first | exact (Kd.C_below HR1.out HB.out) | (with_reducible refine Kd.C_alloc ?_ _) | (with_reducible refine Kd.C_drewN ?_ _) | (with_reducible refine Kd.C_drew ?_))); (case side2 => exact HC1.out); (case side3 => repeat (first | exact (Kd.V_reads' HO_2.out).2.2 | (with_reducible refine Kd.C_alloc ?_ _) | (with_reducible refine Kd.C_drewN ?_ _) | (with_reducible refine Kd.C_drew ?_))); (case side4 => exact (Kd.V_reads' HO_2.out).2.1); rintro e w' ⟨rfl, ⟨nd, rfl⟩⟩; refine ⟨_, rfl, ?_⟩) | ((with_reducible refine gate_callee (f := 48) rfl ?_); refine goesL_ (some 44) rfl rfl Try.func48 (by kernel_rfl) rfl #[.slice A0 l0.length c0, .slice A1 l1.length c1, .slice Ao16 x2_2.length co16, .int .i64 t237] rfl (by (try simp only [List.map_toArray, List.map_cons, List.map_nil]); first | done | rfl | (simp only [List.length_drop, List.length_take]; rfl)) ?_; (with_reducible refine (fulcrumref21_resolved.calls k2 _ _ l0 _ _ l1 _ _ x2_2 t237 t239 t240 _ ?side1 ?side2 ?side3 ?side4 ?side5 ?side6 A14.out).mono ?_); (case side1 => repeat (first | exact (Kd.C_below HR0.out (bel_any HB.out)) | (with_reducible refine Kd.C_alloc ?_ _) | (with_reducible refine Kd.C_drewN ?_ _) | (with_reducible refine Kd.C_drew ?_))); (case side2 => exact HC0.out); (case side3 => repeat (first | exact (Kd.C_below HR1.out (bel_any HB.out)) | (with_reducible refine Kd.C_alloc ?_ _) | (with_reducible refine Kd.C_drewN ?_ _) | (with_reducible refine Kd.C_drew ?_))); (case side4 => exact HC1.out); (case side5 => repeat (first | exact (Kd.V_reads' HO_2.out).2.2 | (with_reducible refine Kd.C_alloc ?_ _) | (with_reducible refine Kd.C_drewN ?_ _) | (with_reducible refine Kd.C_drew ?_))); (case side6 => exact (Kd.V_reads' HO_2.out).2.1); rintro e w17 ⟨v241, rfl, ho0, hb⟩; refine ⟨_, rfl, ?_⟩; have n0_ := Aside0.mk (Kd.V_elder' (by (with_reducible repeat (first | apply Kd.V_alloc | apply Kd.V_drewN | apply Kd.V_drew)); exact HO_2.out) (Kd.R_base ho0) hb); have n1_ := Aside0.mk (Kd.R_elder' (R_any HO_10.out) (Kd.R_base ho0) hb); have n2_ := Aside0.mk (Kd.R_lower (Kd.R_new' (Kd.R_newM (M := fun k_ => (w.heap.size ≤ k_)) ho0 (below_size (bel_any HB.out)) (fun k_ h_ => h_)) (Kd.R_lt (R_any HO_10.out))) (below_size (bel_any HB.out))); have n3_ := Aside0.mk (below_step (bel_any HB.out) hb); clear HO_2; clear HO_10; clear HB; have HO_2 := n0_; have HO_10 := n1_; have HO242 := n2_; have HB := n3_; clear n0_ n1_ n2_ n3_; (try clear hb); (try clear hb2); (try clear hk); (try clear hi); (try clear ho0)) | ((with_reducible refine gate_builtin (b := .append) (xs := #[.tmp 47, .tmp 49]) rfl ?_); at_builtin; refine Kd.R_append (Kd.int .i64) (w0 := w) w.heap.size rfl (.tmp 47) (.tmp 49) 27 3 (.int .i64 0) 8 rfl Try.underlying27 info3 rfl (by decide) (by omega) u10 x10_2 t240 [.int .i64 t240] (fun k_ => (w.heap.size ≤ k_) ∧ some k_ ≠ (v241 : Value).ownBlock) (fun _ => False) rfl rfl ?aP (fun _ hk => hk.elim) ?aF ?aO ?aB ?aS ?aL ?_; (case aP => exact rfl); (case aB => exact (bel_any HB.out)); (case aF => exact (fun k_ hk => ⟨(Nat.le_trans (below_size (bel_any HB.out)) hk), Kd.fresh' (Kd.R_lt (R_any HO242.out)) k_ hk⟩)); (case aO => exact (R_any HO_10.out)); (case aS => exact (below_size (bel_any HB.out))); (case aL => have := LMc15.out; omega); intro v244 w18 ho hb hg hat; rw [← Ny243.out] at ho; have n0_ := Aside0.mk (Kd.V_afterv (ok := (fun k_ => (P2_ k_ ∨ w.heap.size ≤ k_) ∧ some k_ ≠ (v241 : Value).ownBlock)) (by (with_reducible repeat (first | apply Kd.V_alloc | apply Kd.V_drewN | apply Kd.V_drew)); exact Kd.V_mono HO_2.out (fun _ hk => ⟨⟨hk.1.1, hk.2⟩, hk.1.2⟩)) hg hat); have n1_ := Aside0.mk (Kd.R_after (ok := (fun k_ => (w.heap.size ≤ k_))) (by (with_reducible repeat (first | apply Kd.R_alloc | apply Kd.R_drewN | apply Kd.R_drew)); exact Kd.R_mono HO242.out (fun _ hk => ⟨hk.1.1, hk.2⟩)) hg hat); have n2_ := Aside0.mk (hb); have n3_ := Aside0.mk (ho); clear HO_2; clear HO242; clear HB; clear HO_10; have HO_2 := n0_; have HO242 := n1_; have HB := n2_; have HO245 := n3_; clear n0_ n1_ n2_ n3_; clear ho hb hg hat))
        go_roundg k2
        case measure => have := HK1.out; have := HK2.out; omega
        case rel => exact ⟨(t239), (y243), H', ⟨by have := HK1.out; have := HK2.out; omega⟩, ⟨Kd.V_mono (Kd.R_V (R_any HO242.out)) (fun k_ hk => by first | exact ⟨(.inr (hk.1)), hk.2⟩ | exact (.inr (hk)))⟩, ⟨by (with_reducible repeat (first | apply Kd.R_alloc | apply Kd.R_drewN | apply Kd.R_drew)); exact Kd.R_mono HO245.out (fun _ hk => hk.1)⟩, ⟨bel_any HB.out⟩⟩
       ·rw [if_neg c15] at H
        exact absurd H (by simp)
mutual
def fulcrumref21_falling.l0 : Nat → List (S49) → List Int → List Int → Option (List Int)
 | 0, _, _, _ => none
 | k + 1, x0, x5, x6 => if (x6.length : Int) > 0 then (if 0 < (x6.length : Int) then (fulcrumref21_falling.l1 k x0 x5 x6 (rd x6 0) 1) else (none)) else (some x5)
def fulcrumref21_falling.l1 : Nat → List (S49) → List Int → List Int → Int → Int → Option (List Int)
 | 0, _, _, _, _, _ => none
 | k + 1, x0, x5, x6, x7, x8 => if x8 < (x6.length : Int) then (if 0 ≤ x8 then ((fulcrumref21_place.f k x0 (wrap64 (-(rd x6 x8)))).bind fun t260 => ((fulcrumref21_place.f k x0 (wrap64 (-x7))).bind fun t261 => (if t260 > t261 then (fulcrumref21_falling.l1 k x0 x5 x6 (rd x6 x8) (wrap64 (x8 + 1))) else (fulcrumref21_falling.l1 k x0 x5 x6 x7 (wrap64 (x8 + 1)))))) else (none)) else (if x5.length < 17592186044416 then ((fulcrumref21_without.f k x6 x7).bind fun t256 => (fulcrumref21_falling.l0 k x0 (x5 ++ [x7]) t256)) else (none))
end
def fulcrumref21_falling.f (k : Nat) (l0 : List (S49)) (l1 : List Int) : Option (List Int) := (fulcrumref21_set.f k l1).bind fun t249 => (fulcrumref21_falling.l0 k l0 (([] : List Int)) t249)
set_option maxHeartbeats 8000000 in
set_option maxRecDepth 100000 in
theorem fulcrumref21_falling.calls (k : Nat) (A0 : Option Addr) (c0 : Nat) (l0 : List (S49)) (A1 : Option Addr) (c1 : Nat) (l1 : List Int) (r : List Int) (w : World) (hr0 : Kd.C k49 w A0 l0.length l0) (hc0 : l0.length ≤ c0) (hr1 : Kd.C (Kd.int .i64) w A1 l1.length l1) (hc1 : l1.length ≤ c1) (h : fulcrumref21_falling.f k l0 l1 = some r) :
  Calls Try.prog 61 #[.slice A0 l0.length c0, .slice A1 l1.length c1] w fun e w' => ∃ v0_ : Value, e = .returned (v0_) ∧ Kd.R (Kd.int .i64) 3 w' w.heap.size (fun _ => True) v0_ r ∧ Below w.heap.size w w' := by
 have HR0 := Aside0.mk hr0
 have HC0 := Aside0.mk hc0
 clear hr0 hc0
 have HR1 := Aside0.mk hr1
 have HC1 := Aside0.mk hc1
 clear hr1 hc1
 have HB := Aside0.mk (Below.refl w.heap.size w)
 have H : ((fulcrumref21_set.f k l1).bind fun t249 => (fulcrumref21_falling.l0 k l0 (([] : List Int)) t249)) = some r := h
 clear h
 obtain ⟨y246, hy246⟩ : ∃ y_ : List Int, y_ = (([] : List Int)) := ⟨_, rfl⟩
 replace H : ((fulcrumref21_set.f k l1).bind fun t249 => (fulcrumref21_falling.l0 k l0 y246 t249)) = some r := by first | (rw [hy246]; with_reducible exact H) | (have H2_ := (Option.bind_some _ _).symm.trans H; rw [hy246]; with_reducible exact H2_) | (have H2_ := (Option.bind_some _ _).symm.trans H; with_reducible exact H2_) | with_reducible exact H | (rw [hy246]; exact H) | exact H
 have Ny246 := Aside0.mk hy246
 clear hy246
 replace H := Option.bind_eq_some_iff.mp H
 obtain ⟨t249, A30, H⟩ := H
 replace H : (fulcrumref21_falling.l0 k l0 y246 t249) = some r := H
 have A3 := Aside0.mk A30
 clear A30
 have H' := Aside0.mk H
 clear H
 go_enter Try.func61, Try.ntmps61
 go_wp2_with (first | ((with_reducible refine gate_dst (N := 9) rfl ?_); refine Kd.R_lit (Kd.int .i64) _ 3 ?hg (N := 9) ?hd (xs := ([] : List Int)) (inner := []) (ok := fun _ => True) (okp := fun _ => True) ?hr ?hp (fun _ hk => hk) trivial (Below.refl _ _) (Nat.le_refl _) (by simp) ?_; (case hd => rfl); (case hg => rfl); (case hr => first | (go_simp; done) | (go_simp; rfl)); (case hp => exact (Reps.none _ _)); intro v247 w4 ho5 hb hg_ hnew_; clear hg_ hnew_; (first | rw [← Ny246.out] at ho5 | (simp only [Int.reduceToNat] at ho5; rw [← Ny246.out] at ho5)); have n0_ := Aside0.mk (Kd.R_lower ho5 (below_size (bel_any HB.out))); have n1_ := Aside0.mk (below_step (bel_any HB.out) hb); clear HB; have HO248 := n0_; have HB := n1_; clear n0_ n1_; clear hb ho5) | ((with_reducible refine gate_callee (f := 43) rfl ?_); refine goesL_ (some 11) rfl rfl Try.func43 (by kernel_rfl) rfl #[.slice A1 l1.length c1] rfl (by (try simp only [List.map_toArray, List.map_cons, List.map_nil]); first | done | rfl | (simp only [List.length_drop, List.length_take]; rfl)) ?_; (with_reducible refine (fulcrumref21_set.calls k _ _ l1 t249 _ ?side1 ?side2 A3.out).mono ?_); (case side1 => repeat (first | exact (Kd.C_below HR1.out HB.out) | (with_reducible refine Kd.C_alloc ?_ _) | (with_reducible refine Kd.C_drewN ?_ _) | (with_reducible refine Kd.C_drew ?_))); (case side2 => exact HC1.out); rintro e w6 ⟨v250, rfl, ho0, hb⟩; refine ⟨_, rfl, ?_⟩; have n0_ := Aside0.mk (Kd.R_elder' (R_any HO248.out) (Kd.R_base ho0) hb); have n1_ := Aside0.mk (Kd.R_lower (Kd.R_new' ho0 (Kd.R_lt (R_any HO248.out))) (below_size (bel_any HB.out))); have n2_ := Aside0.mk (below_step (bel_any HB.out) hb); clear HO248; clear HB; have HO248 := n0_; have HO251 := n1_; have HB := n2_; clear n0_ n1_ n2_; (try clear hb); (try clear hb2); (try clear hk); (try clear hi); (try clear ho0)))
 go_loopg [5, 6] k (fun kq v5 v6 w' => ∃ (x5_1 : List Int) (x6_1 : List Int), Aside0 (fulcrumref21_falling.l0 kq l0 x5_1 x6_1 = some r) ∧ Aside0 (kq ≤ k) ∧ Aside0 (Kd.R (Kd.int .i64) 3 w' w.heap.size (fun k_ => some k_ ≠ (v6 : Value).ownBlock) v5 x5_1) ∧ Aside0 (Kd.R (Kd.int .i64) 3 w' w.heap.size (fun k_ => some k_ ≠ (v5 : Value).ownBlock) v6 x6_1) ∧ Aside0 (Below w.heap.size w w'))
 case atStart => exact ⟨(y246), (t249), H', ⟨Nat.le_refl _⟩, ⟨by (with_reducible repeat (first | apply Kd.R_alloc | apply Kd.R_drewN | apply Kd.R_drew)); exact Kd.R_mono HO248.out (fun _ hk => hk.2)⟩, ⟨by (with_reducible repeat (first | apply Kd.R_alloc | apply Kd.R_drewN | apply Kd.R_drew)); exact Kd.R_mono HO251.out (fun _ hk => hk.2)⟩, ⟨bel_any HB.out⟩⟩
 case round =>
  clear H'
  try clear c1
  try clear p2
  try clear c4
  try clear c6
  obtain ⟨x5_1, x6_1, HA, HK1, HO_5, HO_6, HB⟩ := hrel
  cases gk with
  | zero => exact absurd HA.out (by simp [fulcrumref21_falling.l0])
  | succ k1 =>
   have H := HA.out
   clear HA
   simp only [fulcrumref21_falling.l0] at H
   by_cases c7 : (x6_1.length : Int) > 0
   ·rw [if_pos c7] at H
    have c7b0 : decide (0 < (x6_1.length : Int)) = true := decide_eq_true c7
    have c7b1 : decide (0 < x6_1.length) = true := decide_eq_true (by omega)
    clear c7
    by_cases c8 : 0 < (x6_1.length : Int)
    ·rw [if_pos c8] at H
     have c8b0 : decide (0 < (x6_1.length : Int)) = true := decide_eq_true c8
     have c8b1 : decide (0 < x6_1.length) = true := decide_eq_true (by omega)
     clear c8
     have H' := Aside0.mk H
     clear H
     obtain ⟨Ao9, co9, eo9⟩ := Kd.R_slice HO_6.out
     subst eo9
     have p252 : 0 ≤ (0 : Int) := (by omega)
     have q252 : 0 < (x6_1.length : Int) := odt
     obtain ⟨ad252, e252, hx252_0⟩ := Kd.at_int (Kd.R_reads' HO_6.out).2.2 0 p252 q252
     cases e252
     have qi252 : (0 < x6_1.length) = True := eq_true (by omega)
     (try rw [show ((0 : Int)).toNat = 0 from rfl] at hx252_0)
     (try rw [Addr.add_zero'] at hx252_0)
     replace p252 := eq_true p252
     replace q252 := eq_true q252
     go_wp2
     go_loopg [7, 8] k1 (fun kq v7 v8 w' => ∃ (x7_2 : Int) (x8_2 : Int), v7 = .int .i64 x7_2 ∧ v8 = .int .i64 x8_2 ∧ Aside0 (fulcrumref21_falling.l1 kq l0 x5_1 x6_1 x7_2 x8_2 = some r) ∧ Aside0 (kq ≤ k1) ∧ Aside0 (Kd.R (Kd.int .i64) 3 w' w.heap.size (fun k_ => some k_ ≠ ((.slice (some ad252) x6_1.length co9) : Value).ownBlock) u5 x5_1) ∧ Aside0 (Kd.R (Kd.int .i64) 3 w' w.heap.size (fun k_ => some k_ ≠ (u5 : Value).ownBlock) (.slice (some ad252) x6_1.length co9) x6_1) ∧ Aside0 (Below w.heap.size w w'))
     case atStart => exact ⟨(rd x6_1 0), (1), (by first | rfl | (simp; done) | (simp [*]; done)), (by first | rfl | (simp; done) | (simp [*]; done)), H', ⟨Nat.le_refl _⟩, ⟨R_any HO_5.out⟩, ⟨R_any HO_6.out⟩, ⟨bel_any HB.out⟩⟩
     case round =>
      clear H'
      try clear c1
      try clear p2
      try clear q2
      try clear hx2
      try clear qi2
      try clear c4
      try clear c6
      try clear c7
      try clear c7b0
      try clear c7b1
      try clear c8
      try clear c8b0
      try clear c8b1
      try clear hx252_0
      try clear p2
      try clear p252
      try clear q252
      obtain ⟨x7_2, x8_2, rfl, rfl, HA, HK2, HO_5, HO_6, HB⟩ := hrel
      cases gk with
      | zero => exact absurd HA.out (by simp [fulcrumref21_falling.l1])
      | succ k2 =>
       have H := HA.out
       clear HA
       simp only [fulcrumref21_falling.l1] at H
       by_cases c10 : x8_2 < (x6_1.length : Int)
       ·rw [if_pos c10] at H
        have c10b0 : decide (x8_2 < (x6_1.length : Int)) = true := decide_eq_true c10
        clear c10
        by_cases c11 : 0 ≤ x8_2
        ·rw [if_pos c11] at H
         have c11b0 : decide (0 ≤ x8_2) = true := decide_eq_true c11
         clear c11
         replace H := Option.bind_eq_some_iff.mp H
         obtain ⟨t260, A120, H⟩ := H
         replace H : ((fulcrumref21_place.f k2 l0 (wrap64 (-x7_2))).bind fun t261 => (if t260 > t261 then (fulcrumref21_falling.l1 k2 l0 x5_1 x6_1 (rd x6_1 x8_2) (wrap64 (x8_2 + 1))) else (fulcrumref21_falling.l1 k2 l0 x5_1 x6_1 x7_2 (wrap64 (x8_2 + 1))))) = some r := H
         have A12 := Aside0.mk A120
         clear A120
         replace H := Option.bind_eq_some_iff.mp H
         obtain ⟨t261, A130, H⟩ := H
         replace H : (if t260 > t261 then (fulcrumref21_falling.l1 k2 l0 x5_1 x6_1 (rd x6_1 x8_2) (wrap64 (x8_2 + 1))) else (fulcrumref21_falling.l1 k2 l0 x5_1 x6_1 x7_2 (wrap64 (x8_2 + 1)))) = some r := H
         have A13 := Aside0.mk A130
         clear A130
         by_cases c14 : t260 > t261
         ·rw [if_pos c14] at H
          have c14b0 : decide (t261 < t260) = true := decide_eq_true c14
          clear c14
          have H' := Aside0.mk H
          clear H
          have p259 : 0 ≤ (x8_2 : Int) := odt
          have q259 : x8_2 < (x6_1.length : Int) := odt
          obtain ⟨ad259, e259, hx259_0⟩ := Kd.at_int (Kd.R_reads' HO_6.out).2.2 x8_2 p259 q259
          obtain rfl : ad252 = ad259 := (by injection e259)
          replace p259 := eq_true p259
          replace q259 := eq_true q259
          go_wp2_with (first | ((with_reducible refine gate_callee (f := 50) rfl ?_); refine goesL_ (some 30) rfl rfl Try.func50 (by kernel_rfl) rfl #[.slice A0 l0.length c0, .int .i64 (wrap64 (-(rd x6_1 x8_2)))] rfl (by (try simp only [List.map_toArray, List.map_cons, List.map_nil]); first | done | rfl | (simp only [List.length_drop, List.length_take]; rfl)) ?_; (with_reducible refine (fulcrumref21_place.calls k2 _ _ l0 (wrap64 (-(rd x6_1 x8_2))) t260 _ ?side1 ?side2 A12.out).mono ?_); (case side1 => repeat (first | exact (Kd.C_below HR0.out HB.out) | (with_reducible refine Kd.C_alloc ?_ _) | (with_reducible refine Kd.C_drewN ?_ _) | (with_reducible refine Kd.C_drew ?_))); (case side2 => exact HC0.out); rintro e w' ⟨rfl, ⟨nd, rfl⟩⟩; refine ⟨_, rfl, ?_⟩) | ((with_reducible refine gate_callee (f := 50) rfl ?_); refine goesL_ (some 34) rfl rfl Try.func50 (by kernel_rfl) rfl #[.slice A0 l0.length c0, .int .i64 (wrap64 (-x7_2))] rfl (by (try simp only [List.map_toArray, List.map_cons, List.map_nil]); first | done | rfl | (simp only [List.length_drop, List.length_take]; rfl)) ?_; (with_reducible refine (fulcrumref21_place.calls k2 _ _ l0 (wrap64 (-x7_2)) t261 _ ?side1 ?side2 A13.out).mono ?_); (case side1 => repeat (first | exact (Kd.C_below HR0.out (bel_any HB.out)) | (with_reducible refine Kd.C_alloc ?_ _) | (with_reducible refine Kd.C_drewN ?_ _) | (with_reducible refine Kd.C_drew ?_))); (case side2 => exact HC0.out); rintro e w' ⟨rfl, ⟨nd, rfl⟩⟩; refine ⟨_, rfl, ?_⟩; have p262 : 0 ≤ (x8_2 : Int) := odt; have q262 : x8_2 < (x6_1.length : Int) := odt; obtain ⟨ad262, e262, hx262_0⟩ := Kd.at_int (Kd.R_reads' HO_6.out).2.2 x8_2 p262 q262; obtain rfl : ad252 = ad262 := (by injection e262); replace p262 := eq_true p262; replace q262 := eq_true q262))
          go_roundg k2
          case measure => have := HK1.out; have := HK2.out; omega
          case rel => exact ⟨(rd x6_1 x8_2), (wrap64 (x8_2 + 1)), (by first | rfl | (simp; done) | (simp [*]; done)), (by first | rfl | (simp; done) | (simp [*]; done)), H', ⟨by have := HK1.out; have := HK2.out; omega⟩, ⟨R_any HO_5.out⟩, ⟨R_any HO_6.out⟩, ⟨bel_any HB.out⟩⟩
         ·rw [if_neg c14] at H
          have c14b0 : decide (t261 < t260) = false := decide_eq_false c14
          clear c14
          have H' := Aside0.mk H
          clear H
          have p259 : 0 ≤ (x8_2 : Int) := odt
          have q259 : x8_2 < (x6_1.length : Int) := odt
          obtain ⟨ad259, e259, hx259_0⟩ := Kd.at_int (Kd.R_reads' HO_6.out).2.2 x8_2 p259 q259
          obtain rfl : ad252 = ad259 := (by injection e259)
          replace p259 := eq_true p259
          replace q259 := eq_true q259
          go_wp2_with (first | ((with_reducible refine gate_callee (f := 50) rfl ?_); refine goesL_ (some 30) rfl rfl Try.func50 (by kernel_rfl) rfl #[.slice A0 l0.length c0, .int .i64 (wrap64 (-(rd x6_1 x8_2)))] rfl (by (try simp only [List.map_toArray, List.map_cons, List.map_nil]); first | done | rfl | (simp only [List.length_drop, List.length_take]; rfl)) ?_; (with_reducible refine (fulcrumref21_place.calls k2 _ _ l0 (wrap64 (-(rd x6_1 x8_2))) t260 _ ?side1 ?side2 A12.out).mono ?_); (case side1 => repeat (first | exact (Kd.C_below HR0.out HB.out) | (with_reducible refine Kd.C_alloc ?_ _) | (with_reducible refine Kd.C_drewN ?_ _) | (with_reducible refine Kd.C_drew ?_))); (case side2 => exact HC0.out); rintro e w' ⟨rfl, ⟨nd, rfl⟩⟩; refine ⟨_, rfl, ?_⟩) | ((with_reducible refine gate_callee (f := 50) rfl ?_); refine goesL_ (some 34) rfl rfl Try.func50 (by kernel_rfl) rfl #[.slice A0 l0.length c0, .int .i64 (wrap64 (-x7_2))] rfl (by (try simp only [List.map_toArray, List.map_cons, List.map_nil]); first | done | rfl | (simp only [List.length_drop, List.length_take]; rfl)) ?_; (with_reducible refine (fulcrumref21_place.calls k2 _ _ l0 (wrap64 (-x7_2)) t261 _ ?side1 ?side2 A13.out).mono ?_); (case side1 => repeat (first | exact (Kd.C_below HR0.out (bel_any HB.out)) | (with_reducible refine Kd.C_alloc ?_ _) | (with_reducible refine Kd.C_drewN ?_ _) | (with_reducible refine Kd.C_drew ?_))); (case side2 => exact HC0.out); rintro e w' ⟨rfl, ⟨nd, rfl⟩⟩; refine ⟨_, rfl, ?_⟩))
          go_roundg k2
          case measure => have := HK1.out; have := HK2.out; omega
          case rel => exact ⟨(x7_2), (wrap64 (x8_2 + 1)), (by first | rfl | (simp; done) | (simp [*]; done)), (by first | rfl | (simp; done) | (simp [*]; done)), H', ⟨by have := HK1.out; have := HK2.out; omega⟩, ⟨R_any HO_5.out⟩, ⟨R_any HO_6.out⟩, ⟨bel_any HB.out⟩⟩
        ·rw [if_neg c11] at H
         exact absurd H (by simp)
       ·rw [if_neg c10] at H
        have c10b0 : decide (x8_2 < (x6_1.length : Int)) = false := decide_eq_false c10
        clear c10
        by_cases c15 : x5_1.length < 17592186044416
        ·rw [if_pos c15] at H
         have LMc15 := Aside0.mk c15
         clear c15
         obtain ⟨y253, hy253⟩ : ∃ y_ : List Int, y_ = (x5_1 ++ [x7_2]) := ⟨_, rfl⟩
         replace H : ((fulcrumref21_without.f k2 x6_1 x7_2).bind fun t256 => (fulcrumref21_falling.l0 k2 l0 y253 t256)) = some r := by first | (rw [hy253]; with_reducible exact H) | (have H2_ := (Option.bind_some _ _).symm.trans H; rw [hy253]; with_reducible exact H2_) | (have H2_ := (Option.bind_some _ _).symm.trans H; with_reducible exact H2_) | with_reducible exact H | (rw [hy253]; exact H) | exact H
         have Ny253 := Aside0.mk hy253
         clear hy253
         replace H := Option.bind_eq_some_iff.mp H
         obtain ⟨t256, A160, H⟩ := H
         replace H : (fulcrumref21_falling.l0 k2 l0 y253 t256) = some r := H
         have A16 := Aside0.mk A160
         clear A160
         have H' := Aside0.mk H
         clear H
         go_wp2_with (first | ((with_reducible refine gate_builtin (b := .append) (xs := #[.tmp 40, .tmp 42]) rfl ?_); at_builtin; refine Kd.R_append (Kd.int .i64) (w0 := w) w.heap.size rfl (.tmp 40) (.tmp 42) 27 3 (.int .i64 0) 8 rfl Try.underlying27 info3 rfl (by decide) (by omega) u5 x5_1 x7_2 [.int .i64 x7_2] (fun k_ => some k_ ≠ (.slice (some ad252) x6_1.length co9 : Value).ownBlock) (fun _ => False) rfl rfl ?aP (fun _ hk => hk.elim) ?aF ?aO ?aB ?aS ?aL ?_; (case aP => exact rfl); (case aB => exact (bel_any HB.out)); (case aF => exact (fun k_ hk => Kd.fresh' (Kd.R_lt (R_any HO_6.out)) k_ hk)); (case aO => exact (R_any HO_5.out)); (case aS => exact (below_size (bel_any HB.out))); (case aL => have := LMc15.out; omega); intro v254 w17 ho hb hg hat; rw [← Ny253.out] at ho; have n0_ := Aside0.mk (Kd.R_after (ok := (fun _ => True)) (by (with_reducible repeat (first | apply Kd.R_alloc | apply Kd.R_drewN | apply Kd.R_drew)); exact Kd.R_mono HO_6.out (fun _ hk => ⟨trivial, hk⟩)) hg hat); have n1_ := Aside0.mk (hb); have n2_ := Aside0.mk (ho); clear HO_6; clear HB; clear HO_5; have HO_6 := n0_; have HB := n1_; have HO255 := n2_; clear n0_ n1_ n2_; clear ho hb hg hat) | ((with_reducible refine gate_callee (f := 62) rfl ?_); refine goesL_ (some 46) rfl rfl Try.func62 (by kernel_rfl) rfl #[.slice (some ad252) x6_1.length co9, .int .i64 x7_2] rfl (by (try simp only [List.map_toArray, List.map_cons, List.map_nil]); first | done | rfl | (simp only [List.length_drop, List.length_take]; rfl)) ?_; (with_reducible refine (fulcrumref21_without.calls k2 _ _ x6_1 x7_2 t256 _ ?side1 ?side2 A16.out).mono ?_); (case side1 => repeat (first | exact (Kd.R_reads' HO_6.out).2.2 | (with_reducible refine Kd.C_alloc ?_ _) | (with_reducible refine Kd.C_drewN ?_ _) | (with_reducible refine Kd.C_drew ?_))); (case side2 => exact (Kd.R_reads' HO_6.out).2.1); rintro e w18 ⟨v257, rfl, ho0, hb⟩; refine ⟨_, rfl, ?_⟩; have n0_ := Aside0.mk (Kd.R_elder' (R_any HO_6.out) (Kd.R_base ho0) hb); have n1_ := Aside0.mk (Kd.R_elder' (R_any HO255.out) (Kd.R_base ho0) hb); have n2_ := Aside0.mk (Kd.R_lower (Kd.R_new' (Kd.R_new' ho0 (Kd.R_lt (R_any HO_6.out))) (Kd.R_lt (R_any HO255.out))) (below_size (bel_any HB.out))); have n3_ := Aside0.mk (below_step (bel_any HB.out) hb); clear HO_6; clear HO255; clear HB; have HO_6 := n0_; have HO255 := n1_; have HO258 := n2_; have HB := n3_; clear n0_ n1_ n2_ n3_; (try clear hb); (try clear hb2); (try clear hk); (try clear hi); (try clear ho0)))
         go_roundg k2
         case measure => have := HK1.out; have := HK2.out; omega
         case rel => exact ⟨(y253), (t256), H', ⟨by have := HK1.out; have := HK2.out; omega⟩, ⟨by (with_reducible repeat (first | apply Kd.R_alloc | apply Kd.R_drewN | apply Kd.R_drew)); exact Kd.R_mono HO255.out (fun _ hk => hk.2)⟩, ⟨by (with_reducible repeat (first | apply Kd.R_alloc | apply Kd.R_drewN | apply Kd.R_drew)); exact Kd.R_mono HO258.out (fun _ hk => hk.2)⟩, ⟨bel_any HB.out⟩⟩
        ·rw [if_neg c15] at H
         exact absurd H (by simp)
    ·rw [if_neg c8] at H
     exact absurd H (by simp)
   ·rw [if_neg c7] at H
    have c7b0 : decide (0 < (x6_1.length : Int)) = false := decide_eq_false c7
    have c7b1 : decide (0 < x6_1.length) = false := decide_eq_false (by omega)
    clear c7
    obtain rfl := Option.some.inj H
    obtain ⟨Ao19, co19, eo19⟩ := Kd.R_slice HO_6.out
    subst eo19
    go_wp2
    go_ret
    exact ⟨_, by first | rfl | (simp [errW_none, errW_some] <;> rfl) | (simp [*, errW_none, errW_some] <;> rfl), by (with_reducible repeat (first | apply Kd.R_alloc | apply Kd.R_drewN | apply Kd.R_drew)); exact Kd.R_mono HO_5.out (fun _ hk => trivial), bel_any HB.out⟩
end Go.Proofs.Ytboalbiicmcljaa.PAN
