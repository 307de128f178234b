import Derived.Test.YtboalbiicmcljaaZOPANx0
import Derived.Test.YtboalbiicmcljaaZOPANx10
import Derived.Test.YtboalbiicmcljaaZOPANx12
namespace Go.Proofs.Ytboalbiicmcljaa.PAN
open Go.Proofs.YtboalbiicmcljaaH
open Go.RowKit Go.Proofs.YtboalbiicmcljaaW.PrintWords Go.Proofs.YtboalbiicmcljaaW.PrintLast Go.Proofs.YtboalbiicmcljaaW.PrintMore
attribute [local go_sem] max2_int min2_int max_two min_two max_three min_three max_four min_four   -- for this text's walks alone
set_option linter.unusedVariables false
set_option linter.unusedSimpArgs false
def fulcrumref21_needless.l0 : Nat → List (List Int) → List (S49) → List Int → Int → Int → Int → Option (Bool)
 | 0, _, _, _, _, _, _ => none
 | k + 1, x0, x1, x2, x3, x9, x10 => if 0 ≤ x9 then (if x9 < (x0.length : Int) then (if x10 < ((rd_L1 x0 x9).length : Int) then (if 0 ≤ x10 then (if (rd (rd_L1 x0 x9) x10) = (wrap64 (-x3)) then (fulcrumref21_needless.l0 k x0 x1 x2 x3 x9 (wrap64 (x10 + 1))) else ((fulcrumref21_has.f k x2 (rd (rd_L1 x0 x9) x10)).bind fun t488 => (if t488 = true then (fulcrumref21_needless.l0 k x0 x1 x2 x3 x9 (wrap64 (x10 + 1))) else ((fulcrumref21_level.f k x1 (rd (rd_L1 x0 x9) x10)).bind fun t489 => (if t489 > 0 then (some false) else (fulcrumref21_needless.l0 k x0 x1 x2 x3 x9 (wrap64 (x10 + 1)))))))) else (none)) else (some true)) else (none)) else (none)
def fulcrumref21_needless.f (k : Nat) (l0 : List (List Int)) (l1 : List (S49)) (l2 : List Int) (a3 : Int) : Option (Bool) := (fulcrumref21_place.f k l1 (wrap64 (-a3))).bind fun t483 => (if 0 ≤ t483 then (if t483 < (l1.length : Int) then (if ((rd_T49 l1 t483).f2) < 0 then (some false) else (fulcrumref21_needless.l0 k l0 l1 l2 a3 ((rd_T49 l1 t483).f2) 0)) else (none)) else (none))
set_option maxHeartbeats 8000000 in
set_option maxRecDepth 100000 in
theorem fulcrumref21_needless.calls (k : Nat) (A0 : Option Addr) (c0 : Nat) (l0 : List (List Int)) (A1 : Option Addr) (c1 : Nat) (l1 : List (S49)) (A2 : Option Addr) (c2 : Nat) (l2 : List Int) (a3 : Int) (r : Bool) (w : World) (hr0 : Kd.C (Kd.slice 3 (Kd.int .i64)) w A0 l0.length l0) (hc0 : l0.length ≤ c0) (hr1 : Kd.C k49 w A1 l1.length l1) (hc1 : l1.length ≤ c1) (hr2 : Kd.C (Kd.int .i64) w A2 l2.length l2) (hc2 : l2.length ≤ c2) (h : fulcrumref21_needless.f k l0 l1 l2 a3 = some r) :
  Calls Try.prog 63 #[.slice A0 l0.length c0, .slice A1 l1.length c1, .slice A2 l2.length c2, .int .i64 a3] w fun e w' => e = .returned (.bool r) ∧ Drawn0 w w' := by
 have HR0 := Aside0.mk hr0
 have HC0 := Aside0.mk hc0
 clear hr0 hc0
 have HR1 := Aside0.mk hr1
 have HC1 := Aside0.mk hc1
 clear hr1 hc1
 have HR2 := Aside0.mk hr2
 have HC2 := Aside0.mk hc2
 clear hr2 hc2
 have H : ((fulcrumref21_place.f k l1 (wrap64 (-a3))).bind fun t483 => (if 0 ≤ t483 then (if t483 < (l1.length : Int) then (if ((rd_T49 l1 t483).f2) < 0 then (some false) else (fulcrumref21_needless.l0 k l0 l1 l2 a3 ((rd_T49 l1 t483).f2) 0)) else (none)) else (none))) = some r := h
 clear h
 replace H := Option.bind_eq_some_iff.mp H
 obtain ⟨t483, A50, H⟩ := H
 replace H : (if 0 ≤ t483 then (if t483 < (l1.length : Int) then (if ((rd_T49 l1 t483).f2) < 0 then (some false) else (fulcrumref21_needless.l0 k l0 l1 l2 a3 ((rd_T49 l1 t483).f2) 0)) else (none)) else (none)) = some r := H
 have A5 := Aside0.mk A50
 clear A50
 by_cases c6 : 0 ≤ t483
 ·rw [if_pos c6] at H
  have c6b0 : decide (0 ≤ t483) = true := decide_eq_true c6
  clear c6
  by_cases c7 : t483 < (l1.length : Int)
  ·rw [if_pos c7] at H
   have c7b0 : decide (t483 < (l1.length : Int)) = true := decide_eq_true c7
   clear c7
   by_cases c8 : ((rd_T49 l1 t483).f2) < 0
   ·rw [if_pos c8] at H
    have c8b0 : decide (((rd_T49 l1 t483).f2) < 0) = true := decide_eq_true c8
    clear c8
    obtain rfl := Option.some.inj H
    go_enter Try.func63, Try.ntmps63
    go_wp2_with (first | ((with_reducible refine gate_callee (f := 50) rfl ?_); refine goesL_ (some 16) rfl rfl Try.func50 (by kernel_rfl) rfl #[.slice A1 l1.length c1, .int .i64 (wrap64 (-a3))] rfl (by (try simp only [List.map_toArray, List.map_cons, List.map_nil]); first | done | rfl | (simp only [List.length_drop, List.length_take]; rfl)) ?_; (with_reducible refine (fulcrumref21_place.calls k _ _ l1 (wrap64 (-a3)) t483 _ ?side1 ?side2 A5.out).mono ?_); (case side1 => repeat (first | exact HR1.out | (with_reducible refine Kd.C_alloc ?_ _) | (with_reducible refine Kd.C_drewN ?_ _) | (with_reducible refine Kd.C_drew ?_))); (case side2 => exact HC1.out); rintro e w' ⟨rfl, ⟨nd, rfl⟩⟩; refine ⟨_, rfl, ?_⟩; have p484 : 0 ≤ (t483 : Int) := odt; have q484 : t483 < (l1.length : Int) := odt; obtain ⟨ad484, e484, hx484_0, hx484_1, hx484_2⟩ := at_T49 HR1.out t483 p484 q484; cases e484; replace p484 := eq_true p484; replace q484 := eq_true q484))
    go_ret
    exact ⟨by first | rfl | (simp; done) | (simp [*]; done), by repeat (first | exact Drawn0.refl _ | apply Drawn0.step)⟩
   ·rw [if_neg c8] at H
    have c8b0 : decide (((rd_T49 l1 t483).f2) < 0) = false := decide_eq_false c8
    clear c8
    have H' := Aside0.mk H
    clear H
    go_enter Try.func63, Try.ntmps63
    go_wp2_with (first | ((with_reducible refine gate_callee (f := 50) rfl ?_); refine goesL_ (some 16) rfl rfl Try.func50 (by kernel_rfl) rfl #[.slice A1 l1.length c1, .int .i64 (wrap64 (-a3))] rfl (by (try simp only [List.map_toArray, List.map_cons, List.map_nil]); first | done | rfl | (simp only [List.length_drop, List.length_take]; rfl)) ?_; (with_reducible refine (fulcrumref21_place.calls k _ _ l1 (wrap64 (-a3)) t483 _ ?side1 ?side2 A5.out).mono ?_); (case side1 => repeat (first | exact HR1.out | (with_reducible refine Kd.C_alloc ?_ _) | (with_reducible refine Kd.C_drewN ?_ _) | (with_reducible refine Kd.C_drew ?_))); (case side2 => exact HC1.out); rintro e w' ⟨rfl, ⟨nd, rfl⟩⟩; refine ⟨_, rfl, ?_⟩; have p484 : 0 ≤ (t483 : Int) := odt; have q484 : t483 < (l1.length : Int) := odt; obtain ⟨ad484, e484, hx484_0, hx484_1, hx484_2⟩ := at_T49 HR1.out t483 p484 q484; cases e484; replace p484 := eq_true p484; replace q484 := eq_true q484))
    go_loopg [10] k (fun kq v10 w' => ∃ (x10_1 : Int), v10 = .int .i64 x10_1 ∧ Aside0 (fulcrumref21_needless.l0 kq l0 l1 l2 a3 ((rd_T49 l1 t483).f2) x10_1 = some r) ∧ Aside0 (kq ≤ k) ∧ Drawn0 w w')
    case atStart => exact ⟨(0), (by first | rfl | (simp; done) | (simp [*]; done)), H', ⟨Nat.le_refl _⟩, by repeat (first | exact Drawn0.refl _ | apply Drawn0.step)⟩
    case round =>
     clear H'
     try clear c1
     try clear c2
     try clear p2
     try clear p4
     try clear q4
     try clear hx4
     try clear c5
     try clear c6
     try clear c6b0
     try clear p6
     try clear c7
     try clear c7b0
     try clear c8
     try clear c8b0
     try clear hx484_0
     try clear hx484_1
     try clear hx484_2
     try clear p484
     try clear q484
     obtain ⟨x10_1, rfl, HA, HK1, ⟨m1, rfl⟩⟩ := hrel
     cases gk with
     | zero => exact absurd HA.out (by simp [fulcrumref21_needless.l0])
     | succ k1 =>
      have H := HA.out
      clear HA
      simp only [fulcrumref21_needless.l0] at H
      by_cases c9 : 0 ≤ ((rd_T49 l1 t483).f2)
      ·rw [if_pos c9] at H
       have c9b0 : decide (0 ≤ ((rd_T49 l1 t483).f2)) = true := decide_eq_true c9
       clear c9
       by_cases c10 : ((rd_T49 l1 t483).f2) < (l0.length : Int)
       ·rw [if_pos c10] at H
        have c10b0 : decide (((rd_T49 l1 t483).f2) < (l0.length : Int)) = true := decide_eq_true c10
        clear c10
        by_cases c11 : x10_1 < ((rd_L1 l0 ((rd_T49 l1 t483).f2)).length : Int)
        ·rw [if_pos c11] at H
         have c11b0 : decide (x10_1 < ((rd_L1 l0 ((rd_T49 l1 t483).f2)).length : Int)) = true := decide_eq_true c11
         clear c11
         by_cases c12 : 0 ≤ x10_1
         ·rw [if_pos c12] at H
          have c12b0 : decide (0 ≤ x10_1) = true := decide_eq_true c12
          clear c12
          by_cases c13 : (rd (rd_L1 l0 ((rd_T49 l1 t483).f2)) x10_1) = (wrap64 (-a3))
          ·rw [if_pos c13] at H
           have c13b0 : ((rd (rd_L1 l0 ((rd_T49 l1 t483).f2)) x10_1) == (wrap64 (-a3))) = true := beq_iff_eq.mpr c13
           have c13b1 : ((rd (rd_L1 l0 ((rd_T49 l1 t483).f2)) x10_1) != (wrap64 (-a3))) = false := bne_eq_false_iff_eq.mpr c13
           clear c13
           have H' := Aside0.mk H
           clear H
           have p485 : 0 ≤ (((rd_T49 l1 t483).f2) : Int) := odt
           have q485 : ((rd_T49 l1 t483).f2) < (l0.length : Int) := odt
           obtain ⟨ad485, A485_0, c485_0, e485, hx485_0, hl485_0, hi485_0⟩ := at_L1 HR0.out ((rd_T49 l1 t483).f2) p485 q485
           cases e485
           have HR485_0 := Aside0.mk hi485_0
           have HC485_0 := Aside0.mk hl485_0
           clear hi485_0 hl485_0
           replace p485 := eq_true p485
           replace q485 := eq_true q485
           have p486 : 0 ≤ (((rd_T49 l1 t483).f2) : Int) := odt
           have q486 : ((rd_T49 l1 t483).f2) < (l0.length : Int) := odt
           obtain ⟨ad486, A486_0, c486_0, e486, hx486_0, hl486_0, hi486_0⟩ := at_L1 HR0.out ((rd_T49 l1 t483).f2) p486 q486
           obtain rfl : ad485 = ad486 := (by injection e486)
           have HR486_0 := Aside0.mk hi486_0
           have HC486_0 := Aside0.mk hl486_0
           clear hi486_0 hl486_0
           replace p486 := eq_true p486
           replace q486 := eq_true q486
           have ea_ := Option.some.inj (hx485_0.symm.trans hx486_0)
           injection ea_ with ea_ en_ ec_
           subst ea_
           subst ec_
           clear en_
           have p487 : 0 ≤ (x10_1 : Int) := odt
           have q487 : x10_1 < ((rd_L1 l0 ((rd_T49 l1 t483).f2)).length : Int) := odt
           obtain ⟨ad487, e487, hx487_0⟩ := Kd.at_int HR486_0.out x10_1 p487 q487
           cases e487
           replace p487 := eq_true p487
           replace q487 := eq_true q487
           go_wp2
           go_roundg k1
           case measure => have := HK1.out; omega
           case rel => exact ⟨(wrap64 (x10_1 + 1)), (by first | rfl | (simp; done) | (simp [*]; done)), H', ⟨by have := HK1.out; omega⟩, by repeat (first | exact Drawn0.refl _ | apply Drawn0.step)⟩
          ·rw [if_neg c13] at H
           have c13b0 : ((rd (rd_L1 l0 ((rd_T49 l1 t483).f2)) x10_1) == (wrap64 (-a3))) = false := beq_eq_false_iff_ne.mpr c13
           have c13b1 : ((rd (rd_L1 l0 ((rd_T49 l1 t483).f2)) x10_1) != (wrap64 (-a3))) = true := bne_iff_ne.mpr c13
           replace H := Option.bind_eq_some_iff.mp H
           obtain ⟨t488, A140, H⟩ := H
           replace H : (if t488 = true then (fulcrumref21_needless.l0 k1 l0 l1 l2 a3 ((rd_T49 l1 t483).f2) (wrap64 (x10_1 + 1))) else ((fulcrumref21_level.f k1 l1 (rd (rd_L1 l0 ((rd_T49 l1 t483).f2)) x10_1)).bind fun t489 => (if t489 > 0 then (some false) else (fulcrumref21_needless.l0 k1 l0 l1 l2 a3 ((rd_T49 l1 t483).f2) (wrap64 (x10_1 + 1)))))) = some r := H
           have A14 := Aside0.mk A140
           clear A140
           by_cases c15 : t488 = true
           ·subst c15
            have H1 : (fulcrumref21_needless.l0 k1 l0 l1 l2 a3 ((rd_T49 l1 t483).f2) (wrap64 (x10_1 + 1))) = some r := by rw [if_pos rfl] at H; exact H
            clear H
            have H := H1
            clear H1
            have H' := Aside0.mk H
            clear H
            have p485 : 0 ≤ (((rd_T49 l1 t483).f2) : Int) := odt
            have q485 : ((rd_T49 l1 t483).f2) < (l0.length : Int) := odt
            obtain ⟨ad485, A485_0, c485_0, e485, hx485_0, hl485_0, hi485_0⟩ := at_L1 HR0.out ((rd_T49 l1 t483).f2) p485 q485
            cases e485
            have HR485_0 := Aside0.mk hi485_0
            have HC485_0 := Aside0.mk hl485_0
            clear hi485_0 hl485_0
            replace p485 := eq_true p485
            replace q485 := eq_true q485
            have p486 : 0 ≤ (((rd_T49 l1 t483).f2) : Int) := odt
            have q486 : ((rd_T49 l1 t483).f2) < (l0.length : Int) := odt
            obtain ⟨ad486, A486_0, c486_0, e486, hx486_0, hl486_0, hi486_0⟩ := at_L1 HR0.out ((rd_T49 l1 t483).f2) p486 q486
            obtain rfl : ad485 = ad486 := (by injection e486)
            have HR486_0 := Aside0.mk hi486_0
            have HC486_0 := Aside0.mk hl486_0
            clear hi486_0 hl486_0
            replace p486 := eq_true p486
            replace q486 := eq_true q486
            have ea_ := Option.some.inj (hx485_0.symm.trans hx486_0)
            injection ea_ with ea_ en_ ec_
            subst ea_
            subst ec_
            clear en_
            have p487 : 0 ≤ (x10_1 : Int) := odt
            have q487 : x10_1 < ((rd_L1 l0 ((rd_T49 l1 t483).f2)).length : Int) := odt
            obtain ⟨ad487, e487, hx487_0⟩ := Kd.at_int HR486_0.out x10_1 p487 q487
            cases e487
            replace p487 := eq_true p487
            replace q487 := eq_true q487
            go_wp2_with (first | (go_at_call 56; (with_reducible refine (fulcrumref21_has.calls k1 _ _ l2 (rd (rd_L1 l0 ((rd_T49 l1 t483).f2)) x10_1) true _ ?side1 ?side2 A14.out).mono ?_); (case side1 => repeat (first | exact HR2.out | (with_reducible refine Kd.C_alloc ?_ _) | (with_reducible refine Kd.C_drewN ?_ _) | (with_reducible refine Kd.C_drew ?_))); (case side2 => exact HC2.out); rintro e w' ⟨rfl, ⟨nd, rfl⟩⟩))
            go_roundg k1
            case measure => have := HK1.out; omega
            case rel => exact ⟨(wrap64 (x10_1 + 1)), (by first | rfl | (simp; done) | (simp [*]; done)), H', ⟨by have := HK1.out; omega⟩, by repeat (first | exact Drawn0.refl _ | apply Drawn0.step)⟩
           ·replace c15 := Bool.eq_false_iff.mpr c15
            subst c15
            have H1 : ((fulcrumref21_level.f k1 l1 (rd (rd_L1 l0 ((rd_T49 l1 t483).f2)) x10_1)).bind fun t489 => (if t489 > 0 then (some false) else (fulcrumref21_needless.l0 k1 l0 l1 l2 a3 ((rd_T49 l1 t483).f2) (wrap64 (x10_1 + 1))))) = some r := by rw [if_neg (show ¬ (false = true) by decide)] at H; exact H
            clear H
            have H := H1
            clear H1
            replace H := Option.bind_eq_some_iff.mp H
            obtain ⟨t489, A160, H⟩ := H
            replace H : (if t489 > 0 then (some false) else (fulcrumref21_needless.l0 k1 l0 l1 l2 a3 ((rd_T49 l1 t483).f2) (wrap64 (x10_1 + 1)))) = some r := H
            have A16 := Aside0.mk A160
            clear A160
            by_cases c17 : t489 > 0
            ·rw [if_pos c17] at H
             have c17b0 : decide (0 < t489) = true := decide_eq_true c17
             clear c17
             obtain rfl := Option.some.inj H
             have p485 : 0 ≤ (((rd_T49 l1 t483).f2) : Int) := odt
             have q485 : ((rd_T49 l1 t483).f2) < (l0.length : Int) := odt
             obtain ⟨ad485, A485_0, c485_0, e485, hx485_0, hl485_0, hi485_0⟩ := at_L1 HR0.out ((rd_T49 l1 t483).f2) p485 q485
             cases e485
             have HR485_0 := Aside0.mk hi485_0
             have HC485_0 := Aside0.mk hl485_0
             clear hi485_0 hl485_0
             replace p485 := eq_true p485
             replace q485 := eq_true q485
             have p486 : 0 ≤ (((rd_T49 l1 t483).f2) : Int) := odt
             have q486 : ((rd_T49 l1 t483).f2) < (l0.length : Int) := odt
             obtain ⟨ad486, A486_0, c486_0, e486, hx486_0, hl486_0, hi486_0⟩ := at_L1 HR0.out ((rd_T49 l1 t483).f2) p486 q486
             obtain rfl : ad485 = ad486 := (by injection e486)
             have HR486_0 := Aside0.mk hi486_0
             have HC486_0 := Aside0.mk hl486_0
             clear hi486_0 hl486_0
             replace p486 := eq_true p486
             replace q486 := eq_true q486
             have ea_ := Option.some.inj (hx485_0.symm.trans hx486_0)
             injection ea_ with ea_ en_ ec_
             subst ea_
             subst ec_
             clear en_
             have p487 : 0 ≤ (x10_1 : Int) := odt
             have q487 : x10_1 < ((rd_L1 l0 ((rd_T49 l1 t483).f2)).length : Int) := odt
             obtain ⟨ad487, e487, hx487_0⟩ := Kd.at_int HR486_0.out x10_1 p487 q487
             cases e487
             replace p487 := eq_true p487
             replace q487 := eq_true q487
             go_wp2_with (first | (go_at_call 56; (with_reducible refine (fulcrumref21_has.calls k1 _ _ l2 (rd (rd_L1 l0 ((rd_T49 l1 t483).f2)) x10_1) false _ ?side1 ?side2 A14.out).mono ?_); (case side1 => repeat (first | exact HR2.out | (with_reducible refine Kd.C_alloc ?_ _) | (with_reducible refine Kd.C_drewN ?_ _) | (with_reducible refine Kd.C_drew ?_))); (case side2 => exact HC2.out); rintro e w' ⟨rfl, ⟨nd, rfl⟩⟩) | (go_at_call 44; (with_reducible refine (fulcrumref21_level.calls k1 _ _ l1 (rd (rd_L1 l0 ((rd_T49 l1 t483).f2)) x10_1) t489 _ ?side1 ?side2 A16.out).mono ?_); (case side1 => repeat (first | exact HR1.out | (with_reducible refine Kd.C_alloc ?_ _) | (with_reducible refine Kd.C_drewN ?_ _) | (with_reducible refine Kd.C_drew ?_))); (case side2 => exact HC1.out); rintro e w' ⟨rfl, ⟨nd, rfl⟩⟩))
             go_ret
             exact ⟨by first | rfl | (simp; done) | (simp [*]; done), by repeat (first | exact Drawn0.refl _ | apply Drawn0.step)⟩
            ·rw [if_neg c17] at H
             have c17b0 : decide (0 < t489) = false := decide_eq_false c17
             clear c17
             have H' := Aside0.mk H
             clear H
             have p485 : 0 ≤ (((rd_T49 l1 t483).f2) : Int) := odt
             have q485 : ((rd_T49 l1 t483).f2) < (l0.length : Int) := odt
             obtain ⟨ad485, A485_0, c485_0, e485, hx485_0, hl485_0, hi485_0⟩ := at_L1 HR0.out ((rd_T49 l1 t483).f2) p485 q485
             cases e485
             have HR485_0 := Aside0.mk hi485_0
             have HC485_0 := Aside0.mk hl485_0
             clear hi485_0 hl485_0
             replace p485 := eq_true p485
             replace q485 := eq_true q485
             have p486 : 0 ≤ (((rd_T49 l1 t483).f2) : Int) := odt
             have q486 : ((rd_T49 l1 t483).f2) < (l0.length : Int) := odt
             obtain ⟨ad486, A486_0, c486_0, e486, hx486_0, hl486_0, hi486_0⟩ := at_L1 HR0.out ((rd_T49 l1 t483).f2) p486 q486
             obtain rfl : ad485 = ad486 := (by injection e486)
             have HR486_0 := Aside0.mk hi486_0
             have HC486_0 := Aside0.mk hl486_0
             clear hi486_0 hl486_0
             replace p486 := eq_true p486
             replace q486 := eq_true q486
             have ea_ := Option.some.inj (hx485_0.symm.trans hx486_0)
             injection ea_ with ea_ en_ ec_
             subst ea_
             subst ec_
             clear en_
             have p487 : 0 ≤ (x10_1 : Int) := odt
             have q487 : x10_1 < ((rd_L1 l0 ((rd_T49 l1 t483).f2)).length : Int) := odt
             obtain ⟨ad487, e487, hx487_0⟩ := Kd.at_int HR486_0.out x10_1 p487 q487
             cases e487
             replace p487 := eq_true p487
             replace q487 := eq_true q487
             go_wp2_with (first | (go_at_call 56; (with_reducible refine (fulcrumref21_has.calls k1 _ _ l2 (rd (rd_L1 l0 ((rd_T49 l1 t483).f2)) x10_1) false _ ?side1 ?side2 A14.out).mono ?_); (case side1 => repeat (first | exact HR2.out | (with_reducible refine Kd.C_alloc ?_ _) | (with_reducible refine Kd.C_drewN ?_ _) | (with_reducible refine Kd.C_drew ?_))); (case side2 => exact HC2.out); rintro e w' ⟨rfl, ⟨nd, rfl⟩⟩) | (go_at_call 44; (with_reducible refine (fulcrumref21_level.calls k1 _ _ l1 (rd (rd_L1 l0 ((rd_T49 l1 t483).f2)) x10_1) t489 _ ?side1 ?side2 A16.out).mono ?_); (case side1 => repeat (first | exact HR1.out | (with_reducible refine Kd.C_alloc ?_ _) | (with_reducible refine Kd.C_drewN ?_ _) | (with_reducible refine Kd.C_drew ?_))); (case side2 => exact HC1.out); rintro e w' ⟨rfl, ⟨nd, rfl⟩⟩))
             go_roundg k1
             case measure => have := HK1.out; omega
             case rel => exact ⟨(wrap64 (x10_1 + 1)), (by first | rfl | (simp; done) | (simp [*]; done)), H', ⟨by have := HK1.out; omega⟩, by repeat (first | exact Drawn0.refl _ | apply Drawn0.step)⟩
         ·rw [if_neg c12] at H
          exact absurd H (by simp)
        ·rw [if_neg c11] at H
         have c11b0 : decide (x10_1 < ((rd_L1 l0 ((rd_T49 l1 t483).f2)).length : Int)) = false := decide_eq_false c11
         clear c11
         obtain rfl := Option.some.inj H
         have p485 : 0 ≤ (((rd_T49 l1 t483).f2) : Int) := odt
         have q485 : ((rd_T49 l1 t483).f2) < (l0.length : Int) := odt
         obtain ⟨ad485, A485_0, c485_0, e485, hx485_0, hl485_0, hi485_0⟩ := at_L1 HR0.out ((rd_T49 l1 t483).f2) p485 q485
         cases e485
         have HR485_0 := Aside0.mk hi485_0
         have HC485_0 := Aside0.mk hl485_0
         clear hi485_0 hl485_0
         replace p485 := eq_true p485
         replace q485 := eq_true q485
         go_wp2
         go_ret
         exact ⟨by first | rfl | (simp; done) | (simp [*]; done), by repeat (first | exact Drawn0.refl _ | apply Drawn0.step)⟩
       ·rw [if_neg c10] at H
        exact absurd H (by simp)
      ·rw [if_neg c9] at H
       exact absurd H (by simp)
  ·rw [if_neg c7] at H
   exact absurd H (by simp)
 ·rw [if_neg c6] at H
  exact absurd H (by simp)
end Go.Proofs.Ytboalbiicmcljaa.PAN
