import Derived.Test.YtboalbiicmcljaaZOPANx0
import Derived.Test.YtboalbiicmcljaaZOPANx10
import Derived.Test.YtboalbiicmcljaaZOPANx11
namespace Go.Proofs.Ytboalbiicmcljaa.PAN
open Go.Proofs.YtboalbiicmcljaaH
open Go.RowKit Go.Proofs.YtboalbiicmcljaaW.PrintWords Go.Proofs.YtboalbiicmcljaaW.PrintLast Go.Proofs.YtboalbiicmcljaaW.PrintMore
attribute [local go_sem] max2_int min2_int max_two min_two max_three min_three max_four min_four   -- for this text's walks alone
set_option linter.unusedVariables false
set_option linter.unusedSimpArgs false
def fulcrumref21_Check.l0 : Nat → List (List Int) → List (S49) → Int → Option (Int)
 | 0, _, _, _ => none
 | k + 1, x0, x1, x5 => if x5 < (x1.length : Int) then (if 0 ≤ x5 then ((fulcrumref21_literal.f ((rd_T49 x1 x5).f0)).bind fun t172 => (if t172 = true then (if x5 ≤ (x1.length : Int) then ((fulcrumref21_place.f k (x1.take (x5 : Int).toNat) ((rd_T49 x1 x5).f0)).bind fun t177 => (if t177 ≥ 0 then (some 200) else ((fulcrumref21_place.f k (x1.take (x5 : Int).toNat) (wrap64 (-((rd_T49 x1 x5).f0)))).bind fun t182 => (if t182 ≥ 0 then (some 200) else ((fulcrumref21_supported.f k x0 x1 x5).bind fun t183 => (if t183 = true then (fulcrumref21_Check.l0 k x0 x1 (wrap64 (x5 + 1))) else (some 200))))))) else (none)) else (some 200))) else (none)) else (some 0)
def fulcrumref21_Check.f (k : Nat) (l0 : List (List Int)) (l1 : List (S49)) : Option (Int) := fulcrumref21_Check.l0 k l0 l1 0
set_option maxHeartbeats 8000000 in
set_option maxRecDepth 100000 in
theorem fulcrumref21_Check.calls (k : Nat) (A0 : Option Addr) (c0 : Nat) (l0 : List (List Int)) (A1 : Option Addr) (c1 : Nat) (l1 : List (S49)) (r : Int) (w : World) (hr0 : Kd.C (Kd.slice 3 (Kd.int .i64)) w A0 l0.length l0) (hc0 : l0.length ≤ c0) (hr1 : Kd.C k49 w A1 l1.length l1) (hc1 : l1.length ≤ c1) (h : fulcrumref21_Check.f k l0 l1 = some r) :
  Calls Try.prog 21 #[.slice A0 l0.length c0, .slice A1 l1.length c1] w fun e w' => e = .returned (.int .i64 r) ∧ Below w.heap.size w w' := by
 have HR0 := Aside0.mk hr0
 have HC0 := Aside0.mk hc0
 clear hr0 hc0
 have HR1 := Aside0.mk hr1
 have HC1 := Aside0.mk hc1
 clear hr1 hc1
 have HB := Aside0.mk (Below.refl w.heap.size w)
 have H : (fulcrumref21_Check.l0 k l0 l1 0) = some r := h
 clear h
 have H' := Aside0.mk H
 clear H
 go_enter Try.func21, Try.ntmps21
 go_wp2
 go_loopg [5] k (fun kq v5 w' => ∃ (x5_1 : Int), v5 = .int .i64 x5_1 ∧ Aside0 (fulcrumref21_Check.l0 kq l0 l1 x5_1 = some r) ∧ Aside0 (kq ≤ k) ∧ Aside0 (Below w.heap.size w w'))
 case atStart => exact ⟨(0), (by first | rfl | (simp; done) | (simp [*]; done)), H', ⟨Nat.le_refl _⟩, ⟨bel_any HB.out⟩⟩
 case round =>
  clear H'
  try clear c1
  try clear c2
  try clear p2
  obtain ⟨x5_1, rfl, HA, HK1, HB⟩ := hrel
  cases gk with
  | zero => exact absurd HA.out (by simp [fulcrumref21_Check.l0])
  | succ k1 =>
   have H := HA.out
   clear HA
   simp only [fulcrumref21_Check.l0] at H
   by_cases c3 : x5_1 < (l1.length : Int)
   ·rw [if_pos c3] at H
    have c3b0 : decide (x5_1 < (l1.length : Int)) = true := decide_eq_true c3
    clear c3
    by_cases c4 : 0 ≤ x5_1
    ·rw [if_pos c4] at H
     have c4b0 : decide (0 ≤ x5_1) = true := decide_eq_true c4
     clear c4
     replace H := Option.bind_eq_some_iff.mp H
     obtain ⟨t172, A50, H⟩ := H
     replace H : (if t172 = true then (if x5_1 ≤ (l1.length : Int) then ((fulcrumref21_place.f k1 (l1.take (x5_1 : Int).toNat) ((rd_T49 l1 x5_1).f0)).bind fun t177 => (if t177 ≥ 0 then (some 200) else ((fulcrumref21_place.f k1 (l1.take (x5_1 : Int).toNat) (wrap64 (-((rd_T49 l1 x5_1).f0)))).bind fun t182 => (if t182 ≥ 0 then (some 200) else ((fulcrumref21_supported.f k1 l0 l1 x5_1).bind fun t183 => (if t183 = true then (fulcrumref21_Check.l0 k1 l0 l1 (wrap64 (x5_1 + 1))) else (some 200))))))) else (none)) else (some 200)) = some r := H
     have A5 := Aside0.mk A50
     clear A50
     by_cases c6 : t172 = true
     ·subst c6
      have H1 : (if x5_1 ≤ (l1.length : Int) then ((fulcrumref21_place.f k1 (l1.take (x5_1 : Int).toNat) ((rd_T49 l1 x5_1).f0)).bind fun t177 => (if t177 ≥ 0 then (some 200) else ((fulcrumref21_place.f k1 (l1.take (x5_1 : Int).toNat) (wrap64 (-((rd_T49 l1 x5_1).f0)))).bind fun t182 => (if t182 ≥ 0 then (some 200) else ((fulcrumref21_supported.f k1 l0 l1 x5_1).bind fun t183 => (if t183 = true then (fulcrumref21_Check.l0 k1 l0 l1 (wrap64 (x5_1 + 1))) else (some 200))))))) else (none)) = some r := by rw [if_pos rfl] at H; exact H
      clear H
      have H := H1
      clear H1
      have c7b0 := eq_true (odt : 0 ≤ x5_1)
      by_cases c8 : x5_1 ≤ (l1.length : Int)
      ·rw [if_pos c8] at H
       have c8b0 := eq_true c8
       have c8b1 : decide (x5_1 ≤ (l1.length : Int)) = true := decide_eq_true c8
       clear c8
       obtain ⟨y173, hy173⟩ : ∃ y_ : List (S49), y_ = (l1.take (x5_1 : Int).toNat) := ⟨_, rfl⟩
       replace H : ((fulcrumref21_place.f k1 y173 ((rd_T49 l1 x5_1).f0)).bind fun t177 => (if t177 ≥ 0 then (some 200) else ((fulcrumref21_place.f k1 (l1.take (x5_1 : Int).toNat) (wrap64 (-((rd_T49 l1 x5_1).f0)))).bind fun t182 => (if t182 ≥ 0 then (some 200) else ((fulcrumref21_supported.f k1 l0 l1 x5_1).bind fun t183 => (if t183 = true then (fulcrumref21_Check.l0 k1 l0 l1 (wrap64 (x5_1 + 1))) else (some 200))))))) = some r := by first | (rw [hy173]; with_reducible exact H) | (have H2_ := (Option.bind_some _ _).symm.trans H; rw [hy173]; with_reducible exact H2_) | (have H2_ := (Option.bind_some _ _).symm.trans H; with_reducible exact H2_) | with_reducible exact H | (rw [hy173]; exact H) | exact H
       have Ny173 := Aside0.mk hy173
       clear hy173
       replace H := Option.bind_eq_some_iff.mp H
       obtain ⟨t177, A90, H⟩ := H
       replace H : (if t177 ≥ 0 then (some 200) else ((fulcrumref21_place.f k1 (l1.take (x5_1 : Int).toNat) (wrap64 (-((rd_T49 l1 x5_1).f0)))).bind fun t182 => (if t182 ≥ 0 then (some 200) else ((fulcrumref21_supported.f k1 l0 l1 x5_1).bind fun t183 => (if t183 = true then (fulcrumref21_Check.l0 k1 l0 l1 (wrap64 (x5_1 + 1))) else (some 200)))))) = some r := H
       have A9 := Aside0.mk A90
       clear A90
       by_cases c10 : t177 ≥ 0
       ·rw [if_pos c10] at H
        have c10b0 : decide (0 ≤ t177) = true := decide_eq_true c10
        clear c10
        obtain rfl := Option.some.inj H
        have p171 : 0 ≤ (x5_1 : Int) := odt
        have q171 : x5_1 < (l1.length : Int) := odt
        obtain ⟨ad171, e171, hx171_0, hx171_1, hx171_2⟩ := at_T49 HR1.out x5_1 p171 q171
        cases e171
        replace hx171_0 := (HB.out.cell (World.block_lt_of_cell? w _ hx171_0)).trans hx171_0
        replace hx171_1 := (HB.out.cell (World.block_lt_of_cell? w _ hx171_1)).trans hx171_1
        replace hx171_2 := (HB.out.cell (World.block_lt_of_cell? w _ hx171_2)).trans hx171_2
        replace p171 := eq_true p171
        replace q171 := eq_true q171
        go_wp2_with (first | ((with_reducible refine gate_callee (f := 49) rfl ?_); refine goesL_ (some 19) rfl rfl Try.func49 (by kernel_rfl) rfl #[.int .i64 ((rd_T49 l1 x5_1).f0)] rfl (by (try simp only [List.map_toArray, List.map_cons, List.map_nil]); first | done | rfl | (simp only [List.length_drop, List.length_take]; rfl)) ?_; (with_reducible refine (fulcrumref21_literal.calls ((rd_T49 l1 x5_1).f0) true _ A5.out).mono ?_); rintro e w' ⟨rfl, ⟨nd, rfl⟩⟩; refine ⟨_, rfl, ?_⟩; have q11 : (x5_1 : Int) ≤ ((l1.length : Int) : Int) := odt; obtain ⟨i011, hi011, _, hsz11, _⟩ := info_parts info49; have hroom11 : l1.length ≤ c1 := HC1.out; have hC11 : Kd.C k49 _ (some ad171) l1.length l1 := HR1.out; have hcut11 := cut_to (P := Try.prog) 24 49 .i64 Try.underlying24 hi011 (some ad171) l1.length c1 x5_1 (odt) q11 hroom11; have hr11 := Kd.C_take (m := (x5_1 : Int).toNat) hC11 (by omega); have hy11 : y173.length = (x5_1 : Int).toNat := (by rw [Ny173.out, List.length_take]; omega); rw [← Ny173.out] at hr11; rw [← hy11] at hcut11; have HR176 := Aside0.mk hr11; have HC176 := Aside0.mk (show y173.length ≤ c1 from by omega); clear hr11 hC11 hroom11 hi011 hsz11; have KY11 := Aside0.mk hy11; clear hy11; replace q11 := eq_true q11) | (go_at_call 50; (with_reducible refine (fulcrumref21_place.calls k1 _ _ y173 ((rd_T49 l1 x5_1).f0) t177 _ ?side1 ?side2 A9.out).mono ?_); (case side1 => repeat (first | exact (Kd.C_below HR176.out (bel_any HB.out)) | (with_reducible refine Kd.C_alloc ?_ _) | (with_reducible refine Kd.C_drewN ?_ _) | (with_reducible refine Kd.C_drew ?_))); (case side2 => exact HC176.out); rintro e w' ⟨rfl, ⟨nd, rfl⟩⟩))
        go_ret
        exact ⟨by first | rfl | (simp [errW_none, errW_some] <;> rfl) | (simp [*, errW_none, errW_some] <;> rfl), bel_any HB.out⟩
       ·rw [if_neg c10] at H
        have c10b0 : decide (0 ≤ t177) = false := decide_eq_false c10
        clear c10
        have c12b0 := eq_true (odt : 0 ≤ x5_1)
        have c13b0 := eq_true (odt : x5_1 ≤ (l1.length : Int))
        replace H : ((fulcrumref21_place.f k1 y173 (wrap64 (-((rd_T49 l1 x5_1).f0)))).bind fun t182 => (if t182 ≥ 0 then (some 200) else ((fulcrumref21_supported.f k1 l0 l1 x5_1).bind fun t183 => (if t183 = true then (fulcrumref21_Check.l0 k1 l0 l1 (wrap64 (x5_1 + 1))) else (some 200))))) = some r := by first | (rw [Ny173.out]; with_reducible exact H) | (have H2_ := (Option.bind_some _ _).symm.trans H; rw [Ny173.out]; with_reducible exact H2_) | (have H2_ := (Option.bind_some _ _).symm.trans H; with_reducible exact H2_) | with_reducible exact H | (rw [Ny173.out]; exact H) | exact H
        replace H := Option.bind_eq_some_iff.mp H
        obtain ⟨t182, A140, H⟩ := H
        replace H : (if t182 ≥ 0 then (some 200) else ((fulcrumref21_supported.f k1 l0 l1 x5_1).bind fun t183 => (if t183 = true then (fulcrumref21_Check.l0 k1 l0 l1 (wrap64 (x5_1 + 1))) else (some 200)))) = some r := H
        have A14 := Aside0.mk A140
        clear A140
        by_cases c15 : t182 ≥ 0
        ·rw [if_pos c15] at H
         have c15b0 : decide (0 ≤ t182) = true := decide_eq_true c15
         clear c15
         obtain rfl := Option.some.inj H
         have p171 : 0 ≤ (x5_1 : Int) := odt
         have q171 : x5_1 < (l1.length : Int) := odt
         obtain ⟨ad171, e171, hx171_0, hx171_1, hx171_2⟩ := at_T49 HR1.out x5_1 p171 q171
         cases e171
         replace hx171_0 := (HB.out.cell (World.block_lt_of_cell? w _ hx171_0)).trans hx171_0
         replace hx171_1 := (HB.out.cell (World.block_lt_of_cell? w _ hx171_1)).trans hx171_1
         replace hx171_2 := (HB.out.cell (World.block_lt_of_cell? w _ hx171_2)).trans hx171_2
         replace p171 := eq_true p171
         replace q171 := eq_true q171
         go_wp2_with (first | ((with_reducible refine gate_callee (f := 49) rfl ?_); refine goesL_ (some 19) rfl rfl Try.func49 (by kernel_rfl) rfl #[.int .i64 ((rd_T49 l1 x5_1).f0)] rfl (by (try simp only [List.map_toArray, List.map_cons, List.map_nil]); first | done | rfl | (simp only [List.length_drop, List.length_take]; rfl)) ?_; (with_reducible refine (fulcrumref21_literal.calls ((rd_T49 l1 x5_1).f0) true _ A5.out).mono ?_); rintro e w' ⟨rfl, ⟨nd, rfl⟩⟩; refine ⟨_, rfl, ?_⟩; have q16 : (x5_1 : Int) ≤ ((l1.length : Int) : Int) := odt; obtain ⟨i016, hi016, _, hsz16, _⟩ := info_parts info49; have hroom16 : l1.length ≤ c1 := HC1.out; have hC16 : Kd.C k49 _ (some ad171) l1.length l1 := HR1.out; have hcut16 := cut_to (P := Try.prog) 24 49 .i64 Try.underlying24 hi016 (some ad171) l1.length c1 x5_1 (odt) q16 hroom16; have hr16 := Kd.C_take (m := (x5_1 : Int).toNat) hC16 (by omega); have hy16 : y173.length = (x5_1 : Int).toNat := (by rw [Ny173.out, List.length_take]; omega); rw [← Ny173.out] at hr16; rw [← hy16] at hcut16; have HR176 := Aside0.mk hr16; have HC176 := Aside0.mk (show y173.length ≤ c1 from by omega); clear hr16 hC16 hroom16 hi016 hsz16; have KY16 := Aside0.mk hy16; clear hy16; replace q16 := eq_true q16) | (go_at_call 50; (with_reducible refine (fulcrumref21_place.calls k1 _ _ y173 ((rd_T49 l1 x5_1).f0) t177 _ ?side1 ?side2 A9.out).mono ?_); (case side1 => repeat (first | exact (Kd.C_below HR176.out (bel_any HB.out)) | (with_reducible refine Kd.C_alloc ?_ _) | (with_reducible refine Kd.C_drewN ?_ _) | (with_reducible refine Kd.C_drew ?_))); (case side2 => exact HC176.out); rintro e w' ⟨rfl, ⟨nd, rfl⟩⟩; have q17 : (x5_1 : Int) ≤ ((l1.length : Int) : Int) := odt; obtain ⟨i017, hi017, _, hsz17, _⟩ := info_parts info49; have hroom17 : l1.length ≤ c1 := HC1.out; have hC17 : Kd.C k49 _ (some ad171) l1.length l1 := HR1.out; have hcut17 := cut_to (P := Try.prog) 24 49 .i64 Try.underlying24 hi017 (some ad171) l1.length c1 x5_1 (odt) q17 hroom17; have hr17 := Kd.C_take (m := (x5_1 : Int).toNat) hC17 (by omega); have hy17 : y173.length = (x5_1 : Int).toNat := (by rw [Ny173.out, List.length_take]; omega); rw [← Ny173.out] at hr17; rw [← hy17] at hcut17; have HR181 := Aside0.mk hr17; have HC181 := Aside0.mk (show y173.length ≤ c1 from by omega); clear hr17 hC17 hroom17 hi017 hsz17; have KY17 := Aside0.mk hy17; clear hy17; replace q17 := eq_true q17) | (go_at_call 50; (with_reducible refine (fulcrumref21_place.calls k1 _ _ y173 (wrap64 (-((rd_T49 l1 x5_1).f0))) t182 _ ?side1 ?side2 A14.out).mono ?_); (case side1 => repeat (first | exact (Kd.C_below HR181.out (bel_any HB.out)) | (with_reducible refine Kd.C_alloc ?_ _) | (with_reducible refine Kd.C_drewN ?_ _) | (with_reducible refine Kd.C_drew ?_))); (case side2 => exact HC181.out); rintro e w' ⟨rfl, ⟨nd, rfl⟩⟩))
         go_ret
         exact ⟨by first | rfl | (simp [errW_none, errW_some] <;> rfl) | (simp [*, errW_none, errW_some] <;> rfl), bel_any HB.out⟩
        ·rw [if_neg c15] at H
         have c15b0 : decide (0 ≤ t182) = false := decide_eq_false c15
         clear c15
         replace H := Option.bind_eq_some_iff.mp H
         obtain ⟨t183, A180, H⟩ := H
         replace H : (if t183 = true then (fulcrumref21_Check.l0 k1 l0 l1 (wrap64 (x5_1 + 1))) else (some 200)) = some r := H
         have A18 := Aside0.mk A180
         clear A180
         by_cases c19 : t183 = true
         ·subst c19
          have H1 : (fulcrumref21_Check.l0 k1 l0 l1 (wrap64 (x5_1 + 1))) = some r := by rw [if_pos rfl] at H; exact H
          clear H
          have H := H1
          clear H1
          have H' := Aside0.mk H
          clear H
          have p171 : 0 ≤ (x5_1 : Int) := odt
          have q171 : x5_1 < (l1.length : Int) := odt
          obtain ⟨ad171, e171, hx171_0, hx171_1, hx171_2⟩ := at_T49 HR1.out x5_1 p171 q171
          cases e171
          replace hx171_0 := (HB.out.cell (World.block_lt_of_cell? w _ hx171_0)).trans hx171_0
          replace hx171_1 := (HB.out.cell (World.block_lt_of_cell? w _ hx171_1)).trans hx171_1
          replace hx171_2 := (HB.out.cell (World.block_lt_of_cell? w _ hx171_2)).trans hx171_2
          replace p171 := eq_true p171
          replace q171 := eq_true q171
          go_wp2_with (first | ((with_reducible refine gate_callee (f := 49) rfl ?_); refine goesL_ (some 19) rfl rfl Try.func49 (by kernel_rfl) rfl #[.int .i64 ((rd_T49 l1 x5_1).f0)] rfl (by (try simp only [List.map_toArray, List.map_cons, List.map_nil]); first | done | rfl | (simp only [List.length_drop, List.length_take]; rfl)) ?_; (with_reducible refine (fulcrumref21_literal.calls ((rd_T49 l1 x5_1).f0) true _ A5.out).mono ?_); rintro e w' ⟨rfl, ⟨nd, rfl⟩⟩; refine ⟨_, rfl, ?_⟩; have q20 : (x5_1 : Int) ≤ ((l1.length : Int) : Int) := odt; obtain ⟨i020, hi020, _, hsz20, _⟩ := info_parts info49; have hroom20 : l1.length ≤ c1 := HC1.out; have hC20 : Kd.C k49 _ (some ad171) l1.length l1 := HR1.out; have hcut20 := cut_to (P := Try.prog) 24 49 .i64 Try.underlying24 hi020 (some ad171) l1.length c1 x5_1 (odt) q20 hroom20; have hr20 := Kd.C_take (m := (x5_1 : Int).toNat) hC20 (by omega); have hy20 : y173.length = (x5_1 : Int).toNat := (by rw [Ny173.out, List.length_take]; omega); rw [← Ny173.out] at hr20; rw [← hy20] at hcut20; have HR176 := Aside0.mk hr20; have HC176 := Aside0.mk (show y173.length ≤ c1 from by omega); clear hr20 hC20 hroom20 hi020 hsz20; have KY20 := Aside0.mk hy20; clear hy20; replace q20 := eq_true q20) | (go_at_call 50; (with_reducible refine (fulcrumref21_place.calls k1 _ _ y173 ((rd_T49 l1 x5_1).f0) t177 _ ?side1 ?side2 A9.out).mono ?_); (case side1 => repeat (first | exact (Kd.C_below HR176.out (bel_any HB.out)) | (with_reducible refine Kd.C_alloc ?_ _) | (with_reducible refine Kd.C_drewN ?_ _) | (with_reducible refine Kd.C_drew ?_))); (case side2 => exact HC176.out); rintro e w' ⟨rfl, ⟨nd, rfl⟩⟩; have q21 : (x5_1 : Int) ≤ ((l1.length : Int) : Int) := odt; obtain ⟨i021, hi021, _, hsz21, _⟩ := info_parts info49; have hroom21 : l1.length ≤ c1 := HC1.out; have hC21 : Kd.C k49 _ (some ad171) l1.length l1 := HR1.out; have hcut21 := cut_to (P := Try.prog) 24 49 .i64 Try.underlying24 hi021 (some ad171) l1.length c1 x5_1 (odt) q21 hroom21; have hr21 := Kd.C_take (m := (x5_1 : Int).toNat) hC21 (by omega); have hy21 : y173.length = (x5_1 : Int).toNat := (by rw [Ny173.out, List.length_take]; omega); rw [← Ny173.out] at hr21; rw [← hy21] at hcut21; have HR181 := Aside0.mk hr21; have HC181 := Aside0.mk (show y173.length ≤ c1 from by omega); clear hr21 hC21 hroom21 hi021 hsz21; have KY21 := Aside0.mk hy21; clear hy21; replace q21 := eq_true q21) | (go_at_call 50; (with_reducible refine (fulcrumref21_place.calls k1 _ _ y173 (wrap64 (-((rd_T49 l1 x5_1).f0))) t182 _ ?side1 ?side2 A14.out).mono ?_); (case side1 => repeat (first | exact (Kd.C_below HR181.out (bel_any HB.out)) | (with_reducible refine Kd.C_alloc ?_ _) | (with_reducible refine Kd.C_drewN ?_ _) | (with_reducible refine Kd.C_drew ?_))); (case side2 => exact HC181.out); rintro e w' ⟨rfl, ⟨nd, rfl⟩⟩) | (go_at_call 51; (with_reducible refine (fulcrumref21_supported.calls k1 _ _ l0 _ _ l1 x5_1 true _ ?side1 ?side2 ?side3 ?side4 A18.out).mono ?_); (case side1 => repeat (first | exact (Kd.C_below HR0.out (bel_any HB.out)) | (with_reducible refine Kd.C_alloc ?_ _) | (with_reducible refine Kd.C_drewN ?_ _) | (with_reducible refine Kd.C_drew ?_))); (case side2 => exact HC0.out); (case side3 => repeat (first | exact (Kd.C_below HR1.out (bel_any HB.out)) | (with_reducible refine Kd.C_alloc ?_ _) | (with_reducible refine Kd.C_drewN ?_ _) | (with_reducible refine Kd.C_drew ?_))); (case side4 => exact HC1.out); rintro e w22 ⟨rfl, hb⟩; have n0_ := Aside0.mk (below_step (bel_any HB.out) hb); clear HB; have HB := n0_; clear n0_; (try clear hb); (try clear hb2); (try clear hk); (try clear hi)))
          go_roundg k1
          case measure => have := HK1.out; omega
          case rel => exact ⟨(wrap64 (x5_1 + 1)), (by first | rfl | (simp; done) | (simp [*]; done)), H', ⟨by have := HK1.out; omega⟩, ⟨bel_any HB.out⟩⟩
         ·replace c19 := Bool.eq_false_iff.mpr c19
          subst c19
          have H1 : (some 200) = some r := by rw [if_neg (show ¬ (false = true) by decide)] at H; exact H
          clear H
          have H := H1
          clear H1
          obtain rfl := Option.some.inj H
          have p171 : 0 ≤ (x5_1 : Int) := odt
          have q171 : x5_1 < (l1.length : Int) := odt
          obtain ⟨ad171, e171, hx171_0, hx171_1, hx171_2⟩ := at_T49 HR1.out x5_1 p171 q171
          cases e171
          replace hx171_0 := (HB.out.cell (World.block_lt_of_cell? w _ hx171_0)).trans hx171_0
          replace hx171_1 := (HB.out.cell (World.block_lt_of_cell? w _ hx171_1)).trans hx171_1
          replace hx171_2 := (HB.out.cell (World.block_lt_of_cell? w _ hx171_2)).trans hx171_2
          replace p171 := eq_true p171
          replace q171 := eq_true q171
          go_wp2_with (first | ((with_reducible refine gate_callee (f := 49) rfl ?_); refine goesL_ (some 19) rfl rfl Try.func49 (by kernel_rfl) rfl #[.int .i64 ((rd_T49 l1 x5_1).f0)] rfl (by (try simp only [List.map_toArray, List.map_cons, List.map_nil]); first | done | rfl | (simp only [List.length_drop, List.length_take]; rfl)) ?_; (with_reducible refine (fulcrumref21_literal.calls ((rd_T49 l1 x5_1).f0) true _ A5.out).mono ?_); rintro e w' ⟨rfl, ⟨nd, rfl⟩⟩; refine ⟨_, rfl, ?_⟩; have q23 : (x5_1 : Int) ≤ ((l1.length : Int) : Int) := odt; obtain ⟨i023, hi023, _, hsz23, _⟩ := info_parts info49; have hroom23 : l1.length ≤ c1 := HC1.out; have hC23 : Kd.C k49 _ (some ad171) l1.length l1 := HR1.out; have hcut23 := cut_to (P := Try.prog) 24 49 .i64 Try.underlying24 hi023 (some ad171) l1.length c1 x5_1 (odt) q23 hroom23; have hr23 := Kd.C_take (m := (x5_1 : Int).toNat) hC23 (by omega); have hy23 : y173.length = (x5_1 : Int).toNat := (by rw [Ny173.out, List.length_take]; omega); rw [← Ny173.out] at hr23; rw [← hy23] at hcut23; have HR176 := Aside0.mk hr23; have HC176 := Aside0.mk (show y173.length ≤ c1 from by omega); clear hr23 hC23 hroom23 hi023 hsz23; have KY23 := Aside0.mk hy23; clear hy23; replace q23 := eq_true q23) | (go_at_call 50; (with_reducible refine (fulcrumref21_place.calls k1 _ _ y173 ((rd_T49 l1 x5_1).f0) t177 _ ?side1 ?side2 A9.out).mono ?_); (case side1 => repeat (first | exact (Kd.C_below HR176.out (bel_any HB.out)) | (with_reducible refine Kd.C_alloc ?_ _) | (with_reducible refine Kd.C_drewN ?_ _) | (with_reducible refine Kd.C_drew ?_))); (case side2 => exact HC176.out); rintro e w' ⟨rfl, ⟨nd, rfl⟩⟩; have q24 : (x5_1 : Int) ≤ ((l1.length : Int) : Int) := odt; obtain ⟨i024, hi024, _, hsz24, _⟩ := info_parts info49; have hroom24 : l1.length ≤ c1 := HC1.out; have hC24 : Kd.C k49 _ (some ad171) l1.length l1 := HR1.out; have hcut24 := cut_to (P := Try.prog) 24 49 .i64 Try.underlying24 hi024 (some ad171) l1.length c1 x5_1 (odt) q24 hroom24; have hr24 := Kd.C_take (m := (x5_1 : Int).toNat) hC24 (by omega); have hy24 : y173.length = (x5_1 : Int).toNat := (by rw [Ny173.out, List.length_take]; omega); rw [← Ny173.out] at hr24; rw [← hy24] at hcut24; have HR181 := Aside0.mk hr24; have HC181 := Aside0.mk (show y173.length ≤ c1 from by omega); clear hr24 hC24 hroom24 hi024 hsz24; have KY24 := Aside0.mk hy24; clear hy24; replace q24 := eq_true q24) | (go_at_call 50; (with_reducible refine (fulcrumref21_place.calls k1 _ _ y173 (wrap64 (-((rd_T49 l1 x5_1).f0))) t182 _ ?side1 ?side2 A14.out).mono ?_); (case side1 => repeat (first | exact (Kd.C_below HR181.out (bel_any HB.out)) | (with_reducible refine Kd.C_alloc ?_ _) | (with_reducible refine Kd.C_drewN ?_ _) | (with_reducible refine Kd.C_drew ?_))); (case side2 => exact HC181.out); rintro e w' ⟨rfl, ⟨nd, rfl⟩⟩) | (go_at_call 51; (with_reducible refine (fulcrumref21_supported.calls k1 _ _ l0 _ _ l1 x5_1 false _ ?side1 ?side2 ?side3 ?side4 A18.out).mono ?_); (case side1 => repeat (first | exact (Kd.C_below HR0.out (bel_any HB.out)) | (with_reducible refine Kd.C_alloc ?_ _) | (with_reducible refine Kd.C_drewN ?_ _) | (with_reducible refine Kd.C_drew ?_))); (case side2 => exact HC0.out); (case side3 => repeat (first | exact (Kd.C_below HR1.out (bel_any HB.out)) | (with_reducible refine Kd.C_alloc ?_ _) | (with_reducible refine Kd.C_drewN ?_ _) | (with_reducible refine Kd.C_drew ?_))); (case side4 => exact HC1.out); rintro e w25 ⟨rfl, hb⟩; have n0_ := Aside0.mk (below_step (bel_any HB.out) hb); clear HB; have HB := n0_; clear n0_; (try clear hb); (try clear hb2); (try clear hk); (try clear hi)))
          go_ret
          exact ⟨by first | rfl | (simp [errW_none, errW_some] <;> rfl) | (simp [*, errW_none, errW_some] <;> rfl), bel_any HB.out⟩
      ·rw [if_neg c8] at H
       exact absurd H (by simp)
     ·replace c6 := Bool.eq_false_iff.mpr c6
      subst c6
      have H1 : (some 200) = some r := by rw [if_neg (show ¬ (false = true) by decide)] at H; exact H
      clear H
      have H := H1
      clear H1
      obtain rfl := Option.some.inj H
      have p171 : 0 ≤ (x5_1 : Int) := odt
      have q171 : x5_1 < (l1.length : Int) := odt
      obtain ⟨ad171, e171, hx171_0, hx171_1, hx171_2⟩ := at_T49 HR1.out x5_1 p171 q171
      cases e171
      replace hx171_0 := (HB.out.cell (World.block_lt_of_cell? w _ hx171_0)).trans hx171_0
      replace hx171_1 := (HB.out.cell (World.block_lt_of_cell? w _ hx171_1)).trans hx171_1
      replace hx171_2 := (HB.out.cell (World.block_lt_of_cell? w _ hx171_2)).trans hx171_2
      replace p171 := eq_true p171
      replace q171 := eq_true q171
      go_wp2_with (first | ((with_reducible refine gate_callee (f := 49) rfl ?_); refine goesL_ (some 19) rfl rfl Try.func49 (by kernel_rfl) rfl #[.int .i64 ((rd_T49 l1 x5_1).f0)] rfl (by (try simp only [List.map_toArray, List.map_cons, List.map_nil]); first | done | rfl | (simp only [List.length_drop, List.length_take]; rfl)) ?_; (with_reducible refine (fulcrumref21_literal.calls ((rd_T49 l1 x5_1).f0) false _ A5.out).mono ?_); rintro e w' ⟨rfl, ⟨nd, rfl⟩⟩; refine ⟨_, rfl, ?_⟩))
      go_ret
      exact ⟨by first | rfl | (simp [errW_none, errW_some] <;> rfl) | (simp [*, errW_none, errW_some] <;> rfl), bel_any HB.out⟩
    ·rw [if_neg c4] at H
     exact absurd H (by simp)
   ·rw [if_neg c3] at H
    have c3b0 : decide (x5_1 < (l1.length : Int)) = false := decide_eq_false c3
    clear c3
    obtain rfl := Option.some.inj H
    go_wp2
    go_ret
    exact ⟨by first | rfl | (simp [errW_none, errW_some] <;> rfl) | (simp [*, errW_none, errW_some] <;> rfl), bel_any HB.out⟩
def fulcrumref21_falses.l0 : Nat → List (S49) → List Int → Int → Option (Bool)
 | 0, _, _, _ => none
 | k + 1, x0, x1, x5 => if x5 < (x1.length : Int) then (if 0 ≤ x5 then ((fulcrumref21_literal.f (rd x1 x5)).bind fun t185 => (if t185 = true then ((fulcrumref21_place.f k x0 (wrap64 (-(rd x1 x5)))).bind fun t187 => (if t187 < 0 then (some false) else (fulcrumref21_falses.l0 k x0 x1 (wrap64 (x5 + 1))))) else (some false))) else (none)) else (some true)
def fulcrumref21_falses.f (k : Nat) (l0 : List (S49)) (l1 : List Int) : Option (Bool) := fulcrumref21_falses.l0 k l0 l1 0
set_option maxHeartbeats 8000000 in
set_option maxRecDepth 100000 in
theorem fulcrumref21_falses.calls (k : Nat) (A0 : Option Addr) (c0 : Nat) (l0 : List (S49)) (A1 : Option Addr) (c1 : Nat) (l1 : List Int) (r : Bool) (w : World) (hr0 : Kd.C k49 w A0 l0.length l0) (hc0 : l0.length ≤ c0) (hr1 : Kd.C (Kd.int .i64) w A1 l1.length l1) (hc1 : l1.length ≤ c1) (h : fulcrumref21_falses.f k l0 l1 = some r) :
  Calls Try.prog 42 #[.slice A0 l0.length c0, .slice A1 l1.length c1] w fun e w' => e = .returned (.bool r) ∧ Drawn0 w w' := by
 have HR0 := Aside0.mk hr0
 have HC0 := Aside0.mk hc0
 clear hr0 hc0
 have HR1 := Aside0.mk hr1
 have HC1 := Aside0.mk hc1
 clear hr1 hc1
 have H : (fulcrumref21_falses.l0 k l0 l1 0) = some r := h
 clear h
 have H' := Aside0.mk H
 clear H
 go_enter Try.func42, Try.ntmps42
 go_wp2
 go_loopg [5] k (fun kq v5 w' => ∃ (x5_1 : Int), v5 = .int .i64 x5_1 ∧ Aside0 (fulcrumref21_falses.l0 kq l0 l1 x5_1 = some r) ∧ Aside0 (kq ≤ k) ∧ Drawn0 w w')
 case atStart => exact ⟨(0), (by first | rfl | (simp; done) | (simp [*]; done)), H', ⟨Nat.le_refl _⟩, by repeat (first | exact Drawn0.refl _ | apply Drawn0.step)⟩
 case round =>
  clear H'
  try clear c1
  try clear p2
  obtain ⟨x5_1, rfl, HA, HK1, ⟨m1, rfl⟩⟩ := hrel
  cases gk with
  | zero => exact absurd HA.out (by simp [fulcrumref21_falses.l0])
  | succ k1 =>
   have H := HA.out
   clear HA
   simp only [fulcrumref21_falses.l0] at H
   by_cases c3 : x5_1 < (l1.length : Int)
   ·rw [if_pos c3] at H
    have c3b0 : decide (x5_1 < (l1.length : Int)) = true := decide_eq_true c3
    clear c3
    by_cases c4 : 0 ≤ x5_1
    ·rw [if_pos c4] at H
     have c4b0 : decide (0 ≤ x5_1) = true := decide_eq_true c4
     clear c4
     replace H := Option.bind_eq_some_iff.mp H
     obtain ⟨t185, A50, H⟩ := H
     replace H : (if t185 = true then ((fulcrumref21_place.f k1 l0 (wrap64 (-(rd l1 x5_1)))).bind fun t187 => (if t187 < 0 then (some false) else (fulcrumref21_falses.l0 k1 l0 l1 (wrap64 (x5_1 + 1))))) else (some false)) = some r := H
     have A5 := Aside0.mk A50
     clear A50
     by_cases c6 : t185 = true
     ·subst c6
      have H1 : ((fulcrumref21_place.f k1 l0 (wrap64 (-(rd l1 x5_1)))).bind fun t187 => (if t187 < 0 then (some false) else (fulcrumref21_falses.l0 k1 l0 l1 (wrap64 (x5_1 + 1))))) = some r := by rw [if_pos rfl] at H; exact H
      clear H
      have H := H1
      clear H1
      replace H := Option.bind_eq_some_iff.mp H
      obtain ⟨t187, A70, H⟩ := H
      replace H : (if t187 < 0 then (some false) else (fulcrumref21_falses.l0 k1 l0 l1 (wrap64 (x5_1 + 1)))) = some r := H
      have A7 := Aside0.mk A70
      clear A70
      by_cases c8 : t187 < 0
      ·rw [if_pos c8] at H
       have c8b0 : decide (t187 < 0) = true := decide_eq_true c8
       clear c8
       obtain rfl := Option.some.inj H
       have p184 : 0 ≤ (x5_1 : Int) := odt
       have q184 : x5_1 < (l1.length : Int) := odt
       obtain ⟨ad184, e184, hx184_0⟩ := Kd.at_int HR1.out x5_1 p184 q184
       cases e184
       replace p184 := eq_true p184
       replace q184 := eq_true q184
       go_wp2_with (first | ((with_reducible refine gate_callee (f := 49) rfl ?_); refine goesL_ (some 16) rfl rfl Try.func49 (by kernel_rfl) rfl #[.int .i64 (rd l1 x5_1)] rfl (by (try simp only [List.map_toArray, List.map_cons, List.map_nil]); first | done | rfl | (simp only [List.length_drop, List.length_take]; rfl)) ?_; (with_reducible refine (fulcrumref21_literal.calls (rd l1 x5_1) true _ A5.out).mono ?_); rintro e w' ⟨rfl, ⟨nd, rfl⟩⟩; refine ⟨_, rfl, ?_⟩; have p186 : 0 ≤ (x5_1 : Int) := odt; have q186 : x5_1 < (l1.length : Int) := odt; obtain ⟨ad186, e186, hx186_0⟩ := Kd.at_int HR1.out x5_1 p186 q186; obtain rfl : ad184 = ad186 := (by injection e186); replace p186 := eq_true p186; replace q186 := eq_true q186) | (go_at_call 50; (with_reducible refine (fulcrumref21_place.calls k1 _ _ l0 (wrap64 (-(rd l1 x5_1))) t187 _ ?side1 ?side2 A7.out).mono ?_); (case side1 => repeat (first | exact HR0.out | (with_reducible refine Kd.C_alloc ?_ _) | (with_reducible refine Kd.C_drewN ?_ _) | (with_reducible refine Kd.C_drew ?_))); (case side2 => exact HC0.out); rintro e w' ⟨rfl, ⟨nd, rfl⟩⟩))
       go_ret
       exact ⟨by first | rfl | (simp; done) | (simp [*]; done), by repeat (first | exact Drawn0.refl _ | apply Drawn0.step)⟩
      ·rw [if_neg c8] at H
       have c8b0 : decide (t187 < 0) = false := decide_eq_false c8
       clear c8
       have H' := Aside0.mk H
       clear H
       have p184 : 0 ≤ (x5_1 : Int) := odt
       have q184 : x5_1 < (l1.length : Int) := odt
       obtain ⟨ad184, e184, hx184_0⟩ := Kd.at_int HR1.out x5_1 p184 q184
       cases e184
       replace p184 := eq_true p184
       replace q184 := eq_true q184
       go_wp2_with (first | ((with_reducible refine gate_callee (f := 49) rfl ?_); refine goesL_ (some 16) rfl rfl Try.func49 (by kernel_rfl) rfl #[.int .i64 (rd l1 x5_1)] rfl (by (try simp only [List.map_toArray, List.map_cons, List.map_nil]); first | done | rfl | (simp only [List.length_drop, List.length_take]; rfl)) ?_; (with_reducible refine (fulcrumref21_literal.calls (rd l1 x5_1) true _ A5.out).mono ?_); rintro e w' ⟨rfl, ⟨nd, rfl⟩⟩; refine ⟨_, rfl, ?_⟩; have p186 : 0 ≤ (x5_1 : Int) := odt; have q186 : x5_1 < (l1.length : Int) := odt; obtain ⟨ad186, e186, hx186_0⟩ := Kd.at_int HR1.out x5_1 p186 q186; obtain rfl : ad184 = ad186 := (by injection e186); replace p186 := eq_true p186; replace q186 := eq_true q186) | (go_at_call 50; (with_reducible refine (fulcrumref21_place.calls k1 _ _ l0 (wrap64 (-(rd l1 x5_1))) t187 _ ?side1 ?side2 A7.out).mono ?_); (case side1 => repeat (first | exact HR0.out | (with_reducible refine Kd.C_alloc ?_ _) | (with_reducible refine Kd.C_drewN ?_ _) | (with_reducible refine Kd.C_drew ?_))); (case side2 => exact HC0.out); rintro e w' ⟨rfl, ⟨nd, rfl⟩⟩))
       go_roundg k1
       case measure => have := HK1.out; omega
       case rel => exact ⟨(wrap64 (x5_1 + 1)), (by first | rfl | (simp; done) | (simp [*]; done)), H', ⟨by have := HK1.out; omega⟩, by repeat (first | exact Drawn0.refl _ | apply Drawn0.step)⟩
     ·replace c6 := Bool.eq_false_iff.mpr c6
      subst c6
      have H1 : (some false) = some r := by rw [if_neg (show ¬ (false = true) by decide)] at H; exact H
      clear H
      have H := H1
      clear H1
      obtain rfl := Option.some.inj H
      have p184 : 0 ≤ (x5_1 : Int) := odt
      have q184 : x5_1 < (l1.length : Int) := odt
      obtain ⟨ad184, e184, hx184_0⟩ := Kd.at_int HR1.out x5_1 p184 q184
      cases e184
      replace p184 := eq_true p184
      replace q184 := eq_true q184
      go_wp2_with (first | ((with_reducible refine gate_callee (f := 49) rfl ?_); refine goesL_ (some 16) rfl rfl Try.func49 (by kernel_rfl) rfl #[.int .i64 (rd l1 x5_1)] rfl (by (try simp only [List.map_toArray, List.map_cons, List.map_nil]); first | done | rfl | (simp only [List.length_drop, List.length_take]; rfl)) ?_; (with_reducible refine (fulcrumref21_literal.calls (rd l1 x5_1) false _ A5.out).mono ?_); rintro e w' ⟨rfl, ⟨nd, rfl⟩⟩; refine ⟨_, rfl, ?_⟩))
      go_ret
      exact ⟨by first | rfl | (simp; done) | (simp [*]; done), by repeat (first | exact Drawn0.refl _ | apply Drawn0.step)⟩
    ·rw [if_neg c4] at H
     exact absurd H (by simp)
   ·rw [if_neg c3] at H
    have c3b0 : decide (x5_1 < (l1.length : Int)) = false := decide_eq_false c3
    clear c3
    obtain rfl := Option.some.inj H
    go_wp2
    go_ret
    exact ⟨by first | rfl | (simp; done) | (simp [*]; done), by repeat (first | exact Drawn0.refl _ | apply Drawn0.step)⟩
def fulcrumref21_set.l0 : Nat → List Int → List Int → Int → Option (List Int)
 | 0, _, _, _ => none
 | k + 1, x0, x3, x4 => if x4 < (x0.length : Int) then (if 0 ≤ x4 then ((fulcrumref21_has.f k x3 (rd x0 x4)).bind fun t192 => (if t192 = true then (fulcrumref21_set.l0 k x0 x3 (wrap64 (x4 + 1))) else (if x3.length < 17592186044416 then (fulcrumref21_set.l0 k x0 (x3 ++ [rd x0 x4]) (wrap64 (x4 + 1))) else (none)))) else (none)) else (some x3)
def fulcrumref21_set.f (k : Nat) (l0 : List Int) : Option (List Int) := fulcrumref21_set.l0 k l0 (([] : List Int)) 0
set_option maxHeartbeats 8000000 in
set_option maxRecDepth 100000 in
theorem fulcrumref21_set.calls (k : Nat) (A0 : Option Addr) (c0 : Nat) (l0 : List Int) (r : List Int) (w : World) (hr0 : Kd.C (Kd.int .i64) w A0 l0.length l0) (hc0 : l0.length ≤ c0) (h : fulcrumref21_set.f k l0 = some r) :
  Calls Try.prog 43 #[.slice A0 l0.length c0] w fun e w' => ∃ v0_ : Value, e = .returned (v0_) ∧ Kd.R (Kd.int .i64) 3 w' w.heap.size (fun _ => True) v0_ r ∧ Below w.heap.size w w' := by
 have HR0 := Aside0.mk hr0
 have HC0 := Aside0.mk hc0
 clear hr0 hc0
 have HB := Aside0.mk (Below.refl w.heap.size w)
 have H : (fulcrumref21_set.l0 k l0 (([] : List Int)) 0) = some r := h
 clear h
 obtain ⟨y188, hy188⟩ : ∃ y_ : List Int, y_ = (([] : List Int)) := ⟨_, rfl⟩
 replace H : (fulcrumref21_set.l0 k l0 y188 0) = some r := by first | (rw [hy188]; with_reducible exact H) | (have H2_ := (Option.bind_some _ _).symm.trans H; rw [hy188]; with_reducible exact H2_) | (have H2_ := (Option.bind_some _ _).symm.trans H; with_reducible exact H2_) | with_reducible exact H | (rw [hy188]; exact H) | exact H
 have Ny188 := Aside0.mk hy188
 clear hy188
 have H' := Aside0.mk H
 clear H
 go_enter Try.func43, Try.ntmps43
 go_wp2_with (first | ((with_reducible refine gate_dst (N := 5) rfl ?_); refine Kd.R_lit (Kd.int .i64) _ 3 ?hg (N := 5) ?hd (xs := ([] : List Int)) (inner := []) (ok := fun _ => True) (okp := fun _ => True) ?hr ?hp (fun _ hk => hk) trivial (Below.refl _ _) (Nat.le_refl _) (by simp) ?_; (case hd => rfl); (case hg => rfl); (case hr => first | (go_simp; done) | (go_simp; rfl)); (case hp => exact (Reps.none _ _)); intro v189 w2 ho3 hb hg_ hnew_; clear hg_ hnew_; (first | rw [← Ny188.out] at ho3 | (simp only [Int.reduceToNat] at ho3; rw [← Ny188.out] at ho3)); have n0_ := Aside0.mk (Kd.R_lower ho3 (below_size (bel_any HB.out))); have n1_ := Aside0.mk (below_step (bel_any HB.out) hb); clear HB; have HO190 := n0_; have HB := n1_; clear n0_ n1_; clear hb ho3))
 go_loopg [3, 4] k (fun kq v3 v4 w' => ∃ (x3_1 : List Int) (x4_1 : Int), v4 = .int .i64 x4_1 ∧ Aside0 (fulcrumref21_set.l0 kq l0 x3_1 x4_1 = some r) ∧ Aside0 (kq ≤ k) ∧ Aside0 (Kd.R (Kd.int .i64) 3 w' w.heap.size (fun _ => True) v3 x3_1) ∧ Aside0 (Below w.heap.size w w'))
 case atStart => exact ⟨(y188), (0), (by first | rfl | (simp; done) | (simp [*]; done)), H', ⟨Nat.le_refl _⟩, ⟨R_any HO190.out⟩, ⟨bel_any HB.out⟩⟩
 case round =>
  clear H'
  try clear p2
  obtain ⟨x3_1, x4_1, rfl, HA, HK1, HO_3, HB⟩ := hrel
  cases gk with
  | zero => exact absurd HA.out (by simp [fulcrumref21_set.l0])
  | succ k1 =>
   have H := HA.out
   clear HA
   simp only [fulcrumref21_set.l0] at H
   by_cases c4 : x4_1 < (l0.length : Int)
   ·rw [if_pos c4] at H
    have c4b0 : decide (x4_1 < (l0.length : Int)) = true := decide_eq_true c4
    clear c4
    by_cases c5 : 0 ≤ x4_1
    ·rw [if_pos c5] at H
     have c5b0 : decide (0 ≤ x4_1) = true := decide_eq_true c5
     clear c5
     replace H := Option.bind_eq_some_iff.mp H
     obtain ⟨t192, A60, H⟩ := H
     replace H : (if t192 = true then (fulcrumref21_set.l0 k1 l0 x3_1 (wrap64 (x4_1 + 1))) else (if x3_1.length < 17592186044416 then (fulcrumref21_set.l0 k1 l0 (x3_1 ++ [rd l0 x4_1]) (wrap64 (x4_1 + 1))) else (none))) = some r := H
     have A6 := Aside0.mk A60
     clear A60
     by_cases c7 : t192 = true
     ·subst c7
      have H1 : (fulcrumref21_set.l0 k1 l0 x3_1 (wrap64 (x4_1 + 1))) = some r := by rw [if_pos rfl] at H; exact H
      clear H
      have H := H1
      clear H1
      have H' := Aside0.mk H
      clear H
      have p191 : 0 ≤ (x4_1 : Int) := odt
      have q191 : x4_1 < (l0.length : Int) := odt
      obtain ⟨ad191, e191, hx191_0⟩ := Kd.at_int HR0.out x4_1 p191 q191
      cases e191
      replace hx191_0 := (HB.out.cell (World.block_lt_of_cell? w _ hx191_0)).trans hx191_0
      replace p191 := eq_true p191
      replace q191 := eq_true q191
      obtain ⟨Ao8, co8, eo8⟩ := Kd.R_slice HO_3.out
      subst eo8
      go_wp2_with (first | ((with_reducible refine gate_callee (f := 56) rfl ?_); refine goesL_ (some 17) rfl rfl Try.func56 (by kernel_rfl) rfl #[.slice Ao8 x3_1.length co8, .int .i64 (rd l0 x4_1)] rfl (by (try simp only [List.map_toArray, List.map_cons, List.map_nil]); first | done | rfl | (simp only [List.length_drop, List.length_take]; rfl)) ?_; (with_reducible refine (fulcrumref21_has.calls k1 _ _ x3_1 (rd l0 x4_1) true _ ?side1 ?side2 A6.out).mono ?_); (case side1 => repeat (first | exact (Kd.R_reads' HO_3.out).2.2 | (with_reducible refine Kd.C_alloc ?_ _) | (with_reducible refine Kd.C_drewN ?_ _) | (with_reducible refine Kd.C_drew ?_))); (case side2 => exact (Kd.R_reads' HO_3.out).2.1); rintro e w' ⟨rfl, ⟨nd, rfl⟩⟩; refine ⟨_, rfl, ?_⟩))
      go_roundg k1
      case measure => have := HK1.out; omega
      case rel => exact ⟨(x3_1), (wrap64 (x4_1 + 1)), (by first | rfl | (simp; done) | (simp [*]; done)), H', ⟨by have := HK1.out; omega⟩, ⟨R_any HO_3.out⟩, ⟨bel_any HB.out⟩⟩
     ·replace c7 := Bool.eq_false_iff.mpr c7
      subst c7
      have H1 : (if x3_1.length < 17592186044416 then (fulcrumref21_set.l0 k1 l0 (x3_1 ++ [rd l0 x4_1]) (wrap64 (x4_1 + 1))) else (none)) = some r := by rw [if_neg (show ¬ (false = true) by decide)] at H; exact H
      clear H
      have H := H1
      clear H1
      by_cases c9 : x3_1.length < 17592186044416
      ·rw [if_pos c9] at H
       have LMc9 := Aside0.mk c9
       clear c9
       obtain ⟨y194, hy194⟩ : ∃ y_ : List Int, y_ = (x3_1 ++ [rd l0 x4_1]) := ⟨_, rfl⟩
       replace H : (fulcrumref21_set.l0 k1 l0 y194 (wrap64 (x4_1 + 1))) = some r := by first | (rw [hy194]; with_reducible exact H) | (have H2_ := (Option.bind_some _ _).symm.trans H; rw [hy194]; with_reducible exact H2_) | (have H2_ := (Option.bind_some _ _).symm.trans H; with_reducible exact H2_) | with_reducible exact H | (rw [hy194]; exact H) | exact H
       have Ny194 := Aside0.mk hy194
       clear hy194
       have H' := Aside0.mk H
       clear H
       have p191 : 0 ≤ (x4_1 : Int) := odt
       have q191 : x4_1 < (l0.length : Int) := odt
       obtain ⟨ad191, e191, hx191_0⟩ := Kd.at_int HR0.out x4_1 p191 q191
       cases e191
       replace hx191_0 := (HB.out.cell (World.block_lt_of_cell? w _ hx191_0)).trans hx191_0
       replace p191 := eq_true p191
       replace q191 := eq_true q191
       obtain ⟨Ao10, co10, eo10⟩ := Kd.R_slice HO_3.out
       subst eo10
       go_wp2_with (first | ((with_reducible refine gate_callee (f := 56) rfl ?_); refine goesL_ (some 17) rfl rfl Try.func56 (by kernel_rfl) rfl #[.slice Ao10 x3_1.length co10, .int .i64 (rd l0 x4_1)] rfl (by (try simp only [List.map_toArray, List.map_cons, List.map_nil]); first | done | rfl | (simp only [List.length_drop, List.length_take]; rfl)) ?_; (with_reducible refine (fulcrumref21_has.calls k1 _ _ x3_1 (rd l0 x4_1) false _ ?side1 ?side2 A6.out).mono ?_); (case side1 => repeat (first | exact (Kd.R_reads' HO_3.out).2.2 | (with_reducible refine Kd.C_alloc ?_ _) | (with_reducible refine Kd.C_drewN ?_ _) | (with_reducible refine Kd.C_drew ?_))); (case side2 => exact (Kd.R_reads' HO_3.out).2.1); rintro e w' ⟨rfl, ⟨nd, rfl⟩⟩; refine ⟨_, rfl, ?_⟩; have p193 : 0 ≤ (x4_1 : Int) := odt; have q193 : x4_1 < (l0.length : Int) := odt; obtain ⟨ad193, e193, hx193_0⟩ := Kd.at_int HR0.out x4_1 p193 q193; obtain rfl : ad191 = ad193 := (by injection e193); replace hx193_0 := (HB.out.cell (World.block_lt_of_cell? w _ hx193_0)).trans hx193_0; replace p193 := eq_true p193; replace q193 := eq_true q193) | ((with_reducible refine gate_builtin (b := .append) (xs := #[.tmp 19, .tmp 24]) rfl ?_); at_builtin; refine Kd.R_append (Kd.int .i64) (w0 := w) w.heap.size rfl (.tmp 19) (.tmp 24) 27 3 (.int .i64 0) 8 rfl Try.underlying27 info3 rfl (by decide) (by omega) (.slice Ao10 x3_1.length co10) x3_1 (rd l0 x4_1) [.int .i64 (rd l0 x4_1)] (fun _ => True) (fun _ => False) rfl rfl ?aP (fun _ hk => hk.elim) ?aF ?aO ?aB ?aS ?aL ?_; (case aP => exact rfl); (case aB => exact (bel_any HB.out)); (case aF => exact (fun _ _ => trivial)); (case aO => exact (R_any HO_3.out)); (case aS => exact (below_size (bel_any HB.out))); (case aL => have := LMc9.out; omega); intro v195 w11 ho hb hg hat; rw [← Ny194.out] at ho; have n0_ := Aside0.mk (hb); have n1_ := Aside0.mk (ho); clear HB; clear HO_3; have HB := n0_; have HO196 := n1_; clear n0_ n1_; clear ho hb hg hat))
       go_roundg k1
       case measure => have := HK1.out; omega
       case rel => exact ⟨(y194), (wrap64 (x4_1 + 1)), (by first | rfl | (simp; done) | (simp [*]; done)), H', ⟨by have := HK1.out; omega⟩, ⟨R_any HO196.out⟩, ⟨bel_any HB.out⟩⟩
      ·rw [if_neg c9] at H
       exact absurd H (by simp)
    ·rw [if_neg c5] at H
     exact absurd H (by simp)
   ·rw [if_neg c4] at H
    have c4b0 : decide (x4_1 < (l0.length : Int)) = false := decide_eq_false c4
    clear c4
    obtain rfl := Option.some.inj H
    go_wp2
    go_ret
    exact ⟨_, by first | rfl | (simp [errW_none, errW_some] <;> rfl) | (simp [*, errW_none, errW_some] <;> rfl), R_any HO_3.out, bel_any HB.out⟩
def fulcrumref21_level.f (k : Nat) (l0 : List (S49)) (a1 : Int) : Option (Int) := (fulcrumref21_place.f k l0 (wrap64 (-a1))).bind fun t197 => (if 0 ≤ t197 then (if t197 < (l0.length : Int) then (some ((rd_T49 l0 t197).f1)) else (none)) else (none))
set_option maxHeartbeats 8000000 in
set_option maxRecDepth 100000 in
theorem fulcrumref21_level.calls (k : Nat) (A0 : Option Addr) (c0 : Nat) (l0 : List (S49)) (a1 : Int) (r : Int) (w : World) (hr0 : Kd.C k49 w A0 l0.length l0) (hc0 : l0.length ≤ c0) (h : fulcrumref21_level.f k l0 a1 = some r) :
  Calls Try.prog 44 #[.slice A0 l0.length c0, .int .i64 a1] w fun e w' => e = .returned (.int .i64 r) ∧ Drawn0 w w' := by
 have HR0 := Aside0.mk hr0
 have HC0 := Aside0.mk hc0
 clear hr0 hc0
 have H : ((fulcrumref21_place.f k l0 (wrap64 (-a1))).bind fun t197 => (if 0 ≤ t197 then (if t197 < (l0.length : Int) then (some ((rd_T49 l0 t197).f1)) else (none)) else (none))) = some r := h
 clear h
 replace H := Option.bind_eq_some_iff.mp H
 obtain ⟨t197, A30, H⟩ := H
 replace H : (if 0 ≤ t197 then (if t197 < (l0.length : Int) then (some ((rd_T49 l0 t197).f1)) else (none)) else (none)) = some r := H
 have A3 := Aside0.mk A30
 clear A30
 by_cases c4 : 0 ≤ t197
 ·rw [if_pos c4] at H
  have c4b0 : decide (0 ≤ t197) = true := decide_eq_true c4
  clear c4
  by_cases c5 : t197 < (l0.length : Int)
  ·rw [if_pos c5] at H
   have c5b0 : decide (t197 < (l0.length : Int)) = true := decide_eq_true c5
   clear c5
   obtain rfl := Option.some.inj H
   go_enter Try.func44, Try.ntmps44
   go_wp2_with (first | ((with_reducible refine gate_callee (f := 50) rfl ?_); refine goesL_ (some 9) rfl rfl Try.func50 (by kernel_rfl) rfl #[.slice A0 l0.length c0, .int .i64 (wrap64 (-a1))] rfl (by (try simp only [List.map_toArray, List.map_cons, List.map_nil]); first | done | rfl | (simp only [List.length_drop, List.length_take]; rfl)) ?_; (with_reducible refine (fulcrumref21_place.calls k _ _ l0 (wrap64 (-a1)) t197 _ ?side1 ?side2 A3.out).mono ?_); (case side1 => repeat (first | exact HR0.out | (with_reducible refine Kd.C_alloc ?_ _) | (with_reducible refine Kd.C_drewN ?_ _) | (with_reducible refine Kd.C_drew ?_))); (case side2 => exact HC0.out); rintro e w' ⟨rfl, ⟨nd, rfl⟩⟩; refine ⟨_, rfl, ?_⟩; have p198 : 0 ≤ (t197 : Int) := odt; have q198 : t197 < (l0.length : Int) := odt; obtain ⟨ad198, e198, hx198_0, hx198_1, hx198_2⟩ := at_T49 HR0.out t197 p198 q198; cases e198; replace p198 := eq_true p198; replace q198 := eq_true q198))
   go_ret
   exact ⟨by first | rfl | (simp; done) | (simp [*]; done), by repeat (first | exact Drawn0.refl _ | apply Drawn0.step)⟩
  ·rw [if_neg c5] at H
   exact absurd H (by simp)
 ·rw [if_neg c4] at H
  exact absurd H (by simp)
def fulcrumref21_latest.l0 : Nat → List (S49) → List Int → Int → Int → Int → Int → Option (Int × Int)
 | 0, _, _, _, _, _, _ => none
 | k + 1, x0, x1, x2, x8, x9, x10 => if x10 < (x1.length : Int) then (if 0 ≤ x10 then ((fulcrumref21_level.f k x0 (rd x1 x10)).bind fun t200 => (if t200 = x2 then (if x8 = 0 then (fulcrumref21_latest.l0 k x0 x1 x2 (rd x1 x10) (wrap64 (x9 + 1)) (wrap64 (x10 + 1))) else ((fulcrumref21_place.f k x0 (wrap64 (-(rd x1 x10)))).bind fun t203 => ((fulcrumref21_place.f k x0 (wrap64 (-x8))).bind fun t204 => (if t203 > t204 then (fulcrumref21_latest.l0 k x0 x1 x2 (rd x1 x10) (wrap64 (x9 + 1)) (wrap64 (x10 + 1))) else (fulcrumref21_latest.l0 k x0 x1 x2 x8 (wrap64 (x9 + 1)) (wrap64 (x10 + 1))))))) else (fulcrumref21_latest.l0 k x0 x1 x2 x8 x9 (wrap64 (x10 + 1))))) else (none)) else (some (x8, x9))
def fulcrumref21_latest.f (k : Nat) (l0 : List (S49)) (l1 : List Int) (a2 : Int) : Option (Int × Int) := fulcrumref21_latest.l0 k l0 l1 a2 0 0 0
set_option maxHeartbeats 8000000 in
set_option maxRecDepth 100000 in
theorem fulcrumref21_latest.calls (k : Nat) (A0 : Option Addr) (c0 : Nat) (l0 : List (S49)) (A1 : Option Addr) (c1 : Nat) (l1 : List Int) (a2 : Int) (r1 : Int) (r2 : Int) (w : World) (hr0 : Kd.C k49 w A0 l0.length l0) (hc0 : l0.length ≤ c0) (hr1 : Kd.C (Kd.int .i64) w A1 l1.length l1) (hc1 : l1.length ≤ c1) (h : fulcrumref21_latest.f k l0 l1 a2 = some (r1, r2)) :
  Calls Try.prog 45 #[.slice A0 l0.length c0, .slice A1 l1.length c1, .int .i64 a2] w fun e w' => e = .returned (.tuple #[.int .i64 r1, .int .i64 r2]) ∧ Drawn0 w w' := by
 have HR0 := Aside0.mk hr0
 have HC0 := Aside0.mk hc0
 clear hr0 hc0
 have HR1 := Aside0.mk hr1
 have HC1 := Aside0.mk hc1
 clear hr1 hc1
 have H : (fulcrumref21_latest.l0 k l0 l1 a2 0 0 0) = some (r1, r2) := h
 clear h
 have H' := Aside0.mk H
 clear H
 go_enter Try.func45, Try.ntmps45
 go_wp2
 go_loopg [8, 9, 10] k (fun kq v8 v9 v10 w' => ∃ (x8_1 : Int) (x9_1 : Int) (x10_1 : Int), v8 = .int .i64 x8_1 ∧ v9 = .int .i64 x9_1 ∧ v10 = .int .i64 x10_1 ∧ Aside0 (fulcrumref21_latest.l0 kq l0 l1 a2 x8_1 x9_1 x10_1 = some (r1, r2)) ∧ Aside0 (kq ≤ k) ∧ Drawn0 w w')
 case atStart => exact ⟨(0), (0), (0), (by first | rfl | (simp; done) | (simp [*]; done)), (by first | rfl | (simp; done) | (simp [*]; done)), (by first | rfl | (simp; done) | (simp [*]; done)), H', ⟨Nat.le_refl _⟩, by repeat (first | exact Drawn0.refl _ | apply Drawn0.step)⟩
 case round =>
  clear H'
  try clear c1
  try clear p2
  obtain ⟨x8_1, x9_1, x10_1, rfl, rfl, rfl, HA, HK1, ⟨m1, rfl⟩⟩ := hrel
  cases gk with
  | zero => exact absurd HA.out (by simp [fulcrumref21_latest.l0])
  | succ k1 =>
   have H := HA.out
   clear HA
   simp only [fulcrumref21_latest.l0] at H
   by_cases c4 : x10_1 < (l1.length : Int)
   ·rw [if_pos c4] at H
    have c4b0 : decide (x10_1 < (l1.length : Int)) = true := decide_eq_true c4
    clear c4
    by_cases c5 : 0 ≤ x10_1
    ·rw [if_pos c5] at H
     have c5b0 : decide (0 ≤ x10_1) = true := decide_eq_true c5
     clear c5
     replace H := Option.bind_eq_some_iff.mp H
     obtain ⟨t200, A60, H⟩ := H
     replace H : (if t200 = a2 then (if x8_1 = 0 then (fulcrumref21_latest.l0 k1 l0 l1 a2 (rd l1 x10_1) (wrap64 (x9_1 + 1)) (wrap64 (x10_1 + 1))) else ((fulcrumref21_place.f k1 l0 (wrap64 (-(rd l1 x10_1)))).bind fun t203 => ((fulcrumref21_place.f k1 l0 (wrap64 (-x8_1))).bind fun t204 => (if t203 > t204 then (fulcrumref21_latest.l0 k1 l0 l1 a2 (rd l1 x10_1) (wrap64 (x9_1 + 1)) (wrap64 (x10_1 + 1))) else (fulcrumref21_latest.l0 k1 l0 l1 a2 x8_1 (wrap64 (x9_1 + 1)) (wrap64 (x10_1 + 1))))))) else (fulcrumref21_latest.l0 k1 l0 l1 a2 x8_1 x9_1 (wrap64 (x10_1 + 1)))) = some (r1, r2) := H
     have A6 := Aside0.mk A60
     clear A60
     by_cases c7 : t200 = a2
     ·rw [if_pos c7] at H
      have c7b0 : (t200 == a2) = true := beq_iff_eq.mpr c7
      have c7b1 : (t200 != a2) = false := bne_eq_false_iff_eq.mpr c7
      clear c7
      by_cases c8 : x8_1 = 0
      ·rw [if_pos c8] at H
       have c8b0 : (x8_1 == 0) = true := beq_iff_eq.mpr c8
       have c8b1 : (x8_1 != 0) = false := bne_eq_false_iff_eq.mpr c8
       clear c8
       have H' := Aside0.mk H
       clear H
       have p199 : 0 ≤ (x10_1 : Int) := odt
       have q199 : x10_1 < (l1.length : Int) := odt
       obtain ⟨ad199, e199, hx199_0⟩ := Kd.at_int HR1.out x10_1 p199 q199
       cases e199
       replace p199 := eq_true p199
       replace q199 := eq_true q199
       go_wp2_with (first | ((with_reducible refine gate_callee (f := 44) rfl ?_); refine goesL_ (some 22) rfl rfl Try.func44 (by kernel_rfl) rfl #[.slice A0 l0.length c0, .int .i64 (rd l1 x10_1)] rfl (by (try simp only [List.map_toArray, List.map_cons, List.map_nil]); first | done | rfl | (simp only [List.length_drop, List.length_take]; rfl)) ?_; (with_reducible refine (fulcrumref21_level.calls k1 _ _ l0 (rd l1 x10_1) t200 _ ?side1 ?side2 A6.out).mono ?_); (case side1 => repeat (first | exact HR0.out | (with_reducible refine Kd.C_alloc ?_ _) | (with_reducible refine Kd.C_drewN ?_ _) | (with_reducible refine Kd.C_drew ?_))); (case side2 => exact HC0.out); rintro e w' ⟨rfl, ⟨nd, rfl⟩⟩; refine ⟨_, rfl, ?_⟩; have p201 : 0 ≤ (x10_1 : Int) := odt; have q201 : x10_1 < (l1.length : Int) := odt; obtain ⟨ad201, e201, hx201_0⟩ := Kd.at_int HR1.out x10_1 p201 q201; obtain rfl : ad199 = ad201 := (by injection e201); replace p201 := eq_true p201; replace q201 := eq_true q201))
       go_roundg k1
       case measure => have := HK1.out; omega
       case rel => exact ⟨(rd l1 x10_1), (wrap64 (x9_1 + 1)), (wrap64 (x10_1 + 1)), (by first | rfl | (simp; done) | (simp [*]; done)), (by first | rfl | (simp; done) | (simp [*]; done)), (by first | rfl | (simp; done) | (simp [*]; done)), H', ⟨by have := HK1.out; omega⟩, by repeat (first | exact Drawn0.refl _ | apply Drawn0.step)⟩
      ·rw [if_neg c8] at H
       have c8b0 : (x8_1 == 0) = false := beq_eq_false_iff_ne.mpr c8
       have c8b1 : (x8_1 != 0) = true := bne_iff_ne.mpr c8
       replace H := Option.bind_eq_some_iff.mp H
       obtain ⟨t203, A90, H⟩ := H
       replace H : ((fulcrumref21_place.f k1 l0 (wrap64 (-x8_1))).bind fun t204 => (if t203 > t204 then (fulcrumref21_latest.l0 k1 l0 l1 a2 (rd l1 x10_1) (wrap64 (x9_1 + 1)) (wrap64 (x10_1 + 1))) else (fulcrumref21_latest.l0 k1 l0 l1 a2 x8_1 (wrap64 (x9_1 + 1)) (wrap64 (x10_1 + 1))))) = some (r1, r2) := H
       have A9 := Aside0.mk A90
       clear A90
       replace H := Option.bind_eq_some_iff.mp H
       obtain ⟨t204, A100, H⟩ := H
       replace H : (if t203 > t204 then (fulcrumref21_latest.l0 k1 l0 l1 a2 (rd l1 x10_1) (wrap64 (x9_1 + 1)) (wrap64 (x10_1 + 1))) else (fulcrumref21_latest.l0 k1 l0 l1 a2 x8_1 (wrap64 (x9_1 + 1)) (wrap64 (x10_1 + 1)))) = some (r1, r2) := H
       have A10 := Aside0.mk A100
       clear A100
       by_cases c11 : t203 > t204
       ·rw [if_pos c11] at H
        have c11b0 : decide (t204 < t203) = true := decide_eq_true c11
        clear c11
        have H' := Aside0.mk H
        clear H
        have p199 : 0 ≤ (x10_1 : Int) := odt
        have q199 : x10_1 < (l1.length : Int) := odt
        obtain ⟨ad199, e199, hx199_0⟩ := Kd.at_int HR1.out x10_1 p199 q199
        cases e199
        replace p199 := eq_true p199
        replace q199 := eq_true q199
        go_wp2_with (first | ((with_reducible refine gate_callee (f := 44) rfl ?_); refine goesL_ (some 22) rfl rfl Try.func44 (by kernel_rfl) rfl #[.slice A0 l0.length c0, .int .i64 (rd l1 x10_1)] rfl (by (try simp only [List.map_toArray, List.map_cons, List.map_nil]); first | done | rfl | (simp only [List.length_drop, List.length_take]; rfl)) ?_; (with_reducible refine (fulcrumref21_level.calls k1 _ _ l0 (rd l1 x10_1) t200 _ ?side1 ?side2 A6.out).mono ?_); (case side1 => repeat (first | exact HR0.out | (with_reducible refine Kd.C_alloc ?_ _) | (with_reducible refine Kd.C_drewN ?_ _) | (with_reducible refine Kd.C_drew ?_))); (case side2 => exact HC0.out); rintro e w' ⟨rfl, ⟨nd, rfl⟩⟩; refine ⟨_, rfl, ?_⟩; have p202 : 0 ≤ (x10_1 : Int) := odt; have q202 : x10_1 < (l1.length : Int) := odt; obtain ⟨ad202, e202, hx202_0⟩ := Kd.at_int HR1.out x10_1 p202 q202; obtain rfl : ad199 = ad202 := (by injection e202); replace p202 := eq_true p202; replace q202 := eq_true q202) | (go_at_call 50; (with_reducible refine (fulcrumref21_place.calls k1 _ _ l0 (wrap64 (-(rd l1 x10_1))) t203 _ ?side1 ?side2 A9.out).mono ?_); (case side1 => repeat (first | exact HR0.out | (with_reducible refine Kd.C_alloc ?_ _) | (with_reducible refine Kd.C_drewN ?_ _) | (with_reducible refine Kd.C_drew ?_))); (case side2 => exact HC0.out); rintro e w' ⟨rfl, ⟨nd, rfl⟩⟩) | (go_at_call 50; (with_reducible refine (fulcrumref21_place.calls k1 _ _ l0 (wrap64 (-x8_1)) t204 _ ?side1 ?side2 A10.out).mono ?_); (case side1 => repeat (first | exact HR0.out | (with_reducible refine Kd.C_alloc ?_ _) | (with_reducible refine Kd.C_drewN ?_ _) | (with_reducible refine Kd.C_drew ?_))); (case side2 => exact HC0.out); rintro e w' ⟨rfl, ⟨nd, rfl⟩⟩; have p205 : 0 ≤ (x10_1 : Int) := odt; have q205 : x10_1 < (l1.length : Int) := odt; obtain ⟨ad205, e205, hx205_0⟩ := Kd.at_int HR1.out x10_1 p205 q205; obtain rfl : ad199 = ad205 := (by injection e205); replace p205 := eq_true p205; replace q205 := eq_true q205))
        go_roundg k1
        case measure => have := HK1.out; omega
        case rel => exact ⟨(rd l1 x10_1), (wrap64 (x9_1 + 1)), (wrap64 (x10_1 + 1)), (by first | rfl | (simp; done) | (simp [*]; done)), (by first | rfl | (simp; done) | (simp [*]; done)), (by first | rfl | (simp; done) | (simp [*]; done)), H', ⟨by have := HK1.out; omega⟩, by repeat (first | exact Drawn0.refl _ | apply Drawn0.step)⟩
       ·rw [if_neg c11] at H
        have c11b0 : decide (t204 < t203) = false := decide_eq_false c11
        clear c11
        have H' := Aside0.mk H
        clear H
        have p199 : 0 ≤ (x10_1 : Int) := odt
        have q199 : x10_1 < (l1.length : Int) := odt
        obtain ⟨ad199, e199, hx199_0⟩ := Kd.at_int HR1.out x10_1 p199 q199
        cases e199
        replace p199 := eq_true p199
        replace q199 := eq_true q199
        go_wp2_with (first | ((with_reducible refine gate_callee (f := 44) rfl ?_); refine goesL_ (some 22) rfl rfl Try.func44 (by kernel_rfl) rfl #[.slice A0 l0.length c0, .int .i64 (rd l1 x10_1)] rfl (by (try simp only [List.map_toArray, List.map_cons, List.map_nil]); first | done | rfl | (simp only [List.length_drop, List.length_take]; rfl)) ?_; (with_reducible refine (fulcrumref21_level.calls k1 _ _ l0 (rd l1 x10_1) t200 _ ?side1 ?side2 A6.out).mono ?_); (case side1 => repeat (first | exact HR0.out | (with_reducible refine Kd.C_alloc ?_ _) | (with_reducible refine Kd.C_drewN ?_ _) | (with_reducible refine Kd.C_drew ?_))); (case side2 => exact HC0.out); rintro e w' ⟨rfl, ⟨nd, rfl⟩⟩; refine ⟨_, rfl, ?_⟩; have p202 : 0 ≤ (x10_1 : Int) := odt; have q202 : x10_1 < (l1.length : Int) := odt; obtain ⟨ad202, e202, hx202_0⟩ := Kd.at_int HR1.out x10_1 p202 q202; obtain rfl : ad199 = ad202 := (by injection e202); replace p202 := eq_true p202; replace q202 := eq_true q202) | (go_at_call 50; (with_reducible refine (fulcrumref21_place.calls k1 _ _ l0 (wrap64 (-(rd l1 x10_1))) t203 _ ?side1 ?side2 A9.out).mono ?_); (case side1 => repeat (first | exact HR0.out | (with_reducible refine Kd.C_alloc ?_ _) | (with_reducible refine Kd.C_drewN ?_ _) | (with_reducible refine Kd.C_drew ?_))); (case side2 => exact HC0.out); rintro e w' ⟨rfl, ⟨nd, rfl⟩⟩) | (go_at_call 50; (with_reducible refine (fulcrumref21_place.calls k1 _ _ l0 (wrap64 (-x8_1)) t204 _ ?side1 ?side2 A10.out).mono ?_); (case side1 => repeat (first | exact HR0.out | (with_reducible refine Kd.C_alloc ?_ _) | (with_reducible refine Kd.C_drewN ?_ _) | (with_reducible refine Kd.C_drew ?_))); (case side2 => exact HC0.out); rintro e w' ⟨rfl, ⟨nd, rfl⟩⟩))
        go_roundg k1
        case measure => have := HK1.out; omega
        case rel => exact ⟨(x8_1), (wrap64 (x9_1 + 1)), (wrap64 (x10_1 + 1)), (by first | rfl | (simp; done) | (simp [*]; done)), (by first | rfl | (simp; done) | (simp [*]; done)), (by first | rfl | (simp; done) | (simp [*]; done)), H', ⟨by have := HK1.out; omega⟩, by repeat (first | exact Drawn0.refl _ | apply Drawn0.step)⟩
     ·rw [if_neg c7] at H
      have c7b0 : (t200 == a2) = false := beq_eq_false_iff_ne.mpr c7
      have c7b1 : (t200 != a2) = true := bne_iff_ne.mpr c7
      have H' := Aside0.mk H
      clear H
      have p199 : 0 ≤ (x10_1 : Int) := odt
      have q199 : x10_1 < (l1.length : Int) := odt
      obtain ⟨ad199, e199, hx199_0⟩ := Kd.at_int HR1.out x10_1 p199 q199
      cases e199
      replace p199 := eq_true p199
      replace q199 := eq_true q199
      go_wp2_with (first | ((with_reducible refine gate_callee (f := 44) rfl ?_); refine goesL_ (some 22) rfl rfl Try.func44 (by kernel_rfl) rfl #[.slice A0 l0.length c0, .int .i64 (rd l1 x10_1)] rfl (by (try simp only [List.map_toArray, List.map_cons, List.map_nil]); first | done | rfl | (simp only [List.length_drop, List.length_take]; rfl)) ?_; (with_reducible refine (fulcrumref21_level.calls k1 _ _ l0 (rd l1 x10_1) t200 _ ?side1 ?side2 A6.out).mono ?_); (case side1 => repeat (first | exact HR0.out | (with_reducible refine Kd.C_alloc ?_ _) | (with_reducible refine Kd.C_drewN ?_ _) | (with_reducible refine Kd.C_drew ?_))); (case side2 => exact HC0.out); rintro e w' ⟨rfl, ⟨nd, rfl⟩⟩; refine ⟨_, rfl, ?_⟩))
      go_roundg k1
      case measure => have := HK1.out; omega
      case rel => exact ⟨(x8_1), (x9_1), (wrap64 (x10_1 + 1)), (by first | rfl | (simp; done) | (simp [*]; done)), (by first | rfl | (simp; done) | (simp [*]; done)), (by first | rfl | (simp; done) | (simp [*]; done)), H', ⟨by have := HK1.out; omega⟩, by repeat (first | exact Drawn0.refl _ | apply Drawn0.step)⟩
    ·rw [if_neg c5] at H
     exact absurd H (by simp)
   ·rw [if_neg c4] at H
    have c4b0 : decide (x10_1 < (l1.length : Int)) = false := decide_eq_false c4
    clear c4
    simp only [Option.some.injEq, Prod.mk.injEq] at H
    obtain ⟨rfl, rfl⟩ := H
    go_wp2
    go_ret2
    exact ⟨by first | rfl | (simp; done) | (simp [*]; done), by repeat (first | exact Drawn0.refl _ | apply Drawn0.step)⟩
def fulcrumref21_without.l0 : Nat → List Int → Int → List Int → Int → Option (List Int)
 | 0, _, _, _, _ => none
 | k + 1, x0, x1, x5, x6 => if x6 < (x0.length : Int) then (if 0 ≤ x6 then (if (rd x0 x6) = x1 then (fulcrumref21_without.l0 k x0 x1 x5 (wrap64 (x6 + 1))) else (if x5.length < 17592186044416 then (fulcrumref21_without.l0 k x0 x1 (x5 ++ [rd x0 x6]) (wrap64 (x6 + 1))) else (none))) else (none)) else (some x5)
def fulcrumref21_without.f (k : Nat) (l0 : List Int) (a1 : Int) : Option (List Int) := fulcrumref21_without.l0 k l0 a1 (([] : List Int)) 0
set_option maxHeartbeats 8000000 in
set_option maxRecDepth 100000 in
theorem fulcrumref21_without.calls (k : Nat) (A0 : Option Addr) (c0 : Nat) (l0 : List Int) (a1 : Int) (r : List Int) (w : World) (hr0 : Kd.C (Kd.int .i64) w A0 l0.length l0) (hc0 : l0.length ≤ c0) (h : fulcrumref21_without.f k l0 a1 = some r) :
  Calls Try.prog 62 #[.slice A0 l0.length c0, .int .i64 a1] w fun e w' => ∃ v0_ : Value, e = .returned (v0_) ∧ Kd.R (Kd.int .i64) 3 w' w.heap.size (fun _ => True) v0_ r ∧ Below w.heap.size w w' := by
 have HR0 := Aside0.mk hr0
 have HC0 := Aside0.mk hc0
 clear hr0 hc0
 have HB := Aside0.mk (Below.refl w.heap.size w)
 have H : (fulcrumref21_without.l0 k l0 a1 (([] : List Int)) 0) = some r := h
 clear h
 obtain ⟨y206, hy206⟩ : ∃ y_ : List Int, y_ = (([] : List Int)) := ⟨_, rfl⟩
 replace H : (fulcrumref21_without.l0 k l0 a1 y206 0) = some r := by first | (rw [hy206]; with_reducible exact H) | (have H2_ := (Option.bind_some _ _).symm.trans H; rw [hy206]; with_reducible exact H2_) | (have H2_ := (Option.bind_some _ _).symm.trans H; with_reducible exact H2_) | with_reducible exact H | (rw [hy206]; exact H) | exact H
 have Ny206 := Aside0.mk hy206
 clear hy206
 have H' := Aside0.mk H
 clear H
 go_enter Try.func62, Try.ntmps62
 go_wp2_with (first | ((with_reducible refine gate_dst (N := 7) rfl ?_); refine Kd.R_lit (Kd.int .i64) _ 3 ?hg (N := 7) ?hd (xs := ([] : List Int)) (inner := []) (ok := fun _ => True) (okp := fun _ => True) ?hr ?hp (fun _ hk => hk) trivial (Below.refl _ _) (Nat.le_refl _) (by simp) ?_; (case hd => rfl); (case hg => rfl); (case hr => first | (go_simp; done) | (go_simp; rfl)); (case hp => exact (Reps.none _ _)); intro v207 w3 ho4 hb hg_ hnew_; clear hg_ hnew_; (first | rw [← Ny206.out] at ho4 | (simp only [Int.reduceToNat] at ho4; rw [← Ny206.out] at ho4)); have n0_ := Aside0.mk (Kd.R_lower ho4 (below_size (bel_any HB.out))); have n1_ := Aside0.mk (below_step (bel_any HB.out) hb); clear HB; have HO208 := n0_; have HB := n1_; clear n0_ n1_; clear hb ho4))
 go_loopg [5, 6] k (fun kq v5 v6 w' => ∃ (x5_1 : List Int) (x6_1 : Int), v6 = .int .i64 x6_1 ∧ Aside0 (fulcrumref21_without.l0 kq l0 a1 x5_1 x6_1 = some r) ∧ Aside0 (kq ≤ k) ∧ Aside0 (Kd.R (Kd.int .i64) 3 w' w.heap.size (fun _ => True) v5 x5_1) ∧ Aside0 (Below w.heap.size w w'))
 case atStart => exact ⟨(y206), (0), (by first | rfl | (simp; done) | (simp [*]; done)), H', ⟨Nat.le_refl _⟩, ⟨R_any HO208.out⟩, ⟨bel_any HB.out⟩⟩
 case round =>
  clear H'
  try clear p2
  obtain ⟨x5_1, x6_1, rfl, HA, HK1, HO_5, HB⟩ := hrel
  cases gk with
  | zero => exact absurd HA.out (by simp [fulcrumref21_without.l0])
  | succ k1 =>
   have H := HA.out
   clear HA
   simp only [fulcrumref21_without.l0] at H
   by_cases c5 : x6_1 < (l0.length : Int)
   ·rw [if_pos c5] at H
    have c5b0 : decide (x6_1 < (l0.length : Int)) = true := decide_eq_true c5
    clear c5
    by_cases c6 : 0 ≤ x6_1
    ·rw [if_pos c6] at H
     have c6b0 : decide (0 ≤ x6_1) = true := decide_eq_true c6
     clear c6
     by_cases c7 : (rd l0 x6_1) = a1
     ·rw [if_pos c7] at H
      have c7b0 : ((rd l0 x6_1) == a1) = true := beq_iff_eq.mpr c7
      have c7b1 : ((rd l0 x6_1) != a1) = false := bne_eq_false_iff_eq.mpr c7
      clear c7
      have H' := Aside0.mk H
      clear H
      have p209 : 0 ≤ (x6_1 : Int) := odt
      have q209 : x6_1 < (l0.length : Int) := odt
      obtain ⟨ad209, e209, hx209_0⟩ := Kd.at_int HR0.out x6_1 p209 q209
      cases e209
      replace hx209_0 := (HB.out.cell (World.block_lt_of_cell? w _ hx209_0)).trans hx209_0
      replace p209 := eq_true p209
      replace q209 := eq_true q209
      go_wp2
      go_roundg k1
      case measure => have := HK1.out; omega
      case rel => exact ⟨(x5_1), (wrap64 (x6_1 + 1)), (by first | rfl | (simp; done) | (simp [*]; done)), H', ⟨by have := HK1.out; omega⟩, ⟨R_any HO_5.out⟩, ⟨bel_any HB.out⟩⟩
     ·rw [if_neg c7] at H
      have c7b0 : ((rd l0 x6_1) == a1) = false := beq_eq_false_iff_ne.mpr c7
      have c7b1 : ((rd l0 x6_1) != a1) = true := bne_iff_ne.mpr c7
      by_cases c8 : x5_1.length < 17592186044416
      ·rw [if_pos c8] at H
       have LMc8 := Aside0.mk c8
       clear c8
       obtain ⟨y211, hy211⟩ : ∃ y_ : List Int, y_ = (x5_1 ++ [rd l0 x6_1]) := ⟨_, rfl⟩
       replace H : (fulcrumref21_without.l0 k1 l0 a1 y211 (wrap64 (x6_1 + 1))) = some r := by first | (rw [hy211]; with_reducible exact H) | (have H2_ := (Option.bind_some _ _).symm.trans H; rw [hy211]; with_reducible exact H2_) | (have H2_ := (Option.bind_some _ _).symm.trans H; with_reducible exact H2_) | with_reducible exact H | (rw [hy211]; exact H) | exact H
       have Ny211 := Aside0.mk hy211
       clear hy211
       have H' := Aside0.mk H
       clear H
       have p209 : 0 ≤ (x6_1 : Int) := odt
       have q209 : x6_1 < (l0.length : Int) := odt
       obtain ⟨ad209, e209, hx209_0⟩ := Kd.at_int HR0.out x6_1 p209 q209
       cases e209
       replace hx209_0 := (HB.out.cell (World.block_lt_of_cell? w _ hx209_0)).trans hx209_0
       replace p209 := eq_true p209
       replace q209 := eq_true q209
       have p210 : 0 ≤ (x6_1 : Int) := odt
       have q210 : x6_1 < (l0.length : Int) := odt
       obtain ⟨ad210, e210, hx210_0⟩ := Kd.at_int HR0.out x6_1 p210 q210
       obtain rfl : ad209 = ad210 := (by injection e210)
       replace hx210_0 := (HB.out.cell (World.block_lt_of_cell? w _ hx210_0)).trans hx210_0
       replace p210 := eq_true p210
       replace q210 := eq_true q210
       go_wp2_with (first | ((with_reducible refine gate_builtin (b := .append) (xs := #[.tmp 20, .tmp 25]) rfl ?_); at_builtin; refine Kd.R_append (Kd.int .i64) (w0 := w) w.heap.size rfl (.tmp 20) (.tmp 25) 27 3 (.int .i64 0) 8 rfl Try.underlying27 info3 rfl (by decide) (by omega) u5 x5_1 (rd l0 x6_1) [.int .i64 (rd l0 x6_1)] (fun _ => True) (fun _ => False) rfl rfl ?aP (fun _ hk => hk.elim) ?aF ?aO ?aB ?aS ?aL ?_; (case aP => exact rfl); (case aB => exact (bel_any HB.out)); (case aF => exact (fun _ _ => trivial)); (case aO => exact (R_any HO_5.out)); (case aS => exact (below_size (bel_any HB.out))); (case aL => have := LMc8.out; omega); intro v212 w9 ho hb hg hat; rw [← Ny211.out] at ho; have n0_ := Aside0.mk (hb); have n1_ := Aside0.mk (ho); clear HB; clear HO_5; have HB := n0_; have HO213 := n1_; clear n0_ n1_; clear ho hb hg hat))
       go_roundg k1
       case measure => have := HK1.out; omega
       case rel => exact ⟨(y211), (wrap64 (x6_1 + 1)), (by first | rfl | (simp; done) | (simp [*]; done)), H', ⟨by have := HK1.out; omega⟩, ⟨R_any HO213.out⟩, ⟨bel_any HB.out⟩⟩
      ·rw [if_neg c8] at H
       exact absurd H (by simp)
    ·rw [if_neg c6] at H
     exact absurd H (by simp)
   ·rw [if_neg c5] at H
    have c5b0 : decide (x6_1 < (l0.length : Int)) = false := decide_eq_false c5
    clear c5
    obtain rfl := Option.some.inj H
    go_wp2
    go_ret
    exact ⟨_, by first | rfl | (simp [errW_none, errW_some] <;> rfl) | (simp [*, errW_none, errW_some] <;> rfl), R_any HO_5.out, bel_any HB.out⟩
end Go.Proofs.Ytboalbiicmcljaa.PAN
