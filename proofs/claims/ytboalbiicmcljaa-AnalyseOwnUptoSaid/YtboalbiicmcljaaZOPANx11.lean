import Derived.Test.YtboalbiicmcljaaZOPANx0
import Derived.Test.YtboalbiicmcljaaZOPANx10
namespace Go.Proofs.Ytboalbiicmcljaa.PAN
open Go.Proofs.YtboalbiicmcljaaH
open Go.RowKit Go.Proofs.YtboalbiicmcljaaW.PrintWords Go.Proofs.YtboalbiicmcljaaW.PrintLast Go.Proofs.YtboalbiicmcljaaW.PrintMore
attribute [local go_sem] max2_int min2_int max_two min_two max_three min_three max_four min_four   -- for this text's walks alone
set_option linter.unusedVariables false
set_option linter.unusedSimpArgs false
mutual
def fulcrumref21_supported.j0 : Nat → List (List Int) → List (S49) → Int → Int → Int → Int → Int → Option (Bool)
 | 0, _, _, _, _, _, _, _ => none
 | k + 1, x0, x1, x2, x8, x158000, x158001, x158002 => if x158002 = (-1) then (some (x158001 == (wrap64 (x8 + 1)))) else (if x158002 < 0 then (fulcrumref21_supported.j1 k x0 x1 x2 true x158000 x158001 x158002) else (if x158002 ≥ (x0.length : Int) then (fulcrumref21_supported.j1 k x0 x1 x2 true x158000 x158001 x158002) else (if x158001 = x8 then (if 0 ≤ x158002 then (if x158002 < (x0.length : Int) then ((fulcrumref21_has.f k (rd_L1 x0 x158002) x158000).bind fun t160 => (fulcrumref21_supported.j1 k x0 x1 x2 (!t160) x158000 x158001 x158002)) else (none)) else (none)) else (fulcrumref21_supported.j1 k x0 x1 x2 true x158000 x158001 x158002))))
def fulcrumref21_supported.j1 : Nat → List (List Int) → List (S49) → Int → Bool → Int → Int → Int → Option (Bool)
 | 0, _, _, _, _, _, _, _ => none
 | k + 1, x0, x1, x2, x57, x158000, x158001, x158002 => if x57 = true then (some false) else (if 0 ≤ x158002 then (if x158002 < (x0.length : Int) then (fulcrumref21_supported.l0 k x1 x2 (rd_L1 x0 x158002) 0 x158000 x158001 x158002) else (none)) else (none))
def fulcrumref21_supported.l0 : Nat → List (S49) → Int → List Int → Int → Int → Int → Int → Option (Bool)
 | 0, _, _, _, _, _, _, _ => none
 | k + 1, x1, x2, x9, x10, x158000, x158001, x158002 => if x10 < (x9.length : Int) then (if 0 ≤ x10 then (if (rd x9 x10) = x158000 then (fulcrumref21_supported.l0 k x1 x2 x9 (wrap64 (x10 + 1)) x158000 x158001 x158002) else ((fulcrumref21_literal.f (rd x9 x10)).bind fun t164 => (if t164 = true then (if 0 ≤ x2 then (if x2 ≤ (x1.length : Int) then ((fulcrumref21_place.f k (x1.take (x2 : Int).toNat) (wrap64 (-(rd x9 x10)))).bind fun t170 => (if t170 < 0 then (some false) else (fulcrumref21_supported.l0 k x1 x2 x9 (wrap64 (x10 + 1)) x158000 x158001 x158002))) else (none)) else (none)) else (some false)))) else (none)) else (some true)
end
def fulcrumref21_supported.f (k : Nat) (l0 : List (List Int)) (l1 : List (S49)) (a2 : Int) : Option (Bool) := if 0 ≤ a2 then (if a2 < (l1.length : Int) then (if a2 > 0 then (if 0 ≤ (wrap64 (a2 - 1)) then (if (wrap64 (a2 - 1)) < (l1.length : Int) then (fulcrumref21_supported.j0 k l0 l1 a2 ((rd_T49 l1 (wrap64 (a2 - 1))).f1) ((rd_T49 l1 a2).f0) ((rd_T49 l1 a2).f1) ((rd_T49 l1 a2).f2)) else (none)) else (none)) else (fulcrumref21_supported.j0 k l0 l1 a2 0 ((rd_T49 l1 a2).f0) ((rd_T49 l1 a2).f1) ((rd_T49 l1 a2).f2))) else (none)) else (none)
set_option maxHeartbeats 8000000 in
set_option maxRecDepth 100000 in
theorem fulcrumref21_supported.calls (k : Nat) (A0 : Option Addr) (c0 : Nat) (l0 : List (List Int)) (A1 : Option Addr) (c1 : Nat) (l1 : List (S49)) (a2 : Int) (r : Bool) (w : World) (hr0 : Kd.C (Kd.slice 3 (Kd.int .i64)) w A0 l0.length l0) (hc0 : l0.length ≤ c0) (hr1 : Kd.C k49 w A1 l1.length l1) (hc1 : l1.length ≤ c1) (h : fulcrumref21_supported.f k l0 l1 a2 = some r) :
  Calls Try.prog 51 #[.slice A0 l0.length c0, .slice A1 l1.length c1, .int .i64 a2] w fun e w' => e = .returned (.bool r) ∧ Below w.heap.size w w' := by
 have hu49 := Try.underlying49
 have HR0 := Aside0.mk hr0
 have HC0 := Aside0.mk hc0
 clear hr0 hc0
 have HR1 := Aside0.mk hr1
 have HC1 := Aside0.mk hc1
 clear hr1 hc1
 have HB := Aside0.mk (Below.refl w.heap.size w)
 have H : (if 0 ≤ a2 then (if a2 < (l1.length : Int) then (if a2 > 0 then (if 0 ≤ (wrap64 (a2 - 1)) then (if (wrap64 (a2 - 1)) < (l1.length : Int) then (fulcrumref21_supported.j0 k l0 l1 a2 ((rd_T49 l1 (wrap64 (a2 - 1))).f1) ((rd_T49 l1 a2).f0) ((rd_T49 l1 a2).f1) ((rd_T49 l1 a2).f2)) else (none)) else (none)) else (fulcrumref21_supported.j0 k l0 l1 a2 0 ((rd_T49 l1 a2).f0) ((rd_T49 l1 a2).f1) ((rd_T49 l1 a2).f2))) else (none)) else (none)) = some r := h
 clear h
 by_cases c4 : 0 ≤ a2
 ·rw [if_pos c4] at H
  have c4b0 : decide (0 ≤ a2) = true := decide_eq_true c4
  clear c4
  by_cases c5 : a2 < (l1.length : Int)
  ·rw [if_pos c5] at H
   have c5b0 : decide (a2 < (l1.length : Int)) = true := decide_eq_true c5
   clear c5
   have HC6 := Aside0.mk H
   clear H
   have p156 : 0 ≤ (a2 : Int) := odt
   have q156 : a2 < (l1.length : Int) := odt
   obtain ⟨ad156, e156, hx156_0, hx156_1, hx156_2⟩ := at_T49 HR1.out a2 p156 q156
   cases e156
   replace p156 := eq_true p156
   replace q156 := eq_true q156
   go_enter Try.func51, Try.ntmps51
   go_upto_if 16 with (first | ((with_reducible refine gate_dst (N := 7) rfl ?_); (try (refine gate_guard (by rfl) ?_; dsimp only)); refine box_event ?hg (N := 7) ?hd (cs := #[.int .i64 0, .int .i64 0, .int .i64 0]) (t := 49) ?hr ?_; (case hd => rfl); (case hg => rfl); (case hr => first | (go_simp; done) | (go_simp; rfl)); intro gb157 hg w7 hbox hb; have n0_ := Aside0.mk (below_step (bel_any HB.out) hb); have n1_ := Aside0.mk (hbox); have n2_ := Aside0.mk ((by rw [hg]; exact (below_size (bel_any HB.out)) : w.heap.size ≤ gb157)); have n3_ := Aside0.mk ((by rw [hg]; exact (below_size (bel_any HB.out)) : w.heap.size ≤ gb157)); clear HB; have HB := n0_; have BK157 := n1_; have GW157 := n2_; have GE157 := n3_; clear n0_ n1_ n2_ n3_; clear hb hbox hg; have hcz8_0 : w7.cell? ⟨gb157, 0, none⟩ = some (.int .i64 0) := (blk_cell BK157.out 0).trans rfl; have hcz8_1 : w7.cell? ⟨gb157, 1, none⟩ = some (.int .i64 0) := (blk_cell BK157.out 1).trans rfl; have hcz8_2 : w7.cell? ⟨gb157, 2, none⟩ = some (.int .i64 0) := (blk_cell BK157.out 2).trans rfl; have hfz8_0 := blk_frozen BK157.out 0; have hfz8_1 := blk_frozen BK157.out 1; have hfz8_2 := blk_frozen BK157.out 2))
   repeat (go_quiet (first | ((with_reducible refine gate_dst (N := 7) rfl ?_); (try (refine gate_guard (by rfl) ?_; dsimp only)); refine box_event ?hg (N := 7) ?hd (cs := #[.int .i64 0, .int .i64 0, .int .i64 0]) (t := 49) ?hr ?_; (case hd => rfl); (case hg => rfl); (case hr => first | (go_simp; done) | (go_simp; rfl)); intro gb157 hg w7 hbox hb; have n0_ := Aside0.mk (below_step (bel_any HB.out) hb); have n1_ := Aside0.mk (hbox); have n2_ := Aside0.mk ((by rw [hg]; exact (below_size (bel_any HB.out)) : w.heap.size ≤ gb157)); have n3_ := Aside0.mk ((by rw [hg]; exact (below_size (bel_any HB.out)) : w.heap.size ≤ gb157)); clear HB; have HB := n0_; have BK157 := n1_; have GW157 := n2_; have GE157 := n3_; clear n0_ n1_ n2_ n3_; clear hb hbox hg; have hcz8_0 : w7.cell? ⟨gb157, 0, none⟩ = some (.int .i64 0) := (blk_cell BK157.out 0).trans rfl; have hcz8_1 : w7.cell? ⟨gb157, 1, none⟩ = some (.int .i64 0) := (blk_cell BK157.out 1).trans rfl; have hcz8_2 : w7.cell? ⟨gb157, 2, none⟩ = some (.int .i64 0) := (blk_cell BK157.out 2).trans rfl; have hfz8_0 := blk_frozen BK157.out 0; have hfz8_1 := blk_frozen BK157.out 1; have hfz8_2 := blk_frozen BK157.out 2)); go_upto_if 16 with (first | ((with_reducible refine gate_dst (N := 7) rfl ?_); (try (refine gate_guard (by rfl) ?_; dsimp only)); refine box_event ?hg (N := 7) ?hd (cs := #[.int .i64 0, .int .i64 0, .int .i64 0]) (t := 49) ?hr ?_; (case hd => rfl); (case hg => rfl); (case hr => first | (go_simp; done) | (go_simp; rfl)); intro gb157 hg w7 hbox hb; have n0_ := Aside0.mk (below_step (bel_any HB.out) hb); have n1_ := Aside0.mk (hbox); have n2_ := Aside0.mk ((by rw [hg]; exact (below_size (bel_any HB.out)) : w.heap.size ≤ gb157)); have n3_ := Aside0.mk ((by rw [hg]; exact (below_size (bel_any HB.out)) : w.heap.size ≤ gb157)); clear HB; have HB := n0_; have BK157 := n1_; have GW157 := n2_; have GE157 := n3_; clear n0_ n1_ n2_ n3_; clear hb hbox hg; have hcz8_0 : w7.cell? ⟨gb157, 0, none⟩ = some (.int .i64 0) := (blk_cell BK157.out 0).trans rfl; have hcz8_1 : w7.cell? ⟨gb157, 1, none⟩ = some (.int .i64 0) := (blk_cell BK157.out 1).trans rfl; have hcz8_2 : w7.cell? ⟨gb157, 2, none⟩ = some (.int .i64 0) := (blk_cell BK157.out 2).trans rfl; have hfz8_0 := blk_frozen BK157.out 0; have hfz8_1 := blk_frozen BK157.out 1; have hfz8_2 := blk_frozen BK157.out 2)))
   (try simp only [Act.put, List.setIfInBounds_toArray, List.set_cons_zero, List.set_cons_succ])
   go_cut [8] (fun v8 wc => ∃ (kq : Nat) (x8_5 : Int), v8 = .int .i64 x8_5 ∧ Aside0 (fulcrumref21_supported.j0 kq l0 l1 a2 x8_5 ((rd_T49 l1 a2).f0) ((rd_T49 l1 a2).f1) ((rd_T49 l1 a2).f2) = some r) ∧ Aside0 (kq ≤ k) ∧ Aside0 (wc.heap[gb157]? = some (.cells #[.int .i64 ((rd_T49 l1 a2).f0), .int .i64 ((rd_T49 l1 a2).f1), .int .i64 ((rd_T49 l1 a2).f2)] 49 (0, 0))) ∧ Aside0 (Below w.heap.size w wc))
   case first =>
    have H := HC6.out
    clear HC6
    by_cases c9 : a2 > 0
    ·rw [if_pos c9] at H
     have c9b0 : decide (0 < a2) = true := decide_eq_true c9
     clear c9
     (first | rw [c9b0] | (simp only [i64_w, i32_w]; rw [c9b0]) | skip)
     obtain ⟨ji10, hji10⟩ : ∃ j_ : Int, (wrap64 (a2 - 1)) = j_ := ⟨_, rfl⟩
     replace H : (if 0 ≤ (ji10) then (if (ji10) < (l1.length : Int) then (fulcrumref21_supported.j0 k l0 l1 a2 ((rd_T49 l1 (ji10)).f1) ((rd_T49 l1 a2).f0) ((rd_T49 l1 a2).f1) ((rd_T49 l1 a2).f2)) else (none)) else (none)) = some r := by first | (rw [hji10] at H; exact H) | (simp only [hji10] at H ⊢; exact H)
     have hji10w : (IntKind.i64.wrap (a2 - 1)) = ji10 := (i64_w _).trans hji10
     by_cases c11 : 0 ≤ (ji10)
     ·rw [if_pos c11] at H
      have c11b0 : decide (0 ≤ (ji10)) = true := decide_eq_true c11
      clear c11
      by_cases c12 : (ji10) < (l1.length : Int)
      ·rw [if_pos c12] at H
       have c12b0 : decide ((ji10) < (l1.length : Int)) = true := decide_eq_true c12
       clear c12
       have H' := Aside0.mk H
       clear H
       have p158 : 0 ≤ ((ji10) : Int) := odt
       have q158 : (ji10) < (l1.length : Int) := odt
       obtain ⟨ad158, e158, hx158_0, hx158_1, hx158_2⟩ := at_T49 HR1.out (ji10) p158 q158
       obtain rfl : ad156 = ad158 := (by injection e158)
       have hn158_0 : ad156.block ≠ gb157 := Nat.ne_of_lt (Nat.lt_of_lt_of_le (by have := World.block_lt_of_cell? _ _ hx158_0; first | rwa [add_block] at this | exact this) GW157.out)
       have hn158_1 : ad156.block ≠ gb157 := Nat.ne_of_lt (Nat.lt_of_lt_of_le (by have := World.block_lt_of_cell? _ _ hx158_0; first | rwa [add_block] at this | exact this) GW157.out)
       have hn158_2 : ad156.block ≠ gb157 := Nat.ne_of_lt (Nat.lt_of_lt_of_le (by have := World.block_lt_of_cell? _ _ hx158_0; first | rwa [add_block] at this | exact this) GW157.out)
       replace hx158_0 := (HB.out.cell (World.block_lt_of_cell? w _ hx158_0)).trans hx158_0
       replace hx158_1 := (HB.out.cell (World.block_lt_of_cell? w _ hx158_1)).trans hx158_1
       replace hx158_2 := (HB.out.cell (World.block_lt_of_cell? w _ hx158_2)).trans hx158_2
       replace hx158_0 := (cell_far (p := ⟨gb157, 0, none⟩) (by first | (rw [add_block]; exact hn158_0) | (show (Addr.add _ _).block ≠ _; rw [add_block]; exact hn158_0) | exact hn158_0) (.int .i64 ((rd_T49 l1 a2).f0))).trans hx158_0
       replace hx158_1 := (cell_far (p := ⟨gb157, 0, none⟩) (by first | (rw [add_block]; exact hn158_0) | (show (Addr.add _ _).block ≠ _; rw [add_block]; exact hn158_0) | exact hn158_0) (.int .i64 ((rd_T49 l1 a2).f0))).trans hx158_1
       replace hx158_2 := (cell_far (p := ⟨gb157, 0, none⟩) (by first | (rw [add_block]; exact hn158_0) | (show (Addr.add _ _).block ≠ _; rw [add_block]; exact hn158_0) | exact hn158_0) (.int .i64 ((rd_T49 l1 a2).f0))).trans hx158_2
       replace hx158_0 := (cell_far (p := ⟨gb157, 1, none⟩) (by first | (rw [add_block]; exact hn158_1) | (show (Addr.add _ _).block ≠ _; rw [add_block]; exact hn158_1) | exact hn158_1) (.int .i64 ((rd_T49 l1 a2).f1))).trans hx158_0
       replace hx158_1 := (cell_far (p := ⟨gb157, 1, none⟩) (by first | (rw [add_block]; exact hn158_1) | (show (Addr.add _ _).block ≠ _; rw [add_block]; exact hn158_1) | exact hn158_1) (.int .i64 ((rd_T49 l1 a2).f1))).trans hx158_1
       replace hx158_2 := (cell_far (p := ⟨gb157, 1, none⟩) (by first | (rw [add_block]; exact hn158_1) | (show (Addr.add _ _).block ≠ _; rw [add_block]; exact hn158_1) | exact hn158_1) (.int .i64 ((rd_T49 l1 a2).f1))).trans hx158_2
       replace hx158_0 := (cell_far (p := ⟨gb157, 2, none⟩) (by first | (rw [add_block]; exact hn158_2) | (show (Addr.add _ _).block ≠ _; rw [add_block]; exact hn158_2) | exact hn158_2) (.int .i64 ((rd_T49 l1 a2).f2))).trans hx158_0
       replace hx158_1 := (cell_far (p := ⟨gb157, 2, none⟩) (by first | (rw [add_block]; exact hn158_2) | (show (Addr.add _ _).block ≠ _; rw [add_block]; exact hn158_2) | exact hn158_2) (.int .i64 ((rd_T49 l1 a2).f2))).trans hx158_1
       replace hx158_2 := (cell_far (p := ⟨gb157, 2, none⟩) (by first | (rw [add_block]; exact hn158_2) | (show (Addr.add _ _).block ≠ _; rw [add_block]; exact hn158_2) | exact hn158_2) (.int .i64 ((rd_T49 l1 a2).f2))).trans hx158_2
       (try have hy158_0 := fun (n_ : Nat) => (show (((((w7.drewN n_).setCell ⟨gb157, 0, none⟩ (.int .i64 ((rd_T49 l1 a2).f0))).setCell ⟨gb157, 1, none⟩ (.int .i64 ((rd_T49 l1 a2).f1))).setCell ⟨gb157, 2, none⟩ (.int .i64 ((rd_T49 l1 a2).f2)))).cell? _ = some _ from hx158_0))
       (try have hy158_1 := fun (n_ : Nat) => (show (((((w7.drewN n_).setCell ⟨gb157, 0, none⟩ (.int .i64 ((rd_T49 l1 a2).f0))).setCell ⟨gb157, 1, none⟩ (.int .i64 ((rd_T49 l1 a2).f1))).setCell ⟨gb157, 2, none⟩ (.int .i64 ((rd_T49 l1 a2).f2)))).cell? _ = some _ from hx158_1))
       (try have hy158_2 := fun (n_ : Nat) => (show (((((w7.drewN n_).setCell ⟨gb157, 0, none⟩ (.int .i64 ((rd_T49 l1 a2).f0))).setCell ⟨gb157, 1, none⟩ (.int .i64 ((rd_T49 l1 a2).f1))).setCell ⟨gb157, 2, none⟩ (.int .i64 ((rd_T49 l1 a2).f2)))).cell? _ = some _ from hx158_2))
       clear hn158_0
       clear hn158_1
       clear hn158_2
       replace p158 := eq_true p158
       replace q158 := eq_true q158
       go_wp2
       repeat (go_quiet (fail); try go_wp2)
       go_meet
       case rel => exact ⟨_, ((rd_T49 l1 (ji10)).f1), (by first | rfl | (simp; done) | (simp only [← hji10] <;> (first | rfl | simp)) | (simp [*]; done)), H', ⟨by first | omega | exact Nat.le_refl _⟩, ⟨by (with_reducible repeat (first | refine blk_drewN ?_ _ | refine blk_drew ?_ | refine blk_alloc ?_ _)); refine blk_put (cs := #[.int .i64 ((rd_T49 l1 a2).f0), .int .i64 ((rd_T49 l1 a2).f1), .int .i64 0]) ?_ 2 _ rfl; (with_reducible repeat (first | refine blk_drewN ?_ _ | refine blk_drew ?_ | refine blk_alloc ?_ _)); refine blk_put (cs := #[.int .i64 ((rd_T49 l1 a2).f0), .int .i64 0, .int .i64 0]) ?_ 1 _ rfl; (with_reducible repeat (first | refine blk_drewN ?_ _ | refine blk_drew ?_ | refine blk_alloc ?_ _)); refine blk_put (cs := #[.int .i64 0, .int .i64 0, .int .i64 0]) ?_ 0 _ rfl; exact blk_any BK157.out⟩, ⟨by repeat (first | (with_reducible first | exact HB.out | apply below_alloc | apply pw_below_drewN | apply below_drew1 | refine below_set ?_ GE157.out) | exact HB.out)⟩⟩
      ·rw [if_neg c12] at H
       exact absurd H (by simp)
     ·rw [if_neg c11] at H
      exact absurd H (by simp)
    ·rw [if_neg c9] at H
     have c9b0 : decide (0 < a2) = false := decide_eq_false c9
     clear c9
     (first | rw [c9b0] | (simp only [i64_w, i32_w]; rw [c9b0]) | skip)
     have H' := Aside0.mk H
     clear H
     go_wp2
     repeat (go_quiet (fail); try go_wp2)
     go_meet
     case rel => exact ⟨_, (0), (by first | rfl | (simp; done) | (simp [*]; done)), H', ⟨by first | omega | exact Nat.le_refl _⟩, ⟨by (with_reducible repeat (first | refine blk_drewN ?_ _ | refine blk_drew ?_ | refine blk_alloc ?_ _)); refine blk_put (cs := #[.int .i64 ((rd_T49 l1 a2).f0), .int .i64 ((rd_T49 l1 a2).f1), .int .i64 0]) ?_ 2 _ rfl; (with_reducible repeat (first | refine blk_drewN ?_ _ | refine blk_drew ?_ | refine blk_alloc ?_ _)); refine blk_put (cs := #[.int .i64 ((rd_T49 l1 a2).f0), .int .i64 0, .int .i64 0]) ?_ 1 _ rfl; (with_reducible repeat (first | refine blk_drewN ?_ _ | refine blk_drew ?_ | refine blk_alloc ?_ _)); refine blk_put (cs := #[.int .i64 0, .int .i64 0, .int .i64 0]) ?_ 0 _ rfl; exact blk_any BK157.out⟩, ⟨by repeat (first | (with_reducible first | exact HB.out | apply below_alloc | apply pw_below_drewN | apply below_drew1 | refine below_set ?_ GE157.out) | exact HB.out)⟩⟩
   case rest =>
    clear HC6
    try clear c1
    try clear p1
    try clear q1
    try clear hx1
    try clear p2
    try clear c4
    try clear c4b0
    try clear c5
    try clear c5b0
    try clear p6
    try clear c9
    try clear c9b0
    try clear c11
    try clear c11b0
    try clear c12
    try clear c12b0
    try clear hcz8_0
    try clear hcz8_1
    try clear hcz8_2
    try clear hfz8_0
    try clear hfz8_1
    try clear hfz8_2
    try clear hx156_0
    try clear hx156_1
    try clear hx156_2
    try clear hx158_0
    try clear hx158_1
    try clear hx158_2
    try clear p156
    try clear p158
    try clear q156
    try clear q158
    obtain ⟨kq, x8_5, rfl, HA, HJ5, BK157, HB⟩ := hcut
    cases kq with
    | zero => exact absurd HA.out (by simp [fulcrumref21_supported.j0])
    | succ kj5 =>
     have H := HA.out
     clear HA
     simp only [fulcrumref21_supported.j0] at H
     by_cases c13 : ((rd_T49 l1 a2).f2) = (-1)
     ·rw [if_pos c13] at H
      have c13b0 : (((rd_T49 l1 a2).f2) == (-1)) = true := beq_iff_eq.mpr c13
      have c13b1 : (((rd_T49 l1 a2).f2) != (-1)) = false := bne_eq_false_iff_eq.mpr c13
      clear c13
      obtain rfl := Option.some.inj H
      have hcz14_0 : wc.cell? ⟨gb157, 0, none⟩ = some (.int .i64 ((rd_T49 l1 a2).f0)) := (blk_cell BK157.out 0).trans rfl
      have hcz14_1 : wc.cell? ⟨gb157, 1, none⟩ = some (.int .i64 ((rd_T49 l1 a2).f1)) := (blk_cell BK157.out 1).trans rfl
      have hcz14_2 : wc.cell? ⟨gb157, 2, none⟩ = some (.int .i64 ((rd_T49 l1 a2).f2)) := (blk_cell BK157.out 2).trans rfl
      have hfz14_0 := blk_frozen BK157.out 0
      have hfz14_1 := blk_frozen BK157.out 1
      have hfz14_2 := blk_frozen BK157.out 2
      go_wp2
      repeat (go_quiet (fail); try go_wp2)
      go_ret
      exact ⟨by first | rfl | (simp [errW_none, errW_some] <;> rfl) | (simp [*, errW_none, errW_some] <;> rfl), by repeat (first | (with_reducible first | exact HB.out | apply below_alloc | apply pw_below_drewN | apply below_drew1 | refine below_set ?_ GE157.out) | exact HB.out)⟩
     ·rw [if_neg c13] at H
      have c13b0 : (((rd_T49 l1 a2).f2) == (-1)) = false := beq_eq_false_iff_ne.mpr c13
      have c13b1 : (((rd_T49 l1 a2).f2) != (-1)) = true := bne_iff_ne.mpr c13
      have HC15 := Aside0.mk H
      clear H
      have hcz16_0 : wc.cell? ⟨gb157, 0, none⟩ = some (.int .i64 ((rd_T49 l1 a2).f0)) := (blk_cell BK157.out 0).trans rfl
      have hcz16_1 : wc.cell? ⟨gb157, 1, none⟩ = some (.int .i64 ((rd_T49 l1 a2).f1)) := (blk_cell BK157.out 1).trans rfl
      have hcz16_2 : wc.cell? ⟨gb157, 2, none⟩ = some (.int .i64 ((rd_T49 l1 a2).f2)) := (blk_cell BK157.out 2).trans rfl
      have hfz16_0 := blk_frozen BK157.out 0
      have hfz16_1 := blk_frozen BK157.out 1
      have hfz16_2 := blk_frozen BK157.out 2
      go_upto_region 7 with (fail)
      repeat (go_quiet (fail); go_upto_region 7 with (fail))
      go_cut [57] (fun v57 wc => ∃ (kq : Nat) (x57_14 : Bool), v57 = .bool x57_14 ∧ Aside0 (fulcrumref21_supported.j1 kq l0 l1 a2 x57_14 ((rd_T49 l1 a2).f0) ((rd_T49 l1 a2).f1) ((rd_T49 l1 a2).f2) = some r) ∧ Aside0 (kq ≤ kj5) ∧ Aside0 (wc.heap[gb157]? = some (.cells #[.int .i64 ((rd_T49 l1 a2).f0), .int .i64 ((rd_T49 l1 a2).f1), .int .i64 ((rd_T49 l1 a2).f2)] 49 (0, 0))) ∧ Aside0 (Below w.heap.size w wc))
      case first =>
       have H := HC15.out
       clear HC15
       by_cases c17 : ((rd_T49 l1 a2).f2) < 0
       ·rw [if_pos c17] at H
        have c17b0 : decide (((rd_T49 l1 a2).f2) < 0) = true := decide_eq_true c17
        clear c17
        (first | rw [c17b0] | (simp only [i64_w, i32_w]; rw [c17b0]) | skip)
        have H' := Aside0.mk H
        clear H
        have hcz18_0 : wc.cell? ⟨gb157, 0, none⟩ = some (.int .i64 ((rd_T49 l1 a2).f0)) := (blk_cell BK157.out 0).trans rfl
        have hcz18_1 : wc.cell? ⟨gb157, 1, none⟩ = some (.int .i64 ((rd_T49 l1 a2).f1)) := (blk_cell BK157.out 1).trans rfl
        have hcz18_2 : wc.cell? ⟨gb157, 2, none⟩ = some (.int .i64 ((rd_T49 l1 a2).f2)) := (blk_cell BK157.out 2).trans rfl
        have hfz18_0 := blk_frozen BK157.out 0
        have hfz18_1 := blk_frozen BK157.out 1
        have hfz18_2 := blk_frozen BK157.out 2
        go_wp2
        repeat (go_quiet (fail); try go_wp2)
        go_meet
        case rel => exact ⟨_, (true), (by first | rfl | (simp; done) | (simp [*]; done)), H', ⟨by have := HJ5.out; first | omega | exact Nat.le_refl _⟩, ⟨blk_any BK157.out⟩, ⟨by repeat (first | (with_reducible first | exact HB.out | apply below_alloc | apply pw_below_drewN | apply below_drew1 | refine below_set ?_ GE157.out) | exact HB.out)⟩⟩
       ·rw [if_neg c17] at H
        have c17b0 : decide (((rd_T49 l1 a2).f2) < 0) = false := decide_eq_false c17
        clear c17
        (first | rw [c17b0] | (simp only [i64_w, i32_w]; rw [c17b0]) | skip)
        by_cases c19 : ((rd_T49 l1 a2).f2) ≥ (l0.length : Int)
        ·rw [if_pos c19] at H
         have c19b0 : decide ((l0.length : Int) ≤ ((rd_T49 l1 a2).f2)) = true := decide_eq_true c19
         clear c19
         have H' := Aside0.mk H
         clear H
         have hcz20_0 : wc.cell? ⟨gb157, 0, none⟩ = some (.int .i64 ((rd_T49 l1 a2).f0)) := (blk_cell BK157.out 0).trans rfl
         have hcz20_1 : wc.cell? ⟨gb157, 1, none⟩ = some (.int .i64 ((rd_T49 l1 a2).f1)) := (blk_cell BK157.out 1).trans rfl
         have hcz20_2 : wc.cell? ⟨gb157, 2, none⟩ = some (.int .i64 ((rd_T49 l1 a2).f2)) := (blk_cell BK157.out 2).trans rfl
         have hfz20_0 := blk_frozen BK157.out 0
         have hfz20_1 := blk_frozen BK157.out 1
         have hfz20_2 := blk_frozen BK157.out 2
         go_wp2
         repeat (go_quiet (fail); try go_wp2)
         go_meet
         case rel => exact ⟨_, (true), (by first | rfl | (simp; done) | (simp [*]; done)), H', ⟨by have := HJ5.out; first | omega | exact Nat.le_refl _⟩, ⟨blk_any BK157.out⟩, ⟨by repeat (first | (with_reducible first | exact HB.out | apply below_alloc | apply pw_below_drewN | apply below_drew1 | refine below_set ?_ GE157.out) | exact HB.out)⟩⟩
        ·rw [if_neg c19] at H
         have c19b0 : decide ((l0.length : Int) ≤ ((rd_T49 l1 a2).f2)) = false := decide_eq_false c19
         clear c19
         by_cases c21 : ((rd_T49 l1 a2).f1) = x8_5
         ·rw [if_pos c21] at H
          have c21b0 : (((rd_T49 l1 a2).f1) == x8_5) = true := beq_iff_eq.mpr c21
          have c21b1 : (((rd_T49 l1 a2).f1) != x8_5) = false := bne_eq_false_iff_eq.mpr c21
          clear c21
          by_cases c22 : 0 ≤ ((rd_T49 l1 a2).f2)
          ·rw [if_pos c22] at H
           have c22b0 : decide (0 ≤ ((rd_T49 l1 a2).f2)) = true := decide_eq_true c22
           clear c22
           by_cases c23 : ((rd_T49 l1 a2).f2) < (l0.length : Int)
           ·rw [if_pos c23] at H
            have c23b0 : decide (((rd_T49 l1 a2).f2) < (l0.length : Int)) = true := decide_eq_true c23
            clear c23
            replace H := Option.bind_eq_some_iff.mp H
            obtain ⟨t160, A240, H⟩ := H
            replace H : (fulcrumref21_supported.j1 kj5 l0 l1 a2 (!t160) ((rd_T49 l1 a2).f0) ((rd_T49 l1 a2).f1) ((rd_T49 l1 a2).f2)) = some r := H
            have A24 := Aside0.mk A240
            clear A240
            have H' := Aside0.mk H
            clear H
            have hcz25_0 : wc.cell? ⟨gb157, 0, none⟩ = some (.int .i64 ((rd_T49 l1 a2).f0)) := (blk_cell BK157.out 0).trans rfl
            have hcz25_1 : wc.cell? ⟨gb157, 1, none⟩ = some (.int .i64 ((rd_T49 l1 a2).f1)) := (blk_cell BK157.out 1).trans rfl
            have hcz25_2 : wc.cell? ⟨gb157, 2, none⟩ = some (.int .i64 ((rd_T49 l1 a2).f2)) := (blk_cell BK157.out 2).trans rfl
            have hfz25_0 := blk_frozen BK157.out 0
            have hfz25_1 := blk_frozen BK157.out 1
            have hfz25_2 := blk_frozen BK157.out 2
            have p159 : 0 ≤ (((rd_T49 l1 a2).f2) : Int) := odt
            have q159 : ((rd_T49 l1 a2).f2) < (l0.length : Int) := odt
            obtain ⟨ad159, A159_0, c159_0, e159, hx159_0, hl159_0, hi159_0⟩ := at_L1 HR0.out ((rd_T49 l1 a2).f2) p159 q159
            cases e159
            replace hx159_0 := (HB.out.cell (World.block_lt_of_cell? w _ hx159_0)).trans hx159_0
            have HR159_0 := Aside0.mk hi159_0
            have HC159_0 := Aside0.mk hl159_0
            clear hi159_0 hl159_0
            replace p159 := eq_true p159
            replace q159 := eq_true q159
            go_wp2_with (first | (go_at_call 56; (with_reducible refine (fulcrumref21_has.calls kj5 _ _ (rd_L1 l0 ((rd_T49 l1 a2).f2)) ((rd_T49 l1 a2).f0) t160 _ ?side1 ?side2 A24.out).mono ?_); (case side1 => repeat (first | exact (Kd.C_below HR159_0.out HB.out) | (with_reducible refine Kd.C_alloc ?_ _) | (with_reducible refine Kd.C_drewN ?_ _) | (with_reducible refine Kd.C_drew ?_))); (case side2 => exact HC159_0.out); rintro e w' ⟨rfl, ⟨nd, rfl⟩⟩; (try first | exact ⟨rfl, _, World.drewN_drewN _ _ _⟩ | exact ⟨rfl, _, Eq.trans (World.drewN_drewN _ _ _) (congrArg (World.drewN _) (Nat.add_assoc _ _ _))⟩)))
            repeat (go_quiet (first | (go_at_call 56; (with_reducible refine (fulcrumref21_has.calls kj5 _ _ (rd_L1 l0 ((rd_T49 l1 a2).f2)) ((rd_T49 l1 a2).f0) t160 _ ?side1 ?side2 A24.out).mono ?_); (case side1 => repeat (first | exact (Kd.C_below HR159_0.out HB.out) | (with_reducible refine Kd.C_alloc ?_ _) | (with_reducible refine Kd.C_drewN ?_ _) | (with_reducible refine Kd.C_drew ?_))); (case side2 => exact HC159_0.out); rintro e w' ⟨rfl, ⟨nd, rfl⟩⟩; (try first | exact ⟨rfl, _, World.drewN_drewN _ _ _⟩ | exact ⟨rfl, _, Eq.trans (World.drewN_drewN _ _ _) (congrArg (World.drewN _) (Nat.add_assoc _ _ _))⟩))); try go_wp2_with (first | (go_at_call 56; (with_reducible refine (fulcrumref21_has.calls kj5 _ _ (rd_L1 l0 ((rd_T49 l1 a2).f2)) ((rd_T49 l1 a2).f0) t160 _ ?side1 ?side2 A24.out).mono ?_); (case side1 => repeat (first | exact (Kd.C_below HR159_0.out HB.out) | (with_reducible refine Kd.C_alloc ?_ _) | (with_reducible refine Kd.C_drewN ?_ _) | (with_reducible refine Kd.C_drew ?_))); (case side2 => exact HC159_0.out); rintro e w' ⟨rfl, ⟨nd, rfl⟩⟩; (try first | exact ⟨rfl, _, World.drewN_drewN _ _ _⟩ | exact ⟨rfl, _, Eq.trans (World.drewN_drewN _ _ _) (congrArg (World.drewN _) (Nat.add_assoc _ _ _))⟩))))
            go_meet
            case rel => exact ⟨_, (!t160), (by first | rfl | (simp; done) | (simp [*]; done)), H', ⟨by have := HJ5.out; first | omega | exact Nat.le_refl _⟩, ⟨blk_any BK157.out⟩, ⟨by repeat (first | (with_reducible first | exact HB.out | apply below_alloc | apply pw_below_drewN | apply below_drew1 | refine below_set ?_ GE157.out) | exact HB.out)⟩⟩
           ·rw [if_neg c23] at H
            exact absurd H (by simp)
          ·rw [if_neg c22] at H
           exact absurd H (by simp)
         ·rw [if_neg c21] at H
          have c21b0 : (((rd_T49 l1 a2).f1) == x8_5) = false := beq_eq_false_iff_ne.mpr c21
          have c21b1 : (((rd_T49 l1 a2).f1) != x8_5) = true := bne_iff_ne.mpr c21
          have H' := Aside0.mk H
          clear H
          have hcz26_0 : wc.cell? ⟨gb157, 0, none⟩ = some (.int .i64 ((rd_T49 l1 a2).f0)) := (blk_cell BK157.out 0).trans rfl
          have hcz26_1 : wc.cell? ⟨gb157, 1, none⟩ = some (.int .i64 ((rd_T49 l1 a2).f1)) := (blk_cell BK157.out 1).trans rfl
          have hcz26_2 : wc.cell? ⟨gb157, 2, none⟩ = some (.int .i64 ((rd_T49 l1 a2).f2)) := (blk_cell BK157.out 2).trans rfl
          have hfz26_0 := blk_frozen BK157.out 0
          have hfz26_1 := blk_frozen BK157.out 1
          have hfz26_2 := blk_frozen BK157.out 2
          go_wp2
          repeat (go_quiet (fail); try go_wp2)
          go_meet
          case rel => exact ⟨_, (true), (by first | rfl | (simp; done) | (simp [*]; done)), H', ⟨by have := HJ5.out; first | omega | exact Nat.le_refl _⟩, ⟨blk_any BK157.out⟩, ⟨by repeat (first | (with_reducible first | exact HB.out | apply below_alloc | apply pw_below_drewN | apply below_drew1 | refine below_set ?_ GE157.out) | exact HB.out)⟩⟩
      case rest =>
       clear HC15
       try clear c1
       try clear p1
       try clear q1
       try clear hx1
       try clear c2
       try clear p2
       try clear c4
       try clear c4b0
       try clear c5
       try clear c5b0
       try clear p6
       try clear c9
       try clear c9b0
       try clear c11
       try clear c11b0
       try clear c12
       try clear c12b0
       try clear c13
       try clear c13b0
       try clear c13b1
       try clear c15
       try clear p15
       try clear q15
       try clear hx15
       try clear c17
       try clear c17b0
       try clear c19
       try clear c19b0
       try clear c21
       try clear c21b0
       try clear c21b1
       try clear c22
       try clear c22b0
       try clear c23
       try clear c23b0
       try clear hcz14_0
       try clear hcz14_1
       try clear hcz14_2
       try clear hcz16_0
       try clear hcz16_1
       try clear hcz16_2
       try clear hcz18_0
       try clear hcz18_1
       try clear hcz18_2
       try clear hcz20_0
       try clear hcz20_1
       try clear hcz20_2
       try clear hcz25_0
       try clear hcz25_1
       try clear hcz25_2
       try clear hcz26_0
       try clear hcz26_1
       try clear hcz26_2
       try clear hcz8_0
       try clear hcz8_1
       try clear hcz8_2
       try clear hfz14_0
       try clear hfz14_1
       try clear hfz14_2
       try clear hfz16_0
       try clear hfz16_1
       try clear hfz16_2
       try clear hfz18_0
       try clear hfz18_1
       try clear hfz18_2
       try clear hfz20_0
       try clear hfz20_1
       try clear hfz20_2
       try clear hfz25_0
       try clear hfz25_1
       try clear hfz25_2
       try clear hfz26_0
       try clear hfz26_1
       try clear hfz26_2
       try clear hfz8_0
       try clear hfz8_1
       try clear hfz8_2
       try clear hx156_0
       try clear hx156_1
       try clear hx156_2
       try clear hx158_0
       try clear hx158_1
       try clear hx158_2
       try clear hx159_0
       try clear p1
       try clear p156
       try clear p158
       try clear p159
       try clear p2
       try clear p6
       try clear q1
       try clear q156
       try clear q158
       try clear q159
       obtain ⟨kq, x57_14, rfl, HA, HJ14, BK157, HB⟩ := hcut
       cases kq with
       | zero => exact absurd HA.out (by simp [fulcrumref21_supported.j1])
       | succ kj14 =>
        have H := HA.out
        clear HA
        simp only [fulcrumref21_supported.j1] at H
        by_cases c27 : x57_14 = true
        ·subst c27
         have H1 : (some false) = some r := by rw [if_pos rfl] at H; exact H
         clear H
         have H := H1
         clear H1
         obtain rfl := Option.some.inj H
         go_wp2
         repeat (go_quiet (fail); try go_wp2)
         go_ret
         exact ⟨by first | rfl | (simp [errW_none, errW_some] <;> rfl) | (simp [*, errW_none, errW_some] <;> rfl), by repeat (first | (with_reducible first | exact HB.out | apply below_alloc | apply pw_below_drewN | apply below_drew1 | refine below_set ?_ GE157.out) | exact HB.out)⟩
        ·replace c27 := Bool.eq_false_iff.mpr c27
         subst c27
         have H1 : (if 0 ≤ ((rd_T49 l1 a2).f2) then (if ((rd_T49 l1 a2).f2) < (l0.length : Int) then (fulcrumref21_supported.l0 kj14 l1 a2 (rd_L1 l0 ((rd_T49 l1 a2).f2)) 0 ((rd_T49 l1 a2).f0) ((rd_T49 l1 a2).f1) ((rd_T49 l1 a2).f2)) else (none)) else (none)) = some r := by rw [if_neg (show ¬ (false = true) by decide)] at H; exact H
         clear H
         have H := H1
         clear H1
         by_cases c28 : 0 ≤ ((rd_T49 l1 a2).f2)
         ·rw [if_pos c28] at H
          have c28b0 : decide (0 ≤ ((rd_T49 l1 a2).f2)) = true := decide_eq_true c28
          clear c28
          by_cases c29 : ((rd_T49 l1 a2).f2) < (l0.length : Int)
          ·rw [if_pos c29] at H
           have c29b0 : decide (((rd_T49 l1 a2).f2) < (l0.length : Int)) = true := decide_eq_true c29
           clear c29
           have H' := Aside0.mk H
           clear H
           have hcz30_0 : wc.cell? ⟨gb157, 0, none⟩ = some (.int .i64 ((rd_T49 l1 a2).f0)) := (blk_cell BK157.out 0).trans rfl
           have hcz30_1 : wc.cell? ⟨gb157, 1, none⟩ = some (.int .i64 ((rd_T49 l1 a2).f1)) := (blk_cell BK157.out 1).trans rfl
           have hcz30_2 : wc.cell? ⟨gb157, 2, none⟩ = some (.int .i64 ((rd_T49 l1 a2).f2)) := (blk_cell BK157.out 2).trans rfl
           have hfz30_0 := blk_frozen BK157.out 0
           have hfz30_1 := blk_frozen BK157.out 1
           have hfz30_2 := blk_frozen BK157.out 2
           have p161 : 0 ≤ (((rd_T49 l1 a2).f2) : Int) := odt
           have q161 : ((rd_T49 l1 a2).f2) < (l0.length : Int) := odt
           obtain ⟨ad161, A161_0, c161_0, e161, hx161_0, hl161_0, hi161_0⟩ := at_L1 HR0.out ((rd_T49 l1 a2).f2) p161 q161
           cases e161
           replace hx161_0 := (HB.out.cell (World.block_lt_of_cell? w _ hx161_0)).trans hx161_0
           have HR161_0 := Aside0.mk hi161_0
           have HC161_0 := Aside0.mk hl161_0
           clear hi161_0 hl161_0
           replace p161 := eq_true p161
           replace q161 := eq_true q161
           go_wp2
           repeat (go_quiet (fail); try go_wp2)
           go_loopg [10] kj14 (fun kq v10 w' => ∃ (x10_3 : Int), v10 = .int .i64 x10_3 ∧ Aside0 (fulcrumref21_supported.l0 kq l1 a2 (rd_L1 l0 ((rd_T49 l1 a2).f2)) x10_3 ((rd_T49 l1 a2).f0) ((rd_T49 l1 a2).f1) ((rd_T49 l1 a2).f2) = some r) ∧ Aside0 (kq ≤ kj14) ∧ Aside0 (w'.heap[gb157]? = some (.cells #[.int .i64 ((rd_T49 l1 a2).f0), .int .i64 ((rd_T49 l1 a2).f1), .int .i64 ((rd_T49 l1 a2).f2)] 49 (0, 0))) ∧ Aside0 (Below w.heap.size w w'))
           case atStart => exact ⟨(0), (by first | rfl | (simp; done) | (simp [*]; done)), H', ⟨Nat.le_refl _⟩, ⟨blk_any BK157.out⟩, ⟨by repeat (first | (with_reducible first | exact HB.out | apply below_alloc | apply pw_below_drewN | apply below_drew1 | refine below_set ?_ GE157.out) | exact HB.out)⟩⟩
           case round =>
            clear H'
            try clear c1
            try clear p1
            try clear q1
            try clear hx1
            try clear c2
            try clear p2
            try clear c4
            try clear c4b0
            try clear c5
            try clear c5b0
            try clear p6
            try clear c9
            try clear c9b0
            try clear c11
            try clear c11b0
            try clear c12
            try clear c12b0
            try clear c13
            try clear c13b0
            try clear c13b1
            try clear c15
            try clear p15
            try clear q15
            try clear hx15
            try clear c16
            try clear p16
            try clear q16
            try clear hx16
            try clear c17
            try clear c17b0
            try clear c19
            try clear c19b0
            try clear c21
            try clear c21b0
            try clear c21b1
            try clear c22
            try clear c22b0
            try clear c23
            try clear c23b0
            try clear c27
            try clear c28
            try clear c28b0
            try clear c29
            try clear c29b0
            try clear hcz14_0
            try clear hcz14_1
            try clear hcz14_2
            try clear hcz16_0
            try clear hcz16_1
            try clear hcz16_2
            try clear hcz18_0
            try clear hcz18_1
            try clear hcz18_2
            try clear hcz20_0
            try clear hcz20_1
            try clear hcz20_2
            try clear hcz25_0
            try clear hcz25_1
            try clear hcz25_2
            try clear hcz26_0
            try clear hcz26_1
            try clear hcz26_2
            try clear hcz30_0
            try clear hcz30_1
            try clear hcz30_2
            try clear hcz8_0
            try clear hcz8_1
            try clear hcz8_2
            try clear hfz14_0
            try clear hfz14_1
            try clear hfz14_2
            try clear hfz16_0
            try clear hfz16_1
            try clear hfz16_2
            try clear hfz18_0
            try clear hfz18_1
            try clear hfz18_2
            try clear hfz20_0
            try clear hfz20_1
            try clear hfz20_2
            try clear hfz25_0
            try clear hfz25_1
            try clear hfz25_2
            try clear hfz26_0
            try clear hfz26_1
            try clear hfz26_2
            try clear hfz30_0
            try clear hfz30_1
            try clear hfz30_2
            try clear hfz8_0
            try clear hfz8_1
            try clear hfz8_2
            try clear hx156_0
            try clear hx156_1
            try clear hx156_2
            try clear hx158_0
            try clear hx158_1
            try clear hx158_2
            try clear hx159_0
            try clear hx161_0
            try clear p1
            try clear p15
            try clear p156
            try clear p158
            try clear p159
            try clear p161
            try clear p2
            try clear p6
            try clear q1
            try clear q15
            try clear q156
            try clear q158
            try clear q159
            try clear q161
            obtain ⟨x10_3, rfl, HA, HK3, BK157, HB⟩ := hrel
            cases gk with
            | zero => exact absurd HA.out (by simp [fulcrumref21_supported.l0])
            | succ k3 =>
             have H := HA.out
             clear HA
             simp only [fulcrumref21_supported.l0] at H
             by_cases c31 : x10_3 < ((rd_L1 l0 ((rd_T49 l1 a2).f2)).length : Int)
             ·rw [if_pos c31] at H
              have c31b0 : decide (x10_3 < ((rd_L1 l0 ((rd_T49 l1 a2).f2)).length : Int)) = true := decide_eq_true c31
              clear c31
              by_cases c32 : 0 ≤ x10_3
              ·rw [if_pos c32] at H
               have c32b0 : decide (0 ≤ x10_3) = true := decide_eq_true c32
               clear c32
               by_cases c33 : (rd (rd_L1 l0 ((rd_T49 l1 a2).f2)) x10_3) = ((rd_T49 l1 a2).f0)
               ·rw [if_pos c33] at H
                have c33b0 : ((rd (rd_L1 l0 ((rd_T49 l1 a2).f2)) x10_3) == ((rd_T49 l1 a2).f0)) = true := beq_iff_eq.mpr c33
                have c33b1 : ((rd (rd_L1 l0 ((rd_T49 l1 a2).f2)) x10_3) != ((rd_T49 l1 a2).f0)) = false := bne_eq_false_iff_eq.mpr c33
                clear c33
                have H' := Aside0.mk H
                clear H
                have p162 : 0 ≤ (x10_3 : Int) := odt
                have q162 : x10_3 < ((rd_L1 l0 ((rd_T49 l1 a2).f2)).length : Int) := odt
                obtain ⟨ad162, e162, hx162_0⟩ := Kd.at_int HR161_0.out x10_3 p162 q162
                cases e162
                replace hx162_0 := (HB.out.cell (World.block_lt_of_cell? w _ hx162_0)).trans hx162_0
                replace p162 := eq_true p162
                replace q162 := eq_true q162
                have hcz34_0 : wr.cell? ⟨gb157, 0, none⟩ = some (.int .i64 ((rd_T49 l1 a2).f0)) := (blk_cell BK157.out 0).trans rfl
                have hcz34_1 : wr.cell? ⟨gb157, 1, none⟩ = some (.int .i64 ((rd_T49 l1 a2).f1)) := (blk_cell BK157.out 1).trans rfl
                have hcz34_2 : wr.cell? ⟨gb157, 2, none⟩ = some (.int .i64 ((rd_T49 l1 a2).f2)) := (blk_cell BK157.out 2).trans rfl
                have hfz34_0 := blk_frozen BK157.out 0
                have hfz34_1 := blk_frozen BK157.out 1
                have hfz34_2 := blk_frozen BK157.out 2
                go_wp2
                repeat (go_quiet (fail); try go_wp2)
                go_roundg k3
                case measure => have := HJ5.out; have := HJ14.out; have := HK3.out; omega
                case rel => exact ⟨(wrap64 (x10_3 + 1)), (by first | rfl | (simp; done) | (simp [*]; done)), H', ⟨by have := HJ5.out; have := HJ14.out; have := HK3.out; omega⟩, ⟨blk_any BK157.out⟩, ⟨by repeat (first | (with_reducible first | exact HB.out | apply below_alloc | apply pw_below_drewN | apply below_drew1 | refine below_set ?_ GE157.out) | exact HB.out)⟩⟩
               ·rw [if_neg c33] at H
                have c33b0 : ((rd (rd_L1 l0 ((rd_T49 l1 a2).f2)) x10_3) == ((rd_T49 l1 a2).f0)) = false := beq_eq_false_iff_ne.mpr c33
                have c33b1 : ((rd (rd_L1 l0 ((rd_T49 l1 a2).f2)) x10_3) != ((rd_T49 l1 a2).f0)) = true := bne_iff_ne.mpr c33
                replace H := Option.bind_eq_some_iff.mp H
                obtain ⟨t164, A350, H⟩ := H
                replace H : (if t164 = true then (if 0 ≤ a2 then (if a2 ≤ (l1.length : Int) then ((fulcrumref21_place.f k3 (l1.take (a2 : Int).toNat) (wrap64 (-(rd (rd_L1 l0 ((rd_T49 l1 a2).f2)) x10_3)))).bind fun t170 => (if t170 < 0 then (some false) else (fulcrumref21_supported.l0 k3 l1 a2 (rd_L1 l0 ((rd_T49 l1 a2).f2)) (wrap64 (x10_3 + 1)) ((rd_T49 l1 a2).f0) ((rd_T49 l1 a2).f1) ((rd_T49 l1 a2).f2)))) else (none)) else (none)) else (some false)) = some r := H
                have A35 := Aside0.mk A350
                clear A350
                by_cases c36 : t164 = true
                ·subst c36
                 have H1 : (if 0 ≤ a2 then (if a2 ≤ (l1.length : Int) then ((fulcrumref21_place.f k3 (l1.take (a2 : Int).toNat) (wrap64 (-(rd (rd_L1 l0 ((rd_T49 l1 a2).f2)) x10_3)))).bind fun t170 => (if t170 < 0 then (some false) else (fulcrumref21_supported.l0 k3 l1 a2 (rd_L1 l0 ((rd_T49 l1 a2).f2)) (wrap64 (x10_3 + 1)) ((rd_T49 l1 a2).f0) ((rd_T49 l1 a2).f1) ((rd_T49 l1 a2).f2)))) else (none)) else (none)) = some r := by rw [if_pos rfl] at H; exact H
                 clear H
                 have H := H1
                 clear H1
                 by_cases c37 : 0 ≤ a2
                 ·rw [if_pos c37] at H
                  have c37b0 := eq_true c37
                  have c37b1 : decide (0 ≤ a2) = true := decide_eq_true c37
                  clear c37
                  by_cases c38 : a2 ≤ (l1.length : Int)
                  ·rw [if_pos c38] at H
                   have c38b0 := eq_true c38
                   have c38b1 : decide (a2 ≤ (l1.length : Int)) = true := decide_eq_true c38
                   clear c38
                   obtain ⟨y165, hy165⟩ : ∃ y_ : List (S49), y_ = (l1.take (a2 : Int).toNat) := ⟨_, rfl⟩
                   replace H : ((fulcrumref21_place.f k3 y165 (wrap64 (-(rd (rd_L1 l0 ((rd_T49 l1 a2).f2)) x10_3)))).bind fun t170 => (if t170 < 0 then (some false) else (fulcrumref21_supported.l0 k3 l1 a2 (rd_L1 l0 ((rd_T49 l1 a2).f2)) (wrap64 (x10_3 + 1)) ((rd_T49 l1 a2).f0) ((rd_T49 l1 a2).f1) ((rd_T49 l1 a2).f2)))) = some r := by first | (rw [hy165]; with_reducible exact H) | (have H2_ := (Option.bind_some _ _).symm.trans H; rw [hy165]; with_reducible exact H2_) | (have H2_ := (Option.bind_some _ _).symm.trans H; with_reducible exact H2_) | with_reducible exact H | (rw [hy165]; exact H) | exact H
                   have Ny165 := Aside0.mk hy165
                   clear hy165
                   replace H := Option.bind_eq_some_iff.mp H
                   obtain ⟨t170, A390, H⟩ := H
                   replace H : (if t170 < 0 then (some false) else (fulcrumref21_supported.l0 k3 l1 a2 (rd_L1 l0 ((rd_T49 l1 a2).f2)) (wrap64 (x10_3 + 1)) ((rd_T49 l1 a2).f0) ((rd_T49 l1 a2).f1) ((rd_T49 l1 a2).f2))) = some r := H
                   have A39 := Aside0.mk A390
                   clear A390
                   by_cases c40 : t170 < 0
                   ·rw [if_pos c40] at H
                    have c40b0 : decide (t170 < 0) = true := decide_eq_true c40
                    clear c40
                    obtain rfl := Option.some.inj H
                    have p162 : 0 ≤ (x10_3 : Int) := odt
                    have q162 : x10_3 < ((rd_L1 l0 ((rd_T49 l1 a2).f2)).length : Int) := odt
                    obtain ⟨ad162, e162, hx162_0⟩ := Kd.at_int HR161_0.out x10_3 p162 q162
                    cases e162
                    replace hx162_0 := (HB.out.cell (World.block_lt_of_cell? w _ hx162_0)).trans hx162_0
                    replace p162 := eq_true p162
                    replace q162 := eq_true q162
                    have hcz41_0 : wr.cell? ⟨gb157, 0, none⟩ = some (.int .i64 ((rd_T49 l1 a2).f0)) := (blk_cell BK157.out 0).trans rfl
                    have hcz41_1 : wr.cell? ⟨gb157, 1, none⟩ = some (.int .i64 ((rd_T49 l1 a2).f1)) := (blk_cell BK157.out 1).trans rfl
                    have hcz41_2 : wr.cell? ⟨gb157, 2, none⟩ = some (.int .i64 ((rd_T49 l1 a2).f2)) := (blk_cell BK157.out 2).trans rfl
                    have hfz41_0 := blk_frozen BK157.out 0
                    have hfz41_1 := blk_frozen BK157.out 1
                    have hfz41_2 := blk_frozen BK157.out 2
                    have p163 : 0 ≤ (x10_3 : Int) := odt
                    have q163 : x10_3 < ((rd_L1 l0 ((rd_T49 l1 a2).f2)).length : Int) := odt
                    obtain ⟨ad163, e163, hx163_0⟩ := Kd.at_int HR161_0.out x10_3 p163 q163
                    obtain rfl : ad162 = ad163 := (by injection e163)
                    replace hx163_0 := (HB.out.cell (World.block_lt_of_cell? w _ hx163_0)).trans hx163_0
                    replace p163 := eq_true p163
                    replace q163 := eq_true q163
                    have q42 : (a2 : Int) ≤ ((l1.length : Int) : Int) := odt; obtain ⟨i042, hi042, _, hsz42, _⟩ := info_parts info49; have hroom42 : l1.length ≤ c1 := HC1.out; have hC42 : Kd.C k49 _ (some ad156) l1.length l1 := HR1.out; have hcut42 := cut_to (P := Try.prog) 24 49 .i64 Try.underlying24 hi042 (some ad156) l1.length c1 a2 (odt) q42 hroom42; have hr42 := Kd.C_take (m := (a2 : Int).toNat) hC42 (by omega); have hy42 : y165.length = (a2 : Int).toNat := (by rw [Ny165.out, List.length_take]; omega); rw [← Ny165.out] at hr42; rw [← hy42] at hcut42; have HR168 := Aside0.mk hr42; have HC168 := Aside0.mk (show y165.length ≤ c1 from by omega); clear hr42 hC42 hroom42 hi042 hsz42; have KY42 := Aside0.mk hy42; clear hy42; replace q42 := eq_true q42; have p169 : 0 ≤ (x10_3 : Int) := odt; have q169 : x10_3 < ((rd_L1 l0 ((rd_T49 l1 a2).f2)).length : Int) := odt; obtain ⟨ad169, e169, hx169_0⟩ := Kd.at_int HR161_0.out x10_3 p169 q169; obtain rfl : ad162 = ad169 := (by injection e169); replace hx169_0 := (HB.out.cell (World.block_lt_of_cell? w _ hx169_0)).trans hx169_0; replace p169 := eq_true p169; replace q169 := eq_true q169
                    go_wp2_with (first | (go_at_call 49; (with_reducible refine (fulcrumref21_literal.calls (rd (rd_L1 l0 ((rd_T49 l1 a2).f2)) x10_3) true _ A35.out).mono ?_); rintro e w' ⟨rfl, ⟨nd, rfl⟩⟩; (try first | exact ⟨rfl, _, World.drewN_drewN _ _ _⟩ | exact ⟨rfl, _, Eq.trans (World.drewN_drewN _ _ _) (congrArg (World.drewN _) (Nat.add_assoc _ _ _))⟩)) | (go_at_call 50; (with_reducible refine (fulcrumref21_place.calls k3 _ _ y165 (wrap64 (-(rd (rd_L1 l0 ((rd_T49 l1 a2).f2)) x10_3))) t170 _ ?side1 ?side2 A39.out).mono ?_); (case side1 => repeat (first | exact (Kd.C_below HR168.out (by repeat (first | (with_reducible first | exact HB.out | apply below_alloc | apply pw_below_drewN | apply below_drew1 | refine below_set ?_ GE157.out) | exact HB.out))) | (with_reducible refine Kd.C_alloc ?_ _) | (with_reducible refine Kd.C_drewN ?_ _) | (with_reducible refine Kd.C_drew ?_))); (case side2 => exact HC168.out); rintro e w' ⟨rfl, ⟨nd, rfl⟩⟩; (try first | exact ⟨rfl, _, World.drewN_drewN _ _ _⟩ | exact ⟨rfl, _, Eq.trans (World.drewN_drewN _ _ _) (congrArg (World.drewN _) (Nat.add_assoc _ _ _))⟩)))
                    repeat (go_quiet (first | (go_at_call 49; (with_reducible refine (fulcrumref21_literal.calls (rd (rd_L1 l0 ((rd_T49 l1 a2).f2)) x10_3) true _ A35.out).mono ?_); rintro e w' ⟨rfl, ⟨nd, rfl⟩⟩; (try first | exact ⟨rfl, _, World.drewN_drewN _ _ _⟩ | exact ⟨rfl, _, Eq.trans (World.drewN_drewN _ _ _) (congrArg (World.drewN _) (Nat.add_assoc _ _ _))⟩)) | (go_at_call 50; (with_reducible refine (fulcrumref21_place.calls k3 _ _ y165 (wrap64 (-(rd (rd_L1 l0 ((rd_T49 l1 a2).f2)) x10_3))) t170 _ ?side1 ?side2 A39.out).mono ?_); (case side1 => repeat (first | exact (Kd.C_below HR168.out (by repeat (first | (with_reducible first | exact HB.out | apply below_alloc | apply pw_below_drewN | apply below_drew1 | refine below_set ?_ GE157.out) | exact HB.out))) | (with_reducible refine Kd.C_alloc ?_ _) | (with_reducible refine Kd.C_drewN ?_ _) | (with_reducible refine Kd.C_drew ?_))); (case side2 => exact HC168.out); rintro e w' ⟨rfl, ⟨nd, rfl⟩⟩; (try first | exact ⟨rfl, _, World.drewN_drewN _ _ _⟩ | exact ⟨rfl, _, Eq.trans (World.drewN_drewN _ _ _) (congrArg (World.drewN _) (Nat.add_assoc _ _ _))⟩))); try go_wp2_with (first | (go_at_call 49; (with_reducible refine (fulcrumref21_literal.calls (rd (rd_L1 l0 ((rd_T49 l1 a2).f2)) x10_3) true _ A35.out).mono ?_); rintro e w' ⟨rfl, ⟨nd, rfl⟩⟩; (try first | exact ⟨rfl, _, World.drewN_drewN _ _ _⟩ | exact ⟨rfl, _, Eq.trans (World.drewN_drewN _ _ _) (congrArg (World.drewN _) (Nat.add_assoc _ _ _))⟩)) | (go_at_call 50; (with_reducible refine (fulcrumref21_place.calls k3 _ _ y165 (wrap64 (-(rd (rd_L1 l0 ((rd_T49 l1 a2).f2)) x10_3))) t170 _ ?side1 ?side2 A39.out).mono ?_); (case side1 => repeat (first | exact (Kd.C_below HR168.out (by repeat (first | (with_reducible first | exact HB.out | apply below_alloc | apply pw_below_drewN | apply below_drew1 | refine below_set ?_ GE157.out) | exact HB.out))) | (with_reducible refine Kd.C_alloc ?_ _) | (with_reducible refine Kd.C_drewN ?_ _) | (with_reducible refine Kd.C_drew ?_))); (case side2 => exact HC168.out); rintro e w' ⟨rfl, ⟨nd, rfl⟩⟩; (try first | exact ⟨rfl, _, World.drewN_drewN _ _ _⟩ | exact ⟨rfl, _, Eq.trans (World.drewN_drewN _ _ _) (congrArg (World.drewN _) (Nat.add_assoc _ _ _))⟩))))
                    go_ret
                    exact ⟨by first | rfl | (simp [errW_none, errW_some] <;> rfl) | (simp [*, errW_none, errW_some] <;> rfl), by repeat (first | (with_reducible first | exact HB.out | apply below_alloc | apply pw_below_drewN | apply below_drew1 | refine below_set ?_ GE157.out) | exact HB.out)⟩
                   ·rw [if_neg c40] at H
                    have c40b0 : decide (t170 < 0) = false := decide_eq_false c40
                    clear c40
                    have H' := Aside0.mk H
                    clear H
                    have p162 : 0 ≤ (x10_3 : Int) := odt
                    have q162 : x10_3 < ((rd_L1 l0 ((rd_T49 l1 a2).f2)).length : Int) := odt
                    obtain ⟨ad162, e162, hx162_0⟩ := Kd.at_int HR161_0.out x10_3 p162 q162
                    cases e162
                    replace hx162_0 := (HB.out.cell (World.block_lt_of_cell? w _ hx162_0)).trans hx162_0
                    replace p162 := eq_true p162
                    replace q162 := eq_true q162
                    have hcz43_0 : wr.cell? ⟨gb157, 0, none⟩ = some (.int .i64 ((rd_T49 l1 a2).f0)) := (blk_cell BK157.out 0).trans rfl
                    have hcz43_1 : wr.cell? ⟨gb157, 1, none⟩ = some (.int .i64 ((rd_T49 l1 a2).f1)) := (blk_cell BK157.out 1).trans rfl
                    have hcz43_2 : wr.cell? ⟨gb157, 2, none⟩ = some (.int .i64 ((rd_T49 l1 a2).f2)) := (blk_cell BK157.out 2).trans rfl
                    have hfz43_0 := blk_frozen BK157.out 0
                    have hfz43_1 := blk_frozen BK157.out 1
                    have hfz43_2 := blk_frozen BK157.out 2
                    have p163 : 0 ≤ (x10_3 : Int) := odt
                    have q163 : x10_3 < ((rd_L1 l0 ((rd_T49 l1 a2).f2)).length : Int) := odt
                    obtain ⟨ad163, e163, hx163_0⟩ := Kd.at_int HR161_0.out x10_3 p163 q163
                    obtain rfl : ad162 = ad163 := (by injection e163)
                    replace hx163_0 := (HB.out.cell (World.block_lt_of_cell? w _ hx163_0)).trans hx163_0
                    replace p163 := eq_true p163
                    replace q163 := eq_true q163
                    have q44 : (a2 : Int) ≤ ((l1.length : Int) : Int) := odt; obtain ⟨i044, hi044, _, hsz44, _⟩ := info_parts info49; have hroom44 : l1.length ≤ c1 := HC1.out; have hC44 : Kd.C k49 _ (some ad156) l1.length l1 := HR1.out; have hcut44 := cut_to (P := Try.prog) 24 49 .i64 Try.underlying24 hi044 (some ad156) l1.length c1 a2 (odt) q44 hroom44; have hr44 := Kd.C_take (m := (a2 : Int).toNat) hC44 (by omega); have hy44 : y165.length = (a2 : Int).toNat := (by rw [Ny165.out, List.length_take]; omega); rw [← Ny165.out] at hr44; rw [← hy44] at hcut44; have HR168 := Aside0.mk hr44; have HC168 := Aside0.mk (show y165.length ≤ c1 from by omega); clear hr44 hC44 hroom44 hi044 hsz44; have KY44 := Aside0.mk hy44; clear hy44; replace q44 := eq_true q44; have p169 : 0 ≤ (x10_3 : Int) := odt; have q169 : x10_3 < ((rd_L1 l0 ((rd_T49 l1 a2).f2)).length : Int) := odt; obtain ⟨ad169, e169, hx169_0⟩ := Kd.at_int HR161_0.out x10_3 p169 q169; obtain rfl : ad162 = ad169 := (by injection e169); replace hx169_0 := (HB.out.cell (World.block_lt_of_cell? w _ hx169_0)).trans hx169_0; replace p169 := eq_true p169; replace q169 := eq_true q169
                    go_wp2_with (first | (go_at_call 49; (with_reducible refine (fulcrumref21_literal.calls (rd (rd_L1 l0 ((rd_T49 l1 a2).f2)) x10_3) true _ A35.out).mono ?_); rintro e w' ⟨rfl, ⟨nd, rfl⟩⟩; (try first | exact ⟨rfl, _, World.drewN_drewN _ _ _⟩ | exact ⟨rfl, _, Eq.trans (World.drewN_drewN _ _ _) (congrArg (World.drewN _) (Nat.add_assoc _ _ _))⟩)) | (go_at_call 50; (with_reducible refine (fulcrumref21_place.calls k3 _ _ y165 (wrap64 (-(rd (rd_L1 l0 ((rd_T49 l1 a2).f2)) x10_3))) t170 _ ?side1 ?side2 A39.out).mono ?_); (case side1 => repeat (first | exact (Kd.C_below HR168.out (by repeat (first | (with_reducible first | exact HB.out | apply below_alloc | apply pw_below_drewN | apply below_drew1 | refine below_set ?_ GE157.out) | exact HB.out))) | (with_reducible refine Kd.C_alloc ?_ _) | (with_reducible refine Kd.C_drewN ?_ _) | (with_reducible refine Kd.C_drew ?_))); (case side2 => exact HC168.out); rintro e w' ⟨rfl, ⟨nd, rfl⟩⟩; (try first | exact ⟨rfl, _, World.drewN_drewN _ _ _⟩ | exact ⟨rfl, _, Eq.trans (World.drewN_drewN _ _ _) (congrArg (World.drewN _) (Nat.add_assoc _ _ _))⟩)))
                    repeat (go_quiet (first | (go_at_call 49; (with_reducible refine (fulcrumref21_literal.calls (rd (rd_L1 l0 ((rd_T49 l1 a2).f2)) x10_3) true _ A35.out).mono ?_); rintro e w' ⟨rfl, ⟨nd, rfl⟩⟩; (try first | exact ⟨rfl, _, World.drewN_drewN _ _ _⟩ | exact ⟨rfl, _, Eq.trans (World.drewN_drewN _ _ _) (congrArg (World.drewN _) (Nat.add_assoc _ _ _))⟩)) | (go_at_call 50; (with_reducible refine (fulcrumref21_place.calls k3 _ _ y165 (wrap64 (-(rd (rd_L1 l0 ((rd_T49 l1 a2).f2)) x10_3))) t170 _ ?side1 ?side2 A39.out).mono ?_); (case side1 => repeat (first | exact (Kd.C_below HR168.out (by repeat (first | (with_reducible first | exact HB.out | apply below_alloc | apply pw_below_drewN | apply below_drew1 | refine below_set ?_ GE157.out) | exact HB.out))) | (with_reducible refine Kd.C_alloc ?_ _) | (with_reducible refine Kd.C_drewN ?_ _) | (with_reducible refine Kd.C_drew ?_))); (case side2 => exact HC168.out); rintro e w' ⟨rfl, ⟨nd, rfl⟩⟩; (try first | exact ⟨rfl, _, World.drewN_drewN _ _ _⟩ | exact ⟨rfl, _, Eq.trans (World.drewN_drewN _ _ _) (congrArg (World.drewN _) (Nat.add_assoc _ _ _))⟩))); try go_wp2_with (first | (go_at_call 49; (with_reducible refine (fulcrumref21_literal.calls (rd (rd_L1 l0 ((rd_T49 l1 a2).f2)) x10_3) true _ A35.out).mono ?_); rintro e w' ⟨rfl, ⟨nd, rfl⟩⟩; (try first | exact ⟨rfl, _, World.drewN_drewN _ _ _⟩ | exact ⟨rfl, _, Eq.trans (World.drewN_drewN _ _ _) (congrArg (World.drewN _) (Nat.add_assoc _ _ _))⟩)) | (go_at_call 50; (with_reducible refine (fulcrumref21_place.calls k3 _ _ y165 (wrap64 (-(rd (rd_L1 l0 ((rd_T49 l1 a2).f2)) x10_3))) t170 _ ?side1 ?side2 A39.out).mono ?_); (case side1 => repeat (first | exact (Kd.C_below HR168.out (by repeat (first | (with_reducible first | exact HB.out | apply below_alloc | apply pw_below_drewN | apply below_drew1 | refine below_set ?_ GE157.out) | exact HB.out))) | (with_reducible refine Kd.C_alloc ?_ _) | (with_reducible refine Kd.C_drewN ?_ _) | (with_reducible refine Kd.C_drew ?_))); (case side2 => exact HC168.out); rintro e w' ⟨rfl, ⟨nd, rfl⟩⟩; (try first | exact ⟨rfl, _, World.drewN_drewN _ _ _⟩ | exact ⟨rfl, _, Eq.trans (World.drewN_drewN _ _ _) (congrArg (World.drewN _) (Nat.add_assoc _ _ _))⟩))))
                    go_roundg k3
                    case measure => have := HJ5.out; have := HJ14.out; have := HK3.out; omega
                    case rel => exact ⟨(wrap64 (x10_3 + 1)), (by first | rfl | (simp; done) | (simp [*]; done)), H', ⟨by have := HJ5.out; have := HJ14.out; have := HK3.out; omega⟩, ⟨blk_any BK157.out⟩, ⟨by repeat (first | (with_reducible first | exact HB.out | apply below_alloc | apply pw_below_drewN | apply below_drew1 | refine below_set ?_ GE157.out) | exact HB.out)⟩⟩
                  ·rw [if_neg c38] at H
                   exact absurd H (by simp)
                 ·rw [if_neg c37] at H
                  exact absurd H (by simp)
                ·replace c36 := Bool.eq_false_iff.mpr c36
                 subst c36
                 have H1 : (some false) = some r := by rw [if_neg (show ¬ (false = true) by decide)] at H; exact H
                 clear H
                 have H := H1
                 clear H1
                 obtain rfl := Option.some.inj H
                 have p162 : 0 ≤ (x10_3 : Int) := odt
                 have q162 : x10_3 < ((rd_L1 l0 ((rd_T49 l1 a2).f2)).length : Int) := odt
                 obtain ⟨ad162, e162, hx162_0⟩ := Kd.at_int HR161_0.out x10_3 p162 q162
                 cases e162
                 replace hx162_0 := (HB.out.cell (World.block_lt_of_cell? w _ hx162_0)).trans hx162_0
                 replace p162 := eq_true p162
                 replace q162 := eq_true q162
                 have hcz45_0 : wr.cell? ⟨gb157, 0, none⟩ = some (.int .i64 ((rd_T49 l1 a2).f0)) := (blk_cell BK157.out 0).trans rfl
                 have hcz45_1 : wr.cell? ⟨gb157, 1, none⟩ = some (.int .i64 ((rd_T49 l1 a2).f1)) := (blk_cell BK157.out 1).trans rfl
                 have hcz45_2 : wr.cell? ⟨gb157, 2, none⟩ = some (.int .i64 ((rd_T49 l1 a2).f2)) := (blk_cell BK157.out 2).trans rfl
                 have hfz45_0 := blk_frozen BK157.out 0
                 have hfz45_1 := blk_frozen BK157.out 1
                 have hfz45_2 := blk_frozen BK157.out 2
                 have p163 : 0 ≤ (x10_3 : Int) := odt
                 have q163 : x10_3 < ((rd_L1 l0 ((rd_T49 l1 a2).f2)).length : Int) := odt
                 obtain ⟨ad163, e163, hx163_0⟩ := Kd.at_int HR161_0.out x10_3 p163 q163
                 obtain rfl : ad162 = ad163 := (by injection e163)
                 replace hx163_0 := (HB.out.cell (World.block_lt_of_cell? w _ hx163_0)).trans hx163_0
                 replace p163 := eq_true p163
                 replace q163 := eq_true q163
                 go_wp2_with (first | (go_at_call 49; (with_reducible refine (fulcrumref21_literal.calls (rd (rd_L1 l0 ((rd_T49 l1 a2).f2)) x10_3) false _ A35.out).mono ?_); rintro e w' ⟨rfl, ⟨nd, rfl⟩⟩; (try first | exact ⟨rfl, _, World.drewN_drewN _ _ _⟩ | exact ⟨rfl, _, Eq.trans (World.drewN_drewN _ _ _) (congrArg (World.drewN _) (Nat.add_assoc _ _ _))⟩)))
                 repeat (go_quiet (first | (go_at_call 49; (with_reducible refine (fulcrumref21_literal.calls (rd (rd_L1 l0 ((rd_T49 l1 a2).f2)) x10_3) false _ A35.out).mono ?_); rintro e w' ⟨rfl, ⟨nd, rfl⟩⟩; (try first | exact ⟨rfl, _, World.drewN_drewN _ _ _⟩ | exact ⟨rfl, _, Eq.trans (World.drewN_drewN _ _ _) (congrArg (World.drewN _) (Nat.add_assoc _ _ _))⟩))); try go_wp2_with (first | (go_at_call 49; (with_reducible refine (fulcrumref21_literal.calls (rd (rd_L1 l0 ((rd_T49 l1 a2).f2)) x10_3) false _ A35.out).mono ?_); rintro e w' ⟨rfl, ⟨nd, rfl⟩⟩; (try first | exact ⟨rfl, _, World.drewN_drewN _ _ _⟩ | exact ⟨rfl, _, Eq.trans (World.drewN_drewN _ _ _) (congrArg (World.drewN _) (Nat.add_assoc _ _ _))⟩))))
                 go_ret
                 exact ⟨by first | rfl | (simp [errW_none, errW_some] <;> rfl) | (simp [*, errW_none, errW_some] <;> rfl), by repeat (first | (with_reducible first | exact HB.out | apply below_alloc | apply pw_below_drewN | apply below_drew1 | refine below_set ?_ GE157.out) | exact HB.out)⟩
              ·rw [if_neg c32] at H
               exact absurd H (by simp)
             ·rw [if_neg c31] at H
              have c31b0 : decide (x10_3 < ((rd_L1 l0 ((rd_T49 l1 a2).f2)).length : Int)) = false := decide_eq_false c31
              clear c31
              obtain rfl := Option.some.inj H
              go_wp2
              repeat (go_quiet (fail); try go_wp2)
              go_ret
              exact ⟨by first | rfl | (simp [errW_none, errW_some] <;> rfl) | (simp [*, errW_none, errW_some] <;> rfl), by repeat (first | (with_reducible first | exact HB.out | apply below_alloc | apply pw_below_drewN | apply below_drew1 | refine below_set ?_ GE157.out) | exact HB.out)⟩
          ·rw [if_neg c29] at H
           exact absurd H (by simp)
         ·rw [if_neg c28] at H
          exact absurd H (by simp)
  ·rw [if_neg c5] at H
   exact absurd H (by simp)
 ·rw [if_neg c4] at H
  exact absurd H (by simp)
end Go.Proofs.Ytboalbiicmcljaa.PAN
