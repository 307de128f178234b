import Derived.Test.YtboalbiicmcljaaZTPANx0
import Derived.Test.YtboalbiicmcljaaZTPANx10
import Derived.Test.YtboalbiicmcljaaZTPANx12
import Derived.Test.YtboalbiicmcljaaZTPANx37
namespace Go.Proofs.Ytboalbiicmcljaa.PAN
open Go.Proofs.YtboalbiicmcljaaH
open Go.RowKit Go.Proofs.YtboalbiicmcljaaW.PrintWords Go.Proofs.YtboalbiicmcljaaW.PrintLast Go.Proofs.YtboalbiicmcljaaW.PrintMore
attribute [local go_sem] max2_int min2_int max_two min_two max_three min_three max_four min_four   -- for this text's walks alone
set_option linter.unusedVariables false
set_option linter.unusedSimpArgs false
mutual
def fulcrumref21_Replay.l0 : Nat → List (List Int) → List Int → Int → Option (List Int × Int)
 | 0, _, _, _ => none
 | k + 1, x0, x1, x7 => if x7 < (x1.length : Int) then (if 0 ≤ x7 then (if (rd x1 x7) < 0 then (fulcrumref21_Replay.j1 k x0 x1 x7 true) else (fulcrumref21_Replay.j1 k x0 x1 x7 (decide ((rd x1 x7) ≥ (x0.length : Int))))) else (none)) else (if (x1.length : Int) = 0 then (some (([] : List Int), 210)) else (if 0 < (x1.length : Int) then (if 0 ≤ (rd x1 0) then (if (rd x1 0) < (x0.length : Int) then ((fulcrumref21_set.f k (rd_L1 x0 (rd x1 0))).bind fun t691 => (fulcrumref21_Replay.l2 k x0 x1 t691 1)) else (none)) else (none)) else (none)))
def fulcrumref21_Replay.j1 : Nat → List (List Int) → List Int → Int → Bool → Option (List Int × Int)
 | 0, _, _, _, _ => none
 | k + 1, x0, x1, x7, x36 => if x36 = true then (some (([] : List Int), 210)) else (if 0 ≤ x7 then (if x7 < (x1.length : Int) then (if 0 ≤ (rd x1 x7) then (if (rd x1 x7) < (x0.length : Int) then (fulcrumref21_Replay.l1 k x0 x1 x7 (rd_L1 x0 (rd x1 x7)) 0) else (none)) else (none)) else (none)) else (none))
def fulcrumref21_Replay.l1 : Nat → List (List Int) → List Int → Int → List Int → Int → Option (List Int × Int)
 | 0, _, _, _, _, _ => none
 | k + 1, x0, x1, x7, x8, x9 => if x9 < (x8.length : Int) then (if 0 ≤ x9 then ((fulcrumref21_literal.f (rd x8 x9)).bind fun t688 => (if t688 = true then (fulcrumref21_Replay.l1 k x0 x1 x7 x8 (wrap64 (x9 + 1))) else (some (([] : List Int), 210)))) else (none)) else (fulcrumref21_Replay.l0 k x0 x1 (wrap64 (x7 + 1)))
def fulcrumref21_Replay.l2 : Nat → List (List Int) → List Int → List Int → Int → Option (List Int × Int)
 | 0, _, _, _, _ => none
 | k + 1, x0, x1, x6, x10 => if x10 < (x1.length : Int) then (if 0 ≤ x10 then (if 0 ≤ (rd x1 x10) then (if (rd x1 x10) < (x0.length : Int) then (fulcrumref21_Replay.l3 k x0 x1 x6 x10 (rd_L1 x0 (rd x1 x10)) 0 0 0) else (none)) else (none)) else (none)) else ((fulcrumref21_Sorted.f k x6).bind fun t694 => (some (t694, 0)))
def fulcrumref21_Replay.l3 : Nat → List (List Int) → List Int → List Int → Int → List Int → Int → Int → Int → Option (List Int × Int)
 | 0, _, _, _, _, _, _, _, _ => none
 | k + 1, x0, x1, x6, x10, x11, x12, x13, x14 => if x14 < (x6.length : Int) then (if 0 ≤ x14 then ((fulcrumref21_has.f k x11 (wrap64 (-(rd x6 x14)))).bind fun t700 => (if t700 = true then (fulcrumref21_Replay.l3 k x0 x1 x6 x10 x11 (rd x6 x14) (wrap64 (x13 + 1)) (wrap64 (x14 + 1))) else (fulcrumref21_Replay.l3 k x0 x1 x6 x10 x11 x12 x13 (wrap64 (x14 + 1))))) else (none)) else (if x13 = 1 then ((fulcrumref21_without.f k x6 x12).bind fun t702 => (fulcrumref21_Replay.l4 k x0 x1 t702 x10 x11 x12 0)) else (some (([] : List Int), 210)))
def fulcrumref21_Replay.l4 : Nat → List (List Int) → List Int → List Int → Int → List Int → Int → Int → Option (List Int × Int)
 | 0, _, _, _, _, _, _, _ => none
 | k + 1, x0, x1, x6, x10, x11, x12, x15 => if x15 < (x11.length : Int) then (if 0 ≤ x15 then (if (rd x11 x15) = (wrap64 (-x12)) then (fulcrumref21_Replay.l4 k x0 x1 x6 x10 x11 x12 (wrap64 (x15 + 1))) else (if x6.length < 17592186044416 then (fulcrumref21_Replay.l4 k x0 x1 (x6 ++ [rd x11 x15]) x10 x11 x12 (wrap64 (x15 + 1))) else (none))) else (none)) else ((fulcrumref21_set.f k x6).bind fun t710 => (fulcrumref21_Replay.l2 k x0 x1 t710 (wrap64 (x10 + 1))))
end
def fulcrumref21_Replay.f (k : Nat) (l0 : List (List Int)) (l1 : List Int) : Option (List Int × Int) := fulcrumref21_Replay.l0 k l0 l1 0
theorem fulcrumref21_Replay.mono_l : ∀ k, (∀ y0 y1 y2, LeO (fulcrumref21_Replay.l0 k y0 y1 y2) (fulcrumref21_Replay.l0 (k + 1) y0 y1 y2)) ∧ (∀ y0 y1 y2 y3, LeO (fulcrumref21_Replay.j1 k y0 y1 y2 y3) (fulcrumref21_Replay.j1 (k + 1) y0 y1 y2 y3)) ∧ (∀ y0 y1 y2 y3 y4, LeO (fulcrumref21_Replay.l1 k y0 y1 y2 y3 y4) (fulcrumref21_Replay.l1 (k + 1) y0 y1 y2 y3 y4)) ∧ (∀ y0 y1 y2 y3, LeO (fulcrumref21_Replay.l2 k y0 y1 y2 y3) (fulcrumref21_Replay.l2 (k + 1) y0 y1 y2 y3)) ∧ (∀ y0 y1 y2 y3 y4 y5 y6 y7, LeO (fulcrumref21_Replay.l3 k y0 y1 y2 y3 y4 y5 y6 y7) (fulcrumref21_Replay.l3 (k + 1) y0 y1 y2 y3 y4 y5 y6 y7)) ∧ (∀ y0 y1 y2 y3 y4 y5 y6, LeO (fulcrumref21_Replay.l4 k y0 y1 y2 y3 y4 y5 y6) (fulcrumref21_Replay.l4 (k + 1) y0 y1 y2 y3 y4 y5 y6))
 | 0 => ⟨fun _ _ _ r h => by simp [fulcrumref21_Replay.l0] at h, fun _ _ _ _ r h => by simp [fulcrumref21_Replay.j1] at h, fun _ _ _ _ _ r h => by simp [fulcrumref21_Replay.l1] at h, fun _ _ _ _ r h => by simp [fulcrumref21_Replay.l2] at h, fun _ _ _ _ _ _ _ _ r h => by simp [fulcrumref21_Replay.l3] at h, fun _ _ _ _ _ _ _ r h => by simp [fulcrumref21_Replay.l4] at h⟩
 | k + 1 => by
  obtain ⟨ih0, ih1, ih2, ih3, ih4, ih5⟩ := fulcrumref21_Replay.mono_l k
  refine ⟨?_, ?_, ?_, ?_, ?_, ?_⟩
  ·intro y0 y1 y2
   unfold fulcrumref21_Replay.l0
   repeat' first
   | (with_reducible exact ih0 _ _ _)
   | (with_reducible exact ih1 _ _ _ _)
   | (with_reducible exact ih2 _ _ _ _ _)
   | (with_reducible exact ih3 _ _ _ _)
   | (with_reducible exact ih4 _ _ _ _ _ _ _ _)
   | (with_reducible exact ih5 _ _ _ _ _ _ _)
   | (with_reducible exact fulcrumref21_Sorted.mono _ _)
   | (with_reducible exact fulcrumref21_has.mono _ _ _)
   | (with_reducible exact fulcrumref21_set.mono _ _)
   | (with_reducible exact fulcrumref21_without.mono _ _ _)
   | (with_reducible exact LeO.refl _)
   | (with_reducible exact LeO.none _)
   | (with_reducible refine LeO.ite ?_ ?_)
   | (with_reducible refine LeO.bind ?_ (fun _ => ?_))
   | exact ih0 _ _ _
   | exact ih1 _ _ _ _
   | exact ih2 _ _ _ _ _
   | exact ih3 _ _ _ _
   | exact ih4 _ _ _ _ _ _ _ _
   | exact ih5 _ _ _ _ _ _ _
   | exact fulcrumref21_Sorted.mono _ _
   | exact fulcrumref21_has.mono _ _ _
   | exact fulcrumref21_set.mono _ _
   | exact fulcrumref21_without.mono _ _ _
   | exact LeO.none _
   | refine LeO.ite ?_ ?_
   | refine LeO.bind ?_ (fun _ => ?_)
  ·intro y0 y1 y2 y3
   unfold fulcrumref21_Replay.j1
   repeat' first
   | (with_reducible exact ih0 _ _ _)
   | (with_reducible exact ih1 _ _ _ _)
   | (with_reducible exact ih2 _ _ _ _ _)
   | (with_reducible exact ih3 _ _ _ _)
   | (with_reducible exact ih4 _ _ _ _ _ _ _ _)
   | (with_reducible exact ih5 _ _ _ _ _ _ _)
   | (with_reducible exact fulcrumref21_Sorted.mono _ _)
   | (with_reducible exact fulcrumref21_has.mono _ _ _)
   | (with_reducible exact fulcrumref21_set.mono _ _)
   | (with_reducible exact fulcrumref21_without.mono _ _ _)
   | (with_reducible exact LeO.refl _)
   | (with_reducible exact LeO.none _)
   | (with_reducible refine LeO.ite ?_ ?_)
   | (with_reducible refine LeO.bind ?_ (fun _ => ?_))
   | exact ih0 _ _ _
   | exact ih1 _ _ _ _
   | exact ih2 _ _ _ _ _
   | exact ih3 _ _ _ _
   | exact ih4 _ _ _ _ _ _ _ _
   | exact ih5 _ _ _ _ _ _ _
   | exact fulcrumref21_Sorted.mono _ _
   | exact fulcrumref21_has.mono _ _ _
   | exact fulcrumref21_set.mono _ _
   | exact fulcrumref21_without.mono _ _ _
   | exact LeO.none _
   | refine LeO.ite ?_ ?_
   | refine LeO.bind ?_ (fun _ => ?_)
  ·intro y0 y1 y2 y3 y4
   unfold fulcrumref21_Replay.l1
   repeat' first
   | (with_reducible exact ih0 _ _ _)
   | (with_reducible exact ih1 _ _ _ _)
   | (with_reducible exact ih2 _ _ _ _ _)
   | (with_reducible exact ih3 _ _ _ _)
   | (with_reducible exact ih4 _ _ _ _ _ _ _ _)
   | (with_reducible exact ih5 _ _ _ _ _ _ _)
   | (with_reducible exact fulcrumref21_Sorted.mono _ _)
   | (with_reducible exact fulcrumref21_has.mono _ _ _)
   | (with_reducible exact fulcrumref21_set.mono _ _)
   | (with_reducible exact fulcrumref21_without.mono _ _ _)
   | (with_reducible exact LeO.refl _)
   | (with_reducible exact LeO.none _)
   | (with_reducible refine LeO.ite ?_ ?_)
   | (with_reducible refine LeO.bind ?_ (fun _ => ?_))
   | exact ih0 _ _ _
   | exact ih1 _ _ _ _
   | exact ih2 _ _ _ _ _
   | exact ih3 _ _ _ _
   | exact ih4 _ _ _ _ _ _ _ _
   | exact ih5 _ _ _ _ _ _ _
   | exact fulcrumref21_Sorted.mono _ _
   | exact fulcrumref21_has.mono _ _ _
   | exact fulcrumref21_set.mono _ _
   | exact fulcrumref21_without.mono _ _ _
   | exact LeO.none _
   | refine LeO.ite ?_ ?_
   | refine LeO.bind ?_ (fun _ => ?_)
  ·intro y0 y1 y2 y3
   unfold fulcrumref21_Replay.l2
   repeat' first
   | (with_reducible exact ih0 _ _ _)
   | (with_reducible exact ih1 _ _ _ _)
   | (with_reducible exact ih2 _ _ _ _ _)
   | (with_reducible exact ih3 _ _ _ _)
   | (with_reducible exact ih4 _ _ _ _ _ _ _ _)
   | (with_reducible exact ih5 _ _ _ _ _ _ _)
   | (with_reducible exact fulcrumref21_Sorted.mono _ _)
   | (with_reducible exact fulcrumref21_has.mono _ _ _)
   | (with_reducible exact fulcrumref21_set.mono _ _)
   | (with_reducible exact fulcrumref21_without.mono _ _ _)
   | (with_reducible exact LeO.refl _)
   | (with_reducible exact LeO.none _)
   | (with_reducible refine LeO.ite ?_ ?_)
   | (with_reducible refine LeO.bind ?_ (fun _ => ?_))
   | exact ih0 _ _ _
   | exact ih1 _ _ _ _
   | exact ih2 _ _ _ _ _
   | exact ih3 _ _ _ _
   | exact ih4 _ _ _ _ _ _ _ _
   | exact ih5 _ _ _ _ _ _ _
   | exact fulcrumref21_Sorted.mono _ _
   | exact fulcrumref21_has.mono _ _ _
   | exact fulcrumref21_set.mono _ _
   | exact fulcrumref21_without.mono _ _ _
   | exact LeO.none _
   | refine LeO.ite ?_ ?_
   | refine LeO.bind ?_ (fun _ => ?_)
  ·intro y0 y1 y2 y3 y4 y5 y6 y7
   unfold fulcrumref21_Replay.l3
   repeat' first
   | (with_reducible exact ih0 _ _ _)
   | (with_reducible exact ih1 _ _ _ _)
   | (with_reducible exact ih2 _ _ _ _ _)
   | (with_reducible exact ih3 _ _ _ _)
   | (with_reducible exact ih4 _ _ _ _ _ _ _ _)
   | (with_reducible exact ih5 _ _ _ _ _ _ _)
   | (with_reducible exact fulcrumref21_Sorted.mono _ _)
   | (with_reducible exact fulcrumref21_has.mono _ _ _)
   | (with_reducible exact fulcrumref21_set.mono _ _)
   | (with_reducible exact fulcrumref21_without.mono _ _ _)
   | (with_reducible exact LeO.refl _)
   | (with_reducible exact LeO.none _)
   | (with_reducible refine LeO.ite ?_ ?_)
   | (with_reducible refine LeO.bind ?_ (fun _ => ?_))
   | exact ih0 _ _ _
   | exact ih1 _ _ _ _
   | exact ih2 _ _ _ _ _
   | exact ih3 _ _ _ _
   | exact ih4 _ _ _ _ _ _ _ _
   | exact ih5 _ _ _ _ _ _ _
   | exact fulcrumref21_Sorted.mono _ _
   | exact fulcrumref21_has.mono _ _ _
   | exact fulcrumref21_set.mono _ _
   | exact fulcrumref21_without.mono _ _ _
   | exact LeO.none _
   | refine LeO.ite ?_ ?_
   | refine LeO.bind ?_ (fun _ => ?_)
  ·intro y0 y1 y2 y3 y4 y5 y6
   unfold fulcrumref21_Replay.l4
   repeat' first
   | (with_reducible exact ih0 _ _ _)
   | (with_reducible exact ih1 _ _ _ _)
   | (with_reducible exact ih2 _ _ _ _ _)
   | (with_reducible exact ih3 _ _ _ _)
   | (with_reducible exact ih4 _ _ _ _ _ _ _ _)
   | (with_reducible exact ih5 _ _ _ _ _ _ _)
   | (with_reducible exact fulcrumref21_Sorted.mono _ _)
   | (with_reducible exact fulcrumref21_has.mono _ _ _)
   | (with_reducible exact fulcrumref21_set.mono _ _)
   | (with_reducible exact fulcrumref21_without.mono _ _ _)
   | (with_reducible exact LeO.refl _)
   | (with_reducible exact LeO.none _)
   | (with_reducible refine LeO.ite ?_ ?_)
   | (with_reducible refine LeO.bind ?_ (fun _ => ?_))
   | exact ih0 _ _ _
   | exact ih1 _ _ _ _
   | exact ih2 _ _ _ _ _
   | exact ih3 _ _ _ _
   | exact ih4 _ _ _ _ _ _ _ _
   | exact ih5 _ _ _ _ _ _ _
   | exact fulcrumref21_Sorted.mono _ _
   | exact fulcrumref21_has.mono _ _ _
   | exact fulcrumref21_set.mono _ _
   | exact fulcrumref21_without.mono _ _ _
   | exact LeO.none _
   | refine LeO.ite ?_ ?_
   | refine LeO.bind ?_ (fun _ => ?_)
theorem fulcrumref21_Replay.mono : ∀ a0 a1 k, LeO (fulcrumref21_Replay.f k a0 a1) (fulcrumref21_Replay.f (k + 1) a0 a1) := by
 intro a0 a1 k
 obtain ⟨ih0, ih1, ih2, ih3, ih4, ih5⟩ := fulcrumref21_Replay.mono_l k
 unfold fulcrumref21_Replay.f
 repeat' first
   | (with_reducible exact ih0 _ _ _)
   | (with_reducible exact ih1 _ _ _ _)
   | (with_reducible exact ih2 _ _ _ _ _)
   | (with_reducible exact ih3 _ _ _ _)
   | (with_reducible exact ih4 _ _ _ _ _ _ _ _)
   | (with_reducible exact ih5 _ _ _ _ _ _ _)
   | (with_reducible exact fulcrumref21_Sorted.mono _ _)
   | (with_reducible exact fulcrumref21_has.mono _ _ _)
   | (with_reducible exact fulcrumref21_set.mono _ _)
   | (with_reducible exact fulcrumref21_without.mono _ _ _)
   | (with_reducible exact LeO.refl _)
   | (with_reducible exact LeO.none _)
   | (with_reducible refine LeO.ite ?_ ?_)
   | (with_reducible refine LeO.bind ?_ (fun _ => ?_))
   | exact ih0 _ _ _
   | exact ih1 _ _ _ _
   | exact ih2 _ _ _ _ _
   | exact ih3 _ _ _ _
   | exact ih4 _ _ _ _ _ _ _ _
   | exact ih5 _ _ _ _ _ _ _
   | exact fulcrumref21_Sorted.mono _ _
   | exact fulcrumref21_has.mono _ _ _
   | exact fulcrumref21_set.mono _ _
   | exact fulcrumref21_without.mono _ _ _
   | exact LeO.none _
   | refine LeO.ite ?_ ?_
   | refine LeO.bind ?_ (fun _ => ?_)
set_option maxHeartbeats 8000000 in
set_option maxRecDepth 100000 in
theorem fulcrumref21_Replay.calls (k : Nat) (A0 : Option Addr) (c0 : Nat) (l0 : List (List Int)) (A1 : Option Addr) (c1 : Nat) (l1 : List Int) (r1 : List Int) (r2 : Int) (w : World) (hr0 : Kd.C (Kd.slice 3 (Kd.int .i64)) w A0 l0.length l0) (hc0 : l0.length ≤ c0) (hr1 : Kd.C (Kd.int .i64) w A1 l1.length l1) (hc1 : l1.length ≤ c1) (h : fulcrumref21_Replay.f k l0 l1 = some (r1, r2)) :
  Calls Try.prog 34 #[.slice A0 l0.length c0, .slice A1 l1.length c1] w fun e w' => ∃ v0_ : Value, e = .returned (.tuple #[v0_, .int .i64 r2]) ∧ Kd.R (Kd.int .i64) 3 w' w.heap.size (fun _ => True) v0_ r1 ∧ Below w.heap.size w w' := by
 have HR0 := Aside0.mk hr0
 have HC0 := Aside0.mk hc0
 clear hr0 hc0
 have HR1 := Aside0.mk hr1
 have HC1 := Aside0.mk hc1
 clear hr1 hc1
 have HB := Aside0.mk (Below.refl w.heap.size w)
 have H : (fulcrumref21_Replay.l0 k l0 l1 0) = some (r1, r2) := h
 clear h
 obtain ⟨y680, hy680⟩ : ∃ y_ : List Int, y_ = (([] : List Int)) := ⟨_, rfl⟩
 replace H : (fulcrumref21_Replay.l0 k l0 l1 0) = some (r1, r2) := by first | (rw [hy680]; with_reducible exact H) | (have H2_ := (Option.bind_some _ _).symm.trans H; rw [hy680]; with_reducible exact H2_) | (have H2_ := (Option.bind_some _ _).symm.trans H; with_reducible exact H2_) | with_reducible exact H | (rw [hy680]; exact H) | exact H
 have Ny680 := Aside0.mk hy680
 clear hy680
 have H' := Aside0.mk H
 clear H
 go_enter Try.func34, Try.ntmps34
 go_wp2_with (first | ((with_reducible refine gate_dst (N := 16) rfl ?_); (try (refine gate_guard (by rfl) ?_; dsimp only)); refine Kd.R_lit (Kd.int .i64) _ 3 ?hg (N := 16) ?hd (xs := ([] : List Int)) (inner := []) (ok := fun _ => True) (okp := fun _ => True) ?hr ?hp (fun _ hk => hk) trivial (Below.refl _ _) (Nat.le_refl _) (by simp) ?_; (case hd => rfl); (case hg => rfl); (case hr => first | (go_simp; done) | (go_simp; rfl)); (case hp => exact (Reps.none _ _)); intro v681 w3 ho4 hb hg_ hnew_; clear hg_ hnew_; (first | rw [← Ny680.out] at ho4 | (simp only [Int.reduceToNat] at ho4; rw [← Ny680.out] at ho4)); have n0_ := Aside0.mk (Kd.R_lower ho4 (below_size (bel_any HB.out))); have n1_ := Aside0.mk (below_step (bel_any HB.out) hb); clear HB; have HO682 := n0_; have HB := n1_; clear n0_ n1_; clear hb ho4))
 go_loopg [7] k (fun kq v7 w' => ∃ (x7_1 : Int), v7 = .int .i64 x7_1 ∧ Aside0 (fulcrumref21_Replay.l0 kq l0 l1 x7_1 = some (r1, r2)) ∧ Aside0 (kq ≤ k) ∧ Aside0 (Below w.heap.size w w'))
 case atStart => exact ⟨(0), (by first | rfl | (simp; done) | (simp [*]; done)), H', ⟨Nat.le_refl _⟩, ⟨bel_any HB.out⟩⟩
 case round =>
  clear H'
  try clear c1
  try clear p2
  try clear c3
  obtain ⟨x7_1, rfl, HA, HK1, HB⟩ := hrel
  cases gk with
  | zero => exact absurd HA.out (by simp [fulcrumref21_Replay.l0])
  | succ k1 =>
   have H := HA.out
   clear HA
   simp only [fulcrumref21_Replay.l0] at H
   by_cases c5 : x7_1 < (l1.length : Int)
   ·rw [if_pos c5] at H
    have c5b0 : decide (x7_1 < (l1.length : Int)) = true := decide_eq_true c5
    clear c5
    have HC6 := Aside0.mk H
    clear H
    go_upto_region 5 with (fail)
    go_cut [36] (fun v36 wc => ∃ (kq : Nat) (x36_5 : Bool), v36 = .bool x36_5 ∧ Aside0 (fulcrumref21_Replay.j1 kq l0 l1 x7_1 x36_5 = some (r1, r2)) ∧ Aside0 (kq ≤ k1) ∧ Aside0 (Below w.heap.size w wc))
    case first =>
     have H := HC6.out
     clear HC6
     by_cases c7 : 0 ≤ x7_1
     ·rw [if_pos c7] at H
      have c7b0 : decide (0 ≤ x7_1) = true := decide_eq_true c7
      clear c7
      (first | rw [c7b0] | (simp only [i64_w, i32_w]; rw [c7b0]) | skip)
      by_cases c8 : (rd l1 x7_1) < 0
      ·rw [if_pos c8] at H
       have c8b0 : decide ((rd l1 x7_1) < 0) = true := decide_eq_true c8
       clear c8
       have H' := Aside0.mk H
       clear H
       have p683 : 0 ≤ (x7_1 : Int) := odt
       have q683 : x7_1 < (l1.length : Int) := odt
       obtain ⟨ad683, e683, hx683_0⟩ := Kd.at_int HR1.out x7_1 p683 q683
       cases e683
       replace hx683_0 := (HB.out.cell (World.block_lt_of_cell? w _ hx683_0)).trans hx683_0
       replace p683 := eq_true p683
       replace q683 := eq_true q683
       go_wp2
       go_meet
       case rel => exact ⟨_, (true), (by first | rfl | (simp; done) | (simp [*]; done)), H', ⟨by have := HK1.out; first | omega | exact Nat.le_refl _⟩, ⟨bel_any HB.out⟩⟩
      ·rw [if_neg c8] at H
       have c8b0 : decide ((rd l1 x7_1) < 0) = false := decide_eq_false c8
       clear c8
       have H' := Aside0.mk H
       clear H
       have p683 : 0 ≤ (x7_1 : Int) := odt
       have q683 : x7_1 < (l1.length : Int) := odt
       obtain ⟨ad683, e683, hx683_0⟩ := Kd.at_int HR1.out x7_1 p683 q683
       cases e683
       replace hx683_0 := (HB.out.cell (World.block_lt_of_cell? w _ hx683_0)).trans hx683_0
       replace p683 := eq_true p683
       replace q683 := eq_true q683
       have p684 : 0 ≤ (x7_1 : Int) := odt
       have q684 : x7_1 < (l1.length : Int) := odt
       obtain ⟨ad684, e684, hx684_0⟩ := Kd.at_int HR1.out x7_1 p684 q684
       obtain rfl : ad683 = ad684 := (by injection e684)
       replace hx684_0 := (HB.out.cell (World.block_lt_of_cell? w _ hx684_0)).trans hx684_0
       replace p684 := eq_true p684
       replace q684 := eq_true q684
       go_wp2
       go_meet
       case rel => exact ⟨_, (decide ((rd l1 x7_1) ≥ (l0.length : Int))), (by first | rfl | (simp; done) | (simp [*]; done)), H', ⟨by have := HK1.out; first | omega | exact Nat.le_refl _⟩, ⟨bel_any HB.out⟩⟩
     ·rw [if_neg c7] at H
      exact absurd H (by simp)
    case rest =>
     clear HC6
     try clear c1
     try clear p2
     try clear c3
     try clear c5
     try clear c5b0
     try clear p6
     try clear q6
     try clear hx6
     try clear c7
     try clear c7b0
     try clear c8
     try clear c8b0
     try clear hx683_0
     try clear hx684_0
     try clear p2
     try clear p683
     try clear p684
     try clear q683
     try clear q684
     obtain ⟨kq, x36_5, rfl, HA, HJ5, HB⟩ := hcut
     cases kq with
     | zero => exact absurd HA.out (by simp [fulcrumref21_Replay.j1])
     | succ kj5 =>
      have H := HA.out
      clear HA
      simp only [fulcrumref21_Replay.j1] at H
      by_cases c9 : x36_5 = true
      ·subst c9
       have H1 : (some (([] : List Int), 210)) = some (r1, r2) := by rw [if_pos rfl] at H; exact H
       clear H
       have H := H1
       clear H1
       simp only [Option.some.injEq, Prod.mk.injEq] at H
       obtain ⟨rfl, rfl⟩ := H
       go_wp2
       go_ret2
       exact ⟨_, by first | rfl | (simp [errW_none, errW_some] <;> rfl) | (simp [*, errW_none, errW_some] <;> rfl), by first | exact Kd.R_nil _ _ _ _ _ | exact Kd.N_nil _ _ _ _ _ | exact Kd.V_nil _ _ _ _ _ | exact Kd.Q_nil _ _ _ _ _ | exact Kd.S_nil _ _ _ _ _, bel_any HB.out⟩
      ·replace c9 := Bool.eq_false_iff.mpr c9
       subst c9
       have H1 : (if 0 ≤ x7_1 then (if x7_1 < (l1.length : Int) then (if 0 ≤ (rd l1 x7_1) then (if (rd l1 x7_1) < (l0.length : Int) then (fulcrumref21_Replay.l1 kj5 l0 l1 x7_1 (rd_L1 l0 (rd l1 x7_1)) 0) else (none)) else (none)) else (none)) else (none)) = some (r1, r2) := by rw [if_neg (show ¬ (false = true) by decide)] at H; exact H
       clear H
       have H := H1
       clear H1
       by_cases c10 : 0 ≤ x7_1
       ·rw [if_pos c10] at H
        have c10b0 : decide (0 ≤ x7_1) = true := decide_eq_true c10
        clear c10
        by_cases c11 : x7_1 < (l1.length : Int)
        ·rw [if_pos c11] at H
         have c11b0 : decide (x7_1 < (l1.length : Int)) = true := decide_eq_true c11
         clear c11
         by_cases c12 : 0 ≤ (rd l1 x7_1)
         ·rw [if_pos c12] at H
          have c12b0 : decide (0 ≤ (rd l1 x7_1)) = true := decide_eq_true c12
          clear c12
          by_cases c13 : (rd l1 x7_1) < (l0.length : Int)
          ·rw [if_pos c13] at H
           have c13b0 : decide ((rd l1 x7_1) < (l0.length : Int)) = true := decide_eq_true c13
           clear c13
           have H' := Aside0.mk H
           clear H
           have p685 : 0 ≤ (x7_1 : Int) := odt
           have q685 : x7_1 < (l1.length : Int) := odt
           obtain ⟨ad685, e685, hx685_0⟩ := Kd.at_int HR1.out x7_1 p685 q685
           cases e685
           replace hx685_0 := (HB.out.cell (World.block_lt_of_cell? w _ hx685_0)).trans hx685_0
           replace p685 := eq_true p685
           replace q685 := eq_true q685
           have p686 : 0 ≤ ((rd l1 x7_1) : Int) := odt
           have q686 : (rd l1 x7_1) < (l0.length : Int) := odt
           obtain ⟨ad686, A686_0, c686_0, e686, hx686_0, hl686_0, hi686_0⟩ := at_L1 HR0.out (rd l1 x7_1) p686 q686
           cases e686
           replace hx686_0 := (HB.out.cell (World.block_lt_of_cell? w _ hx686_0)).trans hx686_0
           have HR686_0 := Aside0.mk hi686_0
           have HC686_0 := Aside0.mk hl686_0
           clear hi686_0 hl686_0
           replace p686 := eq_true p686
           replace q686 := eq_true q686
           go_wp2
           go_loopg [9] kj5 (fun kq v9 w' => ∃ (x9_3 : Int), v9 = .int .i64 x9_3 ∧ Aside0 (fulcrumref21_Replay.l1 kq l0 l1 x7_1 (rd_L1 l0 (rd l1 x7_1)) x9_3 = some (r1, r2)) ∧ Aside0 (kq ≤ kj5) ∧ Aside0 (Below w.heap.size w w'))
           case atStart => exact ⟨(0), (by first | rfl | (simp; done) | (simp [*]; done)), H', ⟨Nat.le_refl _⟩, ⟨bel_any HB.out⟩⟩
           case round =>
            clear H'
            try clear c1
            try clear p2
            try clear c3
            try clear c5
            try clear c5b0
            try clear c6
            try clear p6
            try clear q6
            try clear hx6
            try clear c7
            try clear c7b0
            try clear c8
            try clear c8b0
            try clear c9
            try clear c10
            try clear c10b0
            try clear c11
            try clear c11b0
            try clear c12
            try clear c12b0
            try clear c13
            try clear c13b0
            try clear hx683_0
            try clear hx684_0
            try clear hx685_0
            try clear hx686_0
            try clear p2
            try clear p6
            try clear p683
            try clear p684
            try clear p685
            try clear p686
            try clear q6
            try clear q683
            try clear q684
            try clear q685
            try clear q686
            obtain ⟨x9_3, rfl, HA, HK3, HB⟩ := hrel
            cases gk with
            | zero => exact absurd HA.out (by simp [fulcrumref21_Replay.l1])
            | succ k3 =>
             have H := HA.out
             clear HA
             simp only [fulcrumref21_Replay.l1] at H
             by_cases c14 : x9_3 < ((rd_L1 l0 (rd l1 x7_1)).length : Int)
             ·rw [if_pos c14] at H
              have c14b0 : decide (x9_3 < ((rd_L1 l0 (rd l1 x7_1)).length : Int)) = true := decide_eq_true c14
              clear c14
              by_cases c15 : 0 ≤ x9_3
              ·rw [if_pos c15] at H
               have c15b0 : decide (0 ≤ x9_3) = true := decide_eq_true c15
               clear c15
               replace H := Option.bind_eq_some_iff.mp H
               obtain ⟨t688, A160, H⟩ := H
               replace H : (if t688 = true then (fulcrumref21_Replay.l1 k3 l0 l1 x7_1 (rd_L1 l0 (rd l1 x7_1)) (wrap64 (x9_3 + 1))) else (some (([] : List Int), 210))) = some (r1, r2) := H
               have A16 := Aside0.mk A160
               clear A160
               by_cases c17 : t688 = true
               ·subst c17
                have H1 : (fulcrumref21_Replay.l1 k3 l0 l1 x7_1 (rd_L1 l0 (rd l1 x7_1)) (wrap64 (x9_3 + 1))) = some (r1, r2) := by rw [if_pos rfl] at H; exact H
                clear H
                have H := H1
                clear H1
                have H' := Aside0.mk H
                clear H
                have p687 : 0 ≤ (x9_3 : Int) := odt
                have q687 : x9_3 < ((rd_L1 l0 (rd l1 x7_1)).length : Int) := odt
                obtain ⟨ad687, e687, hx687_0⟩ := Kd.at_int HR686_0.out x9_3 p687 q687
                cases e687
                replace hx687_0 := (HB.out.cell (World.block_lt_of_cell? w _ hx687_0)).trans hx687_0
                replace p687 := eq_true p687
                replace q687 := eq_true q687
                go_wp2_with (first | ((with_reducible refine gate_callee (f := 49) rfl ?_); refine goesL_ (some 54) rfl rfl Try.func49 (by kernel_rfl) rfl #[.int .i64 (rd (rd_L1 l0 (rd l1 x7_1)) x9_3)] rfl (by (try simp only [List.map_toArray, List.map_cons, List.map_nil]); first | done | rfl | (simp only [List.length_drop, List.length_take]; rfl)) ?_; (with_reducible refine (fulcrumref21_literal.calls (rd (rd_L1 l0 (rd l1 x7_1)) x9_3) true _ A16.out).mono ?_); rintro e w' ⟨rfl, ⟨nd, rfl⟩⟩; refine ⟨_, rfl, ?_⟩))
                go_roundg k3
                case measure => have := HK1.out; have := HJ5.out; have := HK3.out; omega
                case rel => exact ⟨(wrap64 (x9_3 + 1)), (by first | rfl | (simp; done) | (simp [*]; done)), H', ⟨by have := HK1.out; have := HJ5.out; have := HK3.out; omega⟩, ⟨bel_any HB.out⟩⟩
               ·replace c17 := Bool.eq_false_iff.mpr c17
                subst c17
                have H1 : (some (([] : List Int), 210)) = some (r1, r2) := by rw [if_neg (show ¬ (false = true) by decide)] at H; exact H
                clear H
                have H := H1
                clear H1
                simp only [Option.some.injEq, Prod.mk.injEq] at H
                obtain ⟨rfl, rfl⟩ := H
                have p687 : 0 ≤ (x9_3 : Int) := odt
                have q687 : x9_3 < ((rd_L1 l0 (rd l1 x7_1)).length : Int) := odt
                obtain ⟨ad687, e687, hx687_0⟩ := Kd.at_int HR686_0.out x9_3 p687 q687
                cases e687
                replace hx687_0 := (HB.out.cell (World.block_lt_of_cell? w _ hx687_0)).trans hx687_0
                replace p687 := eq_true p687
                replace q687 := eq_true q687
                go_wp2_with (first | ((with_reducible refine gate_callee (f := 49) rfl ?_); refine goesL_ (some 54) rfl rfl Try.func49 (by kernel_rfl) rfl #[.int .i64 (rd (rd_L1 l0 (rd l1 x7_1)) x9_3)] rfl (by (try simp only [List.map_toArray, List.map_cons, List.map_nil]); first | done | rfl | (simp only [List.length_drop, List.length_take]; rfl)) ?_; (with_reducible refine (fulcrumref21_literal.calls (rd (rd_L1 l0 (rd l1 x7_1)) x9_3) false _ A16.out).mono ?_); rintro e w' ⟨rfl, ⟨nd, rfl⟩⟩; refine ⟨_, rfl, ?_⟩))
                go_ret2
                exact ⟨_, by first | rfl | (simp [errW_none, errW_some] <;> rfl) | (simp [*, errW_none, errW_some] <;> rfl), by first | exact Kd.R_nil _ _ _ _ _ | exact Kd.N_nil _ _ _ _ _ | exact Kd.V_nil _ _ _ _ _ | exact Kd.Q_nil _ _ _ _ _ | exact Kd.S_nil _ _ _ _ _, bel_any HB.out⟩
              ·rw [if_neg c15] at H
               exact absurd H (by simp)
             ·rw [if_neg c14] at H
              have c14b0 : decide (x9_3 < ((rd_L1 l0 (rd l1 x7_1)).length : Int)) = false := decide_eq_false c14
              clear c14
              have H' := Aside0.mk H
              clear H
              go_wp2
              go_roundg k3
              case measure => have := HK1.out; have := HJ5.out; have := HK3.out; omega
              case rel => exact ⟨(wrap64 (x7_1 + 1)), (by first | rfl | (simp; done) | (simp [*]; done)), H', ⟨by have := HK1.out; have := HJ5.out; have := HK3.out; omega⟩, ⟨bel_any HB.out⟩⟩
          ·rw [if_neg c13] at H
           exact absurd H (by simp)
         ·rw [if_neg c12] at H
          exact absurd H (by simp)
        ·rw [if_neg c11] at H
         exact absurd H (by simp)
       ·rw [if_neg c10] at H
        exact absurd H (by simp)
   ·rw [if_neg c5] at H
    have c5b0 : decide (x7_1 < (l1.length : Int)) = false := decide_eq_false c5
    clear c5
    by_cases c18 : (l1.length : Int) = 0
    ·rw [if_pos c18] at H
     have c18b0 : ((l1.length : Int) == 0) = true := beq_iff_eq.mpr c18
     have c18b1 : ((l1.length : Int) != 0) = false := bne_eq_false_iff_eq.mpr c18
     clear c18
     simp only [Option.some.injEq, Prod.mk.injEq] at H
     obtain ⟨rfl, rfl⟩ := H
     go_wp2
     go_ret2
     exact ⟨_, by first | rfl | (simp [errW_none, errW_some] <;> rfl) | (simp [*, errW_none, errW_some] <;> rfl), by first | exact Kd.R_nil _ _ _ _ _ | exact Kd.N_nil _ _ _ _ _ | exact Kd.V_nil _ _ _ _ _ | exact Kd.Q_nil _ _ _ _ _ | exact Kd.S_nil _ _ _ _ _, bel_any HB.out⟩
    ·rw [if_neg c18] at H
     have c18b0 : ((l1.length : Int) == 0) = false := beq_eq_false_iff_ne.mpr c18
     have c18b1 : ((l1.length : Int) != 0) = true := bne_iff_ne.mpr c18
     have c18b2 : ¬ (l1 = []) := fun h_ => c18 (by rw [h_]; rfl)
     by_cases c19 : 0 < (l1.length : Int)
     ·rw [if_pos c19] at H
      have c19b0 : decide (0 < (l1.length : Int)) = true := decide_eq_true c19
      have c19b1 : decide (0 < l1.length) = true := decide_eq_true (by omega)
      clear c19
      by_cases c20 : 0 ≤ (rd l1 0)
      ·rw [if_pos c20] at H
       have c20b0 : decide (0 ≤ (rd l1 0)) = true := decide_eq_true c20
       clear c20
       by_cases c21 : (rd l1 0) < (l0.length : Int)
       ·rw [if_pos c21] at H
        have c21b0 : decide ((rd l1 0) < (l0.length : Int)) = true := decide_eq_true c21
        clear c21
        replace H := Option.bind_eq_some_iff.mp H
        obtain ⟨t691, A220, H⟩ := H
        replace H : (fulcrumref21_Replay.l2 k1 l0 l1 t691 1) = some (r1, r2) := H
        have A22 := Aside0.mk A220
        clear A220
        have H' := Aside0.mk H
        clear H
        have p689 : 0 ≤ (0 : Int) := (by omega)
        have q689 : 0 < (l1.length : Int) := odt
        obtain ⟨ad689, e689, hx689_0⟩ := Kd.at_int HR1.out 0 p689 q689
        cases e689
        have qi689 : (0 < l1.length) = True := eq_true (by omega)
        (try rw [show ((0 : Int)).toNat = 0 from rfl] at hx689_0)
        (try rw [Addr.add_zero'] at hx689_0)
        replace hx689_0 := (HB.out.cell (World.block_lt_of_cell? w _ hx689_0)).trans hx689_0
        replace p689 := eq_true p689
        replace q689 := eq_true q689
        have p690 : 0 ≤ ((rd l1 0) : Int) := odt
        have q690 : (rd l1 0) < (l0.length : Int) := odt
        obtain ⟨ad690, A690_0, c690_0, e690, hx690_0, hl690_0, hi690_0⟩ := at_L1 HR0.out (rd l1 0) p690 q690
        cases e690
        replace hx690_0 := (HB.out.cell (World.block_lt_of_cell? w _ hx690_0)).trans hx690_0
        have HR690_0 := Aside0.mk hi690_0
        have HC690_0 := Aside0.mk hl690_0
        clear hi690_0 hl690_0
        replace p690 := eq_true p690
        replace q690 := eq_true q690
        go_wp2_with (first | ((with_reducible refine gate_callee (f := 43) rfl ?_); refine goesL_ (some 65) rfl rfl Try.func43 (by kernel_rfl) rfl #[.slice A690_0 (rd_L1 l0 (rd l1 0)).length c690_0] rfl (by (try simp only [List.map_toArray, List.map_cons, List.map_nil]); first | done | rfl | (simp only [List.length_drop, List.length_take]; rfl)) ?_; (with_reducible refine (fulcrumref21_set.calls k1 _ _ (rd_L1 l0 (rd l1 0)) t691 _ ?side1 ?side2 A22.out).mono ?_); (case side1 => repeat (first | exact (Kd.C_below HR690_0.out HB.out) | (with_reducible refine Kd.C_alloc ?_ _) | (with_reducible refine Kd.C_drewN ?_ _) | (with_reducible refine Kd.C_drew ?_))); (case side2 => exact HC690_0.out); rintro e w23 ⟨v692, rfl, ho0, hb⟩; refine ⟨_, rfl, ?_⟩; have n0_ := Aside0.mk (Kd.R_lower ho0 (below_size (bel_any HB.out))); have n1_ := Aside0.mk (below_step (bel_any HB.out) hb); clear HB; have HO693 := n0_; have HB := n1_; clear n0_ n1_; (try clear hb); (try clear hb2); (try clear hk); (try clear hi); (try clear ho0)))
        go_loopg [6, 10] k1 (fun kq v6 v10 w' => ∃ (x6_2 : List Int) (x10_2 : Int), v10 = .int .i64 x10_2 ∧ Aside0 (fulcrumref21_Replay.l2 kq l0 l1 x6_2 x10_2 = some (r1, r2)) ∧ Aside0 (kq ≤ k1) ∧ Aside0 (Kd.R (Kd.int .i64) 3 w' w.heap.size (fun _ => True) v6 x6_2) ∧ Aside0 (Below w.heap.size w w'))
        case atStart => exact ⟨(t691), (1), (by first | rfl | (simp; done) | (simp [*]; done)), H', ⟨Nat.le_refl _⟩, ⟨R_any HO693.out⟩, ⟨bel_any HB.out⟩⟩
        case round =>
         clear H'
         try clear c1
         try clear c2
         try clear p2
         try clear c3
         try clear c4
         try clear c5
         try clear c5b0
         try clear c6
         try clear p6
         try clear q6
         try clear hx6
         try clear qi6
         try clear c7
         try clear c7b0
         try clear c8
         try clear c8b0
         try clear c9
         try clear c10
         try clear c10b0
         try clear c11
         try clear c11b0
         try clear c12
         try clear c12b0
         try clear c13
         try clear c13b0
         try clear c14
         try clear c14b0
         try clear c15
         try clear c15b0
         try clear c17
         try clear c18
         try clear c18b0
         try clear c18b1
         try clear c18b2
         try clear c19
         try clear c19b0
         try clear c19b1
         try clear c20
         try clear c20b0
         try clear c21
         try clear c21b0
         try clear hx683_0
         try clear hx684_0
         try clear hx685_0
         try clear hx686_0
         try clear hx687_0
         try clear hx689_0
         try clear hx690_0
         try clear p2
         try clear p6
         try clear p683
         try clear p684
         try clear p685
         try clear p686
         try clear p687
         try clear p689
         try clear p690
         try clear q6
         try clear q683
         try clear q684
         try clear q685
         try clear q686
         try clear q687
         try clear q689
         try clear q690
         obtain ⟨x6_2, x10_2, rfl, HA, HK2, HO_6, HB⟩ := hrel
         cases gk with
         | zero => exact absurd HA.out (by simp [fulcrumref21_Replay.l2])
         | succ k2 =>
          have H := HA.out
          clear HA
          simp only [fulcrumref21_Replay.l2] at H
          by_cases c24 : x10_2 < (l1.length : Int)
          ·rw [if_pos c24] at H
           have c24b0 : decide (x10_2 < (l1.length : Int)) = true := decide_eq_true c24
           clear c24
           by_cases c25 : 0 ≤ x10_2
           ·rw [if_pos c25] at H
            have c25b0 : decide (0 ≤ x10_2) = true := decide_eq_true c25
            clear c25
            by_cases c26 : 0 ≤ (rd l1 x10_2)
            ·rw [if_pos c26] at H
             have c26b0 : decide (0 ≤ (rd l1 x10_2)) = true := decide_eq_true c26
             clear c26
             by_cases c27 : (rd l1 x10_2) < (l0.length : Int)
             ·rw [if_pos c27] at H
              have c27b0 : decide ((rd l1 x10_2) < (l0.length : Int)) = true := decide_eq_true c27
              clear c27
              have H' := Aside0.mk H
              clear H
              have p697 : 0 ≤ (x10_2 : Int) := odt
              have q697 : x10_2 < (l1.length : Int) := odt
              obtain ⟨ad697, e697, hx697_0⟩ := Kd.at_int HR1.out x10_2 p697 q697
              obtain rfl : ad689 = ad697 := (by injection e697)
              replace hx697_0 := (HB.out.cell (World.block_lt_of_cell? w _ hx697_0)).trans hx697_0
              replace p697 := eq_true p697
              replace q697 := eq_true q697
              have p698 : 0 ≤ ((rd l1 x10_2) : Int) := odt
              have q698 : (rd l1 x10_2) < (l0.length : Int) := odt
              obtain ⟨ad698, A698_0, c698_0, e698, hx698_0, hl698_0, hi698_0⟩ := at_L1 HR0.out (rd l1 x10_2) p698 q698
              obtain rfl : ad690 = ad698 := (by injection e698)
              replace hx698_0 := (HB.out.cell (World.block_lt_of_cell? w _ hx698_0)).trans hx698_0
              have HR698_0 := Aside0.mk hi698_0
              have HC698_0 := Aside0.mk hl698_0
              clear hi698_0 hl698_0
              replace p698 := eq_true p698
              replace q698 := eq_true q698
              go_wp2
              go_loopg [12, 13, 14] k2 (fun kq v12 v13 v14 w' => ∃ (x12_3 : Int) (x13_3 : Int) (x14_3 : Int), v12 = .int .i64 x12_3 ∧ v13 = .int .i64 x13_3 ∧ v14 = .int .i64 x14_3 ∧ Aside0 (fulcrumref21_Replay.l3 kq l0 l1 x6_2 x10_2 (rd_L1 l0 (rd l1 x10_2)) x12_3 x13_3 x14_3 = some (r1, r2)) ∧ Aside0 (kq ≤ k2) ∧ Aside0 (Kd.R (Kd.int .i64) 3 w' w.heap.size (fun _ => True) u6 x6_2) ∧ Aside0 (Below w.heap.size w w'))
              case atStart => exact ⟨(0), (0), (0), (by first | rfl | (simp; done) | (simp [*]; done)), (by first | rfl | (simp; done) | (simp [*]; done)), (by first | rfl | (simp; done) | (simp [*]; done)), H', ⟨Nat.le_refl _⟩, ⟨R_any HO_6.out⟩, ⟨bel_any HB.out⟩⟩
              case round =>
               clear H'
               try clear c1
               try clear c2
               try clear p2
               try clear c3
               try clear c4
               try clear c5
               try clear c5b0
               try clear c6
               try clear p6
               try clear q6
               try clear hx6
               try clear qi6
               try clear c7
               try clear c7b0
               try clear c8
               try clear c8b0
               try clear c9
               try clear c10
               try clear c10b0
               try clear c11
               try clear c11b0
               try clear c12
               try clear c12b0
               try clear c13
               try clear c13b0
               try clear c14
               try clear c14b0
               try clear c15
               try clear c15b0
               try clear c17
               try clear c18
               try clear c18b0
               try clear c18b1
               try clear c18b2
               try clear c19
               try clear c19b0
               try clear c19b1
               try clear c20
               try clear c20b0
               try clear c21
               try clear c21b0
               try clear c24
               try clear c24b0
               try clear c25
               try clear c25b0
               try clear c26
               try clear c26b0
               try clear c27
               try clear c27b0
               try clear hx683_0
               try clear hx684_0
               try clear hx685_0
               try clear hx686_0
               try clear hx687_0
               try clear hx689_0
               try clear hx690_0
               try clear hx697_0
               try clear hx698_0
               try clear p2
               try clear p6
               try clear p683
               try clear p684
               try clear p685
               try clear p686
               try clear p687
               try clear p689
               try clear p690
               try clear p697
               try clear p698
               try clear q6
               try clear q683
               try clear q684
               try clear q685
               try clear q686
               try clear q687
               try clear q689
               try clear q690
               try clear q697
               try clear q698
               obtain ⟨x12_3, x13_3, x14_3, rfl, rfl, rfl, HA, HK3, HO_6, HB⟩ := hrel
               cases gk with
               | zero => exact absurd HA.out (by simp [fulcrumref21_Replay.l3])
               | succ k3 =>
                have H := HA.out
                clear HA
                simp only [fulcrumref21_Replay.l3] at H
                by_cases c28 : x14_3 < (x6_2.length : Int)
                ·rw [if_pos c28] at H
                 have c28b0 : decide (x14_3 < (x6_2.length : Int)) = true := decide_eq_true c28
                 clear c28
                 by_cases c29 : 0 ≤ x14_3
                 ·rw [if_pos c29] at H
                  have c29b0 : decide (0 ≤ x14_3) = true := decide_eq_true c29
                  clear c29
                  replace H := Option.bind_eq_some_iff.mp H
                  obtain ⟨t700, A300, H⟩ := H
                  replace H : (if t700 = true then (fulcrumref21_Replay.l3 k3 l0 l1 x6_2 x10_2 (rd_L1 l0 (rd l1 x10_2)) (rd x6_2 x14_3) (wrap64 (x13_3 + 1)) (wrap64 (x14_3 + 1))) else (fulcrumref21_Replay.l3 k3 l0 l1 x6_2 x10_2 (rd_L1 l0 (rd l1 x10_2)) x12_3 x13_3 (wrap64 (x14_3 + 1)))) = some (r1, r2) := H
                  have A30 := Aside0.mk A300
                  clear A300
                  by_cases c31 : t700 = true
                  ·subst c31
                   have H1 : (fulcrumref21_Replay.l3 k3 l0 l1 x6_2 x10_2 (rd_L1 l0 (rd l1 x10_2)) (rd x6_2 x14_3) (wrap64 (x13_3 + 1)) (wrap64 (x14_3 + 1))) = some (r1, r2) := by rw [if_pos rfl] at H; exact H
                   clear H
                   have H := H1
                   clear H1
                   have H' := Aside0.mk H
                   clear H
                   obtain ⟨Ao32, co32, eo32⟩ := Kd.R_slice HO_6.out
                   subst eo32
                   have p699 : 0 ≤ (x14_3 : Int) := odt
                   have q699 : x14_3 < (x6_2.length : Int) := odt
                   obtain ⟨ad699, e699, hx699_0⟩ := Kd.at_int (Kd.R_reads' HO_6.out).2.2 x14_3 p699 q699
                   cases e699
                   replace p699 := eq_true p699
                   replace q699 := eq_true q699
                   go_wp2_with (first | ((with_reducible refine gate_callee (f := 56) rfl ?_); refine goesL_ (some 91) rfl rfl Try.func56 (by kernel_rfl) rfl #[.slice A698_0 (rd_L1 l0 (rd l1 x10_2)).length c698_0, .int .i64 (wrap64 (-(rd x6_2 x14_3)))] rfl (by (try simp only [List.map_toArray, List.map_cons, List.map_nil]); first | done | rfl | (simp only [List.length_drop, List.length_take]; rfl)) ?_; (with_reducible refine (fulcrumref21_has.calls k3 _ _ (rd_L1 l0 (rd l1 x10_2)) (wrap64 (-(rd x6_2 x14_3))) true _ ?side1 ?side2 A30.out).mono ?_); (case side1 => repeat (first | exact (Kd.C_below HR698_0.out HB.out) | (with_reducible refine Kd.C_alloc ?_ _) | (with_reducible refine Kd.C_drewN ?_ _) | (with_reducible refine Kd.C_drew ?_))); (case side2 => exact HC698_0.out); rintro e w' ⟨rfl, ⟨nd, rfl⟩⟩; refine ⟨_, rfl, ?_⟩; have p701 : 0 ≤ (x14_3 : Int) := odt; have q701 : x14_3 < (x6_2.length : Int) := odt; obtain ⟨ad701, e701, hx701_0⟩ := Kd.at_int (Kd.R_reads' HO_6.out).2.2 x14_3 p701 q701; obtain rfl : ad699 = ad701 := (by injection e701); replace p701 := eq_true p701; replace q701 := eq_true q701))
                   go_roundg k3
                   case measure => have := HK1.out; have := HK2.out; have := HK3.out; omega
                   case rel => exact ⟨(rd x6_2 x14_3), (wrap64 (x13_3 + 1)), (wrap64 (x14_3 + 1)), (by first | rfl | (simp; done) | (simp [*]; done)), (by first | rfl | (simp; done) | (simp [*]; done)), (by first | rfl | (simp; done) | (simp [*]; done)), H', ⟨by have := HK1.out; have := HK2.out; have := HK3.out; omega⟩, ⟨R_any HO_6.out⟩, ⟨bel_any HB.out⟩⟩
                  ·replace c31 := Bool.eq_false_iff.mpr c31
                   subst c31
                   have H1 : (fulcrumref21_Replay.l3 k3 l0 l1 x6_2 x10_2 (rd_L1 l0 (rd l1 x10_2)) x12_3 x13_3 (wrap64 (x14_3 + 1))) = some (r1, r2) := by rw [if_neg (show ¬ (false = true) by decide)] at H; exact H
                   clear H
                   have H := H1
                   clear H1
                   have H' := Aside0.mk H
                   clear H
                   obtain ⟨Ao33, co33, eo33⟩ := Kd.R_slice HO_6.out
                   subst eo33
                   have p699 : 0 ≤ (x14_3 : Int) := odt
                   have q699 : x14_3 < (x6_2.length : Int) := odt
                   obtain ⟨ad699, e699, hx699_0⟩ := Kd.at_int (Kd.R_reads' HO_6.out).2.2 x14_3 p699 q699
                   cases e699
                   replace p699 := eq_true p699
                   replace q699 := eq_true q699
                   go_wp2_with (first | ((with_reducible refine gate_callee (f := 56) rfl ?_); refine goesL_ (some 91) rfl rfl Try.func56 (by kernel_rfl) rfl #[.slice A698_0 (rd_L1 l0 (rd l1 x10_2)).length c698_0, .int .i64 (wrap64 (-(rd x6_2 x14_3)))] rfl (by (try simp only [List.map_toArray, List.map_cons, List.map_nil]); first | done | rfl | (simp only [List.length_drop, List.length_take]; rfl)) ?_; (with_reducible refine (fulcrumref21_has.calls k3 _ _ (rd_L1 l0 (rd l1 x10_2)) (wrap64 (-(rd x6_2 x14_3))) false _ ?side1 ?side2 A30.out).mono ?_); (case side1 => repeat (first | exact (Kd.C_below HR698_0.out HB.out) | (with_reducible refine Kd.C_alloc ?_ _) | (with_reducible refine Kd.C_drewN ?_ _) | (with_reducible refine Kd.C_drew ?_))); (case side2 => exact HC698_0.out); rintro e w' ⟨rfl, ⟨nd, rfl⟩⟩; refine ⟨_, rfl, ?_⟩))
                   go_roundg k3
                   case measure => have := HK1.out; have := HK2.out; have := HK3.out; omega
                   case rel => exact ⟨(x12_3), (x13_3), (wrap64 (x14_3 + 1)), (by first | rfl | (simp; done) | (simp [*]; done)), (by first | rfl | (simp; done) | (simp [*]; done)), (by first | rfl | (simp; done) | (simp [*]; done)), H', ⟨by have := HK1.out; have := HK2.out; have := HK3.out; omega⟩, ⟨R_any HO_6.out⟩, ⟨bel_any HB.out⟩⟩
                 ·rw [if_neg c29] at H
                  exact absurd H (by simp)
                ·rw [if_neg c28] at H
                 have c28b0 : decide (x14_3 < (x6_2.length : Int)) = false := decide_eq_false c28
                 clear c28
                 by_cases c34 : x13_3 = 1
                 ·rw [if_pos c34] at H
                  have c34b0 : (x13_3 == 1) = true := beq_iff_eq.mpr c34
                  have c34b1 : (x13_3 != 1) = false := bne_eq_false_iff_eq.mpr c34
                  clear c34
                  replace H := Option.bind_eq_some_iff.mp H
                  obtain ⟨t702, A350, H⟩ := H
                  replace H : (fulcrumref21_Replay.l4 k3 l0 l1 t702 x10_2 (rd_L1 l0 (rd l1 x10_2)) x12_3 0) = some (r1, r2) := H
                  have A35 := Aside0.mk A350
                  clear A350
                  have H' := Aside0.mk H
                  clear H
                  obtain ⟨Ao36, co36, eo36⟩ := Kd.R_slice HO_6.out
                  subst eo36
                  go_wp2_with (first | ((with_reducible refine gate_callee (f := 62) rfl ?_); refine goesL_ (some 102) rfl rfl Try.func62 (by kernel_rfl) rfl #[.slice Ao36 x6_2.length co36, .int .i64 x12_3] rfl (by (try simp only [List.map_toArray, List.map_cons, List.map_nil]); first | done | rfl | (simp only [List.length_drop, List.length_take]; rfl)) ?_; (with_reducible refine (fulcrumref21_without.calls k3 _ _ x6_2 x12_3 t702 _ ?side1 ?side2 A35.out).mono ?_); (case side1 => repeat (first | exact (Kd.R_reads' HO_6.out).2.2 | (with_reducible refine Kd.C_alloc ?_ _) | (with_reducible refine Kd.C_drewN ?_ _) | (with_reducible refine Kd.C_drew ?_))); (case side2 => exact (Kd.R_reads' HO_6.out).2.1); rintro e w37 ⟨v703, rfl, ho0, hb⟩; refine ⟨_, rfl, ?_⟩; have n0_ := Aside0.mk (Kd.R_elder' (R_any HO_6.out) (Kd.R_base ho0) hb); have n1_ := Aside0.mk (Kd.R_lower (Kd.R_new' ho0 (Kd.R_lt (R_any HO_6.out))) (below_size (bel_any HB.out))); have n2_ := Aside0.mk (below_step (bel_any HB.out) hb); clear HO_6; clear HB; have HO_6 := n0_; have HO704 := n1_; have HB := n2_; clear n0_ n1_ n2_; (try clear hb); (try clear hb2); (try clear hk); (try clear hi); (try clear ho0)))
                  go_loopg [6, 15] k3 (fun kq v6 v15 w' => ∃ (x6_4 : List Int) (x15_4 : Int), v15 = .int .i64 x15_4 ∧ Aside0 (fulcrumref21_Replay.l4 kq l0 l1 x6_4 x10_2 (rd_L1 l0 (rd l1 x10_2)) x12_3 x15_4 = some (r1, r2)) ∧ Aside0 (kq ≤ k3) ∧ Aside0 (Kd.R (Kd.int .i64) 3 w' w.heap.size (fun _ => True) v6 x6_4) ∧ Aside0 (Below w.heap.size w w'))
                  case atStart => exact ⟨(t702), (0), (by first | rfl | (simp; done) | (simp [*]; done)), H', ⟨Nat.le_refl _⟩, ⟨by (with_reducible repeat (first | apply Kd.R_alloc | apply Kd.R_drewN | apply Kd.R_drew)); exact Kd.R_mono HO704.out (fun _ hk => trivial)⟩, ⟨bel_any HB.out⟩⟩
                  case round =>
                   clear H'
                   try clear c1
                   try clear c2
                   try clear p2
                   try clear c3
                   try clear c4
                   try clear c5
                   try clear c5b0
                   try clear c6
                   try clear p6
                   try clear q6
                   try clear hx6
                   try clear qi6
                   try clear c7
                   try clear c7b0
                   try clear p7
                   try clear q7
                   try clear hx7
                   try clear c8
                   try clear c8b0
                   try clear c9
                   try clear c10
                   try clear c10b0
                   try clear c11
                   try clear c11b0
                   try clear c12
                   try clear c12b0
                   try clear c13
                   try clear c13b0
                   try clear c14
                   try clear c14b0
                   try clear c15
                   try clear c15b0
                   try clear c17
                   try clear c18
                   try clear c18b0
                   try clear c18b1
                   try clear c18b2
                   try clear c19
                   try clear c19b0
                   try clear c19b1
                   try clear c20
                   try clear c20b0
                   try clear c21
                   try clear c21b0
                   try clear c24
                   try clear c24b0
                   try clear c25
                   try clear c25b0
                   try clear c26
                   try clear c26b0
                   try clear c27
                   try clear c27b0
                   try clear c28
                   try clear c28b0
                   try clear c29
                   try clear c29b0
                   try clear c31
                   try clear c34
                   try clear c34b0
                   try clear c34b1
                   try clear hx683_0
                   try clear hx684_0
                   try clear hx685_0
                   try clear hx686_0
                   try clear hx687_0
                   try clear hx689_0
                   try clear hx690_0
                   try clear hx697_0
                   try clear hx698_0
                   try clear hx699_0
                   try clear hx701_0
                   try clear p2
                   try clear p6
                   try clear p683
                   try clear p684
                   try clear p685
                   try clear p686
                   try clear p687
                   try clear p689
                   try clear p690
                   try clear p697
                   try clear p698
                   try clear p699
                   try clear p701
                   try clear q6
                   try clear q683
                   try clear q684
                   try clear q685
                   try clear q686
                   try clear q687
                   try clear q689
                   try clear q690
                   try clear q697
                   try clear q698
                   try clear q699
                   try clear q701
                   obtain ⟨x6_4, x15_4, rfl, HA, HK4, HO_6, HB⟩ := hrel
                   cases gk with
                   | zero => exact absurd HA.out (by simp [fulcrumref21_Replay.l4])
                   | succ k4 =>
                    have H := HA.out
                    clear HA
                    simp only [fulcrumref21_Replay.l4] at H
                    by_cases c38 : x15_4 < ((rd_L1 l0 (rd l1 x10_2)).length : Int)
                    ·rw [if_pos c38] at H
                     have c38b0 : decide (x15_4 < ((rd_L1 l0 (rd l1 x10_2)).length : Int)) = true := decide_eq_true c38
                     clear c38
                     by_cases c39 : 0 ≤ x15_4
                     ·rw [if_pos c39] at H
                      have c39b0 : decide (0 ≤ x15_4) = true := decide_eq_true c39
                      clear c39
                      by_cases c40 : (rd (rd_L1 l0 (rd l1 x10_2)) x15_4) = (wrap64 (-x12_3))
                      ·rw [if_pos c40] at H
                       have c40b0 : ((rd (rd_L1 l0 (rd l1 x10_2)) x15_4) == (wrap64 (-x12_3))) = true := beq_iff_eq.mpr c40
                       have c40b1 : ((rd (rd_L1 l0 (rd l1 x10_2)) x15_4) != (wrap64 (-x12_3))) = false := bne_eq_false_iff_eq.mpr c40
                       clear c40
                       have H' := Aside0.mk H
                       clear H
                       have p705 : 0 ≤ (x15_4 : Int) := odt
                       have q705 : x15_4 < ((rd_L1 l0 (rd l1 x10_2)).length : Int) := odt
                       obtain ⟨ad705, e705, hx705_0⟩ := Kd.at_int HR698_0.out x15_4 p705 q705
                       cases e705
                       replace hx705_0 := (HB.out.cell (World.block_lt_of_cell? w _ hx705_0)).trans hx705_0
                       replace p705 := eq_true p705
                       replace q705 := eq_true q705
                       go_wp2
                       go_roundg k4
                       case measure => have := HK1.out; have := HK2.out; have := HK3.out; have := HK4.out; omega
                       case rel => exact ⟨(x6_4), (wrap64 (x15_4 + 1)), (by first | rfl | (simp; done) | (simp [*]; done)), H', ⟨by have := HK1.out; have := HK2.out; have := HK3.out; have := HK4.out; omega⟩, ⟨R_any HO_6.out⟩, ⟨bel_any HB.out⟩⟩
                      ·rw [if_neg c40] at H
                       have c40b0 : ((rd (rd_L1 l0 (rd l1 x10_2)) x15_4) == (wrap64 (-x12_3))) = false := beq_eq_false_iff_ne.mpr c40
                       have c40b1 : ((rd (rd_L1 l0 (rd l1 x10_2)) x15_4) != (wrap64 (-x12_3))) = true := bne_iff_ne.mpr c40
                       by_cases c41 : x6_4.length < 17592186044416
                       ·rw [if_pos c41] at H
                        have LMc41 := Aside0.mk c41
                        clear c41
                        obtain ⟨y707, hy707⟩ : ∃ y_ : List Int, y_ = (x6_4 ++ [rd (rd_L1 l0 (rd l1 x10_2)) x15_4]) := ⟨_, rfl⟩
                        replace H : (fulcrumref21_Replay.l4 k4 l0 l1 y707 x10_2 (rd_L1 l0 (rd l1 x10_2)) x12_3 (wrap64 (x15_4 + 1))) = some (r1, r2) := by first | (rw [hy707]; with_reducible exact H) | (have H2_ := (Option.bind_some _ _).symm.trans H; rw [hy707]; with_reducible exact H2_) | (have H2_ := (Option.bind_some _ _).symm.trans H; with_reducible exact H2_) | with_reducible exact H | (rw [hy707]; exact H) | exact H
                        have Ny707 := Aside0.mk hy707
                        clear hy707
                        have H' := Aside0.mk H
                        clear H
                        have p705 : 0 ≤ (x15_4 : Int) := odt
                        have q705 : x15_4 < ((rd_L1 l0 (rd l1 x10_2)).length : Int) := odt
                        obtain ⟨ad705, e705, hx705_0⟩ := Kd.at_int HR698_0.out x15_4 p705 q705
                        cases e705
                        replace hx705_0 := (HB.out.cell (World.block_lt_of_cell? w _ hx705_0)).trans hx705_0
                        replace p705 := eq_true p705
                        replace q705 := eq_true q705
                        have p706 : 0 ≤ (x15_4 : Int) := odt
                        have q706 : x15_4 < ((rd_L1 l0 (rd l1 x10_2)).length : Int) := odt
                        obtain ⟨ad706, e706, hx706_0⟩ := Kd.at_int HR698_0.out x15_4 p706 q706
                        obtain rfl : ad705 = ad706 := (by injection e706)
                        replace hx706_0 := (HB.out.cell (World.block_lt_of_cell? w _ hx706_0)).trans hx706_0
                        replace p706 := eq_true p706
                        replace q706 := eq_true q706
                        go_wp2_with (first | ((with_reducible refine gate_builtin (b := .append) (xs := #[.tmp 116, .tmp 121]) rfl ?_); (try (refine gate_guard (by rfl) ?_; dsimp only)); at_builtin; refine Kd.R_append (Kd.int .i64) (w0 := w) w.heap.size rfl (.tmp 116) (.tmp 121) 27 3 (.int .i64 0) 8 rfl Try.underlying27 info3 rfl (by decide) (by omega) u6 x6_4 (rd (rd_L1 l0 (rd l1 x10_2)) x15_4) [.int .i64 (rd (rd_L1 l0 (rd l1 x10_2)) x15_4)] (fun _ => True) (fun _ => False) rfl rfl ?aP (fun _ hk => hk.elim) ?aF ?aO ?aB ?aS ?aL ?_; (case aP => exact rfl); (case aB => exact (bel_any HB.out)); (case aF => exact (fun _ _ => trivial)); (case aO => exact (R_any HO_6.out)); (case aS => exact (below_size (bel_any HB.out))); (case aL => have := LMc41.out; omega); intro v708 w42 ho hb hg hat; rw [← Ny707.out] at ho; have n0_ := Aside0.mk (hb); have n1_ := Aside0.mk (ho); clear HB; clear HO_6; have HB := n0_; have HO709 := n1_; clear n0_ n1_; clear ho hb hg hat))
                        go_roundg k4
                        case measure => have := HK1.out; have := HK2.out; have := HK3.out; have := HK4.out; omega
                        case rel => exact ⟨(y707), (wrap64 (x15_4 + 1)), (by first | rfl | (simp; done) | (simp [*]; done)), H', ⟨by have := HK1.out; have := HK2.out; have := HK3.out; have := HK4.out; omega⟩, ⟨R_any HO709.out⟩, ⟨bel_any HB.out⟩⟩
                       ·rw [if_neg c41] at H
                        exact absurd H (by simp)
                     ·rw [if_neg c39] at H
                      exact absurd H (by simp)
                    ·rw [if_neg c38] at H
                     have c38b0 : decide (x15_4 < ((rd_L1 l0 (rd l1 x10_2)).length : Int)) = false := decide_eq_false c38
                     clear c38
                     replace H := Option.bind_eq_some_iff.mp H
                     obtain ⟨t710, A430, H⟩ := H
                     replace H : (fulcrumref21_Replay.l2 k4 l0 l1 t710 (wrap64 (x10_2 + 1))) = some (r1, r2) := H
                     have A43 := Aside0.mk A430
                     clear A430
                     have H' := Aside0.mk H
                     clear H
                     obtain ⟨Ao44, co44, eo44⟩ := Kd.R_slice HO_6.out
                     subst eo44
                     go_wp2_with (first | ((with_reducible refine gate_callee (f := 43) rfl ?_); refine goesL_ (some 124) rfl rfl Try.func43 (by kernel_rfl) rfl #[.slice Ao44 x6_4.length co44] rfl (by (try simp only [List.map_toArray, List.map_cons, List.map_nil]); first | done | rfl | (simp only [List.length_drop, List.length_take]; rfl)) ?_; (with_reducible refine (fulcrumref21_set.calls k4 _ _ x6_4 t710 _ ?side1 ?side2 A43.out).mono ?_); (case side1 => repeat (first | exact (Kd.R_reads' HO_6.out).2.2 | (with_reducible refine Kd.C_alloc ?_ _) | (with_reducible refine Kd.C_drewN ?_ _) | (with_reducible refine Kd.C_drew ?_))); (case side2 => exact (Kd.R_reads' HO_6.out).2.1); rintro e w45 ⟨v711, rfl, ho0, hb⟩; refine ⟨_, rfl, ?_⟩; have n0_ := Aside0.mk (Kd.R_elder' (R_any HO_6.out) (Kd.R_base ho0) hb); have n1_ := Aside0.mk (Kd.R_lower (Kd.R_new' ho0 (Kd.R_lt (R_any HO_6.out))) (below_size (bel_any HB.out))); have n2_ := Aside0.mk (below_step (bel_any HB.out) hb); clear HO_6; clear HB; have HO_6 := n0_; have HO712 := n1_; have HB := n2_; clear n0_ n1_ n2_; (try clear hb); (try clear hb2); (try clear hk); (try clear hi); (try clear ho0)))
                     go_roundg k4
                     case measure => have := HK1.out; have := HK2.out; have := HK3.out; have := HK4.out; omega
                     case rel => exact ⟨(t710), (wrap64 (x10_2 + 1)), (by first | rfl | (simp; done) | (simp [*]; done)), H', ⟨by have := HK1.out; have := HK2.out; have := HK3.out; have := HK4.out; omega⟩, ⟨by (with_reducible repeat (first | apply Kd.R_alloc | apply Kd.R_drewN | apply Kd.R_drew)); exact Kd.R_mono HO712.out (fun _ hk => trivial)⟩, ⟨bel_any HB.out⟩⟩
                 ·rw [if_neg c34] at H
                  have c34b0 : (x13_3 == 1) = false := beq_eq_false_iff_ne.mpr c34
                  have c34b1 : (x13_3 != 1) = true := bne_iff_ne.mpr c34
                  simp only [Option.some.injEq, Prod.mk.injEq] at H
                  obtain ⟨rfl, rfl⟩ := H
                  obtain ⟨Ao46, co46, eo46⟩ := Kd.R_slice HO_6.out
                  subst eo46
                  go_wp2
                  go_ret2
                  exact ⟨_, by first | rfl | (simp [errW_none, errW_some] <;> rfl) | (simp [*, errW_none, errW_some] <;> rfl), by first | exact Kd.R_nil _ _ _ _ _ | exact Kd.N_nil _ _ _ _ _ | exact Kd.V_nil _ _ _ _ _ | exact Kd.Q_nil _ _ _ _ _ | exact Kd.S_nil _ _ _ _ _, bel_any HB.out⟩
             ·rw [if_neg c27] at H
              exact absurd H (by simp)
            ·rw [if_neg c26] at H
             exact absurd H (by simp)
           ·rw [if_neg c25] at H
            exact absurd H (by simp)
          ·rw [if_neg c24] at H
           have c24b0 : decide (x10_2 < (l1.length : Int)) = false := decide_eq_false c24
           clear c24
           replace H := Option.bind_eq_some_iff.mp H
           obtain ⟨t694, A470, H⟩ := H
           replace H : (some (t694, 0)) = some (r1, r2) := H
           have A47 := Aside0.mk A470
           clear A470
           simp only [Option.some.injEq, Prod.mk.injEq] at H
           obtain ⟨rfl, rfl⟩ := H
           obtain ⟨Ao48, co48, eo48⟩ := Kd.R_slice HO_6.out
           subst eo48
           go_wp2_with (first | ((with_reducible refine gate_callee (f := 67) rfl ?_); refine goesL_ (some 126) rfl rfl Try.func67 (by kernel_rfl) rfl #[.slice Ao48 x6_2.length co48] rfl (by (try simp only [List.map_toArray, List.map_cons, List.map_nil]); first | done | rfl | (simp only [List.length_drop, List.length_take]; rfl)) ?_; (with_reducible refine (fulcrumref21_Sorted.calls k2 _ _ x6_2 t694 _ ?side1 ?side2 A47.out).mono ?_); (case side1 => repeat (first | exact (Kd.R_reads' HO_6.out).2.2 | (with_reducible refine Kd.C_alloc ?_ _) | (with_reducible refine Kd.C_drewN ?_ _) | (with_reducible refine Kd.C_drew ?_))); (case side2 => exact (Kd.R_reads' HO_6.out).2.1); rintro e w49 ⟨v695, rfl, ho0, hb⟩; refine ⟨_, rfl, ?_⟩; have n0_ := Aside0.mk (Kd.R_elder' (R_any HO_6.out) (Kd.R_base ho0) hb); have n1_ := Aside0.mk (Kd.R_lower (Kd.R_new' ho0 (Kd.R_lt (R_any HO_6.out))) (below_size (bel_any HB.out))); have n2_ := Aside0.mk (below_step (bel_any HB.out) hb); clear HO_6; clear HB; have HO_6 := n0_; have HO696 := n1_; have HB := n2_; clear n0_ n1_ n2_; (try clear hb); (try clear hb2); (try clear hk); (try clear hi); (try clear ho0)))
           go_ret2
           exact ⟨_, by first | rfl | (simp [errW_none, errW_some] <;> rfl) | (simp [*, errW_none, errW_some] <;> rfl), by (with_reducible repeat (first | apply Kd.R_alloc | apply Kd.R_drewN | apply Kd.R_drew)); exact Kd.R_mono HO696.out (fun _ hk => trivial), bel_any HB.out⟩
       ·rw [if_neg c21] at H
        exact absurd H (by simp)
      ·rw [if_neg c20] at H
       exact absurd H (by simp)
     ·rw [if_neg c19] at H
      exact absurd H (by simp)
end Go.Proofs.Ytboalbiicmcljaa.PAN
