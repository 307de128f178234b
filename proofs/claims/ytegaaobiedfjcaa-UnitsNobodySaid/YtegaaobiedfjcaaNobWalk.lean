import Derived.Test.YtegaaobiedfjcaaPUx0
import Derived.Test.YtegaaobiedfjcaaHMap
namespace Go.Proofs.Ytegaaobiedfjcaa.PU
open Go.RowKit Go.Proofs.YtegaaobiedfjcaaW.PrintWords Go.Proofs.YtegaaobiedfjcaaW.PrintLast Go.Proofs.YtegaaobiedfjcaaW.PrintMore Go.Proofs.YtegaaobiedfjcaaH
set_option linter.unusedVariables false
set_option linter.unusedSimpArgs false
def Nob (w : World) (v : Value) : Prop := v = .pointer none ∨ ∃ g, v = .pointer (some ⟨g, 0, none⟩) ∧ w.cell? ⟨g, 0, none⟩ = some (.bool false)
theorem Nob.below {w w' : World} {v : Value} (h : Nob w v) (hb : Below w.heap.size w w') : Nob w' v := by
  rcases h with h | ⟨g, h, hc⟩
  · exact .inl h
  · exact .inr ⟨g, h, (hb.cell (World.block_lt_of_cell? w _ hc)).trans hc⟩
set_option maxHeartbeats 1000000 in
theorem nob_is (v : Value) (w : World) (h : Nob w v) : Calls Try.prog 35 #[v] w fun e w' => e = .returned (.bool false) ∧ w' = w := by
  rcases h with rfl | ⟨g, rfl, hc⟩
  · have he : (binOp .neq 22 (.pointer none) (.pointer none)).run Try.prog w = .ok (.bool false) w := by kernel_rfl
    go_enter Try.func35, Try.ntmps35
    go_wp2
    go_ret
    exact ⟨rfl, rfl⟩
  · go_enter Try.func35, Try.ntmps35
    go_wp2
    go_ret
    exact ⟨rfl, rfl⟩
set_option maxHeartbeats 1000000 in
theorem nob_Grow (v : Value)  (w : World) (h : Nob w v) : Calls Try.prog 12 #[v] w fun e w' => e = .returned (.tuple #[.int .i64 0, .int .i64 1]) ∧ Below w.heap.size w w' := by
  have H := Aside0.mk h
  clear h
  go_enter Try.func12, Try.ntmps12
  go_wp2_with (first | (go_at_call 35; refine (nob_is v _ (H.out.below (by repeat (first | exact Below.refl _ _ | apply below_alloc)))).mono ?_; rintro e w' ⟨rfl, rfl⟩))
  go_ret2
  exact ⟨rfl, by repeat (first | exact Below.refl _ _ | apply below_alloc)⟩
set_option maxHeartbeats 1000000 in
theorem nob_Atoms (v : Value)  (w : World) (h : Nob w v) : Calls Try.prog 13 #[v] w fun e w' => e = .returned (.int .i64 0) ∧ Below w.heap.size w w' := by
  have H := Aside0.mk h
  clear h
  go_enter Try.func13, Try.ntmps13
  go_wp2_with (first | (go_at_call 35; refine (nob_is v _ (H.out.below (by repeat (first | exact Below.refl _ _ | apply below_alloc)))).mono ?_; rintro e w' ⟨rfl, rfl⟩))
  go_ret
  exact ⟨rfl, by repeat (first | exact Below.refl _ _ | apply below_alloc)⟩
set_option maxHeartbeats 1000000 in
theorem nob_Level (v : Value)  (w : World) (h : Nob w v) : Calls Try.prog 14 #[v] w fun e w' => e = .returned (.int .i64 0) ∧ Below w.heap.size w w' := by
  have H := Aside0.mk h
  clear h
  go_enter Try.func14, Try.ntmps14
  go_wp2_with (first | (go_at_call 35; refine (nob_is v _ (H.out.below (by repeat (first | exact Below.refl _ _ | apply below_alloc)))).mono ?_; rintro e w' ⟨rfl, rfl⟩))
  go_ret
  exact ⟨rfl, by repeat (first | exact Below.refl _ _ | apply below_alloc)⟩
set_option maxHeartbeats 1000000 in
theorem nob_Propagate (v : Value)  (w : World) (h : Nob w v) : Calls Try.prog 15 #[v] w fun e w' => e = .returned (.int .i64 (-1)) ∧ Below w.heap.size w w' := by
  have H := Aside0.mk h
  clear h
  go_enter Try.func15, Try.ntmps15
  go_wp2_with (first | (go_at_call 35; refine (nob_is v _ (H.out.below (by repeat (first | exact Below.refl _ _ | apply below_alloc)))).mono ?_; rintro e w' ⟨rfl, rfl⟩))
  go_ret
  exact ⟨rfl, by repeat (first | exact Below.refl _ _ | apply below_alloc)⟩
set_option maxHeartbeats 1000000 in
theorem nob_Clauses (v : Value)  (w : World) (h : Nob w v) : Calls Try.prog 19 #[v] w fun e w' => e = .returned (.slice none 0 0) ∧ Below w.heap.size w w' := by
  have H := Aside0.mk h
  clear h
  go_enter Try.func19, Try.ntmps19
  go_wp2_with (first | (go_at_call 35; refine (nob_is v _ (H.out.below (by repeat (first | exact Below.refl _ _ | apply below_alloc)))).mono ?_; rintro e w' ⟨rfl, rfl⟩))
  go_ret
  exact ⟨rfl, by repeat (first | exact Below.refl _ _ | apply below_alloc)⟩
set_option maxHeartbeats 1000000 in
theorem nob_Marks (v : Value)  (w : World) (h : Nob w v) : Calls Try.prog 20 #[v] w fun e w' => e = .returned (.slice none 0 0) ∧ Below w.heap.size w w' := by
  have H := Aside0.mk h
  clear h
  go_enter Try.func20, Try.ntmps20
  go_wp2_with (first | (go_at_call 35; refine (nob_is v _ (H.out.below (by repeat (first | exact Below.refl _ _ | apply below_alloc)))).mono ?_; rintro e w' ⟨rfl, rfl⟩))
  go_ret
  exact ⟨rfl, by repeat (first | exact Below.refl _ _ | apply below_alloc)⟩
set_option maxHeartbeats 1000000 in
theorem nob_Add (v : Value) (A : Option Addr) (l c : Nat) (w : World) (h : Nob w v) : Calls Try.prog 25 #[v, .slice A l c] w fun e w' => e = .returned (.tuple #[.int .i64 0, .int .i64 1]) ∧ Below w.heap.size w w' := by
  have H := Aside0.mk h
  rcases h with rfl | ⟨g, rfl, hc⟩
  · clear H
    go_enter Try.func25, Try.ntmps25
    go_wp2_with (first | (go_at_call 35; refine (nob_is _ _ (.inl rfl)).mono ?_; rintro e w' ⟨rfl, rfl⟩))
    go_ret2
    exact ⟨rfl, by repeat (first | exact Below.refl _ _ | apply below_alloc)⟩
  · clear hc
    go_enter Try.func25, Try.ntmps25
    go_wp2_with (first | (go_at_call 35; refine (nob_is _ _ (H.out.below (by repeat (first | exact Below.refl _ _ | apply below_alloc)))).mono ?_; rintro e w' ⟨rfl, rfl⟩))
    go_ret2
    exact ⟨rfl, by repeat (first | exact Below.refl _ _ | apply below_alloc)⟩
set_option maxHeartbeats 1000000 in
theorem nob_Value (v : Value) (x : Int) (w : World) (h : Nob w v) : Calls Try.prog 26 #[v, .int .i64 x] w fun e w' => e = .returned (.tuple #[.int .i64 0, .int .i64 1]) ∧ Below w.heap.size w w' := by
  have H := Aside0.mk h
  clear h
  go_enter Try.func26, Try.ntmps26
  go_wp2_with (first | (go_at_call 35; refine (nob_is v _ (H.out.below (by repeat (first | exact Below.refl _ _ | apply below_alloc)))).mono ?_; rintro e w' ⟨rfl, rfl⟩))
  go_ret2
  exact ⟨rfl, by repeat (first | exact Below.refl _ _ | apply below_alloc)⟩
set_option maxHeartbeats 1000000 in
theorem nob_Decide (v : Value) (x : Int) (w : World) (h : Nob w v) : Calls Try.prog 27 #[v, .int .i64 x] w fun e w' => e = .returned (.int .i64 1) ∧ Below w.heap.size w w' := by
  have H := Aside0.mk h
  clear h
  go_enter Try.func27, Try.ntmps27
  go_wp2_with (first | (go_at_call 35; refine (nob_is v _ (H.out.below (by repeat (first | exact Below.refl _ _ | apply below_alloc)))).mono ?_; rintro e w' ⟨rfl, rfl⟩))
  go_ret
  exact ⟨rfl, by repeat (first | exact Below.refl _ _ | apply below_alloc)⟩
set_option maxHeartbeats 1000000 in
theorem nob_Force (v : Value) (x y : Int) (w : World) (h : Nob w v) : Calls Try.prog 28 #[v, .int .i64 x, .int .i64 y] w fun e w' => e = .returned (.int .i64 1) ∧ Below w.heap.size w w' := by
  have H := Aside0.mk h
  clear h
  go_enter Try.func28, Try.ntmps28
  go_wp2_with (first | (go_at_call 35; refine (nob_is v _ (H.out.below (by repeat (first | exact Below.refl _ _ | apply below_alloc)))).mono ?_; rintro e w' ⟨rfl, rfl⟩))
  go_ret
  exact ⟨rfl, by repeat (first | exact Below.refl _ _ | apply below_alloc)⟩
set_option maxHeartbeats 1000000 in
theorem nob_Back (v : Value) (x : Int) (w : World) (h : Nob w v) : Calls Try.prog 29 #[v, .int .i64 x] w fun e w' => e = .returned (.int .i64 1) ∧ Below w.heap.size w w' := by
  have H := Aside0.mk h
  clear h
  go_enter Try.func29, Try.ntmps29
  go_wp2_with (first | (go_at_call 35; refine (nob_is v _ (H.out.below (by repeat (first | exact Below.refl _ _ | apply below_alloc)))).mono ?_; rintro e w' ⟨rfl, rfl⟩))
  go_ret
  exact ⟨rfl, by repeat (first | exact Below.refl _ _ | apply below_alloc)⟩

set_option maxHeartbeats 2000000 in
set_option maxRecDepth 100000 in
theorem nobody_walk (d x n : Int) (A : Option Addr) (l c : Nat) (w : World) : Calls Try.prog 6 #[.agg #[.int .i64 d, .slice A l c, .int .i64 x, .int .i64 n]] w fun e w' => e = .returned (.bool true) ∧ Below w.heap.size w w' := by
  go_enter Try.func6, Try.ntmps6
  go_wp2
  go_loopg [4] 2 (fun kq v4 w' => ∃ i : Nat, v4 = .int .i64 i ∧ i + kq = 2 ∧ Aside0 (Below w.heap.size w w') ∧ w'.cell? ⟨w.heap.size, 1, none⟩ = some (.slice A l c) ∧ w'.cell? ⟨w.heap.size, 2, none⟩ = some (.int .i64 x) ∧ w'.cell? ⟨w.heap.size, 3, none⟩ = some (.int .i64 n))
  case atStart => exact ⟨0, rfl, rfl, ⟨below_alloc (Below.refl _ _) _⟩, by simp [go_sem], by simp [go_sem], by simp [go_sem]⟩
  case round =>
    obtain ⟨i, rfl, hik, HB, c1, c2, c3⟩ := hrel
    match gk, i, hik with
    | 0, i, hik =>
      obtain rfl : i = 2 := by omega
      go_wp2
      go_ret
      exact ⟨rfl, HB.out⟩
    | 1, i, hik =>
      obtain rfl : i = 1 := by omega
      have HN : Aside0 (∀ W : World, Nob (W.alloc (.cells #[.bool false, .slice none 0 0, .slice none 0 0, .slice none 0 0] 55)) (.pointer (some ⟨W.heap.size, 0, none⟩))) := ⟨fun W => .inr ⟨_, rfl, by simp [go_sem]⟩⟩
      replace HN := Aside0.mk (HN.out wr)
      have hA := below_alloc (Below.refl wr.heap.size wr) (.cells #[.bool false, .slice none 0 0, .slice none 0 0, .slice none 0 0] 55)
      replace HB := Aside0.mk (below_step HB.out hA)
      replace c1 := (hA.cell (World.block_lt_of_cell? _ _ c1)).trans c1
      replace c2 := (hA.cell (World.block_lt_of_cell? _ _ c2)).trans c2
      replace c3 := (hA.cell (World.block_lt_of_cell? _ _ c3)).trans c3
      clear hA
      go_wp2_with (first | (go_at_call 12; refine (nob_Grow _ _ HN.out).mono ?_; rintro e w' ⟨rfl, hb⟩; replace HB := Aside0.mk (below_step HB.out hb); replace HN := Aside0.mk (HN.out.below hb); replace c1 := (hb.cell (World.block_lt_of_cell? _ _ c1)).trans c1; replace c2 := (hb.cell (World.block_lt_of_cell? _ _ c2)).trans c2; replace c3 := (hb.cell (World.block_lt_of_cell? _ _ c3)).trans c3; clear hb) | (go_at_call 13; refine (nob_Atoms _ _ HN.out).mono ?_; rintro e w' ⟨rfl, hb⟩; replace HB := Aside0.mk (below_step HB.out hb); replace HN := Aside0.mk (HN.out.below hb); replace c1 := (hb.cell (World.block_lt_of_cell? _ _ c1)).trans c1; replace c2 := (hb.cell (World.block_lt_of_cell? _ _ c2)).trans c2; replace c3 := (hb.cell (World.block_lt_of_cell? _ _ c3)).trans c3; clear hb) | (go_at_call 14; refine (nob_Level _ _ HN.out).mono ?_; rintro e w' ⟨rfl, hb⟩; replace HB := Aside0.mk (below_step HB.out hb); replace HN := Aside0.mk (HN.out.below hb); replace c1 := (hb.cell (World.block_lt_of_cell? _ _ c1)).trans c1; replace c2 := (hb.cell (World.block_lt_of_cell? _ _ c2)).trans c2; replace c3 := (hb.cell (World.block_lt_of_cell? _ _ c3)).trans c3; clear hb) | (go_at_call 15; refine (nob_Propagate _ _ HN.out).mono ?_; rintro e w' ⟨rfl, hb⟩; replace HB := Aside0.mk (below_step HB.out hb); replace HN := Aside0.mk (HN.out.below hb); replace c1 := (hb.cell (World.block_lt_of_cell? _ _ c1)).trans c1; replace c2 := (hb.cell (World.block_lt_of_cell? _ _ c2)).trans c2; replace c3 := (hb.cell (World.block_lt_of_cell? _ _ c3)).trans c3; clear hb) | (go_at_call 19; refine (nob_Clauses _ _ HN.out).mono ?_; rintro e w' ⟨rfl, hb⟩; replace HB := Aside0.mk (below_step HB.out hb); replace HN := Aside0.mk (HN.out.below hb); replace c1 := (hb.cell (World.block_lt_of_cell? _ _ c1)).trans c1; replace c2 := (hb.cell (World.block_lt_of_cell? _ _ c2)).trans c2; replace c3 := (hb.cell (World.block_lt_of_cell? _ _ c3)).trans c3; clear hb) | (go_at_call 20; refine (nob_Marks _ _ HN.out).mono ?_; rintro e w' ⟨rfl, hb⟩; replace HB := Aside0.mk (below_step HB.out hb); replace HN := Aside0.mk (HN.out.below hb); replace c1 := (hb.cell (World.block_lt_of_cell? _ _ c1)).trans c1; replace c2 := (hb.cell (World.block_lt_of_cell? _ _ c2)).trans c2; replace c3 := (hb.cell (World.block_lt_of_cell? _ _ c3)).trans c3; clear hb) | (go_at_call 25; refine (nob_Add _ _ _ _ _ HN.out).mono ?_; rintro e w' ⟨rfl, hb⟩; replace HB := Aside0.mk (below_step HB.out hb); replace HN := Aside0.mk (HN.out.below hb); replace c1 := (hb.cell (World.block_lt_of_cell? _ _ c1)).trans c1; replace c2 := (hb.cell (World.block_lt_of_cell? _ _ c2)).trans c2; replace c3 := (hb.cell (World.block_lt_of_cell? _ _ c3)).trans c3; clear hb) | (go_at_call 26; refine (nob_Value _ _ _ HN.out).mono ?_; rintro e w' ⟨rfl, hb⟩; replace HB := Aside0.mk (below_step HB.out hb); replace HN := Aside0.mk (HN.out.below hb); replace c1 := (hb.cell (World.block_lt_of_cell? _ _ c1)).trans c1; replace c2 := (hb.cell (World.block_lt_of_cell? _ _ c2)).trans c2; replace c3 := (hb.cell (World.block_lt_of_cell? _ _ c3)).trans c3; clear hb) | (go_at_call 27; refine (nob_Decide _ _ _ HN.out).mono ?_; rintro e w' ⟨rfl, hb⟩; replace HB := Aside0.mk (below_step HB.out hb); replace HN := Aside0.mk (HN.out.below hb); replace c1 := (hb.cell (World.block_lt_of_cell? _ _ c1)).trans c1; replace c2 := (hb.cell (World.block_lt_of_cell? _ _ c2)).trans c2; replace c3 := (hb.cell (World.block_lt_of_cell? _ _ c3)).trans c3; clear hb) | (go_at_call 28; refine (nob_Force _ _ _ _ HN.out).mono ?_; rintro e w' ⟨rfl, hb⟩; replace HB := Aside0.mk (below_step HB.out hb); replace HN := Aside0.mk (HN.out.below hb); replace c1 := (hb.cell (World.block_lt_of_cell? _ _ c1)).trans c1; replace c2 := (hb.cell (World.block_lt_of_cell? _ _ c2)).trans c2; replace c3 := (hb.cell (World.block_lt_of_cell? _ _ c3)).trans c3; clear hb) | (go_at_call 29; refine (nob_Back _ _ _ HN.out).mono ?_; rintro e w' ⟨rfl, hb⟩; replace HB := Aside0.mk (below_step HB.out hb); replace HN := Aside0.mk (HN.out.below hb); replace c1 := (hb.cell (World.block_lt_of_cell? _ _ c1)).trans c1; replace c2 := (hb.cell (World.block_lt_of_cell? _ _ c2)).trans c2; replace c3 := (hb.cell (World.block_lt_of_cell? _ _ c3)).trans c3; clear hb))
      go_roundg 0
      case measure => omega
      case rel => exact ⟨2, rfl, rfl, HB, c1, c2, c3⟩
    | 2, i, hik =>
      obtain rfl : i = 0 := by omega
      have HN : Aside0 (Nob wr (.pointer none)) := ⟨.inl rfl⟩
      go_wp2_with (first | (go_at_call 12; refine (nob_Grow _ _ HN.out).mono ?_; rintro e w' ⟨rfl, hb⟩; replace HB := Aside0.mk (below_step HB.out hb); replace HN := Aside0.mk (HN.out.below hb); replace c1 := (hb.cell (World.block_lt_of_cell? _ _ c1)).trans c1; replace c2 := (hb.cell (World.block_lt_of_cell? _ _ c2)).trans c2; replace c3 := (hb.cell (World.block_lt_of_cell? _ _ c3)).trans c3; clear hb) | (go_at_call 13; refine (nob_Atoms _ _ HN.out).mono ?_; rintro e w' ⟨rfl, hb⟩; replace HB := Aside0.mk (below_step HB.out hb); replace HN := Aside0.mk (HN.out.below hb); replace c1 := (hb.cell (World.block_lt_of_cell? _ _ c1)).trans c1; replace c2 := (hb.cell (World.block_lt_of_cell? _ _ c2)).trans c2; replace c3 := (hb.cell (World.block_lt_of_cell? _ _ c3)).trans c3; clear hb) | (go_at_call 14; refine (nob_Level _ _ HN.out).mono ?_; rintro e w' ⟨rfl, hb⟩; replace HB := Aside0.mk (below_step HB.out hb); replace HN := Aside0.mk (HN.out.below hb); replace c1 := (hb.cell (World.block_lt_of_cell? _ _ c1)).trans c1; replace c2 := (hb.cell (World.block_lt_of_cell? _ _ c2)).trans c2; replace c3 := (hb.cell (World.block_lt_of_cell? _ _ c3)).trans c3; clear hb) | (go_at_call 15; refine (nob_Propagate _ _ HN.out).mono ?_; rintro e w' ⟨rfl, hb⟩; replace HB := Aside0.mk (below_step HB.out hb); replace HN := Aside0.mk (HN.out.below hb); replace c1 := (hb.cell (World.block_lt_of_cell? _ _ c1)).trans c1; replace c2 := (hb.cell (World.block_lt_of_cell? _ _ c2)).trans c2; replace c3 := (hb.cell (World.block_lt_of_cell? _ _ c3)).trans c3; clear hb) | (go_at_call 19; refine (nob_Clauses _ _ HN.out).mono ?_; rintro e w' ⟨rfl, hb⟩; replace HB := Aside0.mk (below_step HB.out hb); replace HN := Aside0.mk (HN.out.below hb); replace c1 := (hb.cell (World.block_lt_of_cell? _ _ c1)).trans c1; replace c2 := (hb.cell (World.block_lt_of_cell? _ _ c2)).trans c2; replace c3 := (hb.cell (World.block_lt_of_cell? _ _ c3)).trans c3; clear hb) | (go_at_call 20; refine (nob_Marks _ _ HN.out).mono ?_; rintro e w' ⟨rfl, hb⟩; replace HB := Aside0.mk (below_step HB.out hb); replace HN := Aside0.mk (HN.out.below hb); replace c1 := (hb.cell (World.block_lt_of_cell? _ _ c1)).trans c1; replace c2 := (hb.cell (World.block_lt_of_cell? _ _ c2)).trans c2; replace c3 := (hb.cell (World.block_lt_of_cell? _ _ c3)).trans c3; clear hb) | (go_at_call 25; refine (nob_Add _ _ _ _ _ HN.out).mono ?_; rintro e w' ⟨rfl, hb⟩; replace HB := Aside0.mk (below_step HB.out hb); replace HN := Aside0.mk (HN.out.below hb); replace c1 := (hb.cell (World.block_lt_of_cell? _ _ c1)).trans c1; replace c2 := (hb.cell (World.block_lt_of_cell? _ _ c2)).trans c2; replace c3 := (hb.cell (World.block_lt_of_cell? _ _ c3)).trans c3; clear hb) | (go_at_call 26; refine (nob_Value _ _ _ HN.out).mono ?_; rintro e w' ⟨rfl, hb⟩; replace HB := Aside0.mk (below_step HB.out hb); replace HN := Aside0.mk (HN.out.below hb); replace c1 := (hb.cell (World.block_lt_of_cell? _ _ c1)).trans c1; replace c2 := (hb.cell (World.block_lt_of_cell? _ _ c2)).trans c2; replace c3 := (hb.cell (World.block_lt_of_cell? _ _ c3)).trans c3; clear hb) | (go_at_call 27; refine (nob_Decide _ _ _ HN.out).mono ?_; rintro e w' ⟨rfl, hb⟩; replace HB := Aside0.mk (below_step HB.out hb); replace HN := Aside0.mk (HN.out.below hb); replace c1 := (hb.cell (World.block_lt_of_cell? _ _ c1)).trans c1; replace c2 := (hb.cell (World.block_lt_of_cell? _ _ c2)).trans c2; replace c3 := (hb.cell (World.block_lt_of_cell? _ _ c3)).trans c3; clear hb) | (go_at_call 28; refine (nob_Force _ _ _ _ HN.out).mono ?_; rintro e w' ⟨rfl, hb⟩; replace HB := Aside0.mk (below_step HB.out hb); replace HN := Aside0.mk (HN.out.below hb); replace c1 := (hb.cell (World.block_lt_of_cell? _ _ c1)).trans c1; replace c2 := (hb.cell (World.block_lt_of_cell? _ _ c2)).trans c2; replace c3 := (hb.cell (World.block_lt_of_cell? _ _ c3)).trans c3; clear hb) | (go_at_call 29; refine (nob_Back _ _ _ HN.out).mono ?_; rintro e w' ⟨rfl, hb⟩; replace HB := Aside0.mk (below_step HB.out hb); replace HN := Aside0.mk (HN.out.below hb); replace c1 := (hb.cell (World.block_lt_of_cell? _ _ c1)).trans c1; replace c2 := (hb.cell (World.block_lt_of_cell? _ _ c2)).trans c2; replace c3 := (hb.cell (World.block_lt_of_cell? _ _ c3)).trans c3; clear hb))
      go_roundg 1
      case measure => omega
      case rel => exact ⟨1, rfl, rfl, HB, c1, c2, c3⟩
    | k + 3, i, hik => omega


end Go.Proofs.Ytegaaobiedfjcaa.PU
