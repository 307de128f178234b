import Derived.Test.YtonnfbikihfcdaaGreatDoorHNone
import Derived.Test.YtonnfbikihfcdaaGreatDoorWLast
import Derived.Test.YtonnfbikihfcdaaGreatDoorWMore
import Derived.Deep.LoopGhost
import Derived.Test.YtonnfbikihfcdaaGreatDoorChecked
namespace Go.Proofs.YtonnfbikihfcdaaGreatDoor.PS
open Go.RowKit Go.Proofs.YtonnfbikihfcdaaGreatDoorW.PrintWords Go.Proofs.YtonnfbikihfcdaaGreatDoorW.PrintLast Go.Proofs.YtonnfbikihfcdaaGreatDoorW.PrintMore Go.Proofs.YtonnfbikihfcdaaGreatDoorH
set_option linter.unusedVariables false
set_option linter.unusedSimpArgs false
def Nob (w : World) (v : Value) : Prop := v = .pointer none ∨ ∃ g, v = .pointer (some ⟨g, 0, none⟩) ∧ w.cell? ⟨g, 0, none⟩ = some (.bool false)
theorem Nob.below {w w' : World} {v : Value} (h : Nob w v) (hb : Below w.heap.size w w') : Nob w' v := by
  rcases h with h | ⟨g, h, hc⟩
  · exact .inl h
  · exact .inr ⟨g, h, (hb.cell (World.block_lt_of_cell? w _ hc)).trans hc⟩
theorem nob_nil (w : World) : (binOp .neq 24 (.pointer none) (.pointer none)).run Tryz.prog w = .ok (.bool false) w := by kernel_rfl
set_option maxHeartbeats 1000000 in
theorem nob_is (v : Value) (w : World) (h : Nob w v) : Calls Tryz.prog 9 #[v] w fun e w' => e = .returned (.bool false) ∧ w' = w := by
  rcases h with rfl | ⟨g, rfl, hc⟩
  · have he := nob_nil w
    go_enter Tryz.func9, Tryz.ntmps9
    go_wp2
    go_ret
    exact ⟨rfl, rfl⟩
  · go_enter Tryz.func9, Tryz.ntmps9
    go_wp2
    go_ret
    exact ⟨rfl, rfl⟩
set_option maxHeartbeats 1000000 in
theorem nob_Grow (v : Value)  (w : World) (h : Nob w v) : Calls Tryz.prog 4 #[v] w fun e w' => e = .returned (.tuple #[.int .i64 0, .int .i64 1]) ∧ Below w.heap.size w w' := by
  have H := Aside0.mk h
  rcases h with rfl | ⟨g, rfl, hc⟩
  · clear H
    go_enter Tryz.func4, Tryz.ntmps4
    go_wp2_with (first | (go_at_call 9; refine (nob_is _ _ (.inl rfl)).mono ?_; rintro e w' ⟨rfl, rfl⟩))
    go_ret2
    exact ⟨rfl, by repeat (first | exact Below.refl _ _ | apply below_alloc)⟩
  · clear hc
    go_enter Tryz.func4, Tryz.ntmps4
    go_wp2_with (first | (go_at_call 9; refine (nob_is _ _ (H.out.below (by repeat (first | exact Below.refl _ _ | apply below_alloc)))).mono ?_; rintro e w' ⟨rfl, rfl⟩))
    go_ret2
    exact ⟨rfl, by repeat (first | exact Below.refl _ _ | apply below_alloc)⟩
set_option maxHeartbeats 1000000 in
theorem nob_Atoms (v : Value)  (w : World) (h : Nob w v) : Calls Tryz.prog 7 #[v] w fun e w' => e = .returned (.int .i64 0) ∧ Below w.heap.size w w' := by
  have H := Aside0.mk h
  rcases h with rfl | ⟨g, rfl, hc⟩
  · clear H
    go_enter Tryz.func7, Tryz.ntmps7
    go_wp2_with (first | (go_at_call 9; refine (nob_is _ _ (.inl rfl)).mono ?_; rintro e w' ⟨rfl, rfl⟩))
    go_ret
    exact ⟨rfl, by repeat (first | exact Below.refl _ _ | apply below_alloc)⟩
  · clear hc
    go_enter Tryz.func7, Tryz.ntmps7
    go_wp2_with (first | (go_at_call 9; refine (nob_is _ _ (H.out.below (by repeat (first | exact Below.refl _ _ | apply below_alloc)))).mono ?_; rintro e w' ⟨rfl, rfl⟩))
    go_ret
    exact ⟨rfl, by repeat (first | exact Below.refl _ _ | apply below_alloc)⟩
set_option maxHeartbeats 1000000 in
theorem nob_Steps (v : Value)  (w : World) (h : Nob w v) : Calls Tryz.prog 8 #[v] w fun e w' => e = .returned (.slice none 0 0) ∧ Below w.heap.size w w' := by
  have H := Aside0.mk h
  rcases h with rfl | ⟨g, rfl, hc⟩
  · clear H
    go_enter Tryz.func8, Tryz.ntmps8
    go_wp2_with (first | (go_at_call 9; refine (nob_is _ _ (.inl rfl)).mono ?_; rintro e w' ⟨rfl, rfl⟩))
    go_ret
    exact ⟨rfl, by repeat (first | exact Below.refl _ _ | apply below_alloc)⟩
  · clear hc
    go_enter Tryz.func8, Tryz.ntmps8
    go_wp2_with (first | (go_at_call 9; refine (nob_is _ _ (H.out.below (by repeat (first | exact Below.refl _ _ | apply below_alloc)))).mono ?_; rintro e w' ⟨rfl, rfl⟩))
    go_ret
    exact ⟨rfl, by repeat (first | exact Below.refl _ _ | apply below_alloc)⟩
set_option maxHeartbeats 1000000 in
theorem nob_Add (v : Value) (A : Option Addr) (l c : Nat) (w : World) (h : Nob w v) : Calls Tryz.prog 6 #[v, .slice A l c] w fun e w' => e = .returned (.int .i64 1) ∧ Below w.heap.size w w' := by
  have H := Aside0.mk h
  rcases h with rfl | ⟨g, rfl, hc⟩
  · clear H
    go_enter Tryz.func6, Tryz.ntmps6
    go_wp2_with (first | (go_at_call 9; refine (nob_is _ _ (.inl rfl)).mono ?_; rintro e w' ⟨rfl, rfl⟩))
    go_ret
    exact ⟨rfl, by repeat (first | exact Below.refl _ _ | apply below_alloc)⟩
  · clear hc
    go_enter Tryz.func6, Tryz.ntmps6
    go_wp2_with (first | (go_at_call 9; refine (nob_is _ _ (H.out.below (by repeat (first | exact Below.refl _ _ | apply below_alloc)))).mono ?_; rintro e w' ⟨rfl, rfl⟩))
    go_ret
    exact ⟨rfl, by repeat (first | exact Below.refl _ _ | apply below_alloc)⟩
set_option maxHeartbeats 1000000 in
theorem nob_Solve (v : Value) (A : Option Addr) (l c : Nat) (w : World) (h : Nob w v) : Calls Tryz.prog 5 #[v, .slice A l c] w fun e w' => e = .returned (.tuple #[.agg #[.int .i64 0, .slice none 0 0, .slice none 0 0], .int .i64 1]) ∧ Below w.heap.size w w' := by
  have H := Aside0.mk h
  rcases h with rfl | ⟨g, rfl, hc⟩
  · clear H
    go_enter Tryz.func5, Tryz.ntmps5
    go_wp2_with (first | (go_at_call 9; refine (nob_is _ _ (.inl rfl)).mono ?_; rintro e w' ⟨rfl, rfl⟩))
    refine ⟨rfl, .tuple #[.agg #[.int .i64 0, .slice none 0 0, .slice none 0 0], .int .i64 1], ?_, rfl, by repeat (first | exact Below.refl _ _ | apply below_alloc)⟩
    simp [results, Tryz.results5, go_sem]
  · clear hc
    go_enter Tryz.func5, Tryz.ntmps5
    go_wp2_with (first | (go_at_call 9; refine (nob_is _ _ (H.out.below (by repeat (first | exact Below.refl _ _ | apply below_alloc)))).mono ?_; rintro e w' ⟨rfl, rfl⟩))
    refine ⟨rfl, .tuple #[.agg #[.int .i64 0, .slice none 0 0, .slice none 0 0], .int .i64 1], ?_, rfl, by repeat (first | exact Below.refl _ _ | apply below_alloc)⟩
    simp [results, Tryz.results5, go_sem]

set_option maxHeartbeats 2000000 in
set_option maxRecDepth 100000 in
theorem nobody_walk (A : Option Addr) (l c : Nat) (A2 : Option Addr) (l2 c2 : Nat) (w : World) : Calls Tryz.prog 3 #[.slice A l c, .slice A2 l2 c2] w fun e w' => e = .returned (.bool true) ∧ Below w.heap.size w w' := by
  go_enter Tryz.func3, Tryz.ntmps3
  go_wp2
  go_loopg [6] 2 (fun kq v6 w' => ∃ i : Nat, v6 = .int .i64 i ∧ i + kq = 2 ∧ Aside0 (Below w.heap.size w w'))
  case atStart => exact ⟨0, rfl, rfl, ⟨Below.refl _ _⟩⟩
  case round =>
    obtain ⟨i, rfl, hik, HB⟩ := hrel
    match gk, i, hik with
    | 0, i, hik =>
      obtain rfl : i = 2 := by omega
      go_wp2
      go_ret
      exact ⟨rfl, HB.out⟩
    | 1, i, hik =>
      obtain rfl : i = 1 := by omega
      have HN : Aside0 (∀ W : World, Nob (W.alloc (.cells #[.bool false, .nilIface, .pointer none, .pointer none, .slice none 0 0, .slice none 0 0, .slice none 0 0, .map none, .int .i64 0, .int .i64 0, .int .i64 0] 32)) (.pointer (some ⟨W.heap.size, 0, none⟩))) := ⟨fun W => .inr ⟨_, rfl, by simp [go_sem]⟩⟩
      replace HN := Aside0.mk (HN.out wr)
      have hA := below_alloc (Below.refl wr.heap.size wr) (.cells #[.bool false, .nilIface, .pointer none, .pointer none, .slice none 0 0, .slice none 0 0, .slice none 0 0, .map none, .int .i64 0, .int .i64 0, .int .i64 0] 32)
      replace HB := Aside0.mk (below_step HB.out hA)
      clear hA
      go_wp2_with (first | (go_at_call 4; refine (nob_Grow _ _ (HN.out.below (by repeat (first | exact Below.refl _ _ | apply below_alloc)))).mono ?_; rintro e w' ⟨rfl, hb⟩; replace HB := Aside0.mk (below_step (by repeat (first | exact HB.out | apply below_alloc)) hb); replace HN := Aside0.mk ((HN.out.below (by repeat (first | exact Below.refl _ _ | apply below_alloc))).below hb); clear hb) | (go_at_call 5; refine (nob_Solve _ _ _ _ _ (HN.out.below (by repeat (first | exact Below.refl _ _ | apply below_alloc)))).mono ?_; rintro e w' ⟨rfl, hb⟩; replace HB := Aside0.mk (below_step (by repeat (first | exact HB.out | apply below_alloc)) hb); replace HN := Aside0.mk ((HN.out.below (by repeat (first | exact Below.refl _ _ | apply below_alloc))).below hb); clear hb) | (go_at_call 6; refine (nob_Add _ _ _ _ _ (HN.out.below (by repeat (first | exact Below.refl _ _ | apply below_alloc)))).mono ?_; rintro e w' ⟨rfl, hb⟩; replace HB := Aside0.mk (below_step (by repeat (first | exact HB.out | apply below_alloc)) hb); replace HN := Aside0.mk ((HN.out.below (by repeat (first | exact Below.refl _ _ | apply below_alloc))).below hb); clear hb) | (go_at_call 7; refine (nob_Atoms _ _ (HN.out.below (by repeat (first | exact Below.refl _ _ | apply below_alloc)))).mono ?_; rintro e w' ⟨rfl, hb⟩; replace HB := Aside0.mk (below_step (by repeat (first | exact HB.out | apply below_alloc)) hb); replace HN := Aside0.mk ((HN.out.below (by repeat (first | exact Below.refl _ _ | apply below_alloc))).below hb); clear hb) | (go_at_call 8; refine (nob_Steps _ _ (HN.out.below (by repeat (first | exact Below.refl _ _ | apply below_alloc)))).mono ?_; rintro e w' ⟨rfl, hb⟩; replace HB := Aside0.mk (below_step (by repeat (first | exact HB.out | apply below_alloc)) hb); replace HN := Aside0.mk ((HN.out.below (by repeat (first | exact Below.refl _ _ | apply below_alloc))).below hb); clear hb))
      go_roundg 0
      case measure => omega
      case rel => exact ⟨2, rfl, rfl, HB⟩
    | 2, i, hik =>
      obtain rfl : i = 0 := by omega
      have HN : Aside0 (Nob wr (.pointer none)) := ⟨.inl rfl⟩
      go_wp2_with (first | (go_at_call 4; refine (nob_Grow _ _ (HN.out.below (by repeat (first | exact Below.refl _ _ | apply below_alloc)))).mono ?_; rintro e w' ⟨rfl, hb⟩; replace HB := Aside0.mk (below_step (by repeat (first | exact HB.out | apply below_alloc)) hb); replace HN := Aside0.mk ((HN.out.below (by repeat (first | exact Below.refl _ _ | apply below_alloc))).below hb); clear hb) | (go_at_call 5; refine (nob_Solve _ _ _ _ _ (HN.out.below (by repeat (first | exact Below.refl _ _ | apply below_alloc)))).mono ?_; rintro e w' ⟨rfl, hb⟩; replace HB := Aside0.mk (below_step (by repeat (first | exact HB.out | apply below_alloc)) hb); replace HN := Aside0.mk ((HN.out.below (by repeat (first | exact Below.refl _ _ | apply below_alloc))).below hb); clear hb) | (go_at_call 6; refine (nob_Add _ _ _ _ _ (HN.out.below (by repeat (first | exact Below.refl _ _ | apply below_alloc)))).mono ?_; rintro e w' ⟨rfl, hb⟩; replace HB := Aside0.mk (below_step (by repeat (first | exact HB.out | apply below_alloc)) hb); replace HN := Aside0.mk ((HN.out.below (by repeat (first | exact Below.refl _ _ | apply below_alloc))).below hb); clear hb) | (go_at_call 7; refine (nob_Atoms _ _ (HN.out.below (by repeat (first | exact Below.refl _ _ | apply below_alloc)))).mono ?_; rintro e w' ⟨rfl, hb⟩; replace HB := Aside0.mk (below_step (by repeat (first | exact HB.out | apply below_alloc)) hb); replace HN := Aside0.mk ((HN.out.below (by repeat (first | exact Below.refl _ _ | apply below_alloc))).below hb); clear hb) | (go_at_call 8; refine (nob_Steps _ _ (HN.out.below (by repeat (first | exact Below.refl _ _ | apply below_alloc)))).mono ?_; rintro e w' ⟨rfl, hb⟩; replace HB := Aside0.mk (below_step (by repeat (first | exact HB.out | apply below_alloc)) hb); replace HN := Aside0.mk ((HN.out.below (by repeat (first | exact Below.refl _ _ | apply below_alloc))).below hb); clear hb))
      go_roundg 1
      case measure => omega
      case rel => exact ⟨1, rfl, rfl, HB⟩
    | k + 3, i, hik => omega


end Go.Proofs.YtonnfbikihfcdaaGreatDoor.PS
