import Derived.Test.YtocmldppefjbgaaHp13
import Derived.Test.YtocmldppefjbgaaPHPx6
import Derived.BigQuiet
import Derived.Deep.QuietTactic
namespace Go.Proofs.Ytocmldppefjbgaa.PHP
open Go.RowKit Go.Proofs.YtocmldppefjbgaaW.PrintWords Go.Proofs.YtocmldppefjbgaaW.PrintLast Go.Proofs.YtocmldppefjbgaaW.PrintMore Go.Proofs.YtocmldppefjbgaaH
set_option linter.unusedVariables false
set_option linter.unusedSimpArgs false
/-! ### HeapFinite -/
theorem ge0 {x : Nat} (hx : x < inf) : (FloatKind.f64.format.order x 0 == some Ordering.gt || FloatKind.f64.format.order x 0 == some Ordering.eq) = true := by
  have e : FloatKind.f64.format.order x 0 = some (compareOfLessAndEq x 0) := order_words hx (by decide)
  rw [e]
  unfold compareOfLessAndEq
  by_cases h : x = 0
  · simp [h]
  · simp [h]
theorem gt0 {x : Nat} (hx : x < inf) (h0 : 0 < x) : (FloatKind.f64.format.order x 0 == some Ordering.gt) = true := by
  have e : FloatKind.f64.format.order x 0 = some (compareOfLessAndEq x 0) := order_words hx (by decide)
  rw [e]
  unfold compareOfLessAndEq
  have h1 : ¬ x = 0 := by omega
  simp [h1]
theorem le_great {x : Nat} (hx : x ≤ great) : (FloatKind.f64.format.order x 6103021453049119613 == some Ordering.lt || FloatKind.f64.format.order x 6103021453049119613 == some Ordering.eq) = true := by
  have e : FloatKind.f64.format.order x 6103021453049119613 = some (compareOfLessAndEq x great) := order_words (Nat.lt_of_le_of_lt hx great_inf) great_inf
  rw [e]
  unfold compareOfLessAndEq
  by_cases h1 : x < great
  · simp [h1]
  · have : x = great := by omega
    simp [this]
set_option maxRecDepth 100000 in
set_option maxHeartbeats 8000000 in
theorem hl_finite (n : Int) (A : Option Addr) (c : Nat) (xs : List (Int × Int × Int)) (w : World) (hC : Kd.C kAct w A xs.length xs) (hl : xs.length ≤ 4194304) : Calls Try.prog 6 #[.int .i64 n, .slice A xs.length c] w fun e w' => e = .returned (.bool true) ∧ Below w.heap.size w w' := by
  by_cases h0 : n < 0
  · clear hC
    go_enter Try.func6, Try.ntmps6
    go_wp2_with (first
      | (go_at_call 19; go_loud (refine (hl_play_low n A c xs.length w h0).mono ?_; rintro e w1 ⟨rfl, rfl⟩))
      | (go_at_call 14; go_loud (refine (hl_lives w).mono ?_; rintro e w1 ⟨rfl, hb⟩; have H1 := Aside0.mk hb; clear hb)))
    go_ret
    exact ⟨rfl, H1.out⟩
  by_cases h1 : 1048576 < n
  · clear hC
    have d0 : decide (n < 0) = false := decide_eq_false h0
    go_enter Try.func6, Try.ntmps6
    go_wp2_with (first
      | (go_at_call 19; go_loud (refine (hl_play_high n A c xs.length w h1).mono ?_; rintro e w1 ⟨rfl, rfl⟩))
      | (go_at_call 14; go_loud (refine (hl_lives w).mono ?_; rintro e w1 ⟨rfl, hb⟩; have H1 := Aside0.mk hb; clear hb)))
    go_ret
    exact ⟨rfl, H1.out⟩
  obtain ⟨m, rfl⟩ := Int.eq_ofNat_of_zero_le (show 0 ≤ n by omega)
  have hm : m ≤ 1048576 := by omega
  have HM := Aside0.mk hm
  have HC := Aside0.mk hC
  have HL := Aside0.mk hl
  have d0 : decide ((m : Int) < 0) = false := decide_eq_false h0
  have d1 : decide (1048576 < (m : Int)) = false := decide_eq_false h1
  have d2 : ¬ (1048576 < m) := by omega
  clear h0 h1 hm hC hl
  go_enter Try.func6, Try.ntmps6
  go_upto_region 7 with (first
      | (go_at_call 19; go_loud (refine (hl_play m A c xs w HM.out HC.out HL.out).mono ?_; rintro e w1 ⟨g, l, sc, st, rfl, hs, hb⟩; have H1 := Aside0.mk (And.intro hs hb); clear hs hb))
      | (go_at_call 14; go_loud (refine (hl_lives w1).mono ?_; rintro e w2 ⟨rfl, hb⟩; have H2 := Aside0.mk (And.intro (H1.out.1.below hb) (below_step H1.out.2 hb)); clear hb)))
  go_loopg [6, 7, 8] m (fun kq v6 v7 v8 w' => ∃ j : Nat, v6 = .int .i64 (j : Int) ∧ Aside0 (j + kq = m) ∧ w2 = w')
  case atStart => exact ⟨0, rfl, ⟨by omega⟩, rfl⟩
  case round =>
    obtain ⟨j, rfl, HJK, rfl⟩ := hrel
    have hm : m ≤ 1048576 := HM.out
    cases gk with
    | zero =>
      have hj : ¬ ((j : Int) < (m : Int)) := by have := HJK.out; omega
      have g1 := gt0 (Nat.lt_of_le_of_lt H2.out.1.st1 great_inf) (Nat.lt_of_lt_of_le (by decide +kernel) H2.out.1.st0)
      have g2 := le_great H2.out.1.st1
      go_wp2_with (first
        | (go_at_call 17; go_loud (refine (hs_Size H2.out.1).mono ?_; rintro e w4 ⟨rfl, rfl⟩))
        | (go_at_call 23; go_loud (refine (hs_Step H2.out.1).mono ?_; rintro e w4 ⟨rfl, rfl⟩)))
      go_ret
      exact ⟨rfl, H2.out.2⟩
    | succ k2 =>
      have hj : (j : Int) < (m : Int) := by have := HJK.out; omega
      have hj0 : (0 : Int) ≤ (j : Int) := by omega
      have HJJ := Aside0.mk (And.intro hj0 hj)
      have hsx : gW sc (j : Int) ≤ great := by
        unfold gW
        rw [Int.toNat_natCast, List.getD_eq_getElem?_getD]
        cases e : sc[j]? with
        | none => exact Nat.zero_le _
        | some x => exact H2.out.1.sc x (List.mem_of_getElem? e)
      have g1 := ge0 (Nat.lt_of_le_of_lt hsx great_inf)
      have g2 := le_great hsx
      obtain ⟨x, hx⟩ : ∃ x, x = gW sc (j : Int) := ⟨_, rfl⟩
      have HX := Aside0.mk hx
      rw [← hx] at g1 g2
      clear hsx hx
      go_wp2_with (first
        | (go_at_call 17; go_loud (refine (hs_Size H2.out.1).mono ?_; rintro e w4 ⟨rfl, rfl⟩))
        | (go_at_call 22; go_loud (refine (hs_Score (j : Int) H2.out.1 HJJ.out.1 HJJ.out.2).mono ?_; rw [← HX.out]; rintro e w4 ⟨rfl, rfl⟩)))
      go_roundg k2
      case measure => omega
      case rel => exact ⟨j + 1, by go_num, ⟨by have := HJK.out; omega⟩, rfl⟩

end Go.Proofs.Ytocmldppefjbgaa.PHP
