import Derived.Test.YtocmldppefjbgaaHp12
import Derived.Test.YtocmldppefjbgaaPHPx6
import Derived.BigQuiet
import Derived.Deep.QuietTactic
namespace Go.Proofs.Ytocmldppefjbgaa.PHP
open Go.RowKit Go.Proofs.YtocmldppefjbgaaW.PrintWords Go.Proofs.YtocmldppefjbgaaW.PrintLast Go.Proofs.YtocmldppefjbgaaW.PrintMore Go.Proofs.YtocmldppefjbgaaH
set_option linter.unusedVariables false
set_option linter.unusedSimpArgs false
/-! ### play -/
def kAct : Kd (Int × Int × Int) := Kd.pair (Kd.int .i64) (Kd.pair (Kd.int .i64) (Kd.int .i64))
theorem at_Act {w : World} {A : Option Addr} {xs : List (Int × Int × Int)} (h : Kd.C kAct w A xs.length xs) (i : Nat) (h1 : i < xs.length) : ∃ ad K V T, A = some ad ∧ w.cell? (ad.add (i * 3)) = some (.int .i64 K) ∧ w.cell? ⟨(ad.add (i * 3)).block, (ad.add (i * 3)).off + 1, none⟩ = some (.int .i64 V) ∧ w.cell? ⟨(ad.add (i * 3)).block, (ad.add (i * 3)).off + 2, none⟩ = some (.int .i64 T) := by
  obtain ⟨ad, c, e, _, hK, hc0⟩ := Kd.C_get h (0, 0, 0) (i : Int) (by omega) (by omega)
  rw [Int.toNat_natCast] at hc0
  have hc : ∀ j u, c[j]? = some u → w.cell? (ad.add (i * 3 + j)) = some u := hc0
  obtain ⟨_, _, e1, e2, ⟨_, _, e3, e4, e5⟩⟩ := hK
  subst e2 e4 e5
  subst e3
  subst e1
  exact ⟨ad, _, _, _, e, hc 0 _ rfl, by rw [← add_field _ _ 1 (by omega)]; exact hc 1 _ rfl, by rw [← add_field _ _ 2 (by omega)]; exact hc 2 _ rfl⟩
structure PI (w wi : World) (bq : Nat) (K V T : Int) (g n : Nat) : Prop where
  hs : ∃ l sc st, HS wi (fun k => w.heap.size ≤ k ∧ k ≠ bq) g n l sc st
  bel : Below w.heap.size w wi
  box : wi.heap[bq]? = some (.cells #[.int .i64 K, .int .i64 V, .int .i64 T] 82 (0, 0))
theorem PI.step {w wi w2 : World} {bq : Nat} {K V T : Int} {g n : Nat} {l : List Int} {sc : List Nat} {st : Nat} (h : PI w wi bq K V T g n) (hs : HS w2 (fun k => (w.heap.size ≤ k ∧ k ≠ bq) ∨ wi.heap.size ≤ k) g n l sc st) (hr : Rest wi w2 (fun k => w.heap.size ≤ k ∧ k ≠ bq)) : PI w w2 bq K V T g n :=
  ⟨⟨l, sc, st, hs.mono (fun k q => q.elim id (fun q => ⟨Nat.le_trans h.bel.size q, by have := blk_lt h.box; omega⟩))⟩, hr.below h.bel (fun _ q => q.1), (hr.block bq (blk_lt h.box) (fun q => q.2 rfl)).trans h.box⟩
theorem PI.step1 {w wi w2 : World} {bq : Nat} {K V T : Int} {g n : Nat} {l : List Int} {sc : List Nat} {st : Nat} (h : PI w wi bq K V T g n) (hs : HS w2 (fun k => w.heap.size ≤ k ∧ k ≠ bq) g n l sc st) (hr : Rest wi w2 (fun k => w.heap.size ≤ k ∧ k ≠ bq)) : PI w w2 bq K V T g n :=
  h.step (hs.mono (fun k q => .inl q)) hr
theorem PI.below {w wi w2 : World} {bq : Nat} {K V T : Int} {g n : Nat} (h : PI w wi bq K V T g n) (hb : Below wi.heap.size wi w2) : PI w w2 bq K V T g n := by
  obtain ⟨l, sc, st, hs⟩ := h.hs
  exact ⟨⟨l, sc, st, hs.below hb⟩, below_step h.bel hb, (hb.block _ (blk_lt h.box)).trans h.box⟩
theorem PI.fin {w wi : World} {bq : Nat} {K V T : Int} {g n : Nat} (h : PI w wi bq K V T g n) : ∃ l sc st, HS wi (fun k => w.heap.size ≤ k) g n l sc st := by
  obtain ⟨l, sc, st, hs⟩ := h.hs
  exact ⟨l, sc, st, hs.mono (fun k q => q.1)⟩
theorem hs_Bump {w : World} {ok : Nat → Prop} {g n : Nat} {l : List Int} {sc : List Nat} {st : Nat} (v : Int) (h : HS w ok g n l sc st) : Calls Try.prog 40 #[.pointer (some ⟨g, 0, none⟩), .int .i64 v] w fun e w' => ∃ r l' sc' st', e = .returned (.int .i64 r) ∧ HS w' (fun k => ok k ∨ w.heap.size ≤ k) g n l' sc' st' ∧ Rest w w' ok := by
  by_cases hv : 0 ≤ v ∧ v < (n : Int)
  · refine (hs_Bump_in v h hv).mono ?_
    rintro e w' ⟨l', sc', st', rfl, a1, a2, a3, a4⟩
    exact ⟨_, l', sc', st', rfl, a1, a3⟩
  · refine (hs_Bump_no v h hv).mono ?_
    rintro e w' ⟨rfl, rfl⟩
    exact ⟨_, l, sc, st, rfl, h.mono (fun k q => .inl q), Rest.refl _ _⟩
theorem hs_PushR {w : World} {ok : Nat → Prop} {g n : Nat} {l : List Int} {sc : List Nat} {st : Nat} (v : Int) (h : HS w ok g n l sc st) : Calls Try.prog 39 #[.pointer (some ⟨g, 0, none⟩), .int .i64 v] w fun e w' => ∃ r l', e = .returned (.int .i64 r) ∧ HS w' (fun k => ok k ∨ w.heap.size ≤ k) g n l' sc st ∧ Rest w w' ok := by
  refine (hs_Push v h).mono ?_
  rintro e w' ⟨l', rfl, a1, a2, a3⟩
  exact ⟨_, l', rfl, a1, a3⟩
theorem hs_PopR {w : World} {ok : Nat → Prop} {g n : Nat} {l : List Int} {sc : List Nat} {st : Nat} (h : HS w ok g n l sc st) : Calls Try.prog 25 #[.pointer (some ⟨g, 0, none⟩)] w fun e w' => ∃ r s l', e = .returned (.tuple #[.int .i64 r, .int .i64 s]) ∧ HS w' ok g n l' sc st ∧ Rest w w' ok := by
  by_cases h0 : l = []
  · subst h0
    refine (hs_Pop_no h).mono ?_
    rintro e w' ⟨rfl, rfl⟩
    exact ⟨_, _, [], rfl, h, Rest.refl _ _⟩
  · refine (hs_Pop h (List.length_pos_iff.2 h0)).mono ?_
    rintro e w' ⟨l', rfl, a1, a2, a3, a4⟩
    exact ⟨_, _, l', rfl, a1, a4⟩
theorem hl_play_low (n : Int) (A : Option Addr) (c m : Nat) (w : World) (h0 : n < 0) : Calls Try.prog 19 #[.int .i64 n, .slice A m c] w fun e w' => e = .returned (.pointer none) ∧ w = w' := by
  go_enter Try.func19, Try.ntmps19
  go_wp2_with (go_at_call 15; go_loud (refine (hs_New_low n w h0).mono ?_; rintro e w2 ⟨rfl, rfl⟩))
  go_ret
  exact ⟨rfl, rfl⟩
theorem hl_play_high (n : Int) (A : Option Addr) (c m : Nat) (w : World) (h0 : 1048576 < n) : Calls Try.prog 19 #[.int .i64 n, .slice A m c] w fun e w' => e = .returned (.pointer none) ∧ w = w' := by
  go_enter Try.func19, Try.ntmps19
  go_wp2_with (go_at_call 15; go_loud (refine (hs_New_high n w h0).mono ?_; rintro e w2 ⟨rfl, rfl⟩))
  go_ret
  exact ⟨rfl, rfl⟩
set_option maxRecDepth 100000 in
set_option maxHeartbeats 8000000 in
theorem hl_play (n : Nat) (A : Option Addr) (c : Nat) (xs : List (Int × Int × Int)) (w : World) (h0 : n ≤ 1048576) (hC : Kd.C kAct w A xs.length xs) (hl : xs.length ≤ 4194304) : Calls Try.prog 19 #[.int .i64 (n : Int), .slice A xs.length c] w fun e w' => ∃ g l sc st, e = .returned (.pointer (some ⟨g, 0, none⟩)) ∧ HS w' (fun k => w.heap.size ≤ k) g n l sc st ∧ Below w.heap.size w w' := by
  have HC := Aside0.mk hC
  have HN := Aside0.mk h0
  have HL := Aside0.mk hl
  clear hC h0 hl
  go_enter Try.func19, Try.ntmps19
  go_upto_region 5 with (go_at_call 15; go_loud (refine (hs_New n w HN.out).mono ?_; rintro e w2 ⟨g, rfl, hs, hb⟩; have H2 := Aside0.mk (And.intro hs hb); clear hs hb))
  go_loopg [7, 8] xs.length (fun kq v7 v8 w' => ∃ i : Nat, v7 = .int .i64 (i : Int) ∧ Aside0 (i + kq = xs.length) ∧ Aside0 (∃ l sc st, HS w' (fun k => w.heap.size ≤ k) g n l sc st) ∧ Aside0 (Below w.heap.size w w'))
  case atStart => exact ⟨0, rfl, ⟨by omega⟩, ⟨_, _, _, H2.out.1⟩, ⟨H2.out.2⟩⟩
  case round =>
    obtain ⟨i, rfl, HIK, HJ, HB⟩ := hrel
    clear H2
    cases gk with
    | zero =>
      have hi : ¬ ((i : Int) < (xs.length : Int)) := by have := HIK.out; omega
      go_wp2
      go_ret
      obtain ⟨l, sc, st, hs⟩ := HJ.out
      exact ⟨g, rfl, ⟨l, sc, st, hs⟩, HB.out⟩
    | succ k1 =>
      have hlt : i < xs.length := by have := HIK.out; omega
      have hi0 : (0 : Int) ≤ (i : Int) := by omega
      have hi1 : (i : Int) < (xs.length : Int) := by omega
      have hlen : xs.length ≤ 4194304 := HL.out
      obtain ⟨ad, K, V, T, rfl, t0, t1, t2⟩ := at_Act HC.out i hlt
      have u0 := (HB.out.cell (World.block_lt_of_cell? _ _ t0)).trans t0
      have u1 := (HB.out.cell (World.block_lt_of_cell? _ _ t1)).trans t1
      have u2 := (HB.out.cell (World.block_lt_of_cell? _ _ t2)).trans t2
      clear t0 t1 t2
      have HQ : Aside0 (PI w (wr.alloc (.cells #[.int .i64 K, .int .i64 V, .int .i64 T] 82)) wr.heap.size K V T g n) := ⟨by
        obtain ⟨l, sc, st, hs⟩ := HJ.out
        exact ⟨⟨l, sc, st, (hs.bound.below (below_alloc (Below.refl _ _) _)).mono (fun k q => ⟨q.1, Nat.ne_of_lt q.2⟩)⟩, below_alloc HB.out _, heap_alloc_new _ _⟩⟩
      go_upto_region 8 with fail
      obtain ⟨w1, hw1⟩ : ∃ w', w' = wr.alloc (.cells #[.int .i64 K, .int .i64 V, .int .i64 T] 82) := ⟨_, rfl⟩
      obtain ⟨bq, hbq⟩ : ∃ b, b = wr.heap.size := ⟨_, rfl⟩
      rw [← hw1, ← hbq] at HQ
      rw [← hw1, ← hbq]
      clear hw1 hbq u0 u1 u2 HJ HB
      have b0 := blk_cell HQ.out.box 0
      have b1 := blk_cell HQ.out.box 1
      by_cases k0 : K = 0
      · subst k0
        go_wp2_with (go_at_call 39; go_loud (obtain ⟨l, sc, st, hs⟩ := HQ.out.hs; refine (hs_PushR V hs).mono ?_; rintro e w3 ⟨r, l', rfl, a1, a2⟩; have HQ3 := Aside0.mk (HQ.out.step a1 a2); clear a1 a2 hs))
        go_roundg k1
        case measure => omega
        case rel => exact ⟨i + 1, by go_num, ⟨by have := HIK.out; omega⟩, ⟨HQ3.out.fin⟩, ⟨HQ3.out.bel⟩⟩
      by_cases k1' : K = 1
      · subst k1'
        go_wp2_with (go_at_call 25; go_loud (obtain ⟨l, sc, st, hs⟩ := HQ.out.hs; refine (hs_PopR hs).mono ?_; rintro e w3 ⟨r, s, l', rfl, a1, a2⟩; have HQ3 := Aside0.mk (HQ.out.step1 a1 a2); clear a1 a2 hs))
        go_roundg k1
        case measure => omega
        case rel => exact ⟨i + 1, by go_num, ⟨by have := HIK.out; omega⟩, ⟨HQ3.out.fin⟩, ⟨HQ3.out.bel⟩⟩
      by_cases k2' : K = 2
      · subst k2'
        clear k0 k1'
        go_upto_region 15 with fail
        clear b0 b1
        go_loopg [9] 10000 (fun kq v9 w' => ∃ j : Nat, v9 = .int .i64 (j : Int) ∧ Aside0 (j + kq = 10000) ∧ Aside0 (PI w w' bq 2 V T g n))
        case atStart => exact ⟨0, rfl, ⟨by omega⟩, HQ⟩
        case round =>
          obtain ⟨j, rfl, HJK, HP⟩ := hrel
          clear HQ
          have b0 := blk_cell HP.out.box 0
          have b1 := blk_cell HP.out.box 1
          have b2 := blk_cell HP.out.box 2
          by_cases q : (j : Int) < T.tmod 10000
          · have hlt2 := Int.tmod_lt_of_pos T (show (0 : Int) < 10000 by omega)
            obtain ⟨k2, rfl⟩ : ∃ k2, gk = k2 + 1 := ⟨gk - 1, by have := HJK.out; omega⟩
            have hj : j ≤ 10000 := by have := HJK.out; omega
            clear hlt2
            go_wp2_with (first | (go_at_call 42; go_loud (refine (fulcrumlaw19_times.calls 2 V T (T.tmod 10000) _ rfl).mono ?_; rintro e w4 ⟨rfl, hb4⟩; have HP4 := Aside0.mk (HP.out.below hb4); have b1 := blk_cell HP4.out.box 1; clear hb4)) | (go_at_call 40; go_loud (obtain ⟨l, sc, st, hs⟩ := HP4.out.hs; refine (hs_Bump V hs).mono ?_; rintro e w5 ⟨r, l', sc', st', rfl, a1, a2⟩; have HP5 := Aside0.mk (HP4.out.step a1 a2); clear a1 a2 hs)))
            go_roundg k2
            case measure => omega
            case rel => exact ⟨j + 1, by go_num, ⟨by have := HJK.out; omega⟩, HP5⟩
          · go_wp2_with (first | (go_at_call 42; go_loud (refine (fulcrumlaw19_times.calls 2 V T (T.tmod 10000) _ rfl).mono ?_; rintro e w4 ⟨rfl, hb4⟩; have HP4 := Aside0.mk (HP.out.below hb4); clear hb4)))
            go_roundg k1
            case measure => omega
            case rel => exact ⟨i + 1, by go_num, ⟨by have := HIK.out; omega⟩, ⟨HP4.out.fin⟩, ⟨HP4.out.bel⟩⟩
      by_cases k3' : K = 3
      · subst k3'
        clear k0 k1' k2'
        go_upto_region 20 with fail
        clear b0 b1
        go_loopg [10] 10000 (fun kq v9 w' => ∃ j : Nat, v9 = .int .i64 (j : Int) ∧ Aside0 (j + kq = 10000) ∧ Aside0 (PI w w' bq 3 V T g n))
        case atStart => exact ⟨0, rfl, ⟨by omega⟩, HQ⟩
        case round =>
          obtain ⟨j, rfl, HJK, HP⟩ := hrel
          clear HQ
          have b0 := blk_cell HP.out.box 0
          have b1 := blk_cell HP.out.box 1
          have b2 := blk_cell HP.out.box 2
          by_cases q : (j : Int) < T.tmod 10000
          · have hlt2 := Int.tmod_lt_of_pos T (show (0 : Int) < 10000 by omega)
            obtain ⟨k2, rfl⟩ : ∃ k2, gk = k2 + 1 := ⟨gk - 1, by have := HJK.out; omega⟩
            have hj : j ≤ 10000 := by have := HJK.out; omega
            clear hlt2
            go_wp2_with (first | (go_at_call 42; go_loud (refine (fulcrumlaw19_times.calls 3 V T (T.tmod 10000) _ rfl).mono ?_; rintro e w4 ⟨rfl, hb4⟩; have HP4 := Aside0.mk (HP.out.below hb4); have b1 := blk_cell HP4.out.box 1; clear hb4)) | (go_at_call 43; go_loud (obtain ⟨l, sc, st, hs⟩ := HP4.out.hs; refine (hs_Decay hs).mono ?_; rintro e w5 ⟨l', sc', st', rfl, a1, a2, a3⟩; have HP5 := Aside0.mk (HP4.out.step a1 a3); clear a1 a2 a3 hs)))
            go_roundg k2
            case measure => omega
            case rel => exact ⟨j + 1, by go_num, ⟨by have := HJK.out; omega⟩, HP5⟩
          · go_wp2_with (first | (go_at_call 42; go_loud (refine (fulcrumlaw19_times.calls 3 V T (T.tmod 10000) _ rfl).mono ?_; rintro e w4 ⟨rfl, hb4⟩; have HP4 := Aside0.mk (HP.out.below hb4); clear hb4)))
            go_roundg k1
            case measure => omega
            case rel => exact ⟨i + 1, by go_num, ⟨by have := HIK.out; omega⟩, ⟨HP4.out.fin⟩, ⟨HP4.out.bel⟩⟩
      have d0 : (K = 0) = False := by simp [k0]
      have d1 : (K = 1) = False := by simp [k1']
      have d2 : (K = 2) = False := by simp [k2']
      have d3 : (K = 3) = False := by simp [k3']
      go_wp2_with fail
      go_roundg k1
      case measure => omega
      case rel => exact ⟨i + 1, by go_num, ⟨by have := HIK.out; omega⟩, ⟨HQ.out.fin⟩, ⟨HQ.out.bel⟩⟩

end Go.Proofs.Ytocmldppefjbgaa.PHP
