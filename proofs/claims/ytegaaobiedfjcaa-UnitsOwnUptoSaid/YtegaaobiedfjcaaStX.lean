import Derived.Test.YtegaaobiedfjcaaStV
import Derived.Deep.RegionHeld3
import Derived.Deep.RegionWith
import Derived.BigQuiet
import Derived.Deep.QuietTactic
import Derived.Test.YtegaaobiedfjcaaHStep
namespace Go.Proofs.Ytegaaobiedfjcaa.PU
open Go.RowKit Go.Proofs.YtegaaobiedfjcaaW.PrintWords Go.Proofs.YtegaaobiedfjcaaW.PrintLast Go.Proofs.YtegaaobiedfjcaaW.PrintMore Go.Proofs.YtegaaobiedfjcaaH
set_option linter.unusedVariables false
set_option linter.unusedSimpArgs false
def kOp : Kd (Int × List Int × Int × Int) := Kd.pair (Kd.int .i64) (Kd.pair (Kd.slice 3 (Kd.int .i64)) (Kd.pair (Kd.int .i64) (Kd.int .i64)))
def rdO (xs : List (Int × List Int × Int × Int)) (i : Int) : Int × List Int × Int × Int := xs.getD i.toNat (0, [], 0, 0)
theorem rdO_mem {l : List (Int × List Int × Int × Int)} {i : Nat} (h : i < l.length) : rdO l (i : Int) ∈ l := by
  unfold rdO
  rw [Int.toNat_natCast, List.getD_eq_getElem?_getD, List.getElem?_eq_getElem h]
  exact List.getElem_mem h
theorem at_Op {w : World} {A : Option Addr} {n : Nat} {xs : List (Int × List Int × Int × Int)} (h : Kd.C kOp w A n xs) (i : Int) (h0 : 0 ≤ i) (h1 : i < n) : ∃ ad Ac cc, A = some ad ∧ w.cell? (ad.add (i.toNat * 4)) = some (.int .i64 (rdO xs i).1) ∧ w.cell? ⟨(ad.add (i.toNat * 4)).block, (ad.add (i.toNat * 4)).off + 1, none⟩ = some (.slice Ac (rdO xs i).2.1.length cc) ∧ w.cell? ⟨(ad.add (i.toNat * 4)).block, (ad.add (i.toNat * 4)).off + 2, none⟩ = some (.int .i64 (rdO xs i).2.2.1) ∧ w.cell? ⟨(ad.add (i.toNat * 4)).block, (ad.add (i.toNat * 4)).off + 3, none⟩ = some (.int .i64 (rdO xs i).2.2.2) ∧ (rdO xs i).2.1.length ≤ cc ∧ Kd.C (Kd.int .i64) w Ac (rdO xs i).2.1.length (rdO xs i).2.1 := by
  obtain ⟨ad, c, e, _, hK, hc0⟩ := Kd.C_get h (0, [], 0, 0) i h0 h1
  have hc : ∀ j u, c[j]? = some u → w.cell? (ad.add (i.toNat * 4 + j)) = some u := hc0
  obtain ⟨_, _, e1, e2, ⟨_, _, e3, ⟨Ac, cc, e4, hl, hC⟩, ⟨_, _, e5, e6, e7⟩⟩⟩ := hK
  subst e2 e4 e6 e7
  subst e5
  subst e3
  subst e1
  exact ⟨ad, Ac, cc, e, hc 0 _ rfl, by rw [← add_field _ _ 1 (by omega)]; exact hc 1 _ rfl, by rw [← add_field _ _ 2 (by omega)]; exact hc 2 _ rfl, by rw [← add_field _ _ 3 (by omega)]; exact hc 3 _ rfl, hl, hC⟩
set_option maxHeartbeats 8000000 in
set_option maxRecDepth 100000 in
theorem plays_walk (n : Int) (Ao : Option Addr) (co : Nat) (ops : List (Int × List Int × Int × Int)) (w : World) (hr : Kd.C kOp w Ao ops.length ops) (hlen : ops.length < 1048576) (hcl : ∀ o ∈ ops, o.2.1.length ≤ 4194304) :
    Calls Try.prog 7 #[.agg #[.int .i64 n, .slice Ao ops.length co]] w fun e w' => e = .returned (.bool true) ∧ Below w.heap.size w w' := by
  have HR := Aside0.mk hr
  have HLEN := Aside0.mk hlen
  have HCL := Aside0.mk hcl
  have hpp : ∀ W : World, (binOp .eql 22 (.pointer none) (.pointer none)).run Try.prog W = .ok (.bool true) W := fun W => by kernel_rfl
  clear hr hcl
  by_cases q1 : n < 0
  · obtain ⟨k, hk⟩ := refLoad0 n
    rw [if_pos q1] at hk
    have HK := Aside0.mk hk
    clear hk
    have d1 : decide (n < 0) = true := decide_eq_true q1
    go_enter Try.func7, Try.ntmps7
    go_wp2_with (first | (go_at_call 10; refine (st_New_low n _ q1).mono ?_; rintro e w' ⟨rfl, rfl⟩) | (go_at_call 11; refine (fulcrumref20_Load.calls k n none 0 [] none 0 [] 1 _ (Kd.C_nil _ _) (Nat.le_refl _) (Kd.C_nil _ _) (Nat.le_refl _) HK.out).mono ?_; rintro e w2 ⟨rfl, hb⟩; have HB2 := Aside0.mk (below_step (below_alloc (Below.refl w.heap.size w) _) hb); clear hb))
    go_ret
    exact ⟨rfl, HB2.out⟩
  by_cases q2 : 262144 < n
  · obtain ⟨k, hk⟩ := refLoad0 n
    rw [if_neg q1, if_pos q2] at hk
    have HK := Aside0.mk hk
    clear hk
    have d1 : decide (n < 0) = false := decide_eq_false q1
    have d2 : decide (262144 < n) = true := decide_eq_true q2
    go_enter Try.func7, Try.ntmps7
    go_wp2_with (first | (go_at_call 10; refine (st_New_high n _ q2).mono ?_; rintro e w' ⟨rfl, rfl⟩) | (go_at_call 11; refine (fulcrumref20_Load.calls k n none 0 [] none 0 [] 2 _ (Kd.C_nil _ _) (Nat.le_refl _) (Kd.C_nil _ _) (Nat.le_refl _) HK.out).mono ?_; rintro e w2 ⟨rfl, hb⟩; have HB2 := Aside0.mk (below_step (below_alloc (Below.refl w.heap.size w) _) hb); clear hb))
    go_ret
    exact ⟨rfl, HB2.out⟩
  have d1 : decide (n < 0) = false := decide_eq_false q1
  have d2 : decide (262144 < n) = false := decide_eq_false q2
  have hn0 : 0 ≤ n := by omega
  have hn1 : n ≤ 262144 := by omega
  clear q1 q2
  go_enter Try.func7, Try.ntmps7
  go_wp2_with fail
  obtain ⟨w1, hw1⟩ : ∃ w1, w1 = w.alloc (.cells #[.int .i64 n, .slice Ao ops.length co] 63) := ⟨_, rfl⟩
  have hb1 : Below w.heap.size w w1 := by rw [hw1]; exact below_alloc (Below.refl _ _) _
  have hs1 : w1.heap.size = w.heap.size + 1 := by rw [hw1]; simp
  have hB1 : w1.heap[w.heap.size]? = some (.cells #[.int .i64 n, .slice Ao ops.length co] 63 (0, 0)) := by rw [hw1]; exact heap_alloc_new w _
  rw [← hw1]
  clear hw1
  refine (st_New n w1 hn0 hn1).mono ?_
  rintro e w2 ⟨g, rfl, hst, hb2⟩
  have hB2 := (hb2.block w.heap.size (by omega)).trans hB1
  have HPS0 := Aside0.mk (PS.start hn0 hn1 (by omega) hb1 hb2 hst)
  have HB2' : Aside0 (∀ o, (w2.alloc o).heap[w.heap.size]? = some (.cells #[.int .i64 n, .slice Ao ops.length co] 63 (0, 0))) := ⟨fun o => ((below_alloc (Below.refl w2.heap.size w2) o).block _ (blk_lt hB2)).trans hB2⟩
  have s0 := blk_cell hB2 0
  have s1 := blk_cell hB2 1
  have hb2lt : w.heap.size < w2.heap.size := blk_lt hB2
  have HLT := Aside0.mk hb2lt
  clear hst hb2 hb1 hs1 hB1 hB2 hb2lt
  go_wp2
  obtain ⟨w3, hw3⟩ : ∃ w3, w3 = w2.alloc (.cells #[.int .i64 n, .slice none 0 0, .slice none 0 0] 65) := ⟨_, rfl⟩
  have HB3 : Aside0 (w3.heap[w.heap.size]? = some (.cells #[.int .i64 n, .slice Ao ops.length co] 63 (0, 0))) := ⟨by rw [hw3]; exact HB2'.out _⟩
  rw [← hw3] at HPS0
  rw [← hw3]
  clear hw3 s0 s1
  go_loopg [6, 7, 8] ops.length (fun kq v6 v7 v8 w' => ∃ i : Nat, v6 = .int .i64 (i : Int) ∧ Aside0 (i + kq = ops.length) ∧ Aside0 (∃ ok P vals cls marks cs nn vl vm, PS w w' g w2.heap.size i ok P vals cls marks cs nn vl vm) ∧ Aside0 (w'.heap[w.heap.size]? = some (.cells #[.int .i64 n, .slice Ao ops.length co] 63 (0, 0))))
  case atStart => exact ⟨0, rfl, ⟨by omega⟩, ⟨_, _, _, _, _, _, _, _, _, HPS0.out⟩, HB3⟩
  case round =>
    obtain ⟨i, rfl, HIK, HPS, HBS⟩ := hrel
    obtain ⟨ok, P, vals, cls, marks, cs, nn, vl, vm, hps⟩ := HPS.out
    have s0 := blk_cell HBS.out 0
    have s1 := blk_cell HBS.out 1
    have m0 := blk_cell hps.bm 0
    have m1 := blk_cell hps.bm 1
    have m2 := blk_cell hps.bm 2
    have HQ := Aside0.mk hps
    clear hps HPS HPS0 HB3 HB2'
    cases gk with
    | succ k1 =>
      have hlt : i < ops.length := by have := HIK.out; omega
      have hi0 : (0 : Int) ≤ (i : Int) := by omega
      have hi1 : (i : Int) < (ops.length : Int) := by omega
      obtain ⟨ad, Ac, cc, e, t0, t1, t2, t3, hle, hC⟩ := at_Op HR.out (i : Int) hi0 hi1
      subst e
      have hcl' := HCL.out _ (rdO_mem hlt)
      rw [Int.toNat_natCast] at t0 t1 t2 t3
      obtain ⟨D, hD⟩ : ∃ D, D = (rdO ops (i : Int)).1 := ⟨_, rfl⟩
      obtain ⟨c, hc⟩ : ∃ c, c = (rdO ops (i : Int)).2.1 := ⟨_, rfl⟩
      obtain ⟨lit, hlit⟩ : ∃ lit, lit = (rdO ops (i : Int)).2.2.1 := ⟨_, rfl⟩
      obtain ⟨N, hN⟩ : ∃ N, N = (rdO ops (i : Int)).2.2.2 := ⟨_, rfl⟩
      rw [← hD] at t0
      rw [← hc] at t1 hle hC hcl'
      rw [← hlit] at t2
      rw [← hN] at t3
      have u0 := (HQ.out.bel.cell (World.block_lt_of_cell? _ _ t0)).trans t0
      have u1 := (HQ.out.bel.cell (World.block_lt_of_cell? _ _ t1)).trans t1
      have u2 := (HQ.out.bel.cell (World.block_lt_of_cell? _ _ t2)).trans t2
      have u3 := (HQ.out.bel.cell (World.block_lt_of_cell? _ _ t3)).trans t3
      have HPL : Aside0 (∀ W, Below wr.heap.size wr W → _) := ⟨fun W hW => HQ.out.play2 hW Ac cc c D lit N hC hle hcl' (by have := HLEN.out; omega)⟩
      clear t1 t2 t3 hle hC hcl' hD hc hlit hN
      go_wp2_with fail
      have hbmlt : w2.heap.size < wr.heap.size := blk_lt HQ.out.bm
      have hwlt : w.heap.size < wr.heap.size := blk_lt HBS.out
      have kB : ∀ (a : Nat) (o : Obj) (p : Addr), KeepP w.heap.size w2.heap.size p → ((wr.drewN a).alloc o).cell? p = wr.cell? p := fun a o => HQ.out.keep (fun k q => (below_alloc (pw_below_drewN (Below.refl wr.heap.size wr) a) o).block k (by omega))
      have kk0 : KeepP w.heap.size w2.heap.size ⟨w.heap.size, 1, none⟩ := .inl (Nat.le_refl _)
      have kk1 : KeepP w.heap.size w2.heap.size ⟨w2.heap.size, 0, none⟩ := .inr rfl
      have kk2 : KeepP w.heap.size w2.heap.size ⟨w2.heap.size, 1, none⟩ := .inr rfl
      have kk3 : KeepP w.heap.size w2.heap.size ⟨w2.heap.size, 2, none⟩ := .inr rfl
      have hadl := Nat.le_of_lt (World.block_lt_of_cell? _ _ t0)
      have kk4 : KeepP w.heap.size w2.heap.size (ad.add (i * 4)) := .inl hadl
      have kk5 : KeepP w.heap.size w2.heap.size ⟨(ad.add (i * 4)).block, (ad.add (i * 4)).off + 1, none⟩ := .inl hadl
      have kk6 : KeepP w.heap.size w2.heap.size ⟨(ad.add (i * 4)).block, (ad.add (i * 4)).off + 2, none⟩ := .inl hadl
      have kk7 : KeepP w.heap.size w2.heap.size ⟨(ad.add (i * 4)).block, (ad.add (i * 4)).off + 3, none⟩ := .inl hadl
      have HLT2 := Aside0.mk (And.intro hbmlt hwlt)
      clear t0 hadl hbmlt hwlt
      go_region_held3 (fun w' => ∀ p, KeepP w.heap.size w2.heap.size p → w'.cell? p = wr.cell? p) (first | assumption | exact kB _ _ | exact kD _ | exact kF _ _ _ _ _ _ | exact fun _ _ => rfl | go_keep)
        (first
          | (go_at_call 30; refine (HPL.out _ (by repeat (first | exact Below.refl _ _ | apply below_drew1 | apply pw_below_drewN | apply below_alloc))).mono ?_; rintro e w6 ⟨n', Al', nl, cl', Am', nm, cm', rfl, hpq, hk6, hz6, hlb, hlw⟩; have kD : ∀ (o : Obj) (p : Addr), KeepP w.heap.size w2.heap.size p → (w6.alloc o).cell? p = wr.cell? p := fun o p q => (World.cell?_of_block ((below_alloc (Below.refl w6.heap.size w6) o).block p.block (by rcases q with q | q <;> omega))).trans (hk6 p q); have kF : ∀ (k1 k2 k3 : Nat) (u1 u2 u3 : Value) (p : Addr), KeepP w.heap.size w2.heap.size p → (((w6.setCell ⟨wr.heap.size, k1, none⟩ u1).setCell ⟨wr.heap.size, k2, none⟩ u2).setCell ⟨wr.heap.size, k3, none⟩ u3).cell? p = wr.cell? p := fun k1 k2 k3 u1 u2 u3 p q => (World.cell?_of_block (by have := HLT2.out; rw [Below.heap_setCell _ ⟨wr.heap.size, k3, none⟩ _ p.block (by rcases q with q | q <;> (dsimp only; omega)), Below.heap_setCell _ ⟨wr.heap.size, k2, none⟩ _ p.block (by rcases q with q | q <;> (dsimp only; omega)), Below.heap_setCell _ ⟨wr.heap.size, k1, none⟩ _ p.block (by rcases q with q | q <;> (dsimp only; omega))])).trans (hk6 p q); first | (have hz := hz6 _ (heap_alloc_new _ _); have k0 := blk_cell hz 0; have k1 := blk_cell hz 1; have k2 := blk_cell hz 2; have kf0 := blk_frozen hz 0; have kf1 := blk_frozen hz 1; have kf2 := blk_frozen hz 2; have HZ := Aside0.mk hz; have HPP := Aside0.mk hpq; clear hpq hz6 hz) | (have HPP := Aside0.mk hpq; clear hpq hz6)))
      · obtain ⟨w7, hw7⟩ : ∃ w7, w7 = w6.alloc (.cells #[.int .i64 n', .slice Al' nl cl', .slice Am' nm cm'] 65) := ⟨_, rfl⟩
        have hR7 : Rest w6 w7 (fun k => k = w6.heap.size) := by rw [hw7]; exact (Rest.refl w6 _).alloc _
        have hz7 : w7.heap[w6.heap.size]? = some (.cells #[.int .i64 n', .slice Al' nl cl', .slice Am' nm cm'] 65 (0, 0)) := by rw [hw7]; exact heap_alloc_new w6 _
        have HNX := Aside0.mk (HQ.out.next HPP.out.1 HPP.out.2 hR7 (Nat.le_trans HPP.out.1.size HPP.out.2.rest.size) (.inr (Nat.le_refl _)))
        have hbx := HQ.out.box HPP.out.1 HPP.out.2
        have hA := (hR7.block w2.heap.size hbx.2.2.2 (by have := HLT2.out; omega)).trans hbx.1
        have hs7 := (hR7.block w.heap.size hlw (by have := HLT2.out; omega)).trans ((hbx.2.1 _ (Nat.le_refl _)).trans ((HPP.out.1.block _ (blk_lt HBS.out)).trans HBS.out))
        have j0 := blk_cell hA 0
        have j1 := blk_cell hA 1
        have j2 := blk_cell hA 2
        have f0 := blk_frozen hA 0
        have f1 := blk_frozen hA 1
        have f2 := blk_frozen hA 2
        have v0 := blk_cell hz7 0
        have v1 := blk_cell hz7 1
        have v2 := blk_cell hz7 2
        have HS7 := Aside0.mk hs7
        have HNE := Aside0.mk (Nat.ne_of_lt HLT.out)
        rw [← hw7]
        clear hw7 hR7 hz7 hbx hA hs7 hk6 kD kF kB kk0 kk1 kk2 kk3 kk4 kk5 kk6 kk7 hlb hlw u0 u1 u2 u3 m0 m1 m2 s0 s1
        go_wp2_with fail
        obtain ⟨w8, hw8⟩ : ∃ w8, w8 = (((w7.setCell ⟨w2.heap.size, 0, none⟩ (.int .i64 n')).setCell ⟨w2.heap.size, 1, none⟩ (.slice Al' nl cl')).setCell ⟨w2.heap.size, 2, none⟩ (.slice Am' nm cm')) := ⟨_, rfl⟩
        obtain ⟨ok', P', vals', cls', marks', cs', hnx⟩ := HNX.out
        have hs8 : w8.heap[w.heap.size]? = some (.cells #[.int .i64 n, .slice (some ad) ops.length co] 63 (0, 0)) := by
          rw [hw8, Below.heap_setCell _ ⟨w2.heap.size, 2, none⟩ _ _ HNE.out, Below.heap_setCell _ ⟨w2.heap.size, 1, none⟩ _ _ HNE.out, Below.heap_setCell _ ⟨w2.heap.size, 0, none⟩ _ _ HNE.out]; exact HS7.out
        rw [← hw8] at hnx
        rw [← hw8]
        refine (hnx.is (Below.refl _ _)).mono ?_
        rintro e w9 ⟨rfl, hb9⟩
        have HN9 := Aside0.mk (hnx.below hb9)
        have HS9 := Aside0.mk ((hb9.block _ (blk_lt hs8)).trans hs8)
        clear hnx hs8 hw8 hb9 j0 j1 j2 f0 f1 f2 v0 v1 v2
        go_wp2
        go_roundg k1
        case measure => omega
        case rel => exact ⟨i + 1, by go_num, ⟨by have := HIK.out; omega⟩, ⟨_, _, _, _, _, _, _, _, _, HN9.out⟩, HS9⟩
      · obtain ⟨w7, hw7⟩ : ∃ w7, w7 = (((w6.setCell ⟨wr.heap.size, 0, none⟩ (.int .i64 n')).setCell ⟨wr.heap.size, 1, none⟩ (.slice Al' nl cl')).setCell ⟨wr.heap.size, 2, none⟩ (.slice Am' nm cm')) := ⟨_, rfl⟩
        have hR7 : Rest w6 w7 (fun k => k = wr.heap.size) := by rw [hw7]; exact Rest.set (p := ⟨wr.heap.size, 2, none⟩) (Rest.set (p := ⟨wr.heap.size, 1, none⟩) (Rest.set (p := ⟨wr.heap.size, 0, none⟩) (Rest.refl w6 (fun k => k = wr.heap.size)) rfl _) rfl _) rfl _
        have hz7 : w7.heap[wr.heap.size]? = some (.cells #[.int .i64 n', .slice Al' nl cl', .slice Am' nm cm'] 65 (0, 0)) := by rw [hw7]; exact (blk_set (blk_set (blk_set HZ.out 0 _) 1 _) 2 _)
        have HNX := Aside0.mk (HQ.out.next HPP.out.1 HPP.out.2 hR7 (Nat.le_refl _) (.inl (by show wr.heap.size < (wr.alloc _).heap.size; simp)))
        have hbx := HQ.out.box HPP.out.1 HPP.out.2
        have hA := (hR7.block w2.heap.size hbx.2.2.2 (by have := HLT2.out; omega)).trans hbx.1
        have hs7 := (hR7.block w.heap.size hlw (by have := HLT2.out; omega)).trans ((hbx.2.1 _ (Nat.le_refl _)).trans ((HPP.out.1.block _ (blk_lt HBS.out)).trans HBS.out))
        have j0 := blk_cell hA 0
        have j1 := blk_cell hA 1
        have j2 := blk_cell hA 2
        have f0 := blk_frozen hA 0
        have f1 := blk_frozen hA 1
        have f2 := blk_frozen hA 2
        have v0 := blk_cell hz7 0
        have v1 := blk_cell hz7 1
        have v2 := blk_cell hz7 2
        have HS7 := Aside0.mk hs7
        have HNE := Aside0.mk (Nat.ne_of_lt HLT.out)
        rw [← hw7]
        clear k0 k1 k2 kf0 kf1 kf2 hw7 hR7 hz7 hbx hA hs7 hk6 kD kF kB kk0 kk1 kk2 kk3 kk4 kk5 kk6 kk7 hlb hlw u0 u1 u2 u3 m0 m1 m2 s0 s1
        go_wp2_with fail
        obtain ⟨w8, hw8⟩ : ∃ w8, w8 = (((w7.setCell ⟨w2.heap.size, 0, none⟩ (.int .i64 n')).setCell ⟨w2.heap.size, 1, none⟩ (.slice Al' nl cl')).setCell ⟨w2.heap.size, 2, none⟩ (.slice Am' nm cm')) := ⟨_, rfl⟩
        obtain ⟨ok', P', vals', cls', marks', cs', hnx⟩ := HNX.out
        have hs8 : w8.heap[w.heap.size]? = some (.cells #[.int .i64 n, .slice (some ad) ops.length co] 63 (0, 0)) := by
          rw [hw8, Below.heap_setCell _ ⟨w2.heap.size, 2, none⟩ _ _ HNE.out, Below.heap_setCell _ ⟨w2.heap.size, 1, none⟩ _ _ HNE.out, Below.heap_setCell _ ⟨w2.heap.size, 0, none⟩ _ _ HNE.out]; exact HS7.out
        rw [← hw8] at hnx
        rw [← hw8]
        refine (hnx.is (Below.refl _ _)).mono ?_
        rintro e w9 ⟨rfl, hb9⟩
        have HN9 := Aside0.mk (hnx.below hb9)
        have HS9 := Aside0.mk ((hb9.block _ (blk_lt hs8)).trans hs8)
        clear hnx hs8 hw8 hb9 j0 j1 j2 f0 f1 f2 v0 v1 v2
        go_wp2
        go_roundg k1
        case measure => omega
        case rel => exact ⟨i + 1, by go_num, ⟨by have := HIK.out; omega⟩, ⟨_, _, _, _, _, _, _, _, _, HN9.out⟩, HS9⟩
    | zero =>
      obtain rfl : i = ops.length := by have := HIK.out; omega
      go_wp2_with fail
      refine (HQ.out.is (Below.refl _ _)).mono ?_
      rintro e w9 ⟨rfl, hb9⟩
      have HB9 := Aside0.mk (below_step HQ.out.bel hb9)
      clear hb9
      go_wp2
      go_ret
      exact ⟨rfl, HB9.out⟩

end Go.Proofs.Ytegaaobiedfjcaa.PU
