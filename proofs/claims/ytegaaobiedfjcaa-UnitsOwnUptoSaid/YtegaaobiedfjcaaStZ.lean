import Derived.Test.YtegaaobiedfjcaaStW
import Derived.Deep.RegionHeld3
import Derived.Deep.RegionWith
import Derived.BigQuiet
import Derived.Deep.QuietTactic
import Derived.Test.YtegaaobiedfjcaaHStep
namespace Go.Proofs.Ytegaaobiedfjcaa.PU
open Go.RowKit Go.Proofs.YtegaaobiedfjcaaW.PrintWords Go.Proofs.YtegaaobiedfjcaaW.PrintLast Go.Proofs.YtegaaobiedfjcaaW.PrintMore Go.Proofs.YtegaaobiedfjcaaH
set_option linter.unusedVariables false
set_option linter.unusedSimpArgs false
set_option maxHeartbeats 8000000 in
set_option maxRecDepth 100000 in
theorem uown_walk (n : Int) (Ao : Option Addr) (co : Nat) (ops : List (Int × List Int × Int × Int)) (w : World) (hr : Kd.C kOp w Ao ops.length ops) (hlen : ops.length < 1048576) (hcl : ∀ o ∈ ops, o.2.1.length ≤ 4194304) :
    Calls Try.prog 8 #[.agg #[.int .i64 n, .slice Ao ops.length co]] w fun e w' => e = .returned (.bool true) ∧ Below w.heap.size w w' := by
  have HR := Aside0.mk hr
  have HLEN := Aside0.mk hlen
  have HCL := Aside0.mk hcl
  clear hr hcl
  go_enter Try.func8, Try.ntmps8
  go_upto_region 1 with fail
  obtain ⟨w1, hw1⟩ : ∃ w1, w1 = w.alloc (.cells #[.int .i64 n, .slice Ao ops.length co] 63) := ⟨_, rfl⟩
  have hb1 : Below w.heap.size w w1 := by rw [hw1]; exact below_alloc (Below.refl _ _) _
  have hs1 : w1.heap.size = w.heap.size + 1 := by rw [hw1]; simp
  have hB1 : w1.heap[w.heap.size]? = some (.cells #[.int .i64 n, .slice Ao ops.length co] 63 (0, 0)) := by rw [hw1]; exact heap_alloc_new w _
  rw [← hw1]
  clear hw1
  have s0 := blk_cell hB1 0
  go_cut [24] (fun s24 wx => s24 = .bool (decide (n < 0) || decide (262144 < n)) ∧ wx = w1)
  case first =>
    by_cases q1 : n < 0
    · have d1 : decide (n < 0) = true := decide_eq_true q1
      go_wp2_with fail
      go_meet
      exact ⟨by simp [d1], rfl⟩
    · have d1 : decide (n < 0) = false := decide_eq_false q1
      go_wp2_with fail
      go_meet
      exact ⟨by simp [d1], rfl⟩
  case rest =>
    obtain ⟨rfl, rfl⟩ := hcut
    have HB1 := Aside0.mk (And.intro hb1 hs1)
    have HX1 := Aside0.mk hB1
    clear hb1 hs1 hB1
    go_upto_if 24 with fail
    go_cut [] (fun wx => ∃ n' : Int, 0 ≤ n' ∧ n' ≤ 262144 ∧ Aside0 (Below w.heap.size w wx ∧ wx.heap.size = w.heap.size + 1) ∧ Aside0 (wx.heap[w.heap.size]? = some (.cells #[.int .i64 n', .slice Ao ops.length co] 63 (0, 0))))
    case first =>
      by_cases q : n < 0 ∨ 262144 < n
      · have d : (decide (n < 0) || decide (262144 < n)) = true := by simpa using q
        have f0 := blk_frozen HX1.out 0
        go_wp2_with fail
        go_meet
        refine ⟨3, by omega, by omega, ⟨below_set HB1.out.1 (Nat.le_refl _), by simpa using HB1.out.2⟩, ⟨?_⟩⟩
        simpa using blk_set HX1.out 0 (.int .i64 3)
      · have d : (decide (n < 0) || decide (262144 < n)) = false := by simp; omega
        go_wp2_with fail
        go_meet
        exact ⟨n, by omega, by omega, HB1, HX1⟩
    case rest =>
      obtain ⟨n', hn0, hn1, HBc, HXc⟩ := hcut
      clear s0
      have s0 := blk_cell HXc.out 0
      go_upto_region 3 with fail
      obtain ⟨w1, rfl⟩ : ∃ w', w' = wc := ⟨_, rfl⟩
      go_upto_region 4 with (go_at_call 10; refine (st_New n' _ hn0 hn1).mono ?_; rintro e w2 ⟨g, rfl, hst, hb2⟩; have HB2 := Aside0.mk (below_then HBc.out.1 (Nat.le_of_lt (by rw [HBc.out.2]; exact Nat.lt_succ_self _)) hb2); have HX2 := Aside0.mk ((hb2.block _ (blk_lt HXc.out)).trans HXc.out); have HPS0 := Aside0.mk (PS.start hn0 hn1 (by rw [HBc.out.2]; exact Nat.lt_succ_self _) HBc.out.1 hb2 hst); have HLT := Aside0.mk (blk_lt HX2.out); clear hst hb2 s0)
      have s0 := blk_cell HX2.out 0
      go_upto_region 8 with fail
      obtain ⟨w3, hw3⟩ : ∃ w3, w3 = w2.alloc (.cells #[.int .i64 n', .slice none 0 0, .slice none 0 0] 65) := ⟨_, rfl⟩
      have HX3 : Aside0 (w3.heap[w.heap.size]? = some (.cells #[.int .i64 n', .slice Ao ops.length co] 63 (0, 0))) := ⟨by rw [hw3]; exact ((below_alloc (Below.refl w2.heap.size w2) _).block _ (blk_lt HX2.out)).trans HX2.out⟩
      rw [← hw3] at HPS0
      rw [← hw3]
      obtain ⟨Bm, hBm⟩ : ∃ B, B = w2.heap.size := ⟨_, rfl⟩
      rw [← hBm] at HPS0 HLT ⊢
      clear hw3 hBm s0 HX2 HB2 HX1 HB1 HBc HXc
      go_loopg [6] ops.length (fun kq v6 w' => ∃ i : Nat, v6 = .int .i64 (i : Int) ∧ Aside0 (i + kq = ops.length) ∧ Aside0 (∃ ok P vals cls marks cs nn vl vm, PS w w' g Bm i ok P vals cls marks cs nn vl vm) ∧ Aside0 (w'.heap[w.heap.size]? = some (.cells #[.int .i64 n', .slice Ao ops.length co] 63 (0, 0))))
      case atStart => exact ⟨0, rfl, ⟨by omega⟩, ⟨_, _, _, _, _, _, _, _, _, HPS0.out⟩, HX3⟩
      case round =>
        obtain ⟨i, rfl, HIK, HPS, HBS⟩ := hrel
        obtain ⟨ok, P, vals, cls, marks, cs, nn, vl, vm, hps⟩ := HPS.out
        have s1 := blk_cell HBS.out 1
        have HQ := Aside0.mk hps
        clear hps HPS HPS0 HX3
        cases gk with
        | zero =>
          have hi : i = ops.length := by have := HIK.out; omega
          subst hi
          have HB9 := Aside0.mk HQ.out.bel
          go_wp2_with fail
          go_ret
          exact ⟨rfl, HB9.out⟩
        | succ k1 =>
          have hlt : i < ops.length := by have := HIK.out; omega
          have hi0 : (0 : Int) ≤ (i : Int) := by omega
          have hi1 : (i : Int) < (ops.length : Int) := by omega
          obtain ⟨ad, Ac, cc, e, t0, t1, t2, t3, hle, hC⟩ := at_Op HR.out (i : Int) hi0 hi1
          subst e
          have hcl' := HCL.out _ (rdO_mem hlt)
          rw [Int.toNat_natCast] at t0 t1 t2 t3
          obtain ⟨D, hD⟩ : ∃ D, D = (rdO ops (i : Int)).1 := ⟨_, rfl⟩
          obtain ⟨c, hc⟩ : ∃ c, c = (rdO ops (i : Int)).2.1 := ⟨_, rfl⟩
          obtain ⟨lit, hlit⟩ : ∃ lit, lit = (rdO ops (i : Int)).2.2.1 := ⟨_, rfl⟩
          obtain ⟨N, hN⟩ : ∃ N, N = (rdO ops (i : Int)).2.2.2 := ⟨_, rfl⟩
          rw [← hD] at t0
          rw [← hc] at t1 hle hC hcl'
          rw [← hlit] at t2
          rw [← hN] at t3
          have hadl := World.block_lt_of_cell? _ _ t0
          have u0 := (HQ.out.bel.cell hadl).trans t0
          have u1 := (HQ.out.bel.cell (World.block_lt_of_cell? _ _ t1)).trans t1
          have u2 := (HQ.out.bel.cell (World.block_lt_of_cell? _ _ t2)).trans t2
          have u3 := (HQ.out.bel.cell (World.block_lt_of_cell? _ _ t3)).trans t3
          have HCC := Aside0.mk (Kd.C_below hC HQ.out.bel)
          have HCL2 := Aside0.mk (And.intro hle hcl')
          have HAD := Aside0.mk hadl
          clear t0 t1 t2 t3 hle hC hcl' hD hc hlit hN hadl
          go_upto_region 11 with fail
          obtain ⟨wa, hwa⟩ : ∃ w', w' = wr.alloc (.cells #[.int .i64 D, .slice Ac c.length cc, .int .i64 lit, .int .i64 N] 52) := ⟨_, rfl⟩
          have hba : Below wr.heap.size wr wa := by rw [hwa]; exact below_alloc (Below.refl _ _) _
          have hxa : wa.heap[wr.heap.size]? = some (.cells #[.int .i64 D, .slice Ac c.length cc, .int .i64 lit, .int .i64 N] 52 (0, 0)) := by rw [hwa]; exact heap_alloc_new _ _
          rw [← hwa]
          clear hwa
          obtain ⟨bo, hbo⟩ : ∃ b, b = wr.heap.size := ⟨_, rfl⟩
          rw [← hbo] at hxa
          rw [← hbo]
          have HBO := Aside0.mk hbo
          have fo := blk_frozen hxa 1
          have fo1 := blk_cell hxa 1
          have HBA := Aside0.mk hba
          have HXA := Aside0.mk hxa
          clear hbo hba hxa u0 u2 u3
          go_upto_region 12 with fail
          obtain ⟨wb, hwb⟩ : ∃ w', w' = wa.setCell ⟨bo, 1, none⟩ (.slice none 0 0) := ⟨_, rfl⟩
          have hbb : Below wr.heap.size wr wb := by rw [hwb]; exact below_set HBA.out (by rw [HBO.out]; exact Nat.le_refl _)
          have hxb : wb.heap[bo]? = some (.cells #[.int .i64 D, .slice none 0 0, .int .i64 lit, .int .i64 N] 52 (0, 0)) := by rw [hwb]; simpa using blk_set HXA.out 1 (.slice none 0 0)
          rw [← hwb]
          clear hwb fo fo1 s1
          have HBB := Aside0.mk hbb
          have HXB := Aside0.mk hxb
          have o1 := blk_cell hxb 1
          have s1 := blk_cell ((hbb.block _ (blk_lt HBS.out)).trans HBS.out) 1
          have v1 := (hbb.cell (World.block_lt_of_cell? _ _ u1)).trans u1
          have HCB := Aside0.mk (Kd.C_below HCC.out hbb)
          clear hxb hbb u1 HXA HBA
          refine wp_region_noPanic ?_
          refine region_swapN (n := 10) (fun w' => w'.cell? ⟨bo, 1, none⟩ = some (.slice none 0 0) ∧ w'.cell? ⟨w.heap.size, 1, none⟩ = some (.slice (some ad) ops.length co) ∧ w'.cell? ⟨(ad.add (i * 4)).block, (ad.add (i * 4)).off + 1, none⟩ = some (.slice Ac c.length cc)) (by kernel_rfl) rfl rfl rfl rfl (by kernel_rfl) (by kernel_rfl) ?_
          have hHeld0 : (fun w' : World => w'.cell? ⟨bo, 1, none⟩ = some (.slice none 0 0) ∧ w'.cell? ⟨w.heap.size, 1, none⟩ = some (.slice (some ad) ops.length co) ∧ w'.cell? ⟨(ad.add (i * 4)).block, (ad.add (i * 4)).off + 1, none⟩ = some (.slice Ac c.length cc)) wb.drew := by (try dsimp only); go_keep
          simp only [List.setIfInBounds_toArray, List.set_cons_succ, List.set_cons_zero, nopOf]
          refine wpAnyH_take (i := 0) (oi := _) (v := ?_) rfl (by kernel_rfl) (by kernel_rfl) (by kernel_rfl) (fun _ _ _ h => h) (Or.inl ⟨by rfl, ?_⟩) (by assumption) ?_
          rotate_left
          · intro w hSw
            (try dsimp only at hSw)
            first | (go_simp; done) | (go_simp; with_reducible rfl)
          (try simp only [Act.put, List.setIfInBounds_toArray, List.set_cons_zero, List.set_cons_succ])
          refine wpAnyH_take (i := 1) (oi := _) (v := ?_) rfl (by kernel_rfl) (by kernel_rfl) (by kernel_rfl) (fun _ _ _ h => h) (Or.inl ⟨by rfl, ?_⟩) (by assumption) ?_
          rotate_left
          · intro w hSw
            (try dsimp only at hSw)
            first | (go_simp; done) | (go_simp; with_reducible rfl)
          (try simp only [Act.put, List.setIfInBounds_toArray, List.set_cons_zero, List.set_cons_succ])
          refine wpAnyH_take (i := 2) (oi := _) (v := ?_) rfl (by kernel_rfl) (by kernel_rfl) (by kernel_rfl) (fun _ _ _ h => h) (Or.inl ⟨by rfl, ?_⟩) (by assumption) ?_
          rotate_left
          · intro w hSw
            (try dsimp only at hSw)
            first | (go_simp; done) | (go_simp; with_reducible rfl)
          (try simp only [Act.put, List.setIfInBounds_toArray, List.set_cons_zero, List.set_cons_succ])
          refine wpAnyH_take (i := 3) (oi := _) (v := ?_) rfl (by kernel_rfl) (by kernel_rfl) (by kernel_rfl) (fun _ _ _ h => h) (Or.inl ⟨by rfl, ?_⟩) (by assumption) ?_
          rotate_left
          · intro w hSw
            (try dsimp only at hSw)
            first | (go_simp; done) | (go_simp; with_reducible rfl)
          (try simp only [Act.put, List.setIfInBounds_toArray, List.set_cons_zero, List.set_cons_succ])
          refine wpAnyH_take (i := 4) (oi := _) (v := ?_) rfl (by kernel_rfl) (by kernel_rfl) (by kernel_rfl) (fun _ _ _ h => h) (Or.inl ⟨by rfl, ?_⟩) (by assumption) ?_
          rotate_left
          · intro w hSw
            (try dsimp only at hSw)
            first | (go_simp; done) | (go_simp; with_reducible rfl)
          (try simp only [Act.put, List.setIfInBounds_toArray, List.set_cons_zero, List.set_cons_succ])
          refine wpAnyH_take (i := 5) (oi := _) (v := ?_) rfl (by kernel_rfl) (by kernel_rfl) (by kernel_rfl) (fun _ _ _ h => h) (Or.inl ⟨by rfl, ?_⟩) (by assumption) ?_
          rotate_left
          · intro w hSw
            (try dsimp only at hSw)
            first | (go_simp; done) | (go_simp; with_reducible rfl)
          (try simp only [Act.put, List.setIfInBounds_toArray, List.set_cons_zero, List.set_cons_succ])
          refine wpAnyH_take (i := 6) (oi := _) (v := ?_) rfl (by kernel_rfl) (by kernel_rfl) (by kernel_rfl) (fun _ _ _ h => h) (Or.inl ⟨by rfl, ?_⟩) (by assumption) ?_
          rotate_left
          · intro w hSw
            (try dsimp only at hSw)
            first | (go_simp; done) | (go_simp; with_reducible rfl)
          (try simp only [Act.put, List.setIfInBounds_toArray, List.set_cons_zero, List.set_cons_succ])
          refine wpAnyH_take (i := 7) (oi := _) (v := ?_) rfl (by kernel_rfl) (by kernel_rfl) (by kernel_rfl) (fun _ _ _ h => h) (Or.inl ⟨by rfl, ?_⟩) (by assumption) ?_
          rotate_left
          · intro w hSw
            (try dsimp only at hSw)
            first | (go_simp; done) | (go_simp; with_reducible rfl)
          (try simp only [Act.put, List.setIfInBounds_toArray, List.set_cons_zero, List.set_cons_succ])
          refine wpAnyH_ready (rs := [8]) (by kernel_rfl) (by simp) ?_
          refine AllReadyH.cons (o := _) rfl (fun K hK => ?_) AllReadyH.nil
          refine R_append_rows_law (Kd.int .i64) (Rr := (Kd.int .i64).K wb) (w0 := wb) wb.heap.size rfl (.tmp 51) (.tmp 57) 34 3 (.int .i64 0) 8 rfl Try.underlying34 info_int rfl Nat.one_pos (by omega) (.slice none 0 0) ([] : List Int) c Ac c.length cc (fun _ => True) (fun _ => False) (by simp [Act.eval, Act.put]) (by simp [Act.eval, Act.put]) (Kd.R_nil _ _ _ _ _) ?aR (fun _ _ h => h) (fun _ h => h.elim) (fun _ _ => trivial) ?aB ?aS ?aL ?_
          (case aR => exact (by repeat (first | exact HCB.out | refine Kd.C_drewN ?_ _ | refine Kd.C_drew ?_)))
          (case aB => exact (by repeat (first | exact Below.refl _ _ | apply below_drew1 | apply pw_below_drewN)))
          (case aS => exact (by simp))
          (case aL => have := HCL2.out.2; simp only [List.length_nil]; omega)
          intro v5 w5 ho hb5 hg hat
          obtain ⟨A5, c5, rfl⟩ := Kd.R_slice ho
          have ho : Kd.R (Kd.int .i64) 3 w5 wb.heap.size (fun _ => True) (.slice A5 c.length c5) c := ho
          clear hat hg
          have HO5 := Aside0.mk ho
          have HB5 := Aside0.mk hb5
          have o5 := blk_cell ((hb5.block _ (blk_lt HXB.out)).trans HXB.out) 1
          have of5 := blk_frozen ((hb5.block _ (blk_lt HXB.out)).trans HXB.out) 1
          have s5 := (hb5.cell (World.block_lt_of_cell? _ _ s1)).trans s1
          have v5 := (hb5.cell (World.block_lt_of_cell? _ _ v1)).trans v1
          clear ho hb5
          refine hK.out _ _ ?_ (fun hHeld => ?_)
          · (try dsimp only)
            go_keep
          clear hK K
          (try simp only [Act.put, List.setIfInBounds_toArray, List.set_cons_zero, List.set_cons_succ])
          refine wpAnyH_take (i := 9) (oi := _) (v := ?_) rfl (by kernel_rfl) (by kernel_rfl) (by kernel_rfl) (fun _ _ _ h => h) (Or.inl ⟨by rfl, ?_⟩) (by assumption) ?_
          rotate_left
          · intro w hSw
            (try dsimp only at hSw)
            first | (go_simp; done) | (go_simp; with_reducible rfl)
          (try simp only [Act.put, List.setIfInBounds_toArray, List.set_cons_zero, List.set_cons_succ])
          refine wpAnyH_ready (rs := [10]) (by kernel_rfl) (by simp) ?_
          refine AllReadyH.cons (o := _) rfl (fun K hK => ?_) AllReadyH.nil
          go_simp
          refine hK.out _ _ ?_ (fun hHeld => ?_)
          · (try dsimp only)
            go_keep
          clear hK K
          (try simp only [Act.put, List.setIfInBounds_toArray, List.set_cons_zero, List.set_cons_succ])
          refine wpAnyH_done (by kernel_rfl) ?_ _
          show Oper.wp Try.prog _ _ _ _ _
          go_simp
          refine NoPanic.normal ?_
          obtain ⟨wd, hwd⟩ : ∃ w', w' = w5.setCell ⟨bo, 1, none⟩ (.slice A5 c.length c5) := ⟨_, rfl⟩
          have hbd : Below wr.heap.size wr wd := by rw [hwd]; exact below_set (below_step HBB.out HB5.out) (by rw [HBO.out]; exact Nat.le_refl _)
          have hxd : wd.heap[bo]? = some (.cells #[.int .i64 D, .slice A5 c.length c5, .int .i64 lit, .int .i64 N] 52 (0, 0)) := by rw [hwd]; simpa using blk_set ((HB5.out.block _ (blk_lt HXB.out)).trans HXB.out) 1 (.slice A5 c.length c5)
          have hsb : bo < wb.heap.size := blk_lt HXB.out
          have hod := Kd.R_step (Kd.R_bound HO5.out) (w1 := wd) (fun k hk _ => by rw [hwd]; exact Below.heap_setCell w5 ⟨bo, 1, none⟩ _ k (by have := hk.2.1; dsimp only; omega))
          have hwbd : wb.heap.size ≤ wd.heap.size := by rw [hwd]; simpa using HB5.out.size
          rw [← hwd]
          clear hwd s5 v5 of5 o5
          have HOD := Aside0.mk hod
          have HSB := Aside0.mk (And.intro hsb hwbd)
          have HBD := Aside0.mk hbd
          have HXD := Aside0.mk hxd
          have HPL := Aside0.mk (HQ.out.play2W hbd A5 c5 c D lit N (Kd.R_lower hod HBB.out.size) (Kd.R_reads' hod).2.1 HCL2.out.2 (by have := HLEN.out; omega))
          have m0 := blk_cell ((hbd.block _ (blk_lt HQ.out.bm)).trans HQ.out.bm) 0
          have m1 := blk_cell ((hbd.block _ (blk_lt HQ.out.bm)).trans HQ.out.bm) 1
          have m2 := blk_cell ((hbd.block _ (blk_lt HQ.out.bm)).trans HQ.out.bm) 2
          have o0 := blk_cell hxd 0
          have o1 := blk_cell hxd 1
          have o2 := blk_cell hxd 2
          have o3 := blk_cell hxd 3
          have HZX : Aside0 (∀ W6 : World, (∀ o, wd.heap[wr.heap.size]? = some o → W6.heap[wr.heap.size]? = some o) → W6.heap[bo]? = some (.cells #[.int .i64 D, .slice A5 c.length c5, .int .i64 lit, .int .i64 N] 52 (0, 0))) := ⟨fun W6 h => by rw [HBO.out]; exact h _ (by rw [← HBO.out]; exact HXD.out)⟩
          have HBMLT := Aside0.mk (blk_lt HQ.out.bm)
          have HWLT := Aside0.mk (blk_lt HBS.out)
          clear hod hbd hxd hsb hwbd HB5 HO5
          go_upto_region 14 with (go_at_call 30; go_loud (refine HPL.out.mono ?_; rintro e w6 ⟨n6, Al', nl, cl', Am', nm, cm', rfl, hpq, hk6, hz6, hlb, hlw⟩; have HPP := Aside0.mk hpq; have HZ6 := Aside0.mk (HZX.out _ hz6); have HLW := Aside0.mk (And.intro hlb hlw); clear hpq hk6 hz6 hlb hlw m0 m1 m2 o0 o1 o2 o3 HPL HZX))
          obtain ⟨w7, hw7⟩ : ∃ w7, w7 = w6.alloc (.cells #[.int .i64 n6, .slice Al' nl cl', .slice Am' nm cm'] 65) := ⟨_, rfl⟩
          have hR7 : Rest w6 w7 (fun k => k = w6.heap.size) := by rw [hw7]; exact (Rest.refl w6 _).alloc _
          have hz7 : w7.heap[w6.heap.size]? = some (.cells #[.int .i64 n6, .slice Al' nl cl', .slice Am' nm cm'] 65 (0, 0)) := by rw [hw7]; exact heap_alloc_new w6 _
          have HNX := Aside0.mk (HQ.out.nextW HPP.out.1 HPP.out.2 hR7 (Nat.le_trans HPP.out.1.size HPP.out.2.rest.size) (.inr (Nat.le_refl _)))
          have hbx := HQ.out.box HPP.out.1 HPP.out.2
          have hA := (hR7.block Bm hbx.2.2.2 (by have := HLW.out.1; omega)).trans hbx.1
          have hs7 := (hR7.block w.heap.size HLW.out.2 (by have := HLW.out.2; omega)).trans ((hbx.2.1 _ (Nat.le_refl _)).trans ((HPP.out.1.block _ (blk_lt HBS.out)).trans HBS.out))
          have HR7 := Aside0.mk hR7
          have HS7 := Aside0.mk hs7
          have j0 := blk_cell hA 0
          have j1 := blk_cell hA 1
          have j2 := blk_cell hA 2
          have f0 := blk_frozen hA 0
          have f1 := blk_frozen hA 1
          have f2 := blk_frozen hA 2
          have v0 := blk_cell hz7 0
          have v1 := blk_cell hz7 1
          have v2 := blk_cell hz7 2
          rw [← hw7]
          clear hw7 hR7 hz7 hbx hA hs7
          go_upto_region 18 with fail
          obtain ⟨w8, hw8⟩ : ∃ w8, w8 = (((w7.setCell ⟨Bm, 0, none⟩ (.int .i64 n6)).setCell ⟨Bm, 1, none⟩ (.slice Al' nl cl')).setCell ⟨Bm, 2, none⟩ (.slice Am' nm cm')) := ⟨_, rfl⟩
          obtain ⟨ok', P', vals', cls', marks', cs', hnx, hex⟩ := HNX.out
          have HBB2 := Aside0.mk (show Bm < bo ∧ w.heap.size < bo by rw [HBO.out]; exact ⟨HBMLT.out, HWLT.out⟩)
          have hk8 : ∀ k, bo ≤ k → k < wd.heap.size → w8.heap[k]? = wd.heap[k]? := fun k q1 q2 => by
            have h1 := HBO.out
            have h2 := HBMLT.out
            rw [hw8, Below.heap_setCell _ ⟨Bm, 2, none⟩ _ k (by dsimp only; omega), Below.heap_setCell _ ⟨Bm, 1, none⟩ _ k (by dsimp only; omega), Below.heap_setCell _ ⟨Bm, 0, none⟩ _ k (by dsimp only; omega)]
            have h3 := HPP.out.2.rest.size
            exact (HR7.out.block k (by omega) (by omega)).trans (HPP.out.2.rest.block k q2 (fun q => by rcases q with q | q <;> omega))
          have hs8 : w8.heap[w.heap.size]? = some (.cells #[.int .i64 n', .slice (some ad) ops.length co] 63 (0, 0)) := by
            have := HLT.out
            rw [hw8, Below.heap_setCell _ ⟨Bm, 2, none⟩ _ _ (by dsimp only; omega), Below.heap_setCell _ ⟨Bm, 1, none⟩ _ _ (by dsimp only; omega), Below.heap_setCell _ ⟨Bm, 0, none⟩ _ _ (by dsimp only; omega)]; exact HS7.out
          have hexS : ∀ k, (ok' k ∨ P' k) → ¬ (bo < k ∧ k < wd.heap.size) := fun k q z => by
            have h1 := HBO.out
            rcases hex k q with q | q <;> omega
          have hsh : Shp 3 1 (bo + 1) w8 (.slice A5 c.length c5) c.length := Shp.of_own (Kd.own_of_R (Kd.R_step HOD.out (w1 := w8) (fun k hk hlt => hk8 k (by have := HSB.out.1; have := hk.2.1; omega) hlt))) HSB.out.1
          have hg5 : ∀ g2, A5 = some ⟨g2, 0, none⟩ → g2 < wd.heap.size := fun g2 e => by
            have := Shp.of_own (Kd.own_of_R HOD.out) (Nat.le_refl _)
            rw [e] at this
            exact this.lt.2
          have ho8 := (hk8 bo (Nat.le_refl _) (blk_lt HXD.out)).trans HXD.out
          rw [← hw8] at hnx
          rw [← hw8]
          have HP8 := Aside0.mk hnx
          have HE8 := Aside0.mk hexS
          have HS8 := Aside0.mk hs8
          have HO8 := Aside0.mk ho8
          have HSH := Aside0.mk hsh
          have HG5 := Aside0.mk hg5
          clear hnx hex hk8 hs8 hexS hsh hg5 ho8 hw8 HNX HR7 HS7 HPP HZ6 HLW HOD HXD HBD HSB j0 j1 j2 f0 f1 f2 v0 v1 v2 HQ
          obtain ⟨S, hS⟩ : ∃ S : Nat → Prop, S = (fun k => bo < k ∧ k < wd.heap.size) := ⟨_, rfl⟩
          have HSd := Aside0.mk hS
          clear hS
          go_loopg [10] c.length (fun kq v10 w' => ∃ j : Nat, v10 = .int .i64 (j : Int) ∧ Aside0 (j + kq = c.length) ∧ Aside0 (Rest w8 w' S) ∧ Aside0 (Shp 3 1 (bo + 1) w' (.slice A5 c.length c5) c.length))
          case atStart => exact ⟨0, rfl, ⟨by omega⟩, ⟨Rest.refl _ _⟩, HSH⟩
          case round =>
            obtain ⟨j, rfl, HJK, HRS, HSJ⟩ := hrel
            have b1 := blk_cell ((HRS.out.block bo (blk_lt HO8.out) (fun q => by rw [HSd.out] at q; exact Nat.lt_irrefl _ q.1)).trans HO8.out) 1
            have hcl4 : c.length ≤ 4194304 := HCL2.out.2
            cases gk with
            | succ k2 =>
              have hj : j < c.length := by have := HJK.out; omega
              have hj0 : (0 : Int) ≤ (j : Int) := by omega
              have hj1 : (j : Int) < (c.length : Int) := by omega
              obtain ⟨g5, e5⟩ := HSJ.out.at_ (by omega)
              subst e5
              obtain ⟨x5, cx5, fx5⟩ := HSJ.out.cell (j := j) (by omega)
              have HR9 := Aside0.mk (HRS.out.set (p := ⟨g5, j, none⟩) (by rw [HSd.out]; exact ⟨HSJ.out.lt.1, HG5.out g5 rfl⟩) (.int .i64 77))
              have HS9 := Aside0.mk (HSJ.out.forms (Forms.set (bo + 1) wr g5 j (.int .i64 77)))
              go_wp2
              go_roundg k2
              case measure => omega
              case rel => exact ⟨j + 1, by go_num, ⟨by have := HJK.out; omega⟩, HR9, HS9⟩
            | zero =>
              have hj : ¬ ((j : Int) < (c.length : Int)) := by have := HJK.out; omega
              have HP9 := Aside0.mk (HP8.out.spoil HRS.out (fun k q => by rw [HSd.out]; exact HE8.out k (.inl q)) (fun k q => by rw [HSd.out]; exact HE8.out k (.inr q)) (by rw [HSd.out]; have := HBB2.out.1; omega) (fun k q => by rw [HSd.out] at q; have := HBB2.out.2; omega))
              have HS9 := Aside0.mk ((HRS.out.block w.heap.size (blk_lt HS8.out) (by rw [HSd.out]; have := HBB2.out.2; omega)).trans HS8.out)
              obtain ⟨wq, hwq⟩ : ∃ wq, wq = wr := ⟨_, rfl⟩
              rw [← hwq] at HP9 HS9 b1 ⊢
              clear hwq HSJ HRS HP8 HE8 HSH HG5 HSd
              go_upto_region 23 with (go_at_call 19; go_loud (refine HP9.out.clauses.mono ?_; rintro e w9 ⟨Al9, cl9, rfl, hv9, hb9⟩; have HV9 := Aside0.mk hv9; have HB9 := Aside0.mk hb9; clear hv9 hb9))
              have hcsl : cs'.length ≤ 1048576 := HP9.out.inv.len.2.2.2
              have hmsl : marks'.length ≤ 262145 := HP9.out.inv.len.2.2.1
              clear b1
              go_loopg [12] cs'.length (fun kq v12 w' => ∃ q : Nat, v12 = .int .i64 (q : Int) ∧ Aside0 (q + kq = cs'.length) ∧ Aside0 (Below wq.heap.size wq w') ∧ Aside0 (OutA wq.heap.size w' Al9 cs'.length q))
              case atStart => exact ⟨0, rfl, ⟨by omega⟩, HB9, HV9⟩
              case round =>
                obtain ⟨q, rfl, HQK, HBq, HOq⟩ := hrel
                cases gk with
                | succ k2 =>
                  have hq : q < cs'.length := by have := HQK.out; omega
                  have hq0 : (0 : Int) ≤ (q : Int) := by omega
                  have hq1 : (q : Int) < (cs'.length : Int) := by omega
                  obtain ⟨gA, eA, hO⟩ := HOq.out (by omega)
                  subst eA
                  obtain ⟨An, n9, cn, x0, xf, hsh, hn9⟩ := hO.cell hq
                  have hn9 := hn9 (Nat.le_refl _)
                  have HOO := Aside0.mk hO
                  have HSH := Aside0.mk hsh
                  clear hO hsh HOq HV9
                  go_upto_region 26 with fail
                  go_loopg [13] n9 (fun kq v13 w' => ∃ j : Nat, v13 = .int .i64 (j : Int) ∧ Aside0 (j + kq = n9) ∧ Aside0 (Below wq.heap.size wq w') ∧ Aside0 (Out wq.heap.size w' gA cs'.length q) ∧ w'.cell? ⟨gA, q, none⟩ = some (.slice An n9 cn) ∧ Aside0 (Shp 3 1 wq.heap.size w' (.slice An n9 cn) n9))
                  case atStart => exact ⟨0, rfl, ⟨by omega⟩, HBq, HOO, x0, HSH⟩
                  case round =>
                    obtain ⟨j, rfl, HJK, HBj, HOj, y0, HSj⟩ := hrel
                    cases gk with
                    | succ k3 =>
                      have hj : j < n9 := by have := HJK.out; omega
                      have hj0 : (0 : Int) ≤ (j : Int) := by omega
                      have hj1 : (j : Int) < (n9 : Int) := by omega
                      obtain ⟨h5, e5⟩ := HSj.out.at_ (by omega)
                      subst e5
                      obtain ⟨x5, cx5, fx5⟩ := HSj.out.cell (j := j) (by omega)
                      have HB2 := Aside0.mk (below_set (j := j) (v := .int .i64 78) HBj.out HSj.out.lt.1)
                      have HO2 := Aside0.mk (HOj.out.stored (j := j) HSj.out (.int .i64 78))
                      have hc2 := (HOj.out.kept (j := j) HSj.out (.int .i64 78) q).trans y0
                      have HS2 := Aside0.mk (HSj.out.forms (Forms.set wq.heap.size wr h5 j (.int .i64 78)))
                      clear HSH HOO HBq
                      go_wp2
                      go_roundg k3
                      case measure => omega
                      case rel => exact ⟨j + 1, by go_num, ⟨by have := HJK.out; omega⟩, HB2, HO2, hc2, HS2⟩
                    | zero =>
                      have hj : ¬ ((j : Int) < (n9 : Int)) := by have := HJK.out; omega
                      have HGE := Aside0.mk HBj.out.size
                      clear HSH HOO HBq x0 xf
                      go_wp2_with (at_builtin; go_loud (refine shp_append8 [.int .i64 1, .int .i64 2, .int .i64 3, .int .i64 4, .int .i64 5, .int .i64 6, .int .i64 7, .int .i64 8] rfl (by decide) HSj.out rfl (.tmp 109) (.tmp 110) rfl rfl rfl hn9 HGE.out ?_; intro A8 c8 w8 h1 h2 h3 h4; obtain ⟨cur, hcur, _⟩ := HOj.out.o; have hbl := h4 gA _ cur hcur (by decide); have fz := blk_frozen (hbl.trans hcur) q; have y1 := (World.cell?_of_block (a := ⟨gA, q, none⟩) hbl).trans y0; have HO3 := Aside0.mk (HOj.out.grown hq h2 hbl h1); have HB3 := Aside0.mk (below_set (j := q) (v := .slice A8 (n9 + 8) c8) (below_tr HBj.out h3) HOj.out.ge); clear h1 h2 h3 h4 hcur hbl y0))
                      go_roundg k2
                      case measure => omega
                      case rel => exact ⟨q + 1, by go_num, ⟨by have := HQK.out; omega⟩, HB3, ⟨fun _ => ⟨gA, rfl, HO3.out⟩⟩⟩
                | zero =>
                  have hq : ¬ ((q : Int) < (cs'.length : Int)) := by have := HQK.out; omega
                  have HP10 := Aside0.mk (HP9.out.below HBq.out)
                  have HS10 := Aside0.mk ((HBq.out.block _ (blk_lt HS9.out)).trans HS9.out)
                  obtain ⟨wm, hwm⟩ : ∃ wm, wm = wr := ⟨_, rfl⟩
                  rw [← hwm] at HP10 HS10 ⊢
                  clear hwm HOq HBq HP9 HS9 HV9 HB9
                  go_upto_region 32 with (go_at_call 20; go_loud (refine HP10.out.tells.mono ?_; rintro e w10 ⟨Am9, cm9, rfl, hv9, hb9⟩; obtain ⟨in9, ho9⟩ := Kd.R_own hv9; have HV9 : Aside0 (Shp 48 3 wm.heap.size w10 (.slice Am9 marks'.length cm9) marks'.length) := ⟨Shp.of_own ho9 (Nat.le_refl _)⟩; have HB9 := Aside0.mk hb9; clear hv9 ho9 hb9))
                  go_loopg [15] marks'.length (fun kq v15 w' => ∃ q : Nat, v15 = .int .i64 (q : Int) ∧ Aside0 (q + kq = marks'.length) ∧ Aside0 (Below wm.heap.size wm w') ∧ Aside0 (Shp 48 3 wm.heap.size w' (.slice Am9 marks'.length cm9) marks'.length))
                  case atStart => exact ⟨0, rfl, ⟨by omega⟩, HB9, HV9⟩
                  case round =>
                    obtain ⟨q, rfl, HQK, HBq, HOq⟩ := hrel
                    cases gk with
                    | succ k2 =>
                      have hq : q < marks'.length := by have := HQK.out; omega
                      have hq0 : (0 : Int) ≤ (q : Int) := by omega
                      have hq1 : (q : Int) < (marks'.length : Int) := by omega
                      obtain ⟨h5, e5⟩ := HOq.out.at_ (by omega)
                      subst e5
                      obtain ⟨x5, cx5, fx5⟩ := HOq.out.cell (j := q * 3) (by omega)
                      have HB2 := Aside0.mk (below_set (j := q * 3) (v := .int .i64 79) HBq.out HOq.out.lt.1)
                      have HS2 := Aside0.mk (HOq.out.forms (Forms.set wm.heap.size wr h5 (q * 3) (.int .i64 79)))
                      clear HV9 HB9
                      go_wp2
                      go_roundg k2
                      case measure => omega
                      case rel => exact ⟨q + 1, by go_num, ⟨by have := HQK.out; omega⟩, HB2, HS2⟩
                    | zero =>
                      have hq : ¬ ((q : Int) < (marks'.length : Int)) := by have := HQK.out; omega
                      have HP11 := Aside0.mk (HP10.out.below HBq.out).bound
                      have HS11 := Aside0.mk ((HBq.out.block _ (blk_lt HS10.out)).trans HS10.out)
                      obtain ⟨wn, hwn⟩ : ∃ wn, wn = wr := ⟨_, rfl⟩
                      rw [← hwn] at HP11 HS11 ⊢
                      clear hwn HOq HBq HP10 HS10 HV9 HB9
                      go_upto_region 37 with (first | (go_at_call 20; go_loud (refine HP11.out.tells.mono ?_; rintro e w11 ⟨Am9, cm9, rfl, hv9, hb9⟩; have HV9 := Aside0.mk (Kd.R_reads' hv9); have HB9 := Aside0.mk hb9; have HSZ := Aside0.mk hb9.size; clear hv9 hb9)) | (at_builtin; go_loud (refine Kd.R_append_rows k48 (Rr := k48.K w11) (w0 := wn) wn.heap.size rfl (.tmp 125) (.tmp 127) 38 48 (.agg #[(.int .i64 0), (.int .i64 0), (.int .i64 0)]) 24 rfl Try.underlying38 info_mark rfl (by decide) (by omega) (.slice none 0 0) ([] : List S48) marks' Am9 marks'.length cm9 (fun _ => True) (fun _ => False) rfl rfl (Kd.R_nil _ _ _ _ _) HV9.out.2.2 (fun _ _ h => h) (fun _ h => h.elim) (fun _ _ => trivial) HB9.out HSZ.out (by simp; omega) ?_; intro v1 w12 ho hb hg hat; obtain ⟨A12, c12, rfl⟩ := Kd.R_slice ho; have HO12 := Aside0.mk ho; have HB12 := Aside0.mk hb; clear ho hb hg hat)))
                      have HP12 := Aside0.mk (HP11.out.below HB12.out)
                      have HS12 := Aside0.mk ((HB12.out.block _ (blk_lt HS11.out)).trans HS11.out)
                      have m0 := blk_cell HP12.out.bm 0
                      have m1 := blk_cell HP12.out.bm 1
                      have m2 := blk_cell HP12.out.bm 2
                      have mf := blk_frozen HP12.out.bm 2
                      go_upto_region 38 with fail
                      have hlt1 : w.heap.size < wn.heap.size := blk_lt HS11.out
                      have hlt2 : Bm < wn.heap.size := blk_lt HP11.out.bm
                      obtain ⟨P9, hP9, _⟩ := HP12.out.kept HO12.out hlt1 hlt2 (fun k q => q.2) (fun k q => q.2)
                      have HNE := Aside0.mk (Nat.ne_of_lt HLT.out)
                      obtain ⟨w13, hw13⟩ : ∃ w', w' = w12.setCell ⟨Bm, 2, none⟩ (.slice A12 marks'.length c12) := ⟨_, rfl⟩
                      have hs13 : w13.heap[w.heap.size]? = some (.cells #[.int .i64 n', .slice (some ad) ops.length co] 63 (0, 0)) := by rw [hw13, Below.heap_setCell _ ⟨Bm, 2, none⟩ _ _ HNE.out]; exact HS12.out
                      have hP9 : PS w w13 g Bm (i + 1) (fun k => ok' k ∧ k < wn.heap.size) P9 vals' cls' marks' cs' n6 (.slice Al' nl cl') (.slice A12 marks'.length c12) := by rw [hw13]; exact hP9
                      have HP13 := Aside0.mk hP9
                      have HS13 := Aside0.mk hs13
                      clear m0 m1 m2 mf
                      have m0 := blk_cell hP9.bm 0
                      have m1 := blk_cell hP9.bm 1
                      have m2 := blk_cell hP9.bm 2
                      (try dsimp only)
                      first | (rw [← hw13]) | skip
                      clear hw13 hs13 hP9 HP11 HP12 HS11 HS12 HO12 HB12
                      go_wp2_with (first | (go_at_call 31; go_loud (refine (HP13.out.is (Below.refl _ _)).mono ?_; rintro e w14 ⟨rfl, hb14⟩; have HB14 := Aside0.mk hb14; have m0 := (hb14.cell (World.block_lt_of_cell? _ _ m0)).trans m0; have m1 := (hb14.cell (World.block_lt_of_cell? _ _ m1)).trans m1; have m2 := (hb14.cell (World.block_lt_of_cell? _ _ m2)).trans m2; clear hb14)) | (go_at_call 32; go_loud (refine (HP13.out.may HB14.out).mono ?_; rintro e w15 ⟨rfl, hb15⟩; have HP15 := Aside0.mk (HP13.out.below (below_step HB14.out hb15)); have HS15 := Aside0.mk (((below_step HB14.out hb15).block _ (blk_lt HS13.out)).trans HS13.out); clear hb15)))
                      go_roundg k1
                      case measure => omega
                      case rel => exact ⟨i + 1, by go_num, ⟨by have := HIK.out; omega⟩, ⟨_, _, _, _, _, _, _, _, _, HP15.out⟩, HS15⟩

end Go.Proofs.Ytegaaobiedfjcaa.PU
