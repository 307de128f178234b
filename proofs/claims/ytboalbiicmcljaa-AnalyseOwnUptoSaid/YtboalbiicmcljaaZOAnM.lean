import Derived.Test.YtboalbiicmcljaaZOAnL
import Derived.StillTailTactics
import Derived.Deep.QuietTactic
import Derived.BigQuiet
import Derived.Deep.RegionHeld3
namespace Go.Proofs.Ytboalbiicmcljaa.PAN
open Go.RowKit Go.Proofs.YtboalbiicmcljaaW.PrintWords Go.Proofs.YtboalbiicmcljaaW.PrintLast Go.Proofs.YtboalbiicmcljaaW.PrintMore Go.Proofs.YtboalbiicmcljaaH
set_option linter.unusedVariables false
set_option linter.unusedSimpArgs false
theorem box2 (w : World) (o1 o2 : Obj) : ((w.alloc o1).alloc o2).heap[w.heap.size]? = some o1 ∧ ((w.alloc o1).alloc o2).heap[w.heap.size + 1]? = some o2 := by
  refine ⟨((below_alloc (Below.refl (w.alloc o1).heap.size (w.alloc o1)) o2).block w.heap.size (by simp)).trans (heap_alloc_new w o1), ?_⟩
  have := heap_alloc_new (w.alloc o1) o2
  simpa using this
theorem res_setG {w W : World} {rb : Nat} (hrb : w.heap.size ≤ rb) {u0 u1 u2 v0 v2 : Value} {b : Int} {cl chn : List Int} (hb : Below w.heap.size w W) (hr : W.heap[rb]? = some (.cells #[u0, u1, u2] 30 (0, 0)))
    (r0 : Kd.R (Kd.int .i64) 3 W w.heap.size (fun k => some k ≠ v2.ownBlock) v0 cl) (r2 : Kd.R (Kd.int .i64) 3 W w.heap.size (fun k => some k ≠ v0.ownBlock) v2 chn) :
    (((W.setCell ⟨rb, 0, none⟩ v0).setCell ⟨rb, 1, none⟩ (.int .i64 b)).setCell ⟨rb, 2, none⟩ v2).heap[rb]? = some (.cells #[v0, .int .i64 b, v2] 30 (0, 0)) ∧
    Kd.R (Kd.int .i64) 3 (((W.setCell ⟨rb, 0, none⟩ v0).setCell ⟨rb, 1, none⟩ (.int .i64 b)).setCell ⟨rb, 2, none⟩ v2) w.heap.size (fun k => some k ≠ v2.ownBlock) v0 cl ∧
    Kd.R (Kd.int .i64) 3 (((W.setCell ⟨rb, 0, none⟩ v0).setCell ⟨rb, 1, none⟩ (.int .i64 b)).setCell ⟨rb, 2, none⟩ v2) w.heap.size (fun k => some k ≠ v0.ownBlock) v2 chn ∧
    Below w.heap.size w (((W.setCell ⟨rb, 0, none⟩ v0).setCell ⟨rb, 1, none⟩ (.int .i64 b)).setCell ⟨rb, 2, none⟩ v2) := by
  have hb0 := blk_set hr 0 v0
  have hb1 := blk_set hb0 1 (.int .i64 b)
  have hb2 := blk_set hb1 2 v2
  have hn : ∀ q, q ∈ 3 :: (Kd.int .i64).E → q ≠ 30 := by simp [Kd.int, Kd.scalar]
  exact ⟨by simpa using hb2, Kd.R_set (Kd.R_set (Kd.R_set r0 hr hn 0 _) hb0 hn 1 _) hb1 hn 2 _, Kd.R_set (Kd.R_set (Kd.R_set r2 hr hn 0 _) hb0 hn 1 _) hb1 hn 2 _, below_set (below_set (below_set hb hrb) hrb) hrb⟩
theorem less_no {w W : World} {c : Int} (hb : Below w.heap.size w W) (hr : W.heap[w.heap.size + 1]? = some (.cells #[.slice none 0 0, .int .i64 0, .slice none 0 0] 30 (0, 0))) (r : List Int × Int × List Int × Int) (hr' : r = ([], 0, [], c)) :
    (((W.setCell ⟨w.heap.size + 1, 0, none⟩ (.slice none 0 0)).setCell ⟨w.heap.size + 1, 1, none⟩ (.int .i64 0)).setCell ⟨w.heap.size + 1, 2, none⟩ (.slice none 0 0)).heap[w.heap.size + 1]? = some (.cells #[.slice none 0 0, .int .i64 0, .slice none 0 0] 30 (0, 0)) ∧
    FirstPost w r (.returned (.tuple #[.agg #[.slice none 0 0, .int .i64 0, .slice none 0 0], .int .i64 c])) (((W.setCell ⟨w.heap.size + 1, 0, none⟩ (.slice none 0 0)).setCell ⟨w.heap.size + 1, 1, none⟩ (.int .i64 0)).setCell ⟨w.heap.size + 1, 2, none⟩ (.slice none 0 0)) := by
  subst hr'
  have h := res_setG (rb := w.heap.size + 1) (by omega) (v0 := .slice none 0 0) (v2 := .slice none 0 0) (b := 0) (cl := []) (chn := []) hb hr (Kd.R_nil _ _ _ _ _) (Kd.R_nil _ _ _ _ _)
  exact ⟨h.1, _, _, rfl, h.2.1, h.2.2.1, h.2.2.2⟩
structure LesB (w : World) (A2 A3 : Option Addr) (n2 c2 n3 c3 : Nat) (back : Int) (W : World) : Prop where
  b : Below w.heap.size w W
  box : W.heap[w.heap.size]? = some (.cells #[.slice A2 n2 c2, .int .i64 back, .slice A3 n3 c3] 30 (0, 0))
  res : W.heap[w.heap.size + 1]? = some (.cells #[.slice none 0 0, .int .i64 0, .slice none 0 0] 30 (0, 0))
theorem LesB.step {w w2 W : World} {A2 A3 : Option Addr} {n2 c2 n3 c3 : Nat} {back : Int} (h : LesB w A2 A3 n2 c2 n3 c3 back w2) (hb : Below w2.heap.size w2 W) : LesB w A2 A3 n2 c2 n3 c3 back W :=
  ⟨below_then h.b h.b.size hb, (hb.block _ (blk_lt h.box)).trans h.box, (hb.block _ (blk_lt h.res)).trans h.res⟩
theorem wrapL {i n : Nat} (h : i < n) (hn : n ≤ 9223372036854775807) : wrap64 ((i : Int) + 1) = ((i + 1 : Nat) : Int) := by unfold wrap64; omega
theorem FirI.stepB {w2 W W' : World} {tb : Nat} {s : List Int} (h : FirI w2 tb s W) (hb : Below W.heap.size W W') : FirI w2 tb s W' := ⟨h.se.step (fun k _ hk => hb.block k hk), below_step h.b hb⟩
structure LesI (w2 : World) (tb : Nat) (cs : List (List Int)) (ms : List Mk) (f : Int) (R : List Int × List Int) (LL : List Int) (vv : Value) (B : Nat) (j : Nat) (W : World) (s ch : List Int) : Prop where
  se : Se W (fun k => w2.heap.size ≤ k ∧ some k ≠ vv.ownBlock) (w2.heap.size + 1) tb s ch
  b : Below w2.heap.size w2 W
  r : Kd.R (Kd.int .i64) 3 W B (fun k => some k = vv.ownBlock) vv LL
  af : AllF ms s
  n : s.Nodup
  ln : ch.length ≤ j * (ms.length + 1)
  eq : lessF cs ms f (LL.drop j) (s, ch) = R
theorem Rest.thenr {w w1 w2 : World} {ok : Nat → Prop} (h : Rest w w1 ok) (k : Rest w1 w2 ok) : Rest w w2 ok :=
  ⟨k.os.trans h.os, k.tape.trans h.tape, k.output.trans h.output, Nat.le_trans h.size k.size, fun i hi hn => (k.block i (Nat.lt_of_lt_of_le hi h.size) hn).trans (h.block i hi hn)⟩
theorem LesI.own {w2 W : World} {tb : Nat} {cs : List (List Int)} {ms : List Mk} {f : Int} {R : List Int × List Int} {LL : List Int} {vv : Value} {B j : Nat} {s ch : List Int} (h : LesI w2 tb cs ms f R LL vv B j W s ch) : ∀ k, W.heap.size ≤ k → some k ≠ vv.ownBlock := fun k hk e => by
  have := (Kd.R_bound h.r).1 k e.symm
  omega
theorem LesI.rest {w2 W W' : World} {tb : Nat} {cs : List (List Int)} {ms : List Mk} {f : Int} {R : List Int × List Int} {LL : List Int} {vv : Value} {B j j' : Nat} {s ch s' ch' : List Int} (h : LesI w2 tb cs ms f R LL vv B j W s ch) (hr : Rest W W' (fun k => w2.heap.size ≤ k ∧ some k ≠ vv.ownBlock)) (hs : Se W' (fun k => w2.heap.size ≤ k ∧ some k ≠ vv.ownBlock) (w2.heap.size + 1) tb s' ch') (hf : AllF ms s') (hn : s'.Nodup) (hl : ch'.length ≤ j' * (ms.length + 1)) (he : lessF cs ms f (LL.drop j') (s', ch') = R) : LesI w2 tb cs ms f R LL vv B j' W' s' ch' :=
  ⟨hs, below7 h.b (hr.belowL h.b.size (fun k hk => hk.1)), Kd.R_step h.r (fun k hk hlt => hr.block k hlt (fun q => q.2 hk)), hf, hn, hl, he⟩
set_option maxHeartbeats 16000000 in
set_option maxRecDepth 100000 in
theorem an_less (A0 : Option Addr) (c0 : Nat) (cs : List (List Int)) (A1 : Option Addr) (c1 : Nat) (ms : List Mk) (A2 : Option Addr) (c2 : Nat) (cl : List Int) (back : Int) (A3 : Option Addr) (c3 : Nat) (chn : List Int) (w : World) (hr0 : Kd.C (Kd.slice 3 (Kd.int .i64)) w A0 cs.length cs) (hc0 : cs.length ≤ c0) (hr1 : Kd.C k49 w A1 ms.length ms) (hc1 : ms.length ≤ c1) (hr2 : Kd.C (Kd.int .i64) w A2 cl.length cl) (hc2 : cl.length ≤ c2) (hr3 : Kd.C (Kd.int .i64) w A3 chn.length chn) (hc3 : chn.length ≤ c3) (hwf : Wf cs ms) (hlm : ms.length ≤ 524288) (hcw : ∀ x ∈ cl, w64 x) (hl3 : chn.length ≤ 1099511627776) :
    Calls Try.prog 30 #[.slice A0 cs.length c0, .slice A1 ms.length c1, .agg #[.slice A2 cl.length c2, .int .i64 back, .slice A3 chn.length c3]] w (FirstPost w (lessP cs ms cl chn)) := by
  have HR0 := Aside0.mk hr0
  have HR1 := Aside0.mk hr1
  have HR2 := Aside0.mk hr2
  have HR3 := Aside0.mk hr3
  have HC0 := Aside0.mk hc0
  have HC1 := Aside0.mk hc1
  have HC2 := Aside0.mk hc2
  have HC3 := Aside0.mk hc3
  have HW := Aside0.mk hwf
  have HLM := Aside0.mk hlm
  have HCW := Aside0.mk hcw
  have HL3 := Aside0.mk hl3
  clear hr0 hr1 hr2 hr3 hc0 hc1 hc2 hc3 hwf hlm hcw hl3
  cases hv : validB cs [] ms with
  | false =>
    have HV := Aside0.mk hv
    have HP : Aside0 (lessP cs ms cl chn = ([], 0, [], 200)) := ⟨by unfold lessP; rw [hv]; rfl⟩
    clear hv
    go_enter Try.func30, Try.ntmps30
    go_wp2_with (first | (go_at_call 36; refine (load_no A0 c0 cs A1 c1 ms _ (Kd.C_alloc (Kd.C_alloc HR0.out _) _) HC0.out (Kd.C_alloc (Kd.C_alloc HR1.out _) _) HC1.out HW.out HV.out).mono ?_; rintro e w2 ⟨rfl, hb2⟩; have HB2 : Aside0 (LesB w A2 A3 cl.length c2 chn.length c3 back w2) := ⟨⟨below_step (below_alloc (below_alloc (Below.refl _ _) _) _) hb2, (hb2.block _ (by simp; omega)).trans (box2 w (.cells #[.slice A2 cl.length c2, .int .i64 back, .slice A3 chn.length c3] 30) (.cells #[.slice none 0 0, .int .i64 0, .slice none 0 0] 30)).1, (hb2.block _ (by simp)).trans (box2 w (.cells #[.slice A2 cl.length c2, .int .i64 back, .slice A3 chn.length c3] 30) (.cells #[.slice none 0 0, .int .i64 0, .slice none 0 0] 30)).2⟩⟩; clear hb2; have q0 : w2.cell? ⟨w.heap.size + 1, 0, none⟩ = some (.slice none 0 0) := blk_cell HB2.out.res 0; have q1 : w2.cell? ⟨w.heap.size + 1, 1, none⟩ = some (.int .i64 0) := blk_cell HB2.out.res 1; have q2 : w2.cell? ⟨w.heap.size + 1, 2, none⟩ = some (.slice none 0 0) := blk_cell HB2.out.res 2; have p0 := blk_frozen HB2.out.res 0; have p1 := blk_frozen HB2.out.res 1; have p2 := blk_frozen HB2.out.res 2))
    have hfin := less_no HB2.out.b HB2.out.res _ HP.out
    generalize ((w2.setCell ⟨w.heap.size + 1, 0, none⟩ (.slice none 0 0)).setCell ⟨w.heap.size + 1, 1, none⟩ (.int .i64 0)).setCell ⟨w.heap.size + 1, 2, none⟩ (.slice none 0 0) = w9 at hfin ⊢
    have k0 := blk_cell hfin.1 0
    have k1 := blk_cell hfin.1 1
    have k2 := blk_cell hfin.1 2
    refine bodyPost_ret (v := .tuple #[.agg #[.slice none 0 0, .int .i64 0, .slice none 0 0], .int .i64 200]) (by simp [results, Try.results30, go_sem, k0, k1, k2]) rfl hfin.2
  | true =>
    have HV := Aside0.mk hv
    have HVT := Aside0.mk (VT.of hv)
    by_cases hcl : cl = []
    · have d2 : ((cl.length : Int) == 0) = true := by rw [hcl]; rfl
      have HP : Aside0 (lessP cs ms cl chn = ([], 0, [], 210)) := ⟨by unfold lessP; rw [if_pos hv, hcl]; simp [rightB]⟩
      clear hv hcl
      go_enter Try.func30, Try.ntmps30
      go_wp2_with (first | (go_at_call 36; refine (load_yes A0 c0 cs A1 c1 ms _ (Kd.C_alloc (Kd.C_alloc HR0.out _) _) HC0.out (Kd.C_alloc (Kd.C_alloc HR1.out _) _) HC1.out HW.out HV.out).mono ?_; rintro e w2 ⟨tb, rfl, ht2, hb2⟩; have HT := Aside0.mk ht2; have HB2 : Aside0 (LesB w A2 A3 cl.length c2 chn.length c3 back w2) := ⟨⟨below_step (below_alloc (below_alloc (Below.refl _ _) _) _) hb2, (hb2.block _ (by simp; omega)).trans (box2 w (.cells #[.slice A2 cl.length c2, .int .i64 back, .slice A3 chn.length c3] 30) (.cells #[.slice none 0 0, .int .i64 0, .slice none 0 0] 30)).1, (hb2.block _ (by simp)).trans (box2 w (.cells #[.slice A2 cl.length c2, .int .i64 back, .slice A3 chn.length c3] 30) (.cells #[.slice none 0 0, .int .i64 0, .slice none 0 0] 30)).2⟩⟩; clear hb2 ht2; have b0 : w2.cell? ⟨w.heap.size, 0, none⟩ = some (.slice A2 cl.length c2) := blk_cell HB2.out.box 0; have q0 : w2.cell? ⟨w.heap.size + 1, 0, none⟩ = some (.slice none 0 0) := blk_cell HB2.out.res 0; have q1 : w2.cell? ⟨w.heap.size + 1, 1, none⟩ = some (.int .i64 0) := blk_cell HB2.out.res 1; have q2 : w2.cell? ⟨w.heap.size + 1, 2, none⟩ = some (.slice none 0 0) := blk_cell HB2.out.res 2; have p0 := blk_frozen HB2.out.res 0; have p1 := blk_frozen HB2.out.res 1; have p2 := blk_frozen HB2.out.res 2))
      have hfin := less_no HB2.out.b HB2.out.res _ HP.out
      generalize ((w2.setCell ⟨w.heap.size + 1, 0, none⟩ (.slice none 0 0)).setCell ⟨w.heap.size + 1, 1, none⟩ (.int .i64 0)).setCell ⟨w.heap.size + 1, 2, none⟩ (.slice none 0 0) = w9 at hfin ⊢
      have k0 := blk_cell hfin.1 0
      have k1 := blk_cell hfin.1 1
      have k2 := blk_cell hfin.1 2
      refine bodyPost_ret (v := .tuple #[.agg #[.slice none 0 0, .int .i64 0, .slice none 0 0], .int .i64 210]) (by simp [results, Try.results30, go_sem, k0, k1, k2]) rfl hfin.2
    · have hlen : 0 < cl.length := by cases cl <;> simp_all
      have HNE := Aside0.mk hcl
      have d2 : ((cl.length : Int) == 0) = false := by simp; omega
      have HLEN := Aside0.mk hlen
      obtain ⟨adl, rfl, hfx⟩ := Kd.at_int HR2.out 0 (by omega) (by omega)
      have HFX : Aside0 (w.cell? adl = some (.int .i64 (rd cl 0))) := ⟨hfx⟩
      obtain ⟨f, hfe⟩ : ∃ f, f = rd cl 0 := ⟨_, rfl⟩
      have HFE := Aside0.mk hfe
      have hmm := @run_makeMap Try.prog
      clear hv hcl hlen hfx hfe
      go_enter Try.func30, Try.ntmps30
      go_wp2_with (first | (go_at_call 36; refine (load_yes A0 c0 cs A1 c1 ms _ (Kd.C_alloc (Kd.C_alloc HR0.out _) _) HC0.out (Kd.C_alloc (Kd.C_alloc HR1.out _) _) HC1.out HW.out HV.out).mono ?_; rintro e w2 ⟨tb, rfl, ht2, hb2⟩; have HT := Aside0.mk ht2; have HB2 : Aside0 (LesB w (some adl) A3 cl.length c2 chn.length c3 back w2) := ⟨⟨below_step (below_alloc (below_alloc (Below.refl _ _) _) _) hb2, (hb2.block _ (by simp; omega)).trans (box2 w (.cells #[.slice (some adl) cl.length c2, .int .i64 back, .slice A3 chn.length c3] 30) (.cells #[.slice none 0 0, .int .i64 0, .slice none 0 0] 30)).1, (hb2.block _ (by simp)).trans (box2 w (.cells #[.slice (some adl) cl.length c2, .int .i64 back, .slice A3 chn.length c3] 30) (.cells #[.slice none 0 0, .int .i64 0, .slice none 0 0] 30)).2⟩⟩; clear hb2 ht2; have b0 : w2.cell? ⟨w.heap.size, 0, none⟩ = some (.slice (some adl) cl.length c2) := blk_cell HB2.out.box 0; have y0a : ∀ o o' : Obj, ((w2.alloc o).alloc o').cell? ⟨w.heap.size, 0, none⟩ = some (.slice (some adl) cl.length c2) := fun o o' => ((below_alloc (below_alloc (Below.refl _ _) o) o').cell (p := ⟨w.heap.size, 0, none⟩) (blk_lt HB2.out.box)).trans (blk_cell HB2.out.box 0)))
      clear y0a hmm
      have HI0 : Aside0 (FirI w2 tb [] ((w2.alloc (.map #[] 0)).alloc (.cells #[.pointer (some ⟨tb, 0, none⟩), .map (some w2.heap.size), .slice none 0 0] 65))) := by
        refine ⟨⟨⟨by omega, Nat.le_refl _, ?_, ?_, Kd.R_nil _ _ _ _ _⟩, below_alloc (below_alloc (Below.refl _ _) _) _⟩⟩
        · have := heap_alloc_new (w2.alloc (.map #[] 0)) (.cells #[.pointer (some ⟨tb, 0, none⟩), .map (some w2.heap.size), .slice none 0 0] 65)
          simpa using this
        · exact (isMapF_made Try.prog 3 w2 (fun _ => 1)).step ((below_alloc (Below.refl _ _) _).block _ (by simp))
      go_loopg [38] cl.length (fun kq v38 w' => ∃ i : Nat, v38 = .int .i64 i ∧ i + kq = cl.length ∧ Aside0 (FirI w2 tb (cl.take i) w' ∧ ∀ j < i, okL ms cl j = true))
      case atStart => exact ⟨0, rfl, by omega, ⟨HI0.out, fun j hj => by omega⟩⟩
      case round =>
        obtain ⟨i, rfl, hik, HI⟩ := hrel
        clear HI0 b0
        have HBW : Aside0 (LesB w (some adl) A3 cl.length c2 chn.length c3 back wr) := ⟨HB2.out.step HI.out.1.b⟩
        have HTW : Aside0 (Tr wr w2.heap.size tb cs ms) := ⟨HT.out.below HI.out.1.b⟩
        cases gk with
        | succ k1 =>
          have hlt : i < cl.length := by omega
          have HIK := Aside0.mk hik
          obtain ⟨ad, hade, hx⟩ := Kd.at_int (Kd.C_below HR2.out HBW.out.b) (i : Int) (by omega) (by omega)
          injection hade with hade
          subst hade
          rw [Int.toNat_natCast] at hx
          have hxw := HCW.out _ (rdm hlt)
          have hnx := @insK_next cl i hlt
          have hno : okL ms cl i = false → lessP cs ms cl chn = ([], 0, [], 210) := fun q => by unfold lessP; rw [if_pos HV.out, right_no hlt q]; simp
          have hok : okL ms cl i = (!decide (rd cl (i : Int) ∈ cl.take i) && (isFalseB ms (rd cl (i : Int)) && (!decide (lev ms (rd cl (i : Int)) = 0) && (decide (i = 0) || !decide (lev ms (rd cl (i : Int)) ≥ lev ms (rd cl 0)))))) := rfl
          obtain ⟨x, hxe⟩ : ∃ x, x = rd cl (i : Int) := ⟨_, rfl⟩
          rw [← hxe] at hx hxw hnx hok
          rw [← HFE.out] at hok
          have HXE := Aside0.mk hxe
          have HXW := Aside0.mk hxw
          have HNX := Aside0.mk hnx
          have HNO := Aside0.mk hno
          have HOKE := Aside0.mk hok
          clear hxe hxw hnx hno hok
          obtain ⟨_, _, _, _, pb, _, _, hpl, _⟩ := SeP.parts HTW.out
          have HPL := Aside0.mk hpl
          clear hpl
          have r2 := HI.out.1.se.map.run_look_ok Try.underlying63 Try.underlying3 zero3 HXW.out
          obtain ⟨v2, hv2⟩ : ∃ v, v = (if x ∈ cl.take i then (1 : Int) else 0) := ⟨_, rfl⟩
          rw [← hv2] at r2
          clear hv2
          have c1' : wr.cell? ⟨w2.heap.size + 1, 1, none⟩ = some (.map (some w2.heap.size)) := HI.out.1.se.c1
          cases ht : decide (x ∈ cl.take i) with
          | true =>
            rw [ht] at r2
            have HP : Aside0 (lessP cs ms cl chn = ([], 0, [], 210)) := ⟨HNO.out (by rw [HOKE.out, ht]; rfl)⟩
            clear ht
            have q0 : wr.cell? ⟨w.heap.size + 1, 0, none⟩ = some (.slice none 0 0) := blk_cell HBW.out.res 0; have q1 : wr.cell? ⟨w.heap.size + 1, 1, none⟩ = some (.int .i64 0) := blk_cell HBW.out.res 1; have q2 : wr.cell? ⟨w.heap.size + 1, 2, none⟩ = some (.slice none 0 0) := blk_cell HBW.out.res 2; have p0 := blk_frozen HBW.out.res 0; have p1 := blk_frozen HBW.out.res 1; have p2 := blk_frozen HBW.out.res 2
            go_wp2
            have hfin := less_no HBW.out.b HBW.out.res _ HP.out
            generalize ((wr.setCell ⟨w.heap.size + 1, 0, none⟩ (.slice none 0 0)).setCell ⟨w.heap.size + 1, 1, none⟩ (.int .i64 0)).setCell ⟨w.heap.size + 1, 2, none⟩ (.slice none 0 0) = w9 at hfin ⊢
            have k0 := blk_cell hfin.1 0
            have k1 := blk_cell hfin.1 1
            have k2 := blk_cell hfin.1 2
            refine bodyPost_ret (v := .tuple #[.agg #[.slice none 0 0, .int .i64 0, .slice none 0 0], .int .i64 210]) (by simp [results, Try.results30, go_sem, k0, k1, k2]) rfl hfin.2
          | false =>
            rw [ht] at r2
            have HTK := Aside0.mk ht
            clear ht
            cases hf : isFalseB ms x with
            | false =>
              have HF := Aside0.mk hf
              have HP : Aside0 (lessP cs ms cl chn = ([], 0, [], 210)) := ⟨HNO.out (by rw [HOKE.out, hf, Bool.false_and, Bool.and_false])⟩
              clear hf
              have q0 : wr.cell? ⟨w.heap.size + 1, 0, none⟩ = some (.slice none 0 0) := blk_cell HBW.out.res 0; have q1 : wr.cell? ⟨w.heap.size + 1, 1, none⟩ = some (.int .i64 0) := blk_cell HBW.out.res 1; have q2 : wr.cell? ⟨w.heap.size + 1, 2, none⟩ = some (.slice none 0 0) := blk_cell HBW.out.res 2; have p0 := blk_frozen HBW.out.res 0; have p1 := blk_frozen HBW.out.res 1; have p2 := blk_frozen HBW.out.res 2
              go_wp2_with (go_at_call 37; refine (an_isFalse tb pb ms x _ HPL.out HXW.out).mono ?_; rw [HF.out]; rintro e w' ⟨rfl, rfl⟩)
              have hfin := less_no HBW.out.b HBW.out.res _ HP.out
              generalize ((wr.setCell ⟨w.heap.size + 1, 0, none⟩ (.slice none 0 0)).setCell ⟨w.heap.size + 1, 1, none⟩ (.int .i64 0)).setCell ⟨w.heap.size + 1, 2, none⟩ (.slice none 0 0) = w9 at hfin ⊢
              have k0 := blk_cell hfin.1 0
              have k1 := blk_cell hfin.1 1
              have k2 := blk_cell hfin.1 2
              refine bodyPost_ret (v := .tuple #[.agg #[.slice none 0 0, .int .i64 0, .slice none 0 0], .int .i64 210]) (by simp [results, Try.results30, go_sem, k0, k1, k2]) rfl hfin.2
            | true =>
              have HF := Aside0.mk hf
              clear hf
              have hlv : lev ms x = (mkOf ms x).f1 := rfl
              obtain ⟨mx, hmx⟩ : ∃ m, m = mkOf ms x := ⟨_, rfl⟩
              rw [← hmx] at hlv
              have HMX := Aside0.mk hmx
              obtain ⟨xa, xb, xc⟩ := mx
              simp only at hlv
              have HLV := Aside0.mk hlv
              have hfld := fun (a b c : Value) (w : World) => fld1 a b c w
              clear hmx hlv
              cases hz : decide (xb = 0) with
              | true =>
                have hz1 : (xb == 0) = true := by simpa using hz
                have HP : Aside0 (lessP cs ms cl chn = ([], 0, [], 210)) := ⟨HNO.out (by rw [HOKE.out, HLV.out, hz]; simp)⟩
                clear hz
                go_wp2_with (first | (go_at_call 37; refine (an_isFalse tb pb ms x _ HPL.out HXW.out).mono ?_; rw [HF.out]; rintro e w' ⟨rfl, rfl⟩) | (go_at_call 57; refine (an_markT w2.heap.size tb cs ms x _ HTW.out HXW.out HF.out).mono ?_; rw [← HMX.out]; rintro e w5 ⟨rfl, hb5⟩; have HB5 : Aside0 (LesB w (some adl) A3 cl.length c2 chn.length c3 back w5) := ⟨HBW.out.step hb5⟩; clear hb5; have q0 : w5.cell? ⟨w.heap.size + 1, 0, none⟩ = some (.slice none 0 0) := blk_cell HB5.out.res 0; have q1 : w5.cell? ⟨w.heap.size + 1, 1, none⟩ = some (.int .i64 0) := blk_cell HB5.out.res 1; have q2 : w5.cell? ⟨w.heap.size + 1, 2, none⟩ = some (.slice none 0 0) := blk_cell HB5.out.res 2; have p0 := blk_frozen HB5.out.res 0; have p1 := blk_frozen HB5.out.res 1; have p2 := blk_frozen HB5.out.res 2))
                have hfin := less_no HB5.out.b HB5.out.res _ HP.out
                generalize ((w5.setCell ⟨w.heap.size + 1, 0, none⟩ (.slice none 0 0)).setCell ⟨w.heap.size + 1, 1, none⟩ (.int .i64 0)).setCell ⟨w.heap.size + 1, 2, none⟩ (.slice none 0 0) = w9 at hfin ⊢
                have k0 := blk_cell hfin.1 0
                have k1 := blk_cell hfin.1 1
                have k2 := blk_cell hfin.1 2
                refine bodyPost_ret (v := .tuple #[.agg #[.slice none 0 0, .int .i64 0, .slice none 0 0], .int .i64 210]) (by simp [results, Try.results30, go_sem, k0, k1, k2]) rfl hfin.2
              | false =>
                have hz1 : (xb == 0) = false := by simpa using hz
                have HZ := Aside0.mk hz
                clear hz
                go_wp2_with (first | (go_at_call 37; refine (an_isFalse tb pb ms x _ HPL.out HXW.out).mono ?_; rw [HF.out]; rintro e w' ⟨rfl, rfl⟩) | (go_at_call 57; refine (an_markT w2.heap.size tb cs ms x _ HTW.out HXW.out HF.out).mono ?_; rw [← HMX.out]; rintro e w5 ⟨rfl, hb5⟩; have HI5 : Aside0 (FirI w2 tb (cl.take i) w5) := ⟨⟨HI.out.1.se.step (fun k _ hk => hb5.block k hk), below_step HI.out.1.b hb5⟩⟩; clear hb5))
                have HB5 : Aside0 (LesB w (some adl) A3 cl.length c2 chn.length c3 back w5) := ⟨HB2.out.step HI5.out.b⟩
                have HTF : Aside0 (∀ W, Below w5.heap.size w5 W → Tr W w2.heap.size tb cs ms) := ⟨fun W hW => (HT.out.below HI5.out.b).below ⟨hW.os, hW.tape, hW.output, hW.size, fun k hk => hW.block k (Nat.lt_of_lt_of_le hk HI5.out.b.size)⟩⟩
                have b5 : w5.cell? ⟨w.heap.size, 0, none⟩ = some (.slice (some adl) cl.length c2) := blk_cell HB5.out.box 0
                have f5 : w5.cell? adl = some (.int .i64 f) := (HB5.out.b.cell (World.block_lt_of_cell? w _ HFX.out)).trans (HFE.out ▸ HFX.out)
                have BW5 : Aside0 (w.heap.size < w5.heap.size ∧ adl.block < w5.heap.size) := ⟨World.block_lt_of_cell? w5 _ b5, World.block_lt_of_cell? w5 _ f5⟩
                have HSL : Aside0 ((cl.take i).length < maxLen) := ⟨by
                  have h1 := okL_pre (by omega : i ≤ cl.length) HI.out.2
                  have h2 := len_of_falses h1.1 h1.2
                  have h3 := HLM.out
                  unfold maxLen
                  omega⟩
                rcases Nat.eq_zero_or_pos i with hi0 | hi0
                · have e0 : decide ((i : Int) > 0) = false := by simp; omega
                  have e1 : decide (0 < (i : Int)) = false := e0
                  have hi1 : decide (i = 0) = true := by simp [hi0]
                  go_quiet (fail)
                  have HI6 : Aside0 (FirI w2 tb (cl.take i) (w5.drewN nq)) := ⟨HI5.out.stepB (pw_below_drewN (Below.refl _ _) nq)⟩
                  clear b5 f5 c1'
                  generalize w5.drewN nq = w6 at HI6 ⊢
                  have c6 : w6.cell? ⟨w2.heap.size + 1, 1, none⟩ = some (.map (some w2.heap.size)) := HI6.out.se.c1
                  go_wp2_with (at_mapUpdate; refine wpList_put_F _ rfl _ _ _ 63 rfl 3 Try.underlying63 Try.underlying3 w2.heap.size _ (fun _ => 1) rfl HI6.out.se.map HSL.out x 1 rfl rfl HXW.out (by decide) ?_; intro w8 hm8 hg8; have H8 := Aside0.mk (And.intro hm8 hg8); clear hm8 hg8)
                  have hf1 : updF (fun _ => 1) x 1 = fun _ => (1 : Int) := by funext z; unfold updF; split <;> rfl
                  have hI8 : FirI w2 tb (cl.take (i + 1)) w8 := by
                    rw [← HNX.out (by simpa using HTK.out)]
                    exact ⟨HI6.out.se.putm (hf1 ▸ H8.out.1) H8.out.2, HI6.out.b.grown H8.out.2 HI6.out.b.size (fun k hk => by injection hk with hk; omega)⟩
                  have HI8 := Aside0.mk hI8
                  clear hI8 hf1
                  go_roundg k1
                  case measure => omega
                  case rel =>
                    refine ⟨i + 1, by have hcm := Kd.C_max HR2.out; (try unfold maxLen at hcm); (first | go_num | exact congrArg (Value.int .i64) (wrapL hlt hcm)), by have := HIK.out; omega, ⟨HI8.out, fun j hj => ?_⟩⟩
                    rcases Nat.lt_succ_iff_lt_or_eq.1 hj with q | q
                    · exact HI.out.2 j q
                    · subst q
                      rw [HOKE.out, HTK.out, HF.out, HLV.out, HZ.out, hi1]
                      rfl
                · have e0 : decide ((i : Int) > 0) = true := by simp; omega
                  have e1 : decide (0 < (i : Int)) = true := e0
                  have h0 := HI.out.2 0 hi0
                  unfold okL at h0
                  simp only [Bool.and_eq_true] at h0
                  have hff : isFalseB ms f = true := by rw [HFE.out]; exact h0.2.1
                  have hfw : w64 f := by rw [HFE.out]; exact HCW.out _ (rdm HLEN.out)
                  have HFF := Aside0.mk (And.intro hfw hff)
                  have hlf : lev ms f = (mkOf ms f).f1 := rfl
                  obtain ⟨mf, hmf⟩ : ∃ m, m = mkOf ms f := ⟨_, rfl⟩
                  rw [← hmf] at hlf
                  have HMF := Aside0.mk hmf
                  obtain ⟨fa, fb, fc⟩ := mf
                  simp only at hlf
                  have HLF := Aside0.mk hlf
                  clear h0 hff hfw hlf hmf
                  obtain ⟨gb, hge⟩ : ∃ b, b = decide (xb ≥ fb) := ⟨_, rfl⟩
                  have hge1 : decide (fb ≤ xb) = gb := hge.symm
                  have hge2 : decide (xb ≥ fb) = gb := hge.symm
                  have HGE := Aside0.mk hge
                  have hl1 : (0 : Int) < (cl.length : Int) := by have := HLEN.out; omega
                  have hl2 : (0 < cl.length) = True := eq_true HLEN.out
                  clear hge
                  go_region_held3 (fun w' => w'.cell? ⟨w.heap.size, 0, none⟩ = some (.slice (some adl) cl.length c2) ∧ w'.cell? adl = some (.int .i64 f)) (first | assumption | go_keep)
                    (first
                      | (go_at_call_of 57 (Value.int .i64 x); refine (an_markT w2.heap.size tb cs ms x _ (HTF.out _ (by repeat (first | exact Below.refl _ _ | apply below_drew1 | apply pw_below_drewN))) HXW.out HF.out).mono ?_; rw [← HMX.out]; rintro e w6 ⟨rfl, hb6⟩; have hb6' : Below w5.heap.size w5 w6 := below_step (by repeat (first | exact Below.refl _ _ | apply below_drew1 | apply pw_below_drewN)) hb6; have s1 := (hb6'.cell (p := ⟨w.heap.size, 0, none⟩) BW5.out.1).trans b5; have s2 := (hb6'.cell (p := adl) BW5.out.2).trans f5; have HB6 := Aside0.mk hb6'; clear hb6 hb6')
                      | (go_at_call_of 57 (Value.int .i64 f); refine (an_markT w2.heap.size tb cs ms f _ (HTF.out _ (by repeat (first | exact HB6.out | exact Below.refl _ _ | apply below_drew1 | apply pw_below_drewN))) HFF.out.1 HFF.out.2).mono ?_; rw [← HMF.out]; rintro e w7 ⟨rfl, hb7⟩; have hb7' : Below w5.heap.size w5 w7 := below_step (by repeat (first | exact HB6.out | exact Below.refl _ _ | apply below_drew1 | apply pw_below_drewN)) hb7; have s3 := (hb7'.cell (p := ⟨w.heap.size, 0, none⟩) BW5.out.1).trans b5; have s4 := (hb7'.cell (p := adl) BW5.out.2).trans f5; have HB7 := Aside0.mk hb7'; clear hb7 hb7'))
                  clear b5 f5 c1'
                  have HB7L : Aside0 (LesB w (some adl) A3 cl.length c2 chn.length c3 back w7) := ⟨HB5.out.step HB7.out⟩
                  have HI7 : Aside0 (FirI w2 tb (cl.take i) w7) := ⟨HI5.out.stepB HB7.out⟩
                  have hi1 : decide (i = 0) = false := by simp; omega
                  cases gb with
                  | true =>
                    have HP : Aside0 (lessP cs ms cl chn = ([], 0, [], 210)) := ⟨HNO.out (by rw [HOKE.out, HLV.out, HLF.out, ← HGE.out, hi1]; simp)⟩
                    have q0 : w7.cell? ⟨w.heap.size + 1, 0, none⟩ = some (.slice none 0 0) := blk_cell HB7L.out.res 0; have q1 : w7.cell? ⟨w.heap.size + 1, 1, none⟩ = some (.int .i64 0) := blk_cell HB7L.out.res 1; have q2 : w7.cell? ⟨w.heap.size + 1, 2, none⟩ = some (.slice none 0 0) := blk_cell HB7L.out.res 2; have p0 := blk_frozen HB7L.out.res 0; have p1 := blk_frozen HB7L.out.res 1; have p2 := blk_frozen HB7L.out.res 2
                    go_wp2
                    have hfin := less_no HB7L.out.b HB7L.out.res _ HP.out
                    generalize ((w7.setCell ⟨w.heap.size + 1, 0, none⟩ (.slice none 0 0)).setCell ⟨w.heap.size + 1, 1, none⟩ (.int .i64 0)).setCell ⟨w.heap.size + 1, 2, none⟩ (.slice none 0 0) = w9 at hfin ⊢
                    have k0 := blk_cell hfin.1 0
                    have k1 := blk_cell hfin.1 1
                    have k2 := blk_cell hfin.1 2
                    refine bodyPost_ret (v := .tuple #[.agg #[.slice none 0 0, .int .i64 0, .slice none 0 0], .int .i64 210]) (by simp [results, Try.results30, go_sem, k0, k1, k2]) rfl hfin.2
                  | false =>
                    have c7 : w7.cell? ⟨w2.heap.size + 1, 1, none⟩ = some (.map (some w2.heap.size)) := HI7.out.se.c1
                    go_wp2_with (at_mapUpdate; refine wpList_put_F _ rfl _ _ _ 63 rfl 3 Try.underlying63 Try.underlying3 w2.heap.size _ (fun _ => 1) rfl HI7.out.se.map HSL.out x 1 rfl rfl HXW.out (by decide) ?_; intro w8 hm8 hg8; have H8 := Aside0.mk (And.intro hm8 hg8); clear hm8 hg8)
                    have hf1 : updF (fun _ => 1) x 1 = fun _ => (1 : Int) := by funext z; unfold updF; split <;> rfl
                    have hI8 : FirI w2 tb (cl.take (i + 1)) w8 := by
                      rw [← HNX.out (by simpa using HTK.out)]
                      exact ⟨HI7.out.se.putm (hf1 ▸ H8.out.1) H8.out.2, HI7.out.b.grown H8.out.2 HI7.out.b.size (fun k hk => by injection hk with hk; omega)⟩
                    have HI8 := Aside0.mk hI8
                    clear hI8 hf1
                    go_roundg k1
                    case measure => omega
                    case rel =>
                      refine ⟨i + 1, by have hcm := Kd.C_max HR2.out; (try unfold maxLen at hcm); (first | go_num | exact congrArg (Value.int .i64) (wrapL hlt hcm)), by have := HIK.out; omega, ⟨HI8.out, fun j hj => ?_⟩⟩
                      rcases Nat.lt_succ_iff_lt_or_eq.1 hj with q | q
                      · exact HI.out.2 j q
                      · subst q
                        rw [HOKE.out, HTK.out, HF.out, HLV.out, HZ.out, HLF.out, ← HGE.out, hi1]
                        rfl
        | zero =>
          obtain rfl : i = cl.length := by omega
          have hi9 := HI.out
          rw [List.take_length] at hi9
          have HI9 := Aside0.mk hi9
          clear HI hi9
          have hpre := okL_pre (ms := ms) (c := cl) (Nat.le_refl _) HI9.out.2
          rw [List.take_length] at hpre
          have HPRE := Aside0.mk hpre
          have HF0 : Aside0 (w64 f ∧ isFalseB ms f = true) := ⟨by
            have h0 := HI9.out.2 0 HLEN.out
            unfold okL at h0
            simp only [Bool.and_eq_true] at h0
            rw [HFE.out]
            exact ⟨HCW.out _ (rdm HLEN.out), h0.2.1⟩⟩
          have HSE : Aside0 (Se wr (fun k => w2.heap.size ≤ k ∧ k < wr.heap.size) (w2.heap.size + 1) tb cl []) := ⟨Se.bound ⟨_, _, HI9.out.1.se⟩⟩
          obtain ⟨LL, hLL⟩ : ∃ l, l = fallL ms cl := ⟨_, rfl⟩
          obtain ⟨R, hR⟩ : ∃ R, R = lessF cs ms f LL (cl, []) := ⟨_, rfl⟩
          have HR := Aside0.mk hR
          have HP : Aside0 (lessP cs ms cl chn = (f :: restL ms R.1 f, mostL ms (restL ms R.1 f), chn ++ R.2, 0)) := ⟨by
            unfold lessP
            rw [if_pos HV.out, if_pos (right_yes HNE.out HI9.out.2), ← HFE.out, ← hLL, ← hR]
            rfl⟩
          have HLL := Aside0.mk hLL
          have HLF2 : Aside0 (∀ x ∈ LL, w64 x ∧ isFalseB ms x = true) := ⟨fun x hx => by
            rw [hLL] at hx
            have := (fallL_perm ms cl).mem_iff.1 hx
            exact ⟨HCW.out x this, HPRE.out.2 x this⟩⟩
          have HLLN : Aside0 (LL.length ≤ ms.length) := ⟨by rw [hLL, (fallL_perm ms cl).length_eq]; exact len_of_falses HPRE.out.1 HPRE.out.2⟩
          clear hpre hLL hR
          go_wp2_with (go_at_call 58; refine (an_falling w2.heap.size tb (w2.heap.size + 1) cs ms _ cl [] _ HTW.out HSE.out HPRE.out.2 HW.out.lm).mono ?_; rw [← HLL.out]; rintro e w3 ⟨v3, rfl, hv3, hb3⟩; obtain ⟨a3, cc3, rfl⟩ := Kd.R_slice hv3; have H3 := Aside0.mk (And.intro hv3 hb3); clear hv3 hb3)
          have HL0 : Aside0 (LesI w2 tb cs ms f R LL (.slice a3 LL.length cc3) wr.heap.size 0 w3 cl []) := ⟨by
            refine ⟨(HSE.out.below H3.out.2).mono (fun k hk => ⟨hk.1, fun e => ?_⟩), below_step HI9.out.1.b H3.out.2, Kd.R_reok rfl H3.out.1 (fun k e => e.symm), HPRE.out.2, HPRE.out.1, by simp, by rw [List.drop_zero]; exact HR.out.symm⟩
            have := Kd.R_base H3.out.1 k e.symm
            omega⟩
          clear H3
          go_loopg [93] LL.length (fun kq v93 w' => ∃ (j : Nat) (s ch : List Int), v93 = .int .i64 j ∧ j + kq = LL.length ∧ Aside0 (LesI w2 tb cs ms f R LL (.slice a3 LL.length cc3) wr.heap.size j w' s ch))
          case atStart => exact ⟨0, cl, [], rfl, by omega, HL0⟩
          case round =>
            obtain ⟨j, s, ch, rfl, hjk, HU⟩ := hrel
            clear HL0
            rename World => w6
            have HBX : Aside0 (LesB w (some adl) A3 cl.length c2 chn.length c3 back w6) := ⟨HB2.out.step HU.out.b⟩
            have HT6 : Aside0 (Tr w6 w2.heap.size tb cs ms) := ⟨HT.out.below HU.out.b⟩
            have b6 : w6.cell? ⟨w.heap.size, 0, none⟩ = some (.slice (some adl) cl.length c2) := blk_cell HBX.out.box 0
            have f6 : w6.cell? adl = some (.int .i64 f) := (HBX.out.b.cell (World.block_lt_of_cell? w _ HFX.out)).trans (HFE.out ▸ HFX.out)
            have hl1 : (0 : Int) < (cl.length : Int) := by have := HLEN.out; omega
            have hl2 : (0 < cl.length) = True := eq_true HLEN.out
            have hC := (Kd.R_reads' HU.out.r).2.2
            cases gk with
            | succ k1 =>
              have hlt : j < LL.length := by omega
              obtain ⟨ad2, hade, hx⟩ := Kd.at_int hC (j : Int) (by omega) (by omega)
              subst hade
              rw [Int.toNat_natCast] at hx
              have hxf := HLF2.out _ (rdm hlt)
              have hdr := rd_dropi hlt
              have heq := HU.out.eq
              rw [hdr, lessF] at heq
              obtain ⟨x, hxe⟩ : ∃ x, x = rd LL (j : Int) := ⟨_, rfl⟩
              rw [← hxe] at hx hxf heq
              have HXF := Aside0.mk hxf
              have HEQ := Aside0.mk heq
              have HJK := Aside0.mk hjk
              clear hC hxe hxf hdr heq
              cases hxq : decide (x = f) with
              | true =>
                have HXQ : Aside0 (x = f) := ⟨of_decide_eq_true hxq⟩
                have e0 : (x != f) = false := by simpa using hxq
                clear hxq
                go_wp2
                go_roundg k1
                case measure => omega
                case rel => exact ⟨j + 1, s, ch, by have hcm := Kd.C_max (Kd.R_reads' HU.out.r).2.2; (first | go_num | exact congrArg (Value.int .i64) (wrapL hlt hcm)), by have := HJK.out; omega, ⟨HU.out.se, HU.out.b, HU.out.r, HU.out.af, HU.out.n, Nat.le_trans HU.out.ln (Nat.mul_le_mul_right _ (Nat.le_succ _)), by have := HEQ.out; rw [if_neg (fun q => q.1 HXQ.out)] at this; exact this⟩⟩
              | false =>
                have HXQ : Aside0 (x ≠ f) := ⟨of_decide_eq_false hxq⟩
                have e0 : (x != f) = true := by simpa using hxq
                clear hxq
                cases hn : needB cs ms s x with
                | false =>
                  have HN := Aside0.mk hn
                  clear hn
                  go_wp2_with (first | (go_at_call 59; refine (an_needless w2.heap.size tb (w2.heap.size + 1) cs ms _ s ch x _ HT6.out HU.out.se HVT.out HXF.out.1 HXF.out.2 HW.out).mono ?_; rw [HN.out]; rintro e w7 ⟨rfl, hb7⟩; have H7 := Aside0.mk hb7; have HU7 : Aside0 (LesI w2 tb cs ms f R LL (.slice (some ad2) LL.length cc3) wr.heap.size j w7 s ch) := ⟨HU.out.rest (Rest.of_below hb7 _) (HU.out.se.below hb7) HU.out.af HU.out.n HU.out.ln HU.out.eq⟩; clear hb7))
                  go_roundg k1
                  case measure => omega
                  case rel => exact ⟨j + 1, s, ch, by have hcm := Kd.C_max (Kd.R_reads' HU.out.r).2.2; (first | go_num | exact congrArg (Value.int .i64) (wrapL hlt hcm)), by have := HJK.out; omega, ⟨HU7.out.se, HU7.out.b, HU7.out.r, HU7.out.af, HU7.out.n, Nat.le_trans HU7.out.ln (Nat.mul_le_mul_right _ (Nat.le_succ _)), by have := HEQ.out; rw [if_neg (fun q => by rw [HN.out] at q; exact absurd q.2 (by simp))] at this; exact this⟩⟩
                | true =>
                  have HN := Aside0.mk hn
                  clear hn
                  have HRS : Aside0 (0 ≤ rsn ms x ∧ rsn ms x < cs.length) := ⟨(HVT.out.new HXF.out.2 (need_rsn HN.out)).1, (HVT.out.new HXF.out.2 (need_rsn HN.out)).2.1⟩
                  have HSL : Aside0 (s.length ≤ 4194304) := ⟨by have h2 := len_of_falses HU.out.n HU.out.af; have := HLM.out; omega⟩
                  have HCL : Aside0 (ch.length ≤ 274878431232) := ⟨by
                    have h1 : j * (ms.length + 1) ≤ 524288 * 524289 := Nat.mul_le_mul (by have := HLLN.out; have := HLM.out; omega) (by have := HLM.out; omega)
                    have h2 := HU.out.ln
                    omega⟩
                  have HST := Aside0.mk (lessStep (ch := ch) HVT.out HU.out.af HU.out.n HXF.out.2 HN.out)
                  go_wp2_with (first | (go_at_call 59; refine (an_needless w2.heap.size tb (w2.heap.size + 1) cs ms _ s ch x _ HT6.out HU.out.se HVT.out HXF.out.1 HXF.out.2 HW.out).mono ?_; rw [HN.out]; rintro e w7 ⟨rfl, hb7⟩; have H7 := Aside0.mk hb7; have HU7 : Aside0 (LesI w2 tb cs ms f R LL (.slice (some ad2) LL.length cc3) wr.heap.size j w7 s ch) := ⟨HU.out.rest (Rest.of_below hb7 _) (HU.out.se.below hb7) HU.out.af HU.out.n HU.out.ln HU.out.eq⟩; clear hb7) | (go_at_call 39; refine (an_resolve w2.heap.size tb (w2.heap.size + 1) cs ms _ s ch x _ (HT.out.below HU7.out.b) HU7.out.se (fun k hk => hk.1) HXF.out.1 HXF.out.2 HW.out HRS.out.1 HRS.out.2 HSL.out (Nat.le_trans HCL.out (by omega))).mono ?_; rintro e w8 ⟨rfl, hs8, hr8⟩; have hs8' : Se w8 (fun k => w2.heap.size ≤ k ∧ some k ≠ (Value.slice (some ad2) LL.length cc3).ownBlock) (w2.heap.size + 1) tb (resL cs ms s x) (ch ++ [rsn ms x]) := hs8.mono (fun k hk => hk.elim id (fun q => ⟨Nat.le_trans HU7.out.b.size q, HU7.out.own k q⟩)); have H8 := Aside0.mk (And.intro hs8' (And.intro hr8 (below7 HU7.out.b (hr8.belowL HU7.out.b.size (fun k hk => hk.1))))); clear hs8 hs8' hr8) | (go_at_call 40; refine (an_clean w2.heap.size tb (w2.heap.size + 1) cs ms _ (resL cs ms s x) (ch ++ [rsn ms x]) _ (HT.out.below H8.out.2.2) H8.out.1 (fun k hk => hk.1) HVT.out (HU.out.af.resF HVT.out HXF.out.2 (need_rsn HN.out)) HW.out (by have := HCL.out; have := HLM.out; rw [List.length_append, List.length_singleton]; omega)).mono ?_; rintro e w9 ⟨rfl, hs9, hr9⟩; have H9 := Aside0.mk (And.intro hs9 hr9); clear hs9 hr9))
                  have HU9 : Aside0 (LesI w2 tb cs ms f R LL (.slice (some ad2) LL.length cc3) wr.heap.size (j + 1) w9 (cleanL cs ms ms.length (resL cs ms s x) (ch ++ [rsn ms x])).1 (cleanL cs ms ms.length (resL cs ms s x) (ch ++ [rsn ms x])).2) := ⟨by
                    refine HU7.out.rest (H8.out.2.1.thenr H9.out.2) (H9.out.1.mono (fun k hk => hk.elim id (fun q => ⟨Nat.le_trans H8.out.2.2.size q, HU7.out.own k (Nat.le_trans H8.out.2.1.size q)⟩))) HST.out.1 HST.out.2.1 ?_ ?_
                    · have h1 := HST.out.2.2
                      have h2 := HU.out.ln
                      rw [Nat.succ_mul]
                      omega
                    · have := HEQ.out
                      rw [if_pos ⟨HXQ.out, HN.out⟩] at this
                      exact this⟩
                  go_roundg k1
                  case measure => omega
                  case rel => exact ⟨j + 1, _, _, by have hcm := Kd.C_max (Kd.R_reads' HU.out.r).2.2; (first | go_num | exact congrArg (Value.int .i64) (wrapL hlt hcm)), by have := HJK.out; omega, HU9⟩
            | zero =>
              obtain rfl : j = LL.length := by omega
              have HEQ : Aside0 (R = (s, ch)) := ⟨by have := HU.out.eq; rw [List.drop_eq_nil_of_le (Nat.le_refl _)] at this; exact this.symm⟩
              have b6c : w6.cell? ⟨w.heap.size, 2, none⟩ = some (.slice A3 chn.length c3) := blk_cell HBX.out.box 2
              have HCL : Aside0 (ch.length ≤ 1099511627776) := ⟨by
                have h1 : LL.length * (ms.length + 1) ≤ 524288 * 524289 := Nat.mul_le_mul (by have := HLLN.out; have := HLM.out; omega) (by have := HLM.out; omega)
                have h2 := HU.out.ln
                omega⟩
              clear hC
              go_wp2
              go_still_tail 7, (by kernel_rfl)
              change wpList _ _ _ _ _ w6.drew
              have HUd : Aside0 (LesI w2 tb cs ms f R LL (.slice a3 LL.length cc3) wr.heap.size LL.length w6.drew s ch) := ⟨HU.out.rest (Rest.of_below (below_drew1 (Below.refl _ _)) _) (HU.out.se.below (below_drew1 (Below.refl _ _))) HU.out.af HU.out.n HU.out.ln HU.out.eq⟩
              have g6 : w6.drew.cell? ⟨w.heap.size, 0, none⟩ = some (.slice (some adl) cl.length c2) := b6
              have g7 : w6.drew.cell? adl = some (.int .i64 f) := f6
              have g8 : w6.drew.cell? ⟨w.heap.size, 2, none⟩ = some (.slice A3 chn.length c3) := b6c
              clear b6 f6 b6c HU HBX HT6
              generalize w6.drew = w7 at HUd g6 g7 g8 ⊢
              have HB7 : Aside0 (LesB w (some adl) A3 cl.length c2 chn.length c3 back w7) := ⟨HB2.out.step HUd.out.b⟩
              go_wp2_with (go_at_call 41; refine (an_told w2.heap.size tb (w2.heap.size + 1) cs ms _ s ch chn f A3 c3 _ (HT.out.below HUd.out.b) HUd.out.se HUd.out.af HW.out (Kd.C_below HR3.out HB7.out.b) HL3.out HCL.out).mono ?_; rintro e w8 ⟨v0, v2, rfl, r0, r2, hb8⟩; obtain ⟨a0, c0', rfl⟩ := Kd.R_slice r0; obtain ⟨a2, c2', rfl⟩ := Kd.R_slice r2; have HB8 : Aside0 (LesB w (some adl) A3 cl.length c2 chn.length c3 back w8) := ⟨HB7.out.step hb8⟩; have H9 := Aside0.mk (And.intro r0 r2); clear r0 r2 hb8; have q0 : w8.cell? ⟨w.heap.size + 1, 0, none⟩ = some (.slice none 0 0) := blk_cell HB8.out.res 0; have q1 : w8.cell? ⟨w.heap.size + 1, 1, none⟩ = some (.int .i64 0) := blk_cell HB8.out.res 1; have q2 : w8.cell? ⟨w.heap.size + 1, 2, none⟩ = some (.slice none 0 0) := blk_cell HB8.out.res 2; have p0 := blk_frozen HB8.out.res 0; have p1 := blk_frozen HB8.out.res 1; have p2 := blk_frozen HB8.out.res 2)
              have hrn : (chn ++ ch).length = chn.length + ch.length := List.length_append
              have H91 := H9.out.1
              have H92 := H9.out.2
              rw [hrn] at H91 H92
              have hfin := res_setG (rb := w.heap.size + 1) (by omega) (v0 := .slice a0 ((restL ms s f).length + 1) c0') (v2 := .slice a2 (chn.length + ch.length) c2') (b := mostL ms (restL ms s f)) HB8.out.b HB8.out.res (Kd.R_lower H91 HB7.out.b.size) (Kd.R_lower H92 HB7.out.b.size)
              generalize ((w8.setCell ⟨w.heap.size + 1, 0, none⟩ (.slice a0 ((restL ms s f).length + 1) c0')).setCell ⟨w.heap.size + 1, 1, none⟩ (.int .i64 (mostL ms (restL ms s f)))).setCell ⟨w.heap.size + 1, 2, none⟩ (.slice a2 (chn.length + ch.length) c2') = w9 at hfin ⊢
              have k0 := blk_cell hfin.1 0
              have k01 := blk_cell hfin.1 1
              have k2 := blk_cell hfin.1 2
              rw [HP.out, HEQ.out]
              refine bodyPost_ret (v := .tuple #[.agg #[.slice a0 ((restL ms s f).length + 1) c0', .int .i64 (mostL ms (restL ms s f)), .slice a2 (chn.length + ch.length) c2'], .int .i64 0]) (by simp [results, Try.results30, go_sem, k0, k01, k2]) rfl ⟨_, _, rfl, hfin.2⟩
end Go.Proofs.Ytboalbiicmcljaa.PAN
