import Derived.Test.YtboalbiicmcljaaZOAnOg
import Derived.Test.YtboalbiicmcljaaZOAnF
import Derived.Test.YtboalbiicmcljaaZOAnO
import Derived.Test.YtboalbiicmcljaaZOPANx10
import Derived.Test.YtboalbiicmcljaaZOPANx15
import Derived.Test.YtboalbiicmcljaaZOPANx16
import Derived.Test.YtboalbiicmcljaaZOPANx33
import Derived.Test.YtboalbiicmcljaaZOPANx7
import Derived.Test.YtboalbiicmcljaaZOPANx8
import Derived.Test.YtboalbiicmcljaaZOPANx9
namespace Go.Proofs.Ytboalbiicmcljaa.PAN
open Go.RowKit Go.Proofs.YtboalbiicmcljaaW.PrintWords Go.Proofs.YtboalbiicmcljaaW.PrintLast Go.Proofs.YtboalbiicmcljaaW.PrintMore Go.Proofs.YtboalbiicmcljaaH
set_option linter.unusedVariables false
set_option linter.unusedSimpArgs false
set_option maxHeartbeats 8000000 in
set_option maxRecDepth 100000 in
theorem own_walk0 (k : Nat) (A0 : Option Addr) (c0 : Nat) (cs : List (List Int)) (A1 : Option Addr) (c1 : Nat) (ms : List Mk) (conf : Int) (fc fch mc mch : List Int) (fb fe mb me : Int) (w : World)
    (hr0 : Kd.C (Kd.slice 3 (Kd.int .i64)) w A0 cs.length cs) (hc0 : cs.length ≤ c0) (hr1 : Kd.C k49 w A1 ms.length ms) (hc1 : ms.length ≤ c1)
    (hT : fulcrumlaw21_twin.f k cs = some cs) (hM : fulcrumlaw21_marks.f k ms = some ms) (hF : analyse_First.f cs ms conf = some (fc, fb, fch, fe)) (hG : fulcrumref21_First.f k cs ms conf = some (fc, fb, fch, fe)) (hLv : fulcrumlaw21_lives.f k = some true)
    (hLs : analyse_Less.f cs ms fc fb fch = some (mc, mb, mch, me)) (hLr : fulcrumref21_Less.f k cs ms fc fb fch = some (mc, mb, mch, me))
    (hln : fc.length ≤ 1099511627776 ∧ fch.length ≤ 1099511627776 ∧ mc.length ≤ 1099511627776 ∧ mch.length ≤ 1099511627776) (hA1 : fulcrumlaw21_alike.f k fc fb fch fc fb fch = some true) (hA2 : fulcrumlaw21_alike.f k mc mb mch mc mb mch = some true) (hS : ∀ c ∈ cs, fulcrumlaw21_same.f k c c = some true) :
    Calls Try.prog 11 #[.agg #[.slice A0 cs.length c0, .slice A1 ms.length c1], .int .i64 conf] w fun e w' => e = .returned (.bool true) ∧ Below w.heap.size w w' := by
  have HR0 := Aside0.mk hr0
  have HR1 := Aside0.mk hr1
  have HC0 := Aside0.mk hc0
  have HC1 := Aside0.mk hc1
  have HT := Aside0.mk hT
  have HM := Aside0.mk hM
  have HF := Aside0.mk hF
  have HG := Aside0.mk hG
  have HLV := Aside0.mk hLv
  have HLS := Aside0.mk hLs
  have HLR := Aside0.mk hLr
  have HA1 := Aside0.mk hA1
  have HLN := Aside0.mk hln
  have HA2 := Aside0.mk hA2
  have HS := Aside0.mk hS
  have hmax := Kd.C_max hr0
  have hmaxm := Kd.C_max hr1
  clear hln hr0 hr1 hc0 hc1 hT hM hF hG hLv hLs hLr hA1 hA2 hS
  go_enter Try.func11, Try.ntmps11
  go_upto_region 1 with (fail)
  obtain ⟨w1, hw1⟩ : ∃ w1, w1 = w.alloc (.cells #[.slice A0 cs.length c0, .slice A1 ms.length c1] 26) := ⟨_, rfl⟩
  have hb1 : Below w.heap.size w w1 := by rw [hw1]; exact below_alloc (Below.refl _ _) _
  have hbx : w1.heap[w.heap.size]? = some (.cells #[.slice A0 cs.length c0, .slice A1 ms.length c1] 26 (0, 0)) := by rw [hw1]; exact heap_alloc_new _ _
  rw [← hw1]
  clear hw1
  have HBW := Aside0.mk hb1
  have HBX := Aside0.mk hbx
  have u0 := blk_cell hbx 0
  have u1 := blk_cell hbx 1
  clear hb1 hbx
  go_upto_region 3 with (first
    | (go_at_call 16; (with_reducible refine (fulcrumlaw21_twin.calls k A0 c0 cs cs _ ?side1 HC0.out HT.out).mono ?_); (case side1 => exact C_any (Kd.C_below HR0.out HBW.out)); rintro e wa ⟨v, rfl, hv, hb⟩; obtain ⟨At, ct, rfl⟩ := Kd.S_slice hv; have HTa := Aside0.mk (Kd.S_reads' hv).2; have HBa := Aside0.mk (below_then HBW.out HBW.out.size hb); have HBXa := Aside0.mk ((hb.block _ (blk_lt HBX.out)).trans HBX.out); clear u0 u1; have u1 := blk_cell HBXa.out 1; clear hv hb)
    | (go_at_call 17; (with_reducible refine (fulcrumlaw21_marks.calls k A1 c1 ms ms _ ?side1 HC1.out HM.out).mono ?_); (case side1 => exact C_any (Kd.C_below HR1.out HBa.out)); rintro e wb ⟨v, rfl, hv, hb⟩; obtain ⟨Am, cm, rfl⟩ := Kd.R_slice hv; have HTb := Aside0.mk (Kd.R_reads' hv).2; have HBb := Aside0.mk (below_then HBa.out HBa.out.size hb); have HTc := Aside0.mk (And.intro HTa.out.1 (Kd.C_below (C_any HTa.out.2) hb)); have HBXb := Aside0.mk ((hb.block _ (blk_lt HBXa.out)).trans HBXa.out); clear u1; clear hv hb))
  have u0 := blk_cell HBXb.out 0
  have u1 := blk_cell HBXb.out 1
  go_upto_region 4 with (go_at_call 18; (with_reducible refine (fulcrumref21_First.calls k A0 c0 cs A1 c1 ms conf fc fb fch fe _ ?side1 HC0.out ?side2 HC1.out HG.out).mono ?_); (case side1 => exact C_any (Kd.C_below HR0.out HBb.out)); (case side2 => exact C_any (Kd.C_below HR1.out HBb.out)); rintro e wd ⟨v, v2, rfl, hv, hv2, hb⟩; obtain ⟨Av, cv, rfl⟩ := Kd.R_slice hv; obtain ⟨Aw, cw, rfl⟩ := Kd.V_slice hv2; have HV := Aside0.mk (Kd.R_reads' hv).2; have HV2 := Aside0.mk (Kd.V_reads' hv2).2; have HBd := Aside0.mk hb; clear u0 u1 hv hv2 hb)
  obtain ⟨w3, hw3⟩ : ∃ w3, w3 = wd.alloc (.cells #[.slice Av fc.length cv, .int .i64 fb, .slice Aw fch.length cw] 30) := ⟨_, rfl⟩
  have h3 : Below wb.heap.size wb w3 := by rw [hw3]; exact below_alloc HBd.out _
  have h7 : w3.heap[wd.heap.size]? = some (.cells #[.slice Av fc.length cv, .int .i64 fb, .slice Aw fch.length cw] 30 (0, 0)) := by rw [hw3]; exact heap_alloc_new _ _
  have HV3 : Aside0 ((Kd.int .i64).C w3 Av fc.length fc) := ⟨by rw [hw3]; exact C_any HV.out.2⟩
  have HV4 : Aside0 ((Kd.int .i64).C w3 Aw fch.length fch) := ⟨by rw [hw3]; exact C_any HV2.out.2⟩
  rw [← hw3]
  clear hw3
  obtain ⟨gw, hgw⟩ : ∃ g, g = wd.heap.size := ⟨_, rfl⟩
  rw [← hgw] at h7 ⊢
  clear hgw
  have HB3 : Aside0 (Below w.heap.size w w3) := ⟨below_then HBb.out HBb.out.size h3⟩
  have HX3 := Aside0.mk ((h3.block _ (blk_lt HBXb.out)).trans HBXb.out)
  have HTA := Aside0.mk (And.intro HTc.out.1 (Kd.C_below HTc.out.2 h3))
  have HTB := Aside0.mk (And.intro HTb.out.1 (Kd.C_below HTb.out.2 h3))
  have HW7 := Aside0.mk h7
  clear h3 h7 HBb HBd HTa HTc HTb HBXa HBXb HBa
  go_upto_region 5 with (go_at_call 15; (with_reducible refine (analyse_First.calls At ct cs Am cm ms conf fc fb fch fe _ ?side1 HTA.out.1 ?side2 HTB.out.1 HF.out).mono ?_); (case side1 => exact C_any HTA.out.2); (case side2 => exact C_any HTB.out.2); rintro e wd ⟨v, v2, rfl, hv, hv2, hb⟩; obtain ⟨Af, cf, rfl⟩ := Kd.R_slice hv; obtain ⟨Ah, ch, rfl⟩ := Kd.R_slice hv2; have HF0 := Aside0.mk hv; have HF2 := Aside0.mk hv2; have HBd := Aside0.mk hb; clear hv hv2 hb)
  obtain ⟨w4, hw4⟩ : ∃ w4, w4 = wd.alloc (.cells #[.slice Af fc.length cf, .int .i64 fb, .slice Ah fch.length ch] 30) := ⟨_, rfl⟩
  have h4 : Below w3.heap.size w3 w4 := by rw [hw4]; exact below_alloc HBd.out _
  have h9 : w4.heap[wd.heap.size]? = some (.cells #[.slice Af fc.length cf, .int .i64 fb, .slice Ah fch.length ch] 30 (0, 0)) := by rw [hw4]; exact heap_alloc_new _ _
  have HR4 := (show Aside0 (Kd.R (Kd.int .i64) 3 w4 w3.heap.size (fun k => some k ≠ (Value.slice Ah fch.length ch).ownBlock) (.slice Af fc.length cf) fc) from ⟨by rw [hw4]; exact Kd.R_alloc HF0.out _⟩)
  have HR5 := (show Aside0 (Kd.R (Kd.int .i64) 3 w4 w3.heap.size (fun k => some k ≠ (Value.slice Af fc.length cf).ownBlock) (.slice Ah fch.length ch) fch) from ⟨by rw [hw4]; exact Kd.R_alloc HF2.out _⟩)
  rw [← hw4]
  clear hw4
  obtain ⟨gf, hgf⟩ : ∃ g, g = wd.heap.size := ⟨_, rfl⟩
  rw [← hgf] at h9 ⊢
  clear hgf
  have HB4 := Aside0.mk h4
  have HVC := Aside0.mk (And.intro HV.out.1 HV2.out.1)
  have HW9 := Aside0.mk h9
  clear h4 h9 HBd HF0 HF2
  have h7 := (HB4.out.block gw (blk_lt HW7.out)).trans HW7.out
  have n1 : (fe != fe) = false := by simp
  have u0 := blk_cell h7 0
  have u1 := blk_cell h7 1
  have u2 := blk_cell h7 2
  have u3 := blk_cell HW9.out 0
  have u4 := blk_cell HW9.out 1
  have u5 := blk_cell HW9.out 2
  have HV7 := Aside0.mk h7
  clear h7
  go_upto_region 7 with (first
    | (go_at_call 19; (with_reducible refine (fulcrumlaw21_alike.calls k Af cf fc fb Ah ch fch Av cv fc fb Aw cw fch true _ ?side1 (Kd.R_reads' HR4.out).2.1 ?side2 (Kd.R_reads' HR5.out).2.1 ?side3 HV.out.1 ?side4 HV2.out.1 HA1.out).mono ?_); (case side1 => exact C_any (Kd.R_reads' HR4.out).2.2); (case side2 => exact C_any (Kd.R_reads' HR5.out).2.2); (case side3 => exact C_any (Kd.C_below HV3.out HB4.out)); (case side4 => exact C_any (Kd.C_below HV4.out HB4.out)); rintro e w5 ⟨rfl, hb⟩; have HBe := Aside0.mk hb; clear hb)
    | (go_at_call 14; refine (fulcrumlaw21_lives.calls k true _ HLV.out).mono ?_; rintro e w6 ⟨rfl, hb⟩; have HBf := Aside0.mk (below_then HBe.out HBe.out.size hb); clear hb))
  clear u0 u1 u2 u3 u4 u5 n1 HV
  have HB6 := Aside0.mk (below_then HB4.out HB4.out.size HBf.out)
  have HF6 := Aside0.mk ((HBf.out.block gf (blk_lt HW9.out)).trans HW9.out)
  have HR6 := Aside0.mk (And.intro (Kd.R_below HR4.out HBf.out) (Kd.R_below HR5.out HBf.out))
  have HLT := Aside0.mk (And.intro (Kd.R_lt HR6.out.1) (Kd.R_lt HR6.out.2))
  clear HBe HBf HR4 HR5 HV7 HB4 HW9
  have u3 := blk_cell HF6.out 0
  have u4 := blk_cell HF6.out 1
  have u5 := blk_cell HF6.out 2
  go_upto_region 8 with (go_at_call 30; (with_reducible refine (analyse_Less.calls At ct cs Am cm ms Af cf fc fb Ah ch fch mc mb mch me _ ?side1 HTA.out.1 ?side2 HTB.out.1 ?side3 (Kd.R_reads' HR6.out.1).2.1 ?side4 (Kd.R_reads' HR6.out.2).2.1 HLS.out).mono ?_); (case side1 => exact C_any (Kd.C_below HTA.out.2 HB6.out)); (case side2 => exact C_any (Kd.C_below HTB.out.2 HB6.out)); (case side3 => exact C_any (Kd.R_reads' HR6.out.1).2.2); (case side4 => exact C_any (Kd.R_reads' HR6.out.2).2.2); rintro e wd ⟨v, v2, rfl, hv, hv2, hb⟩; obtain ⟨Ai, ci, rfl⟩ := Kd.R_slice hv; obtain ⟨Aj, cj, rfl⟩ := Kd.R_slice hv2; have HF0 := Aside0.mk hv; have HF2 := Aside0.mk hv2; have HBd := Aside0.mk hb; clear hv hv2 hb u3 u4 u5)
  obtain ⟨w7, hw7⟩ : ∃ w7, w7 = wd.alloc (.cells #[.slice Ai mc.length ci, .int .i64 mb, .slice Aj mch.length cj] 30) := ⟨_, rfl⟩
  have h7 : Below w6.heap.size w6 w7 := by rw [hw7]; exact below_alloc HBd.out _
  have h11 : w7.heap[wd.heap.size]? = some (.cells #[.slice Ai mc.length ci, .int .i64 mb, .slice Aj mch.length cj] 30 (0, 0)) := by rw [hw7]; exact heap_alloc_new _ _
  have HR7 : Aside0 (Kd.R (Kd.int .i64) 3 w7 w6.heap.size (fun k => some k ≠ (Value.slice Aj mch.length cj).ownBlock) (.slice Ai mc.length ci) mc ∧ Kd.R (Kd.int .i64) 3 w7 w6.heap.size (fun k => some k ≠ (Value.slice Ai mc.length ci).ownBlock) (.slice Aj mch.length cj) mch) := ⟨by rw [hw7]; exact ⟨Kd.R_alloc HF0.out _, Kd.R_alloc HF2.out _⟩⟩
  rw [← hw7]
  clear hw7
  obtain ⟨gl, hgl⟩ : ∃ g, g = wd.heap.size := ⟨_, rfl⟩
  rw [← hgl] at h11 ⊢
  clear hgl
  have HB7 := Aside0.mk h7
  have HB37 := Aside0.mk (below_then HB6.out HB6.out.size h7)
  have HW11 := Aside0.mk h11
  clear h7 h11 HBd HF0 HF2
  have HX7 := Aside0.mk ((HB37.out.block _ (blk_lt HX3.out)).trans HX3.out)
  have HY7 := Aside0.mk ((HB37.out.block _ (blk_lt HW7.out)).trans HW7.out)
  have u0 := blk_cell HX7.out 0
  have u1 := blk_cell HX7.out 1
  have u2 := blk_cell HY7.out 0
  have u3 := blk_cell HY7.out 1
  have u4 := blk_cell HY7.out 2
  have hcv : fc.length ≤ cv ∧ fch.length ≤ cw := HVC.out
  go_upto_region 9 with (go_at_call 32; (with_reducible refine (fulcrumref21_Less.calls k A0 c0 cs A1 c1 ms Av cv fc fb Aw cw fch mc mb mch me _ ?side1 HC0.out ?side2 HC1.out ?side3 HVC.out.1 ?side4 HVC.out.2 HLR.out).mono ?_); (case side1 => exact C_any (Kd.C_below (Kd.C_below HR0.out HB3.out) HB37.out)); (case side2 => exact C_any (Kd.C_below (Kd.C_below HR1.out HB3.out) HB37.out)); (case side3 => exact C_any (Kd.C_below HV3.out HB37.out)); (case side4 => exact C_any (Kd.C_below HV4.out HB37.out)); rintro e wd ⟨v, v2, rfl, hv, hv2, hb⟩; obtain ⟨Ap, cp, rfl⟩ := Kd.R_slice hv; obtain ⟨Aq, cq, rfl⟩ := Kd.V_slice hv2; have HF0 := Aside0.mk (Kd.R_reads' hv).2; have HF2 := Aside0.mk (Kd.V_reads' hv2).2; have HBd := Aside0.mk hb; clear hv hv2 hb u0 u1 u2 u3 u4)
  clear hcv
  obtain ⟨w8, hw8⟩ : ∃ w8, w8 = wd.alloc (.cells #[.slice Ap mc.length cp, .int .i64 mb, .slice Aq mch.length cq] 30) := ⟨_, rfl⟩
  have h8 : Below w7.heap.size w7 w8 := by rw [hw8]; exact below_alloc HBd.out _
  have h13 : w8.heap[wd.heap.size]? = some (.cells #[.slice Ap mc.length cp, .int .i64 mb, .slice Aq mch.length cq] 30 (0, 0)) := by rw [hw8]; exact heap_alloc_new _ _
  have HV8 : Aside0 ((Kd.int .i64).C w8 Ap mc.length mc ∧ (Kd.int .i64).C w8 Aq mch.length mch) := ⟨by rw [hw8]; exact ⟨C_any HF0.out.2, C_any HF2.out.2⟩⟩
  have HVD := Aside0.mk (And.intro HF0.out.1 HF2.out.1)
  rw [← hw8]
  clear hw8
  obtain ⟨gm, hgm⟩ : ∃ g, g = wd.heap.size := ⟨_, rfl⟩
  rw [← hgm] at h13 ⊢
  clear hgm HBd HF0 HF2
  have HR8 := Aside0.mk (And.intro (Kd.R_below HR7.out.1 h8) (Kd.R_below HR7.out.2 h8))
  have HB68 := Aside0.mk (below_then HB7.out HB7.out.size h8)
  have HB38 := Aside0.mk (below_then HB37.out HB37.out.size h8)
  have HS8 := Aside0.mk (And.intro (Kd.R_below HR6.out.1 HB68.out) (Kd.R_below HR6.out.2 HB68.out))
  have HM8 := Aside0.mk h13
  have HL8 := Aside0.mk ((h8.block gl (blk_lt HW11.out)).trans HW11.out)
  have HG8 := Aside0.mk ((HB38.out.block gw (blk_lt HW7.out)).trans HW7.out)
  have HF8 := Aside0.mk ((HB68.out.block gf (blk_lt HF6.out)).trans HF6.out)
  clear h8 h13 HR7 HW11 HX7 HY7 HF6 HR6
  have n1 : (me != me) = false := by simp
  have u0 := blk_cell HG8.out 0
  have u1 := blk_cell HG8.out 1
  have u2 := blk_cell HG8.out 2
  have u3 := blk_cell HF8.out 0
  have u4 := blk_cell HF8.out 1
  have u5 := blk_cell HF8.out 2
  have u6 := blk_cell HL8.out 0
  have u7 := blk_cell HL8.out 1
  have u8 := blk_cell HL8.out 2
  have u9 := blk_cell HM8.out 0
  have u10 := blk_cell HM8.out 1
  have u11 := blk_cell HM8.out 2
  go_upto_region 11 with (first
    | (go_at_call 19; (with_reducible refine (fulcrumlaw21_alike.calls k Ai ci mc mb Aj cj mch Ap cp mc mb Aq cq mch true _ ?side1 (Kd.R_reads' HR8.out.1).2.1 ?side2 (Kd.R_reads' HR8.out.2).2.1 ?side3 HVD.out.1 ?side4 HVD.out.2 HA2.out).mono ?_); (case side1 => exact C_any (Kd.R_reads' HR8.out.1).2.2); (case side2 => exact C_any (Kd.R_reads' HR8.out.2).2.2); (case side3 => exact C_any HV8.out.1); (case side4 => exact C_any HV8.out.2); rintro e w9 ⟨rfl, hb⟩; have HB9 := Aside0.mk hb; clear u0 u1 u2 u3 u4 u5 u6 u7 u8 u9 u10 u11; have u0 := blk_cell ((hb.block _ (blk_lt HG8.out)).trans HG8.out) 0; have u1 := blk_cell ((hb.block _ (blk_lt HG8.out)).trans HG8.out) 1; have u2 := blk_cell ((hb.block _ (blk_lt HG8.out)).trans HG8.out) 2; have u3 := blk_cell ((hb.block _ (blk_lt HF8.out)).trans HF8.out) 0; have u4 := blk_cell ((hb.block _ (blk_lt HF8.out)).trans HF8.out) 1; have u5 := blk_cell ((hb.block _ (blk_lt HF8.out)).trans HF8.out) 2; clear hb)
    | (go_at_call 19; (with_reducible refine (fulcrumlaw21_alike.calls k Af cf fc fb Ah ch fch Av cv fc fb Aw cw fch true _ ?side1 (Kd.R_reads' HS8.out.1).2.1 ?side2 (Kd.R_reads' HS8.out.2).2.1 ?side3 HVC.out.1 ?side4 HVC.out.2 HA1.out).mono ?_); (case side1 => exact C_any (Kd.C_below (Kd.R_reads' HS8.out.1).2.2 HB9.out)); (case side2 => exact C_any (Kd.C_below (Kd.R_reads' HS8.out.2).2.2 HB9.out)); (case side3 => exact C_any (Kd.C_below (Kd.C_below HV3.out HB38.out) HB9.out)); (case side4 => exact C_any (Kd.C_below (Kd.C_below HV4.out HB38.out) HB9.out)); rintro e w10 ⟨rfl, hb⟩; have HB10 := Aside0.mk (below_then HB9.out HB9.out.size hb); clear hb u0 u1 u2 u3 u4 u5))
  clear n1
  have u0 := blk_cell ((HB10.out.block _ (blk_lt HF8.out)).trans HF8.out) 0
  have u1 := blk_cell ((HB10.out.block _ (blk_lt HF8.out)).trans HF8.out) 2
  have u2 := blk_cell ((HB10.out.block _ (blk_lt HL8.out)).trans HL8.out) 0
  have u3 := blk_cell ((HB10.out.block _ (blk_lt HL8.out)).trans HL8.out) 2
  go_upto_region 13 with (fail)
  clear u0 u1 u2 u3
  obtain ⟨w11, hw11⟩ : ∃ w11, w11 = w10.alloc (.cells #[.slice Af fc.length cf, .slice Ah fch.length ch, .slice Ai mc.length ci, .slice Aj mch.length cj] 55) := ⟨_, rfl⟩
  have HB310 := Aside0.mk (below_then HB38.out HB38.out.size HB10.out)
  have h11 : Below w3.heap.size w3 w11 := by rw [hw11]; exact below_alloc HB310.out _
  have hA : w11.heap[w10.heap.size]? = some (.cells #[.slice Af fc.length cf, .slice Ah fch.length ch, .slice Ai mc.length ci, .slice Aj mch.length cj] 55 (0, 0)) := by rw [hw11]; exact heap_alloc_new _ _
  have hge : w3.heap.size ≤ w10.heap.size := HB310.out.size
  obtain ⟨V, hV⟩ : ∃ V, V = four (Value.slice Af fc.length cf) (Value.slice Ah fch.length ch) (Value.slice Ai mc.length ci) (Value.slice Aj mch.length cj) := ⟨_, rfl⟩
  obtain ⟨X, hX⟩ : ∃ X, X = four fc fch mc mch := ⟨_, rfl⟩
  have hRow : Rows w11 w3.heap.size V X := by
    rw [hw11, hV, hX]
    have b68 := HB68.out
    exact Rows.start (w4 := w6) HB6.out.size (Kd.R_alloc (Kd.R_below HS8.out.1 HB10.out) _) (Kd.R_alloc (Kd.R_below HS8.out.2 HB10.out) _) HLT.out.1 HLT.out.2 (Kd.R_alloc (Kd.R_below HR8.out.1 HB10.out) _) (Kd.R_alloc (Kd.R_below HR8.out.2 HB10.out) _)
  have hXl : ∀ i, i < 4 → (X i).length ≤ 1099511627776 := by
    intro i hi
    rw [hX]
    have := HLN.out
    rcases lt4 hi with rfl | rfl | rfl | rfl <;> simp only [four] <;> simp <;> omega
  have hA : w11.heap[w10.heap.size]? = some (.cells #[V 0, V 1, V 2, V 3] 55 (0, 0)) := by rw [hA, hV]; rfl
  rw [← hw11]
  clear hw11 hV hX HLT
  obtain ⟨ga, hga⟩ : ∃ g, g = w10.heap.size := ⟨_, rfl⟩
  rw [← hga] at hA hge ⊢
  clear hga
  have HXL := Aside0.mk hXl
  have HA := Aside0.mk hA
  have HGE := Aside0.mk hge
  have HROW := Aside0.mk hRow
  have HB11 := Aside0.mk h11
  clear h11 hA hge hRow hXl HB310 HB10 HB9 HF8 HG8 HL8 HM8 HS8 HB38 HB68 HR8 HVD HV8 HB7 HB37 HB6 HBW HBX
  go_loopg [16] 4 (fun kq v16 w' => ∃ i : Nat, v16 = .int .i64 i ∧ i + kq = 4 ∧ Aside0 (Fill w3 w' ga V X i 0))
  case atStart => exact ⟨0, rfl, by omega, ⟨Fill.start HB11.out HA.out HROW.out⟩⟩
  case round =>
    obtain ⟨i, rfl, hik, HI⟩ := hrel
    cases gk with
    | zero => 
      obtain rfl : i = 4 := by omega
      go_upto_region 21 with (fail)
      have HGR := Aside0.mk (Grow.start HI.out HGE.out)
      obtain ⟨gb, hgb⟩ : ∃ g, g = wr.heap.size := ⟨_, rfl⟩
      obtain ⟨wg, hwg⟩ : ∃ w', w' = wr.alloc (.cells #[nilS, nilS, nilS, nilS] 55) := ⟨_, rfl⟩
      rw [← hgb, ← hwg] at HGR
      show Code.wp _ _ _ _ (wr.alloc (.cells #[nilS, nilS, nilS, nilS] 55))
      rw [← hgb, ← hwg]
      clear hgb hwg HI HROW HA HB11
      go_loopg [19] 4 (fun kq v19 w' => ∃ (i : Nat) (U : Nat → Value) (N : Nat → Nat), v19 = .int .i64 i ∧ i + kq = 4 ∧ Aside0 (Grow w3 w' ga gb V U (fun i => (X i).length) N ∧ ∀ k, k < i → k < 4 → N k = (X k).length + 16))
      case atStart => exact ⟨0, _, _, rfl, by omega, ⟨HGR.out, fun k hk => absurd hk (by omega)⟩⟩
      case round =>
        obtain ⟨i, U, N, rfl, hik, HI⟩ := hrel
        cases gk with
        | zero => 
          obtain rfl : i = 4 := by omega
          have HGR2 := Aside0.mk HI.out.1
          have HN16 := Aside0.mk HI.out.2
          clear HI HGR
          go_upto_region 29 with (fail)
          go_loopg [21] 4 (fun kq v21 w' => ∃ (i : Nat), v21 = .int .i64 i ∧ i + kq = 4 ∧ Aside0 (Grow w3 w' ga gb V U (fun i => (X i).length) N))
          case atStart => exact ⟨0, rfl, by omega, HGR2⟩
          case round =>
            obtain ⟨i, rfl, hik, HI⟩ := hrel
            cases gk with
            | zero => 
              obtain rfl : i = 4 := by omega
              have HBZ := Aside0.mk HI.out.b
              clear HI HGR2 HN16
              go_upto_region 37 with (fail)
              go_loopg [23] cs.length (fun kq v23 w' => ∃ (i : Nat), v23 = .int .i64 i ∧ i + kq = cs.length ∧ Aside0 (Below w3.heap.size w3 w'))
              case atStart => exact ⟨0, rfl, by omega, HBZ⟩
              case round =>
                obtain ⟨i, rfl, hik, HI⟩ := hrel
                cases gk with
                | zero =>
                  have hi : i = cs.length := by omega
                  subst hi
                  go_upto_region 42 with (fail)
                  go_loopg [24] ms.length (fun kq v24 w' => ∃ (i : Nat), v24 = .int .i64 i ∧ i + kq = ms.length ∧ Aside0 (Below w3.heap.size w3 w'))
                  case atStart => exact ⟨0, rfl, by omega, HI⟩
                  case round =>
                    obtain ⟨i, rfl, hik, HI⟩ := hrel
                    cases gk with
                    | zero =>
                      have hi : i = ms.length := by omega
                      subst hi
                      have HIZ := HI
                      clear HI
                      go_upto_region 47 with (go_at_call 15; (with_reducible refine (analyse_First.calls At ct cs Am cm ms conf fc fb fch fe _ ?side1 HTA.out.1 ?side2 HTB.out.1 HF.out).mono ?_); (case side1 => exact C_any (Kd.C_below HTA.out.2 HIZ.out)); (case side2 => exact C_any (Kd.C_below HTB.out.2 HIZ.out)); rintro e wd ⟨v, v2, rfl, hv, hv2, hb⟩; obtain ⟨Af, cf, rfl⟩ := Kd.R_slice hv; obtain ⟨Ah, ch, rfl⟩ := Kd.R_slice hv2; have HF0 := Aside0.mk hv; have HF2 := Aside0.mk hv2; have HBd := Aside0.mk (below_then HIZ.out HIZ.out.size hb); clear hv hv2 hb)
                      obtain ⟨w20, hw20⟩ : ∃ w', w' = wd.alloc (.cells #[.slice Af fc.length cf, .int .i64 fb, .slice Ah fch.length ch] 30) := ⟨_, rfl⟩
                      have h20 : Below w3.heap.size w3 w20 := by rw [hw20]; exact below_alloc HBd.out _
                      have h25 : w20.heap[wd.heap.size]? = some (.cells #[.slice Af fc.length cf, .int .i64 fb, .slice Ah fch.length ch] 30 (0, 0)) := by rw [hw20]; exact heap_alloc_new _ _
                      have HRZ : Aside0 ((Kd.int .i64).C w20 Af fc.length fc ∧ (Kd.int .i64).C w20 Ah fch.length fch) := ⟨by rw [hw20]; exact ⟨C_any (Kd.R_reads' HF0.out).2.2, C_any (Kd.R_reads' HF2.out).2.2⟩⟩
                      rw [← hw20]
                      clear hw20
                      obtain ⟨gz, hgz⟩ : ∃ g, g = wd.heap.size := ⟨_, rfl⟩
                      rw [← hgz] at h25 ⊢
                      clear hgz
                      have HB20 := Aside0.mk h20
                      have u0 := blk_cell ((h20.block gw (blk_lt HW7.out)).trans HW7.out) 0
                      have u1 := blk_cell ((h20.block gw (blk_lt HW7.out)).trans HW7.out) 1
                      have u2 := blk_cell ((h20.block gw (blk_lt HW7.out)).trans HW7.out) 2
                      have u3 := blk_cell h25 0
                      have u4 := blk_cell h25 1
                      have u5 := blk_cell h25 2
                      clear h20 h25
                      have n1 : (fe == fe) = true := by simp
                      go_wp2_with (go_at_call 19; (with_reducible refine (fulcrumlaw21_alike.calls k Af cf fc fb Ah ch fch Av cv fc fb Aw cw fch true _ ?side1 (Kd.R_reads' HF0.out).2.1 ?side2 (Kd.R_reads' HF2.out).2.1 ?side3 HVC.out.1 ?side4 HVC.out.2 HA1.out).mono ?_); (case side1 => exact C_any HRZ.out.1); (case side2 => exact C_any HRZ.out.2); (case side3 => exact C_any (Kd.C_below HV3.out HB20.out)); (case side4 => exact C_any (Kd.C_below HV4.out HB20.out)); rintro e w5 ⟨rfl, hb⟩; have HBe := Aside0.mk hb; clear hb)
                      go_ret
                      exact ⟨rfl, below_then HB3.out HB3.out.size (below_then HB20.out HB20.out.size HBe.out)⟩
                    | succ k1 =>
                      have hlt : i < ms.length := by omega
                      have hi1 : (i : Int) < (ms.length : Int) := by omega
                      have hi0 : (0 : Int) ≤ (i : Int) := by omega
                      have HBW := Aside0.mk (below_then HB3.out HB3.out.size HI.out)
                      have hbx := (HI.out.block _ (blk_lt HX3.out)).trans HX3.out
                      have u0 := blk_cell hbx 1
                      obtain ⟨adc, hA0, y0w, y1w, y2w⟩ := at_T49 HR1.out (i : Int) hi0 hi1
                      obtain ⟨add, hAt, z0w, z1w, z2w⟩ := at_T49 HTB.out.2 (i : Int) hi0 hi1
                      have y0 := pw_cell_below HBW.out y0w
                      have y1 := pw_cell_below HBW.out y1w
                      have y2 := pw_cell_below HBW.out y2w
                      have z0 := pw_cell_below HI.out z0w
                      have z1 := pw_cell_below HI.out z1w
                      have z2 := pw_cell_below HI.out z2w
                      obtain ⟨mk, hmk⟩ : ∃ m, m = rd_T49 ms (i : Int) := ⟨_, rfl⟩
                      rw [← hmk, Int.toNat_natCast] at y0 y1 y2 z0 z1 z2
                      clear hbx y0w y1w y2w z0w z1w z2w hmk
                      subst hA0 hAt
                      go_wp2
                      go_quiet (fail)
                      go_wp2
                      go_roundg k1
                      case measure => omega
                      case rel => exact ⟨i + 1, by go_num, by omega, ⟨bel_any (w0 := w3) HI.out⟩⟩
                | succ k1 =>
                  have hlt : i < cs.length := by omega
                  have hi1 : (i : Int) < (cs.length : Int) := by omega
                  have hi0 : (0 : Int) ≤ (i : Int) := by omega
                  have HBW := Aside0.mk (below_then HB3.out HB3.out.size HI.out)
                  have hbx := (HI.out.block _ (blk_lt HX3.out)).trans HX3.out
                  have u0 := blk_cell hbx 0
                  obtain ⟨adc, Ac, cc, hA0, y0w, y1, y2w⟩ := at_C HR0.out (i : Int) hi0 hi1
                  obtain ⟨add, Ad, cd, hAt, z0w, z1, z2w⟩ := at_C HTA.out.2 (i : Int) hi0 hi1
                  have y0 := pw_cell_below HBW.out y0w
                  have z0 := pw_cell_below HI.out z0w
                  have HY2 := Aside0.mk (Kd.C_below y2w HBW.out)
                  have HZ2 := Aside0.mk (Kd.C_below z2w HI.out)
                  have hxc := HS.out _ (rdC_mem hi0 hi1)
                  obtain ⟨cl, hcle⟩ : ∃ c, c = rdC cs (i : Int) := ⟨_, rfl⟩
                  rw [← hcle] at y0 y1 HY2 z0 z1 HZ2 hxc
                  rw [Int.toNat_natCast] at y0 z0
                  have HY1 := Aside0.mk y1
                  have HZ1 := Aside0.mk z1
                  have HXC := Aside0.mk hxc
                  clear hbx y0w z0w y2w z2w hcle y1 z1 hxc
                  subst hA0 hAt
                  go_wp2
                  go_quiet ((go_at_call 27; exact Calls.quiet_of ((fulcrumlaw21_same.calls k Ad cd cl Ac cc cl true _ (C_any HZ2.out) HZ1.out (C_any HY2.out) HY1.out HXC.out).mono (fun e w' h => ⟨h.1, h.2.out⟩))))
                  go_wp2
                  go_roundg k1
                  case measure => omega
                  case rel => exact ⟨i + 1, by go_num, by omega, ⟨bel_any (w0 := w3) HI.out⟩⟩
            | succ k1 =>
              have hlt : i < 4 := by omega
              have hlt4 : (i : Int) < 4 := by omega
              obtain ⟨Ax, cx, hvi⟩ := HI.out.sliceV hlt
              obtain ⟨Ay, cy, hui⟩ := HI.out.sliceU hlt
              have hNi := HN16.out i hlt hlt
              go_upto_region 32 with (fail)
              go_loopg [22] ((X i).length + 16) (fun kq v22 w' => ∃ (j : Nat), v22 = .int .i64 j ∧ j + kq = (X i).length + 16 ∧ Aside0 (Grow w3 w' ga gb V U (fun i => (X i).length) N))
              case atStart => exact ⟨0, rfl, by omega, HI⟩
              case round =>
                obtain ⟨j, rfl, hjk, HJ⟩ := hrel
                have u0 := HJ.out.cellV hlt
                rw [hvi] at u0
                have u1 := (HJ.out.cellU hlt).1
                rw [hui, hNi] at u1
                have hx9 := HXL.out i hlt
                cases gk with
                | zero =>
                  have hj : j = (X i).length + 16 := by omega
                  have hj2 : ¬ ((j : Int) < ((X i).length : Int) + 16) := by omega
                  clear hj
                  go_wp2
                  go_roundg k1
                  case measure => omega
                  case rel => exact ⟨i + 1, by go_num, by omega, HJ⟩
                | succ k2 =>
                  have hj : j < N i := by omega
                  have hj2 : (j : Int) < ((X i).length : Int) + 16 := by omega
                  have hj0 : (0 : Int) ≤ (j : Int) := by omega
                  obtain ⟨g, c, hu, u2⟩ := own_at (HJ.out.new i hlt) hj
                  have e1 := hui.symm.trans hu
                  simp only [Value.slice.injEq] at e1
                  rw [e1.1] at u1
                  clear e1 hu hj hui hvi
                  by_cases hjn : j < (X i).length
                  · have hjn2 : (j : Int) < ((X i).length : Int) := by omega
                    obtain ⟨g2, c2, hv, u3⟩ := own_at (HJ.out.old i hlt) hjn
                    clear u0
                    have u0 := HJ.out.cellV hlt
                    rw [hv] at u0
                    (try dsimp only at u0)
                    go_wp2
                    go_roundg k2
                    case measure => omega
                    case rel => exact ⟨j + 1, by go_num, by omega, HJ⟩
                  · have hjn2 : ¬ ((j : Int) < ((X i).length : Int)) := by omega
                    go_wp2
                    go_roundg k2
                    case measure => omega
                    case rel => exact ⟨j + 1, by go_num, by omega, HJ⟩
        | succ k1 =>
          have hlt : i < 4 := by omega
          have hlt4 : (i : Int) < 4 := by omega
          obtain ⟨Ax, cx, hvi⟩ := HI.out.1.sliceV hlt
          have u0 := HI.out.1.cellV hlt
          obtain ⟨u1, uf⟩ := HI.out.1.cellU hlt
          have hne := HI.out.1.ne
          rw [hvi] at u0
          go_upto_region 25 with (fail)
          have hbg := HI.out.1.begin hlt
          rw [hvi] at hbg
          have HBG := Aside0.mk hbg
          have HIN := Aside0.mk HI.out.2
          clear hbg u0 u1 uf HI
          go_loopg [20] 16 (fun kq v20 w' => ∃ (U : Nat → Value) (N : Nat → Nat), v20 = .int .i64 (N i) ∧ N i + kq = (X i).length + 16 ∧ Aside0 (Grow w3 w' ga gb V U (fun i => (X i).length) N ∧ ∀ k, k < i → k < 4 → N k = (X k).length + 16))
          case atStart => exact ⟨_, _, by rw [upd_at], by rw [upd_at], ⟨HBG.out, fun k hk hk4 => by rw [upd_ne _ _ (show k ≠ i by omega)]; exact HIN.out k hk hk4⟩⟩
          case round =>
            obtain ⟨U1, N1, rfl, hjk, HJ⟩ := hrel
            have u0 := HJ.out.1.cellV hlt
            rw [hvi] at u0
            have hx9 := HXL.out i hlt
            cases gk with
            | zero =>
              have hNj : N1 i = (X i).length + 16 := by omega
              go_wp2
              go_roundg k1
              case measure => omega
              case rel => exact ⟨i + 1, _, _, by go_num, by omega, ⟨HJ.out.1, fun k hk hk4 => by
                by_cases he : k = i
                · rw [he]; exact hNj
                · exact HJ.out.2 k (by omega) hk4⟩⟩
            | succ k2 =>
              obtain ⟨Ay, cy, hui⟩ := HJ.out.1.sliceU hlt
              obtain ⟨u1, uf⟩ := HJ.out.1.cellU hlt
              rw [hui] at u1
              have hj : N1 i < (X i).length + 16 := by omega
              go_wp2_with (at_builtin; refine grow_append HJ.out.1 hlt rfl (.tmp 149) (.tmp 155) rfl _ hui rfl rfl ?aL ?_; (case aL => omega); intro v w5 hv; obtain ⟨A2, c2, hvv⟩ := hv.1.sliceU hlt; rw [upd_at, upd_at] at hvv; subst hvv; have u2 := arr_cell hv.2 hlt; have uf2 := arr_frozen hv.2 hlt; have HV9 := Aside0.mk hv.1; clear hv u0 u1 uf)
              go_roundg k2
              case measure => omega
              case rel => exact ⟨_, _, by rw [upd_at]; go_num, by rw [upd_at]; omega, ⟨HV9.out, fun k hk hk4 => by rw [upd_ne _ _ (show k ≠ i by omega)]; exact HJ.out.2 k hk hk4⟩⟩
    | succ k1 =>
      have hlt : i < 4 := by omega
      obtain ⟨Ax, cx, hvi⟩ := HI.out.row hlt
      have u0 := HI.out.cell hlt
      rw [hvi] at u0
      go_upto_region 16 with (fail)
      go_loopg [17] (X i).length (fun kq v17 w' => ∃ j : Nat, v17 = .int .i64 j ∧ j + kq = (X i).length ∧ Aside0 (Fill w3 w' ga V X i j))
      case atStart => exact ⟨0, rfl, by omega, HI⟩
      case round =>
        obtain ⟨j, rfl, hjk, HJ⟩ := hrel
        clear u0
        have u0 := HJ.out.cell hlt
        rw [hvi] at u0
        cases gk with
        | zero =>
          obtain rfl : j = (X i).length := by omega
          go_wp2
          go_roundg k1
          case measure => omega
          case rel => exact ⟨i + 1, by go_num, by omega, ⟨HJ.out.next hlt⟩⟩
        | succ k2 =>
          have hj : j < (X i).length := by omega
          obtain ⟨g, c, x, hv, u1, uf⟩ := HJ.out.at hlt hj
          have hvi2 := hvi.symm.trans hv
          injection hvi2 with e1 e2 e3
          rw [e1] at u0
          clear e1 e2 e3
          have hi0 : (0 : Int) ≤ (j : Int) := by omega
          have hi1 : (j : Int) < ((X i).length : Int) := by omega
          have hx9 := HXL.out i hlt
          go_wp2
          go_roundg k2
          case measure => omega
          case rel => exact ⟨j + 1, by go_num, by omega, ⟨HJ.out.put HGE.out hlt hj hv⟩⟩
theorem sames_all : ∀ cs : List (List Int), (∀ c ∈ cs, c.length ≤ 4194304) → ∃ K, ∀ k, K ≤ k → ∀ c ∈ cs, fulcrumlaw21_same.f k c c = some true
  | [], _ => ⟨0, fun _ _ c hc => by cases hc⟩
  | c :: r, hl => by
    have hc0 := hl c (by simp)
    obtain ⟨K1, h1⟩ := same_all c (by omega)
    obtain ⟨K2, h2⟩ := sames_all r (fun c hc => hl c (by simp [hc]))
    refine ⟨K1 + K2, fun k hk x hx => ?_⟩
    rcases List.mem_cons.1 hx with rfl | hx
    · exact h1 k (by omega)
    · exact h2 k (by omega) x hx
theorem own_walk (A0 : Option Addr) (c0 : Nat) (cs : List (List Int)) (A1 : Option Addr) (c1 : Nat) (ms : List Mk) (conf : Int) (w : World)
    (hr0 : Kd.C (Kd.slice 3 (Kd.int .i64)) w A0 cs.length cs) (hc0 : cs.length ≤ c0) (hr1 : Kd.C k49 w A1 ms.length ms) (hc1 : ms.length ≤ c1) (hW : Wf cs ms) (hm : ms.length ≤ 524288) :
    Calls Try.prog 11 #[.agg #[.slice A0 cs.length c0, .slice A1 ms.length c1], .int .i64 conf] w fun e w' => e = .returned (.bool true) ∧ Below w.heap.size w w' := by
  have hsay := firstP_says hW conf
  have hG := First_all hW conf
  obtain ⟨F, hF⟩ : ∃ F, F = firstP cs ms conf := ⟨_, rfl⟩
  rw [← hF] at hsay hG
  obtain ⟨fc, fb, fch, fe⟩ := F
  simp only at hsay
  have hFf : analyse_First.f cs ms conf = some (fc, fb, fch, fe) := by unfold analyse_First.f; rw [wfB_of hW, if_pos rfl, hF]
  have hall : fc.length ≤ 4194304 ∧ fch.length ≤ 4194304 ∧ ∀ x ∈ fc, w64 x := by
    rcases hsay with ⟨e1, e2, e3, e4⟩ | ⟨hvb, q0, q1, qf, S, rs, a, eF, dS, aS, lS⟩
    · subst e2 e3 e4
      exact ⟨by simp, by simp, by simp⟩
    · have hv := VT.of hvb
      have hs0 := setL_SI hW q0 q1 qf
      have hS := dS.inv hv hW hs0
      injection eF with eF1 eF2
      injection eF2 with eF2 eF3
      injection eF3 with eF3 eF4
      subst eF1 eF3 eF4
      have hp := told_perm (ms := ms) hS.n aS.m
      have hlS := len_of_falses hS.n hS.f
      exact ⟨by rw [hp.length_eq]; omega, by rw [List.length_cons]; omega, fun x hx => hS.w x (hp.mem_iff.1 hx)⟩
  obtain ⟨hfl, hchl, hfw⟩ := hall
  have hR := Less_all hW hm fc fb fch hfw hfl hchl
  have hll := lessP_len hW hm fc fch hchl
  obtain ⟨Lr, hL⟩ : ∃ L, L = lessP cs ms fc fch := ⟨_, rfl⟩
  rw [← hL] at hR hll
  obtain ⟨mc, mb, mch, me⟩ := Lr
  simp only at hll
  have hLf : analyse_Less.f cs ms fc fb fch = some (mc, mb, mch, me) := by
    unfold analyse_Less.f
    have hl : litsW fc = true := List.all_eq_true.2 (fun x hx => decide_eq_true (hfw x hx))
    rw [wfB_of hW, decide_eq_true hm, hl, decide_eq_true (show fch.length ≤ 1099511627776 by omega), hL]
    rfl
  obtain ⟨K1, k1⟩ := twin_all cs hW.lc hW.lcl
  obtain ⟨K2, k2⟩ := marks_all ms hW.lm
  obtain ⟨K3, k3⟩ := lives_all
  obtain ⟨K4, k4⟩ := hG
  obtain ⟨K5, k5⟩ := hR
  obtain ⟨K6, k6⟩ := alike_big fc fb fch (by omega) (by omega)
  obtain ⟨K7, k7⟩ := alike_big mc mb mch hll.1 hll.2
  obtain ⟨K8, k8⟩ := sames_all cs hW.lcl
  exact own_walk0 (K1 + K2 + K3 + K4 + K5 + K6 + K7 + K8) A0 c0 cs A1 c1 ms conf fc fch mc mch fb fe mb me w hr0 hc0 hr1 hc1 (k1 _ (by omega)) (k2 _ (by omega)) hFf (k4 _ (by omega)) (k3 _ (by omega)) hLf (k5 _ (by omega)) ⟨by omega, by omega, hll.1, hll.2⟩ (k6 _ (by omega)) (k7 _ (by omega)) (k8 _ (by omega))
end Go.Proofs.Ytboalbiicmcljaa.PAN
