import Derived.Test.YtboalbiicmcljaaZTAnLw
import Derived.Test.YtboalbiicmcljaaZTAnTe
import Derived.Test.YtboalbiicmcljaaZTPANx10
import Derived.Test.YtboalbiicmcljaaZTPANx29
import Derived.Test.YtboalbiicmcljaaZTPANx30
import Derived.Test.YtboalbiicmcljaaZTPANx40
import Derived.Test.YtboalbiicmcljaaZTPANx7
import Derived.Test.YtboalbiicmcljaaZTPANx9
namespace Go.Proofs.Ytboalbiicmcljaa.PAN
open Go.RowKit Go.Proofs.YtboalbiicmcljaaW.PrintWords Go.Proofs.YtboalbiicmcljaaW.PrintLast Go.Proofs.YtboalbiicmcljaaW.PrintMore Go.Proofs.YtboalbiicmcljaaH
set_option linter.unusedVariables false
set_option linter.unusedSimpArgs false
set_option maxHeartbeats 8000000 in
set_option maxRecDepth 100000 in
theorem tea_walk (k : Nat) (A0 : Option Addr) (c0 : Nat) (cs : List (List Int)) (A1 : Option Addr) (c1 : Nat) (ms : List Mk) (conf : Int) (fc fch mc mch : List Int) (fb fe mb me : Int) (w : World)
    (hr0 : Kd.C (Kd.slice 3 (Kd.int .i64)) w A0 cs.length cs) (hc0 : cs.length ≤ c0) (hr1 : Kd.C k49 w A1 ms.length ms) (hc1 : ms.length ≤ c1)
    (hT : fulcrumlaw21_twin.f k cs = some cs) (hM : fulcrumlaw21_marks.f k ms = some ms) (hF : analyse_First.f cs ms conf = some (fc, fb, fch, fe)) (hLv : fulcrumlaw21_lives.f k = some true) (hLn : fulcrumlaw21_learnt.f k fc fb fch = some (fc, fb, fch)) (hLs : analyse_Less.f cs ms fc fb fch = some (mc, mb, mch, me))
    (hne : fe ≠ 0 → fc = [] ∧ fb = 0 ∧ fch = []) (h0 : fe = 0 → me = 0 ∧ fulcrumlaw21_teaches.f k cs ms fc fb fch = some true ∧ fulcrumlaw21_teaches.f k cs ms mc mb mch = some true ∧ rd mc 0 = rd fc 0 ∧ 0 < mc.length ∧ mc.length ≤ fc.length ∧ fc.length ≤ 4194304 ∧ ∀ x ∈ mc, x ∈ fc) :
    Calls Try.prog 13 #[.agg #[.slice A0 cs.length c0, .slice A1 ms.length c1], .int .i64 conf] w fun e w' => e = .returned (.bool true) ∧ Below w.heap.size w w' := by
  have HR0 := Aside0.mk hr0
  have HR1 := Aside0.mk hr1
  have HC0 := Aside0.mk hc0
  have HC1 := Aside0.mk hc1
  have HT := Aside0.mk hT
  have HM := Aside0.mk hM
  have HF := Aside0.mk hF
  have HLV := Aside0.mk hLv
  have HLN := Aside0.mk hLn
  have HLS := Aside0.mk hLs
  have HNE := Aside0.mk hne
  have H0 := Aside0.mk h0
  clear hr0 hr1 hc0 hc1 hT hM hF hLv hLn hLs hne h0
  go_enter Try.func13, Try.ntmps13
  go_upto_region 1 with (fail)
  obtain ⟨w1, hw1⟩ : ∃ w1, w1 = w.alloc (.cells #[.slice A0 cs.length c0, .slice A1 ms.length c1] 26) := ⟨_, rfl⟩
  have hb1 : Below w.heap.size w w1 := by rw [hw1]; exact below_alloc (Below.refl _ _) _
  have hbx : w1.heap[w.heap.size]? = some (.cells #[.slice A0 cs.length c0, .slice A1 ms.length c1] 26 (0, 0)) := by rw [hw1]; exact heap_alloc_new _ _
  rw [← hw1]
  clear hw1
  have HBW := Aside0.mk hb1
  have HBX := Aside0.mk hbx
  have u0 := blk_cell hbx 0
  have u1 := blk_cell hbx 1
  have hlt := blk_lt hbx
  clear hb1 hbx
  go_cut [5, 6] (fun s5 s6 wx => ∃ g v0 v2, s5 = .pointer (some ⟨g, 0, none⟩) ∧ s6 = .int .i64 fe ∧ Aside0 (LawL w1 wx g v0 v2 fc fb fch))
  case first =>
    refine wp_region_noPanic ?_
    go_region_held3 (fun w' => ∀ p, p.block < w1.heap.size → w'.cell? p = w1.cell? p) (first | (with_reducible exact keep_set HBz.out HZ.out) | (exact keep_any (by with_reducible first | exact HBz.out | exact HBb.out | exact HBa.out | exact Below.refl _ _)))
      (first
        | (go_at_call 16; (with_reducible refine (fulcrumlaw21_twin.calls k A0 c0 cs cs _ ?side1 HC0.out HT.out).mono ?_); (case side1 => exact C_any (Kd.C_below HR0.out HBW.out)); rintro e wa ⟨v, rfl, hv, hb⟩; obtain ⟨At, ct, rfl⟩ := Kd.S_slice hv; have HTa := Aside0.mk (Kd.S_reads' hv).2; have HBa := Aside0.mk (bel_then (Below.refl w1.heap.size w1) hb); (first | ((first | (with_reducible have hz := zero_new hb) | (with_reducible have hz := zero_newN hb) | (with_reducible have hz := zero_new1 hb)); (try simp only [drewN_hs, drew_hs] at hz); have HZ := Aside0.mk (And.intro hz (Nat.le_refl w1.heap.size)); clear hz) | (have hz := zero_step HZ.out.1 hb; have hy := HZ.out.2; clear HZ; have HZ := Aside0.mk (And.intro hz hy); clear hz hy) | skip); clear hv hb)
        | (go_at_call 17; (with_reducible refine (fulcrumlaw21_marks.calls k A1 c1 ms ms _ ?side1 HC1.out HM.out).mono ?_); (case side1 => exact C_any (Kd.C_below HR1.out (below_then HBW.out HBW.out.size HBa.out))); rintro e wb ⟨v, rfl, hv, hb⟩; obtain ⟨Am, cm, rfl⟩ := Kd.R_slice hv; have HTb := Aside0.mk (Kd.R_reads' hv).2; have HBb := Aside0.mk (bel_then HBa.out hb); have HTc := Aside0.mk (And.intro HTa.out.1 (Kd.C_below (C_any HTa.out.2) hb)); (first | ((first | (with_reducible have hz := zero_new hb) | (with_reducible have hz := zero_newN hb) | (with_reducible have hz := zero_new1 hb)); (try simp only [drewN_hs, drew_hs] at hz); have HZ := Aside0.mk (And.intro hz (HBa.out.size)); clear hz) | (have hz := zero_step HZ.out.1 hb; have hy := HZ.out.2; clear HZ; have HZ := Aside0.mk (And.intro hz hy); clear hz hy) | skip); clear hv hb)
        | (go_at_call 15; (with_reducible refine (analyse_First.calls At ct cs Am cm ms conf fc fb fch fe _ ?side1 HTc.out.1 ?side2 HTb.out.1 HF.out).mono ?_); (case side1 => exact C_any HTc.out.2); (case side2 => exact C_any HTb.out.2); rintro e wz ⟨v, v2, rfl, hv, hv2, hb⟩; obtain ⟨Av, cv, rfl⟩ := Kd.R_slice hv; obtain ⟨Aw, cw, rfl⟩ := Kd.R_slice hv2; have HBz := Aside0.mk (bel_then HBb.out hb); have HRA := Aside0.mk (And.intro (Kd.R_lower hv (bel_any HBb.out).size) (Kd.R_lower hv2 (bel_any HBb.out).size)); (first | ((first | (with_reducible have hz := zero_new hb) | (with_reducible have hz := zero_newN hb) | (with_reducible have hz := zero_new1 hb)); (try simp only [drewN_hs, drew_hs] at hz); have HZ := Aside0.mk (And.intro hz (HBb.out.size)); clear hz) | (have hz := zero_step HZ.out.1 hb; have hy := HZ.out.2; clear HZ; have HZ := Aside0.mk (And.intro hz hy); clear hz hy) | skip); (first | (have z0 := blk_cell HZ.out.1 0; have z1 := blk_cell HZ.out.1 1; have z2 := blk_cell HZ.out.1 2; have zf0 := blk_frozen HZ.out.1 0; have zf1 := blk_frozen HZ.out.1 1; have zf2 := blk_frozen HZ.out.1 2) | skip); clear hv hv2 hb))
    all_goals
      refine NoPanic.normal ?_
      go_step
      go_step
      go_meet
      exact ⟨_, _, _, rfl, rfl, ⟨by first | exact LawL.last HBz.out HRA.out.1 HRA.out.2 | exact LawL.ahead HBz.out HZ.out HRA.out.1 HRA.out.2⟩⟩
  case rest =>
    obtain ⟨g, v0, v2, rfl, rfl, HL⟩ := hcut
    clear u0 u1 hlt
    by_cases he : fe = 0
    · subst he
      have he2 : ((0 : Int) != 0) = false := rfl
      go_upto_region 6 with (go_at_call 14; refine (fulcrumlaw21_lives.calls k true _ HLV.out).mono ?_; rintro e w5 ⟨rfl, hb5⟩; have HL5 := Aside0.mk (HL.out.below hb5); clear hb5)
      clear HL
      have HBW1 := HBW
      clear HBW
      have HBW : Aside0 (Below w.heap.size w w5) := ⟨below_then HBW1.out HBW1.out.size HL5.out.bel⟩
      have HBX5 := Aside0.mk ((HL5.out.bel.block _ (blk_lt HBX.out)).trans HBX.out)
      obtain ⟨Af, cf, rfl⟩ := Kd.R_slice HL5.out.r0
      obtain ⟨Ah, ch, rfl⟩ := Kd.R_slice HL5.out.r2
      have HRF := Aside0.mk (And.intro (Kd.R_reads' HL5.out.r0).2 (Kd.R_reads' HL5.out.r2).2)
      have u0 := blk_cell HBX5.out 0
      have u1 := blk_cell HBX5.out 1
      have u2 := blk_cell HL5.out.blk 0
      have u3 := blk_cell HL5.out.blk 1
      have u4 := blk_cell HL5.out.blk 2
      have hlt := blk_lt HBX5.out
      have hlt2 := blk_lt HL5.out.blk
      go_cut [7, 8] (fun s7 s8 wx => ∃ g v0 v2, s7 = .pointer (some ⟨g, 0, none⟩) ∧ s8 = .int .i64 me ∧ Aside0 (LawL w5 wx g v0 v2 mc mb mch))
      case first =>
        refine wp_region_noPanic ?_
        go_region_held3 (fun w' => ∀ p, p.block < w5.heap.size → w'.cell? p = w5.cell? p) (first | (with_reducible exact keep_set HBz.out HZ.out) | (exact keep_any (by with_reducible first | exact HBz.out | exact HBl.out | exact HBb.out | exact HBa.out | exact Below.refl _ _)))
          (first
            | (go_at_call 16; (with_reducible refine (fulcrumlaw21_twin.calls k A0 c0 cs cs _ ?side1 HC0.out HT.out).mono ?_); (case side1 => exact C_any (Kd.C_below HR0.out HBW.out)); rintro e wa ⟨v, rfl, hv, hb⟩; obtain ⟨At, ct, rfl⟩ := Kd.S_slice hv; have HTa := Aside0.mk (Kd.S_reads' hv).2; have HBa := Aside0.mk (bel_then (Below.refl w5.heap.size w5) hb); (first | ((first | (with_reducible have hz := zero_new hb) | (with_reducible have hz := zero_newN hb) | (with_reducible have hz := zero_new1 hb)); (try simp only [drewN_hs, drew_hs] at hz); have HZ := Aside0.mk (And.intro hz (Nat.le_refl w5.heap.size)); clear hz) | (have hz := zero_step HZ.out.1 hb; have hy := HZ.out.2; clear HZ; have HZ := Aside0.mk (And.intro hz hy); clear hz hy) | skip); clear hv hb)
            | (go_at_call 17; (with_reducible refine (fulcrumlaw21_marks.calls k A1 c1 ms ms _ ?side1 HC1.out HM.out).mono ?_); (case side1 => exact C_any (Kd.C_below HR1.out (below_then HBW.out HBW.out.size HBa.out))); rintro e wb ⟨v, rfl, hv, hb⟩; obtain ⟨Am, cm, rfl⟩ := Kd.R_slice hv; have HTb := Aside0.mk (Kd.R_reads' hv).2; have HBb := Aside0.mk (bel_then HBa.out hb); have HTc := Aside0.mk (And.intro HTa.out.1 (Kd.C_below (C_any HTa.out.2) hb)); (first | ((first | (with_reducible have hz := zero_new hb) | (with_reducible have hz := zero_newN hb) | (with_reducible have hz := zero_new1 hb)); (try simp only [drewN_hs, drew_hs] at hz); have HZ := Aside0.mk (And.intro hz (HBa.out.size)); clear hz) | (have hz := zero_step HZ.out.1 hb; have hy := HZ.out.2; clear HZ; have HZ := Aside0.mk (And.intro hz hy); clear hz hy) | skip); clear hv hb)
            | (go_at_call 31; (with_reducible refine (fulcrumlaw21_learnt.calls k Af cf fc fb Ah ch fch fc fb fch _ ?side1 HRF.out.1.1 ?side2 HRF.out.2.1 HLN.out).mono ?_); (case side1 => exact C_any (Kd.C_below HRF.out.1.2 HBb.out)); (case side2 => exact C_any (Kd.C_below HRF.out.2.2 HBb.out)); rintro e wl ⟨v, v2, rfl, hv, hv2, hb⟩; obtain ⟨An, cn, rfl⟩ := Kd.R_slice hv; obtain ⟨Ao, co, rfl⟩ := Kd.R_slice hv2; have HBl := Aside0.mk (bel_then HBb.out hb); have HTd := Aside0.mk (And.intro (Kd.C_below (C_any HTc.out.2) hb) (Kd.C_below (C_any HTb.out.2) hb)); have HTe := Aside0.mk (And.intro (Kd.R_reads' hv).2 (Kd.R_reads' hv2).2); (first | ((first | (with_reducible have hz := zero_new hb) | (with_reducible have hz := zero_newN hb) | (with_reducible have hz := zero_new1 hb)); (try simp only [drewN_hs, drew_hs] at hz); have HZ := Aside0.mk (And.intro hz (HBb.out.size)); clear hz) | (have hz := zero_step HZ.out.1 hb; have hy := HZ.out.2; clear HZ; have HZ := Aside0.mk (And.intro hz hy); clear hz hy) | skip); clear hv hv2 hb)
            | (go_at_call 30; (with_reducible refine (analyse_Less.calls At ct cs Am cm ms An cn fc fb Ao co fch mc mb mch me _ ?side1 HTc.out.1 ?side2 HTb.out.1 ?side3 HTe.out.1.1 ?side4 HTe.out.2.1 HLS.out).mono ?_); (case side1 => exact C_any HTd.out.1); (case side2 => exact C_any HTd.out.2); (case side3 => exact C_any HTe.out.1.2); (case side4 => exact C_any HTe.out.2.2); rintro e wz ⟨v, v2, rfl, hv, hv2, hb⟩; obtain ⟨Av, cv, rfl⟩ := Kd.R_slice hv; obtain ⟨Aw, cw, rfl⟩ := Kd.R_slice hv2; have HBz := Aside0.mk (bel_then HBl.out hb); have HRA := Aside0.mk (And.intro (Kd.R_lower hv (bel_any HBl.out).size) (Kd.R_lower hv2 (bel_any HBl.out).size)); (first | ((first | (with_reducible have hz := zero_new hb) | (with_reducible have hz := zero_newN hb) | (with_reducible have hz := zero_new1 hb)); (try simp only [drewN_hs, drew_hs] at hz); have HZ := Aside0.mk (And.intro hz (HBl.out.size)); clear hz) | (have hz := zero_step HZ.out.1 hb; have hy := HZ.out.2; clear HZ; have HZ := Aside0.mk (And.intro hz hy); clear hz hy) | skip); (first | (have z0 := blk_cell HZ.out.1 0; have z1 := blk_cell HZ.out.1 1; have z2 := blk_cell HZ.out.1 2; have zf0 := blk_frozen HZ.out.1 0; have zf1 := blk_frozen HZ.out.1 1; have zf2 := blk_frozen HZ.out.1 2) | skip); clear hv hv2 hb))
        all_goals
          refine NoPanic.normal ?_
          go_step
          go_step
          go_meet
          exact ⟨_, _, _, rfl, rfl, ⟨by first | exact LawL.last HBz.out HRA.out.1 HRA.out.2 | exact LawL.ahead HBz.out HZ.out HRA.out.1 HRA.out.2⟩⟩
      case rest =>
        obtain ⟨g2, v3, v4, rfl, rfl, HM6⟩ := hcut
        clear u0 u1 u2 u3 u4
        obtain ⟨h1, h2, h3, h4, h5, h6, h7, h8⟩ := H0.out (by trivial)
        subst h1
        have HSUB := Aside0.mk h8
        have HT1 := Aside0.mk h2
        have HT2 := Aside0.mk h3
        obtain ⟨Ai, ci, rfl⟩ := Kd.R_slice HM6.out.r0
        obtain ⟨Aj, cj, rfl⟩ := Kd.R_slice HM6.out.r2
        have hgk := (HM6.out.bel.block g hlt2).trans HL5.out.blk
        have HGK := Aside0.mk hgk
        have HBX6 := Aside0.mk ((HM6.out.bel.block _ hlt).trans HBX5.out)
        have HRM := Aside0.mk (And.intro (Kd.R_reads' HM6.out.r0).2 (Kd.R_reads' HM6.out.r2).2)
        have HRF6 := Aside0.mk (And.intro (And.intro HRF.out.1.1 (Kd.C_below HRF.out.1.2 HM6.out.bel)) (And.intro HRF.out.2.1 (Kd.C_below HRF.out.2.2 HM6.out.bel)))
        have HBW6 : Aside0 (Below w.heap.size w wc) := ⟨below_then HBW.out HBW.out.size HM6.out.bel⟩
        obtain ⟨adm, rfl, xm⟩ := Kd.at_int HRM.out.1.2 0 (by omega) (by omega)
        obtain ⟨adf, rfl, xf⟩ := Kd.at_int HRF6.out.1.2 0 (by omega) (by omega)
        rw [h4] at xm
        obtain ⟨x0, hx0⟩ : ∃ x, x = rd fc 0 := ⟨_, rfl⟩
        rw [← hx0] at xm xf
        rw [show (0 : Int).toNat = 0 from rfl, add_zero'] at xm xf
        have h5f : 0 < fc.length := by omega
        have n0 : (x0 != x0) = false := by simp
        have n2 : decide (mc.length > fc.length) = false := by simp; omega
        have n3 : decide ((mc.length : Int) > (fc.length : Int)) = false := by simp; omega
        have n4 : (0 : Int) < (mc.length : Int) := by omega
        have n5 : (0 : Int) < (fc.length : Int) := by omega
        have u0 := blk_cell HBX6.out 0
        have u1 := blk_cell HBX6.out 1
        have u2 := blk_cell hgk 0
        have u3 := blk_cell hgk 1
        have u4 := blk_cell hgk 2
        have u5 := blk_cell HM6.out.blk 0
        have u6 := blk_cell HM6.out.blk 1
        have u7 := blk_cell HM6.out.blk 2
        have hq0 := blk_lt HBX6.out
        have hq1 := blk_lt hgk
        have hq2 := blk_lt HM6.out.blk
        have hq3 := World.block_lt_of_cell? _ _ xm
        have hq4 := World.block_lt_of_cell? _ _ xf
        obtain ⟨w6, rfl⟩ : ∃ w6, w6 = wc := ⟨_, rfl⟩
        clear h2 h3 h8 hgk hlt hlt2 h4 hx0
        go_upto_region 7 with (fail)
        go_cut [87] (fun s87 wx => s87 = .bool false ∧ Aside0 (Below w6.heap.size w6 wx))
        case first =>
          refine wp_region_noPanic ?_
          go_region_held3 (fun w' => ∀ p, p.block < w6.heap.size → w'.cell? p = w6.cell? p) (exact keep_any (by with_reducible first | exact HBz.out | exact HBa.out | exact Below.refl _ _))
            (first
              | (go_at_call 35; (with_reducible refine (fulcrumlaw21_teaches.calls k A0 c0 cs A1 c1 ms (some adf) cf fc fb Ah ch fch true _ ?side1 HC0.out ?side2 HC1.out ?side3 HRF6.out.1.1 ?side4 HRF6.out.2.1 HT1.out).mono ?_); (case side1 => exact C_any (Kd.C_below HR0.out HBW6.out)); (case side2 => exact C_any (Kd.C_below HR1.out HBW6.out)); (case side3 => exact C_any HRF6.out.1.2); (case side4 => exact C_any HRF6.out.2.2); rintro e wa ⟨rfl, hb⟩; have HBa := Aside0.mk (bel_then (Below.refl w6.heap.size w6) hb); clear hb)
              | (go_at_call 35; (with_reducible refine (fulcrumlaw21_teaches.calls k A0 c0 cs A1 c1 ms (some adm) ci mc mb Aj cj mch true _ ?side1 HC0.out ?side2 HC1.out ?side3 HRM.out.1.1 ?side4 HRM.out.2.1 HT2.out).mono ?_); (case side1 => exact C_any (Kd.C_below (Kd.C_below HR0.out HBW6.out) HBa.out)); (case side2 => exact C_any (Kd.C_below (Kd.C_below HR1.out HBW6.out) HBa.out)); (case side3 => exact C_any (Kd.C_below HRM.out.1.2 HBa.out)); (case side4 => exact C_any (Kd.C_below HRM.out.2.2 HBa.out)); rintro e wz ⟨rfl, hb⟩; have HBz := Aside0.mk (bel_then HBa.out hb); clear hb))
          all_goals
            refine NoPanic.normal ?_
            go_step
            go_step
            go_meet
            exact ⟨rfl, ⟨bel_any HBz.out⟩⟩
        case rest =>
          obtain ⟨rfl, HW7⟩ := hcut
          obtain ⟨w7, rfl⟩ : ∃ w7, w7 = wc := ⟨_, rfl⟩
          have HW7' := HW7
          clear n0 n2 n3 n4 n5 u0 u1 u2 u3 u4 u5 u6 u7 hq0 hq1 hq2 hq3 hq4 xm xf
          go_wp2_with (fail)
          have hml : mc.length ≤ 4194304 := by omega
          go_loopg [9] mc.length (fun kq v9 w' => ∃ i : Nat, v9 = .int .i64 i ∧ i + kq = mc.length ∧ Aside0 (Below w6.heap.size w6 w'))
          case atStart => exact ⟨0, rfl, by omega, HW7⟩
          case round =>
            obtain ⟨i, rfl, hik, HW8⟩ := hrel
            clear HW7 HW7'
            obtain ⟨w8, rfl⟩ : ∃ w8, w8 = wr := ⟨_, rfl⟩
            have u5 := blk_cell ((HW8.out.block g2 (blk_lt HM6.out.blk)).trans HM6.out.blk) 0
            cases gk with
            | zero =>
              obtain rfl : i = mc.length := by omega
              go_wp2
              go_ret
              exact ⟨rfl, below_then HBW6.out HBW6.out.size HW8.out⟩
            | succ k1 =>
              have hlti : i < mc.length := by omega
              obtain ⟨adx, e1, hx⟩ := Kd.at_int HRM.out.1.2 (i : Int) (by omega) (by omega)
              injection e1 with e1
              subst e1
              rw [Int.toNat_natCast] at hx
              have hxf := HSUB.out _ (rdm hlti)
              obtain ⟨x, hxe⟩ : ∃ x, x = rd mc (i : Int) := ⟨_, rfl⟩
              rw [← hxe] at hx hxf
              have HX := Aside0.mk hx
              have HXF := Aside0.mk hxf
              have hi0 : (0 : Int) ≤ (i : Int) := by omega
              have hi1 : (i : Int) < (mc.length : Int) := by omega
              clear hx hxf hxe
              go_wp2_with (fail)
              clear u5
              go_loopg [10, 11] fc.length (fun kj v10 v11 w' => ∃ j : Nat, ∃ b : Bool, v10 = .bool b ∧ v11 = .int .i64 j ∧ j + kj = fc.length ∧ Aside0 (b = decide (x ∈ fc.take j)) ∧ Aside0 (Below w6.heap.size w6 w'))
              case atStart => exact ⟨0, false, rfl, rfl, by omega, ⟨by simp⟩, HW8⟩
              case round =>
                obtain ⟨j, b, rfl, rfl, hjk, HB, HW9⟩ := hrel
                have u2 := blk_cell ((HW9.out.block g (blk_lt HGK.out)).trans HGK.out) 0
                have u5 := blk_cell ((HW9.out.block g2 (blk_lt HM6.out.blk)).trans HM6.out.blk) 0
                cases gk with
                | zero =>
                  obtain rfl : j = fc.length := by omega
                  have hb := HB.out
                  rw [List.take_length, decide_eq_true HXF.out] at hb
                  clear HB
                  subst hb
                  go_wp2
                  go_roundg k1
                  case measure => omega
                  case rel => exact ⟨i + 1, by go_num, by omega, HW9⟩
                | succ kj =>
                  have hltj : j < fc.length := by omega
                  obtain ⟨ady, e1, hy⟩ := Kd.at_int HRF6.out.1.2 (j : Int) (by omega) (by omega)
                  injection e1 with e1
                  subst e1
                  rw [Int.toNat_natCast] at hy
                  have htk := take_rd hltj
                  obtain ⟨y, hye⟩ : ∃ y, y = rd fc (j : Int) := ⟨_, rfl⟩
                  rw [← hye] at hy htk
                  have HTK := Aside0.mk htk
                  have hx9 := (HW9.out.cell (World.block_lt_of_cell? _ _ HX.out)).trans HX.out
                  have hy9 := (HW9.out.cell (World.block_lt_of_cell? _ _ hy)).trans hy
                  have hj0 : (0 : Int) ≤ (j : Int) := by omega
                  have hj1 : (j : Int) < (fc.length : Int) := by omega
                  clear htk hye hy
                  cases b with
                  | true =>
                    have HM : Aside0 (x ∈ fc.take j) := ⟨of_decide_eq_true HB.out.symm⟩
                    clear HB
                    go_wp2
                    go_quiet (fail)
                    go_wp2
                    go_roundg kj
                    case measure => omega
                    case rel => exact ⟨j + 1, true, rfl, by go_num, by omega, ⟨by rw [HTK.out]; exact (decide_eq_true (List.mem_append_left _ HM.out)).symm⟩, ⟨bel_any (w0 := w6) HW9.out⟩⟩
                  | false =>
                    have HM : Aside0 (x ∉ fc.take j) := ⟨fun q => by have := HB.out; rw [decide_eq_true q] at this; cases this⟩
                    clear HB
                    by_cases hyx : y = x
                    · have hb1 : (y == x) = true := by simpa using hyx
                      have HE := Aside0.mk hyx
                      clear hyx
                      go_wp2
                      go_quiet (fail)
                      go_wp2
                      go_roundg kj
                      case measure => omega
                      case rel => exact ⟨j + 1, true, rfl, by go_num, by omega, ⟨by rw [HTK.out, HE.out]; exact (decide_eq_true (by simp)).symm⟩, ⟨bel_any (w0 := w6) HW9.out⟩⟩
                    · have hb1 : (y == x) = false := by simpa using hyx
                      have HE := Aside0.mk hyx
                      clear hyx
                      go_wp2
                      go_quiet (fail)
                      go_wp2
                      go_roundg kj
                      case measure => omega
                      case rel => exact ⟨j + 1, false, rfl, by go_num, by omega, ⟨by rw [HTK.out]; exact (decide_eq_false (fun q => by rcases List.mem_append.1 q with q | q; exact HM.out q; exact HE.out (List.mem_singleton.1 q).symm)).symm⟩, ⟨bel_any (w0 := w6) HW9.out⟩⟩
    · have he2 : (fe != 0) = true := by simpa using he
      obtain ⟨hfc, hfb, hfch⟩ := HNE.out he
      clear he
      subst hfc hfb hfch
      obtain ⟨Af, cf, rfl⟩ := Kd.R_slice HL.out.r0
      obtain ⟨Ah, ch, rfl⟩ := Kd.R_slice HL.out.r2
      go_wp2_with (go_at_call 14; refine (fulcrumlaw21_lives.calls k true _ HLV.out).mono ?_; rintro e w5 ⟨rfl, hb5⟩; have HL5 := Aside0.mk (HL.out.below hb5); have u2 := blk_cell (HL.out.below hb5).blk 0; have u3 := blk_cell (HL.out.below hb5).blk 1; have u4 := blk_cell (HL.out.below hb5).blk 2; clear hb5)
      go_ret
      exact ⟨rfl, below_then HBW.out HBW.out.size HL5.out.bel⟩
theorem learnt_copyT (c : List Int) (b : Int) (ch : List Int) (hc : c.length ≤ 35184372088832) (hch : ch.length ≤ 35184372088832) : Ev (fun k => fulcrumlaw21_learnt.f k c b ch) (c, b, ch) := Ev.bind (ints_all c hc) (Ev.bind (ints_all ch hch) (Ev.now _))
theorem teaches_walk (A0 : Option Addr) (c0 : Nat) (cs : List (List Int)) (A1 : Option Addr) (c1 : Nat) (ms : List Mk) (conf : Int) (w : World)
    (hr0 : Kd.C (Kd.slice 3 (Kd.int .i64)) w A0 cs.length cs) (hc0 : cs.length ≤ c0) (hr1 : Kd.C k49 w A1 ms.length ms) (hc1 : ms.length ≤ c1)
    (hW : Wf cs ms) (hm : ms.length ≤ 524288) :
    Calls Try.prog 13 #[.agg #[.slice A0 cs.length c0, .slice A1 ms.length c1], .int .i64 conf] w fun e w' => e = .returned (.bool true) ∧ Below w.heap.size w w' := by
  obtain ⟨K1, k1⟩ := twin_all cs hW.lc hW.lcl
  obtain ⟨K2, k2⟩ := marks_all ms hW.lm
  obtain ⟨K3, k3⟩ := lives_all
  have hsay := firstP_says hW conf
  obtain ⟨F, hF⟩ : ∃ F, F = firstP cs ms conf := ⟨_, rfl⟩
  rw [← hF] at hsay
  obtain ⟨fc, fb, fch, fe⟩ := F
  simp only at hsay
  have hFf : analyse_First.f cs ms conf = some (fc, fb, fch, fe) := by unfold analyse_First.f; rw [wfB_of hW, if_pos rfl, hF]
  obtain ⟨Lr, hL⟩ : ∃ L, L = lessP cs ms fc fch := ⟨_, rfl⟩
  obtain ⟨mc, mb, mch, me⟩ := Lr
  rcases hsay with ⟨e1, e2, e3, e4⟩ | ⟨hvb, q0, q1, qf, S, rs, a, eF, dS, aS, lS⟩
  · subst e2 e3 e4
    have hLf : analyse_Less.f cs ms [] 0 [] = some (mc, mb, mch, me) := by
      unfold analyse_Less.f
      rw [wfB_of hW, decide_eq_true hm]
      simp [litsW, hL]
    obtain ⟨K5, k5⟩ := learnt_copyT [] 0 [] (by simp) (by simp)
    exact tea_walk (K1 + K2 + K3 + K5) A0 c0 cs A1 c1 ms conf [] [] mc mch 0 fe mb me w hr0 hc0 hr1 hc1 (k1 _ (by omega)) (k2 _ (by omega)) hFf (k3 _ (by omega)) (k5 _ (by omega)) hLf (fun _ => ⟨rfl, rfl, rfl⟩) (fun q => absurd q e1)
  · have hv := VT.of hvb
    have hs0 := setL_SI hW q0 q1 qf
    have hS := dS.inv hv hW hs0
    obtain ⟨T, rs2, eL, dT, aT, sT, lT⟩ := lessP_says hW hvb hS aS (conf :: rs)
    have hTs := dT.inv hv hW hS
    have hmul : ms.length * (ms.length + 1) ≤ 524288 * 524289 := Nat.mul_le_mul (by omega) (by omega)
    obtain ⟨K6, k6⟩ := teaches_all hv hW q0 q1 qf dS aS (by omega)
    obtain ⟨K7, k7⟩ := teaches_all hv hW q0 q1 qf (dS.trans dT) aT (by rw [List.length_append]; omega)
    injection eF with eF1 eF2
    injection eF2 with eF2 eF3
    injection eF3 with eF3 eF4
    subst eF1 eF2 eF3 eF4
    rw [← hL] at eL
    injection eL with eL1 eL2
    injection eL2 with eL2 eL3
    injection eL3 with eL3 eL4
    have hp := told_perm (ms := ms) hS.n aS.m
    have hq := told_perm (ms := ms) hTs.n aT.m
    have hlS := len_of_falses hS.n hS.f
    have hfl : (a :: restL ms S a).length ≤ 524288 := by rw [hp.length_eq]; omega
    have hchl : (conf :: rs).length ≤ 4194304 := by rw [List.length_cons]; omega
    have hfw : ∀ x ∈ a :: restL ms S a, w64 x := fun x hx => hS.w x (hp.mem_iff.1 hx)
    have hLf : analyse_Less.f cs ms (a :: restL ms S a) (mostL ms (restL ms S a)) (conf :: rs) = some (mc, mb, mch, me) := by
      unfold analyse_Less.f
      have hl : litsW (a :: restL ms S a) = true := List.all_eq_true.2 (fun x hx => decide_eq_true (hfw x hx))
      rw [wfB_of hW, decide_eq_true hm, hl, decide_eq_true (show (conf :: rs).length ≤ 1099511627776 by omega), hL]
      rfl
    obtain ⟨K5, k5⟩ := learnt_copyT (a :: restL ms S a) (mostL ms (restL ms S a)) (conf :: rs) (by omega) (by omega)
    have hTS : T.length ≤ S.length := len_le_sub hTs.n sT
    refine tea_walk (K1 + K2 + K3 + K5 + K6 + K7) A0 c0 cs A1 c1 ms conf (a :: restL ms S a) (conf :: rs) mc mch (mostL ms (restL ms S a)) 0 mb me w hr0 hc0 hr1 hc1 (k1 _ (by omega)) (k2 _ (by omega)) hFf (k3 _ (by omega)) (k5 _ (by omega)) hLf (fun q => absurd rfl q) (fun _ => ⟨eL4, k6 _ (by omega), ?_, by rw [eL1]; rfl, by rw [eL1]; simp, by rw [eL1, hp.length_eq, hq.length_eq]; exact hTS, by omega, fun x hx => ?_⟩)
    · have h7 := k7 (K1 + K2 + K3 + K5 + K6 + K7) (by omega)
      rw [eL1, eL2, eL3]
      exact h7
    · rw [eL1] at hx
      exact hp.mem_iff.2 (sT x (hq.mem_iff.1 hx))
end Go.Proofs.Ytboalbiicmcljaa.PAN
