import Derived.Test.YtboalbiicmcljaaZIAnDe
import Derived.Test.YtboalbiicmcljaaZIPANx10
import Derived.Test.YtboalbiicmcljaaZIPANx26
import Derived.Test.YtboalbiicmcljaaZIPANx29
import Derived.Test.YtboalbiicmcljaaZIPANx30
import Derived.Test.YtboalbiicmcljaaZIPANx7
import Derived.Test.YtboalbiicmcljaaZIPANx9
import Derived.Deep.RegionHeld3
import Derived.Deep.QuietTactic
import Derived.BigQuiet
namespace Go.Proofs.Ytboalbiicmcljaa.PAN
open Go.RowKit Go.Proofs.YtboalbiicmcljaaW.PrintWords Go.Proofs.YtboalbiicmcljaaW.PrintLast Go.Proofs.YtboalbiicmcljaaW.PrintMore Go.Proofs.YtboalbiicmcljaaH
set_option linter.unusedVariables false
set_option linter.unusedSimpArgs false
structure LawL (w1 wx : World) (g : Nat) (v0 v2 : Value) (c : List Int) (b : Int) (ch : List Int) : Prop where
  bel : Below w1.heap.size w1 wx
  blk : wx.heap[g]? = some (.cells #[v0, .int .i64 b, v2] 30 (0, 0))
  ge : w1.heap.size ≤ g
  r0 : Kd.R (Kd.int .i64) 3 wx w1.heap.size (fun k => some k ≠ v2.ownBlock) v0 c
  r2 : Kd.R (Kd.int .i64) 3 wx w1.heap.size (fun k => some k ≠ v0.ownBlock) v2 ch
theorem LawL.below {w1 wx wy : World} {g : Nat} {v0 v2 : Value} {c : List Int} {b : Int} {ch : List Int} (h : LawL w1 wx g v0 v2 c b ch) (hb : Below wx.heap.size wx wy) : LawL w1 wy g v0 v2 c b ch :=
  ⟨below_step h.bel hb, (hb.block _ (blk_lt h.blk)).trans h.blk, h.ge, Kd.R_below h.r0 hb, Kd.R_below h.r2 hb⟩
theorem C_any {α : Type} {d : Kd α} {w W : World} {A : Option Addr} {n : Nat} {xs : List α} (h : Kd.C d w A n xs) (s : Grows w W := by repeat (first | (with_reducible exact Grows.refl _) | (with_reducible apply Grows.alloc) | (with_reducible apply Grows.drewN) | (with_reducible apply Grows.drew) | exact Grows.refl _)) : Kd.C d W A n xs := Kd.C_below h s.bel
theorem zero_new {W w2 : World} {o : Obj} (hb : Below (W.alloc o).heap.size (W.alloc o) w2) : w2.heap[W.heap.size]? = some o := (hb.block _ (by simp)).trans (heap_alloc_new W o)
theorem zero_step {w W w2 : World} {g : Nat} {o : Obj} (h : w.heap[g]? = some o) (hb : Below W.heap.size W w2) (s : Grows w W := by repeat (first | (with_reducible exact Grows.refl _) | (with_reducible apply Grows.alloc) | (with_reducible apply Grows.drewN) | (with_reducible apply Grows.drew) | exact Grows.refl _)) : w2.heap[g]? = some o :=
  have h1 := (s.bel.block _ (blk_lt h)).trans h
  (hb.block _ (blk_lt h1)).trans h1
theorem bel_then {w1 w W w2 : World} (h : Below w1.heap.size w1 w) (hb : Below W.heap.size W w2) (s : Grows w W := by repeat (first | (with_reducible exact Grows.refl _) | (with_reducible apply Grows.alloc) | (with_reducible apply Grows.drewN) | (with_reducible apply Grows.drew) | exact Grows.refl _)) : Below w1.heap.size w1 w2 := below_step (below_step h s.bel) hb
theorem LawL.last {w1 w W : World} {v0 v2 : Value} {c : List Int} {b : Int} {ch : List Int} (hb : Below w1.heap.size w1 w) (r0 : Kd.R (Kd.int .i64) 3 w w1.heap.size (fun k => some k ≠ v2.ownBlock) v0 c) (r2 : Kd.R (Kd.int .i64) 3 w w1.heap.size (fun k => some k ≠ v0.ownBlock) v2 ch)
    (s : Grows w W := by repeat (first | (with_reducible exact Grows.refl _) | (with_reducible apply Grows.alloc) | (with_reducible apply Grows.drewN) | (with_reducible apply Grows.drew) | exact Grows.refl _)) :
    LawL w1 (W.alloc (.cells #[v0, .int .i64 b, v2] 30)) W.heap.size v0 v2 c b ch :=
  have hb1 := below_step hb s.bel
  ⟨below_alloc hb1 _, heap_alloc_new _ _, hb1.size, Kd.R_alloc (Kd.R_below r0 s.bel) _, Kd.R_alloc (Kd.R_below r2 s.bel) _⟩
theorem LawL.ahead {w1 w W : World} {g : Nat} {u0 u1 u2 v0 v2 : Value} {c : List Int} {b : Int} {ch : List Int} (hb : Below w1.heap.size w1 w) (hz : w.heap[g]? = some (.cells #[u0, u1, u2] 30 (0, 0)) ∧ w1.heap.size ≤ g) (r0 : Kd.R (Kd.int .i64) 3 w w1.heap.size (fun k => some k ≠ v2.ownBlock) v0 c) (r2 : Kd.R (Kd.int .i64) 3 w w1.heap.size (fun k => some k ≠ v0.ownBlock) v2 ch)
    (s : Grows w W := by repeat (first | (with_reducible exact Grows.refl _) | (with_reducible apply Grows.alloc) | (with_reducible apply Grows.drewN) | (with_reducible apply Grows.drew) | exact Grows.refl _)) :
    LawL w1 (((W.setCell ⟨g, 0, none⟩ v0).setCell ⟨g, 1, none⟩ (.int .i64 b)).setCell ⟨g, 2, none⟩ v2) g v0 v2 c b ch := by
  have hzG := (s.bel.block g (blk_lt hz.1)).trans hz.1
  have hb0 := blk_set hzG 0 v0
  have hb1 := blk_set hb0 1 (.int .i64 b)
  have hb2 := blk_set hb1 2 v2
  have hn : ∀ q, q ∈ 3 :: (Kd.int .i64).E → q ≠ 30 := by simp [Kd.int, Kd.scalar]
  have q0 := Kd.R_below r0 s.bel
  have q2 := Kd.R_below r2 s.bel
  exact ⟨below_set (below_set (below_set (below_step hb s.bel) hz.2) hz.2) hz.2, by simpa using hb2, hz.2, Kd.R_set (Kd.R_set (Kd.R_set q0 hzG hn 0 _) hb0 hn 1 _) hb1 hn 2 _, Kd.R_set (Kd.R_set (Kd.R_set q2 hzG hn 0 _) hb0 hn 1 _) hb1 hn 2 _⟩
theorem drewN_hs (w : World) (n : Nat) : (w.drewN n).heap.size = w.heap.size := rfl
theorem drew_hs (w : World) : w.drew.heap.size = w.heap.size := rfl
theorem zero_newN {W w2 : World} {o : Obj} {n : Nat} (hb : Below ((W.alloc o).drewN n).heap.size ((W.alloc o).drewN n) w2) : w2.heap[W.heap.size]? = some o := (hb.block W.heap.size (by show W.heap.size < (W.alloc o).heap.size; simp)).trans (heap_alloc_new W o)
theorem zero_new1 {W w2 : World} {o : Obj} (hb : Below (W.alloc o).drew.heap.size (W.alloc o).drew w2) : w2.heap[W.heap.size]? = some o := (hb.block W.heap.size (by show W.heap.size < (W.alloc o).heap.size; simp)).trans (heap_alloc_new W o)
theorem keep_set {w1 w : World} {g : Nat} {P : Prop} {u0 u1 u2 : Value} (hb : Below w1.heap.size w1 w) (hz : P ∧ w1.heap.size ≤ g) : ∀ p : Addr, p.block < w1.heap.size → (((w.setCell ⟨g, 0, none⟩ u0).setCell ⟨g, 1, none⟩ u1).setCell ⟨g, 2, none⟩ u2).cell? p = w1.cell? p :=
  fun p hp => Below.cell (below_set (below_set (below_set hb hz.2) hz.2) hz.2) hp
theorem keep_any {w1 w W : World} (hb : Below w1.heap.size w1 w) (s : Grows w W := by repeat (first | (with_reducible exact Grows.refl _) | (with_reducible apply Grows.alloc) | (with_reducible apply Grows.drewN) | (with_reducible apply Grows.drew) | exact Grows.refl _)) : ∀ p : Addr, p.block < w1.heap.size → W.cell? p = w1.cell? p :=
  fun p hp => Below.cell (below_step hb s.bel) hp
theorem quiet_addL {P : Program} {f : FuncId} {args : Array Value} {w : World} {a n : Nat} {v : Value}
    (h : Calls P f args (w.drewN (a + n)) fun e w' => e = .returned v ∧ ∃ m, w' = (w.drewN (a + n)).drewN m) :
    Calls P f args (w.drewN (a + n)) fun e w'' => e = .returned v ∧ ∃ m, w'' = w.drewN (a + m) :=
  h.mono fun _ _ ⟨he, m, hm⟩ => ⟨he, n + m, by rw [hm, World.drewN_drewN, Nat.add_assoc]⟩
set_option maxHeartbeats 8000000 in
set_option maxRecDepth 100000 in
theorem imp_walk (k : Nat) (A0 : Option Addr) (c0 : Nat) (cs : List (List Int)) (A1 : Option Addr) (c1 : Nat) (ms : List Mk) (conf : Int) (A2 : Option Addr) (c2 : Nat) (ats : List Int) (fc fch mc mch : List Int) (fb fe mb me : Int) (w : World)
    (hr0 : Kd.C (Kd.slice 3 (Kd.int .i64)) w A0 cs.length cs) (hc0 : cs.length ≤ c0) (hr1 : Kd.C k49 w A1 ms.length ms) (hc1 : ms.length ≤ c1) (hr2 : Kd.C (Kd.int .i64) w A2 ats.length ats) (hc2 : ats.length ≤ c2)
    (hT : fulcrumlaw21_twin.f k cs = some cs) (hM : fulcrumlaw21_marks.f k ms = some ms) (hF : analyse_First.f cs ms conf = some (fc, fb, fch, fe)) (hLv : fulcrumlaw21_lives.f k = some true) (hLn : fulcrumlaw21_learnt.f k fc fb fch = some (fc, fb, fch)) (hLs : analyse_Less.f cs ms fc fb fch = some (mc, mb, mch, me))
    (hne : fe ≠ 0 → fc = []) (h0 : fe = 0 → me = 0 ∧ fch ≠ [] ∧ fch.length ≤ mch.length ∧ mch.length ≤ 1099511627776 ∧ ∀ x ∈ mch, 0 ≤ x ∧ x < (cs.length : Int)) (hcl : ∀ c, (c ∈ cs ∨ c = fc ∨ c = mc) → fulcrumlaw21_clause.f k ats c = some (clauseB ats c))
    (hfin : fe = 0 → (∀ x ∈ mch, clauseB ats (rdC cs x) = true) → clauseB ats fc = true ∧ clauseB ats mc = true) :
    Calls Try.prog 10 #[.agg #[.slice A0 cs.length c0, .slice A1 ms.length c1], .int .i64 conf, .slice A2 ats.length c2] w fun e w' => e = .returned (.bool true) ∧ Below w.heap.size w w' := by
  have HR0 := Aside0.mk hr0
  have HR1 := Aside0.mk hr1
  have HR2 := Aside0.mk hr2
  have HC0 := Aside0.mk hc0
  have HC1 := Aside0.mk hc1
  have HC2 := Aside0.mk hc2
  have HT := Aside0.mk hT
  have HM := Aside0.mk hM
  have HF := Aside0.mk hF
  have HLV := Aside0.mk hLv
  have HLN := Aside0.mk hLn
  have HLS := Aside0.mk hLs
  have HNE := Aside0.mk hne
  have H0 := Aside0.mk h0
  have HCL := Aside0.mk hcl
  have HFIN := Aside0.mk hfin
  have hmax := Kd.C_max hr0
  clear hr0 hr1 hr2 hc0 hc1 hc2 hT hM hF hLv hLn hLs hne h0 hcl hfin
  go_enter Try.func10, Try.ntmps10
  go_upto_region 1 with (fail)
  obtain ⟨w1, hw1⟩ : ∃ w1, w1 = w.alloc (.cells #[.slice A0 cs.length c0, .slice A1 ms.length c1] 26) := ⟨_, rfl⟩
  have hb1 : Below w.heap.size w w1 := by rw [hw1]; exact below_alloc (Below.refl _ _) _
  have hbx : w1.heap[w.heap.size]? = some (.cells #[.slice A0 cs.length c0, .slice A1 ms.length c1] 26 (0, 0)) := by rw [hw1]; exact heap_alloc_new _ _
  rw [← hw1]
  clear hw1
  have HBW := Aside0.mk hb1
  have HBX := Aside0.mk hbx
  have u0 := blk_cell hbx 0
  have u1 := blk_cell hbx 1
  have hlt := blk_lt hbx
  clear hb1 hbx
  go_cut [7, 8] (fun s7 s8 wx => ∃ g v0 v2, s7 = .pointer (some ⟨g, 0, none⟩) ∧ s8 = .int .i64 fe ∧ Aside0 (LawL w1 wx g v0 v2 fc fb fch))
  case first =>
    refine wp_region_noPanic ?_
    go_region_held3 (fun w' => ∀ p, p.block < w1.heap.size → w'.cell? p = w1.cell? p) (first | (with_reducible exact keep_set HBz.out HZ.out) | (exact keep_any (by with_reducible first | exact HBz.out | exact HBb.out | exact HBa.out | exact Below.refl _ _)))
      (first
        | (go_at_call 16; (with_reducible refine (fulcrumlaw21_twin.calls k A0 c0 cs cs _ ?side1 HC0.out HT.out).mono ?_); (case side1 => exact C_any (Kd.C_below HR0.out HBW.out)); rintro e wa ⟨v, rfl, hv, hb⟩; obtain ⟨At, ct, rfl⟩ := Kd.S_slice hv; have HTa := Aside0.mk (Kd.S_reads' hv).2; have HBa := Aside0.mk (bel_then (Below.refl w1.heap.size w1) hb); (first | ((first | (with_reducible have hz := zero_new hb) | (with_reducible have hz := zero_newN hb) | (with_reducible have hz := zero_new1 hb)); (try simp only [drewN_hs, drew_hs] at hz); have HZ := Aside0.mk (And.intro hz (Nat.le_refl w1.heap.size)); clear hz) | (have hz := zero_step HZ.out.1 hb; have hy := HZ.out.2; clear HZ; have HZ := Aside0.mk (And.intro hz hy); clear hz hy) | skip); clear hv hb)
        | (go_at_call 17; (with_reducible refine (fulcrumlaw21_marks.calls k A1 c1 ms ms _ ?side1 HC1.out HM.out).mono ?_); (case side1 => exact C_any (Kd.C_below HR1.out (below_then HBW.out HBW.out.size HBa.out))); rintro e wb ⟨v, rfl, hv, hb⟩; obtain ⟨Am, cm, rfl⟩ := Kd.R_slice hv; have HTb := Aside0.mk (Kd.R_reads' hv).2; have HBb := Aside0.mk (bel_then HBa.out hb); have HTc := Aside0.mk (And.intro HTa.out.1 (Kd.C_below (C_any HTa.out.2) hb)); (first | ((first | (with_reducible have hz := zero_new hb) | (with_reducible have hz := zero_newN hb) | (with_reducible have hz := zero_new1 hb)); (try simp only [drewN_hs, drew_hs] at hz); have HZ := Aside0.mk (And.intro hz (HBa.out.size)); clear hz) | (have hz := zero_step HZ.out.1 hb; have hy := HZ.out.2; clear HZ; have HZ := Aside0.mk (And.intro hz hy); clear hz hy) | skip); clear hv hb)
        | (go_at_call 15; (with_reducible refine (analyse_First.calls At ct cs Am cm ms conf fc fb fch fe _ ?side1 HTc.out.1 ?side2 HTb.out.1 HF.out).mono ?_); (case side1 => exact C_any HTc.out.2); (case side2 => exact C_any HTb.out.2); rintro e wz ⟨v, v2, rfl, hv, hv2, hb⟩; obtain ⟨Av, cv, rfl⟩ := Kd.R_slice hv; obtain ⟨Aw, cw, rfl⟩ := Kd.R_slice hv2; have HBz := Aside0.mk (bel_then HBb.out hb); have HRA := Aside0.mk (And.intro (Kd.R_lower hv (bel_any HBb.out).size) (Kd.R_lower hv2 (bel_any HBb.out).size)); (first | ((first | (with_reducible have hz := zero_new hb) | (with_reducible have hz := zero_newN hb) | (with_reducible have hz := zero_new1 hb)); (try simp only [drewN_hs, drew_hs] at hz); have HZ := Aside0.mk (And.intro hz (HBb.out.size)); clear hz) | (have hz := zero_step HZ.out.1 hb; have hy := HZ.out.2; clear HZ; have HZ := Aside0.mk (And.intro hz hy); clear hz hy) | skip); (first | (have z0 := blk_cell HZ.out.1 0; have z1 := blk_cell HZ.out.1 1; have z2 := blk_cell HZ.out.1 2; have zf0 := blk_frozen HZ.out.1 0; have zf1 := blk_frozen HZ.out.1 1; have zf2 := blk_frozen HZ.out.1 2) | skip); clear hv hv2 hb))
    all_goals
      refine NoPanic.normal ?_
      go_step
      go_step
      go_meet
      exact ⟨_, _, _, rfl, rfl, ⟨by first | exact LawL.last HBz.out HRA.out.1 HRA.out.2 | exact LawL.ahead HBz.out HZ.out HRA.out.1 HRA.out.2⟩⟩
  case rest =>
    obtain ⟨g, v0, v2, rfl, rfl, HL⟩ := hcut
    clear u0 u1 hlt
    by_cases he : fe = 0
    · subst he
      have he2 : ((0 : Int) != 0) = false := rfl
      go_upto_region 6 with (go_at_call 14; refine (fulcrumlaw21_lives.calls k true _ HLV.out).mono ?_; rintro e w5 ⟨rfl, hb5⟩; have HL5 := Aside0.mk (HL.out.below hb5); clear hb5)
      clear HL
      have HBW1 := HBW
      clear HBW
      have HBW : Aside0 (Below w.heap.size w w5) := ⟨below_then HBW1.out HBW1.out.size HL5.out.bel⟩
      have HBX5 := Aside0.mk ((HL5.out.bel.block _ (blk_lt HBX.out)).trans HBX.out)
      obtain ⟨Af, cf, rfl⟩ := Kd.R_slice HL5.out.r0
      obtain ⟨Ah, ch, rfl⟩ := Kd.R_slice HL5.out.r2
      have HRF := Aside0.mk (And.intro (Kd.R_reads' HL5.out.r0).2 (Kd.R_reads' HL5.out.r2).2)
      have u0 := blk_cell HBX5.out 0
      have u1 := blk_cell HBX5.out 1
      have u2 := blk_cell HL5.out.blk 0
      have u3 := blk_cell HL5.out.blk 1
      have u4 := blk_cell HL5.out.blk 2
      have hlt := blk_lt HBX5.out
      have hlt2 := blk_lt HL5.out.blk
      go_cut [9, 10] (fun s9 s10 wx => ∃ g v0 v2, s9 = .pointer (some ⟨g, 0, none⟩) ∧ s10 = .int .i64 me ∧ Aside0 (LawL w5 wx g v0 v2 mc mb mch))
      case first =>
        refine wp_region_noPanic ?_
        go_region_held3 (fun w' => ∀ p, p.block < w5.heap.size → w'.cell? p = w5.cell? p) (first | (with_reducible exact keep_set HBz.out HZ.out) | (exact keep_any (by with_reducible first | exact HBz.out | exact HBl.out | exact HBb.out | exact HBa.out | exact Below.refl _ _)))
          (first
            | (go_at_call 16; (with_reducible refine (fulcrumlaw21_twin.calls k A0 c0 cs cs _ ?side1 HC0.out HT.out).mono ?_); (case side1 => exact C_any (Kd.C_below HR0.out HBW.out)); rintro e wa ⟨v, rfl, hv, hb⟩; obtain ⟨At, ct, rfl⟩ := Kd.S_slice hv; have HTa := Aside0.mk (Kd.S_reads' hv).2; have HBa := Aside0.mk (bel_then (Below.refl w5.heap.size w5) hb); (first | ((first | (with_reducible have hz := zero_new hb) | (with_reducible have hz := zero_newN hb) | (with_reducible have hz := zero_new1 hb)); (try simp only [drewN_hs, drew_hs] at hz); have HZ := Aside0.mk (And.intro hz (Nat.le_refl w5.heap.size)); clear hz) | (have hz := zero_step HZ.out.1 hb; have hy := HZ.out.2; clear HZ; have HZ := Aside0.mk (And.intro hz hy); clear hz hy) | skip); clear hv hb)
            | (go_at_call 17; (with_reducible refine (fulcrumlaw21_marks.calls k A1 c1 ms ms _ ?side1 HC1.out HM.out).mono ?_); (case side1 => exact C_any (Kd.C_below HR1.out (below_then HBW.out HBW.out.size HBa.out))); rintro e wb ⟨v, rfl, hv, hb⟩; obtain ⟨Am, cm, rfl⟩ := Kd.R_slice hv; have HTb := Aside0.mk (Kd.R_reads' hv).2; have HBb := Aside0.mk (bel_then HBa.out hb); have HTc := Aside0.mk (And.intro HTa.out.1 (Kd.C_below (C_any HTa.out.2) hb)); (first | ((first | (with_reducible have hz := zero_new hb) | (with_reducible have hz := zero_newN hb) | (with_reducible have hz := zero_new1 hb)); (try simp only [drewN_hs, drew_hs] at hz); have HZ := Aside0.mk (And.intro hz (HBa.out.size)); clear hz) | (have hz := zero_step HZ.out.1 hb; have hy := HZ.out.2; clear HZ; have HZ := Aside0.mk (And.intro hz hy); clear hz hy) | skip); clear hv hb)
            | (go_at_call 31; (with_reducible refine (fulcrumlaw21_learnt.calls k Af cf fc fb Ah ch fch fc fb fch _ ?side1 HRF.out.1.1 ?side2 HRF.out.2.1 HLN.out).mono ?_); (case side1 => exact C_any (Kd.C_below HRF.out.1.2 HBb.out)); (case side2 => exact C_any (Kd.C_below HRF.out.2.2 HBb.out)); rintro e wl ⟨v, v2, rfl, hv, hv2, hb⟩; obtain ⟨An, cn, rfl⟩ := Kd.R_slice hv; obtain ⟨Ao, co, rfl⟩ := Kd.R_slice hv2; have HBl := Aside0.mk (bel_then HBb.out hb); have HTd := Aside0.mk (And.intro (Kd.C_below (C_any HTc.out.2) hb) (Kd.C_below (C_any HTb.out.2) hb)); have HTe := Aside0.mk (And.intro (Kd.R_reads' hv).2 (Kd.R_reads' hv2).2); (first | ((first | (with_reducible have hz := zero_new hb) | (with_reducible have hz := zero_newN hb) | (with_reducible have hz := zero_new1 hb)); (try simp only [drewN_hs, drew_hs] at hz); have HZ := Aside0.mk (And.intro hz (HBb.out.size)); clear hz) | (have hz := zero_step HZ.out.1 hb; have hy := HZ.out.2; clear HZ; have HZ := Aside0.mk (And.intro hz hy); clear hz hy) | skip); clear hv hv2 hb)
            | (go_at_call 30; (with_reducible refine (analyse_Less.calls At ct cs Am cm ms An cn fc fb Ao co fch mc mb mch me _ ?side1 HTc.out.1 ?side2 HTb.out.1 ?side3 HTe.out.1.1 ?side4 HTe.out.2.1 HLS.out).mono ?_); (case side1 => exact C_any HTd.out.1); (case side2 => exact C_any HTd.out.2); (case side3 => exact C_any HTe.out.1.2); (case side4 => exact C_any HTe.out.2.2); rintro e wz ⟨v, v2, rfl, hv, hv2, hb⟩; obtain ⟨Av, cv, rfl⟩ := Kd.R_slice hv; obtain ⟨Aw, cw, rfl⟩ := Kd.R_slice hv2; have HBz := Aside0.mk (bel_then HBl.out hb); have HRA := Aside0.mk (And.intro (Kd.R_lower hv (bel_any HBl.out).size) (Kd.R_lower hv2 (bel_any HBl.out).size)); (first | ((first | (with_reducible have hz := zero_new hb) | (with_reducible have hz := zero_newN hb) | (with_reducible have hz := zero_new1 hb)); (try simp only [drewN_hs, drew_hs] at hz); have HZ := Aside0.mk (And.intro hz (HBl.out.size)); clear hz) | (have hz := zero_step HZ.out.1 hb; have hy := HZ.out.2; clear HZ; have HZ := Aside0.mk (And.intro hz hy); clear hz hy) | skip); (first | (have z0 := blk_cell HZ.out.1 0; have z1 := blk_cell HZ.out.1 1; have z2 := blk_cell HZ.out.1 2; have zf0 := blk_frozen HZ.out.1 0; have zf1 := blk_frozen HZ.out.1 1; have zf2 := blk_frozen HZ.out.1 2) | skip); clear hv hv2 hb))
        all_goals
          refine NoPanic.normal ?_
          go_step
          go_step
          go_meet
          exact ⟨_, _, _, rfl, rfl, ⟨by first | exact LawL.last HBz.out HRA.out.1 HRA.out.2 | exact LawL.ahead HBz.out HZ.out HRA.out.1 HRA.out.2⟩⟩
      case rest =>
        obtain ⟨g2, v3, v4, rfl, rfl, HM6⟩ := hcut
        clear u0 u1 u2 u3 u4
        obtain ⟨h1, h2, h3, h4, h5⟩ := H0.out (by trivial)
        subst h1
        have HRNG := Aside0.mk h5
        obtain ⟨Ai, ci, rfl⟩ := Kd.R_slice HM6.out.r0
        obtain ⟨Aj, cj, rfl⟩ := Kd.R_slice HM6.out.r2
        have hgk := (HM6.out.bel.block g hlt2).trans HL5.out.blk
        have HGK := Aside0.mk hgk
        have HBX6 := Aside0.mk ((HM6.out.bel.block _ hlt).trans HBX5.out)
        have HRM := Aside0.mk (And.intro (Kd.R_reads' HM6.out.r0).2 (Kd.R_reads' HM6.out.r2).2)
        have HRF6 := Aside0.mk (And.intro (Kd.C_below HRF.out.1.2 HM6.out.bel) (Kd.C_below HRF.out.2.2 HM6.out.bel))
        have HBW6 : Aside0 (Below w.heap.size w wc) := ⟨below_then HBW.out HBW.out.size HM6.out.bel⟩
        have n1 : ((fch.length : Int) == 0) = false := by
          have : fch.length ≠ 0 := fun q => h2 (List.eq_nil_of_length_eq_zero q)
          simp; omega
        have n2 : decide (mch.length < fch.length) = false := by simp; omega
        have n3 : decide ((mch.length : Int) < (fch.length : Int)) = false := by simp; omega
        have u2 := blk_cell hgk 0
        have u4 := blk_cell hgk 2
        have u5 := blk_cell HM6.out.blk 0
        have u7 := blk_cell HM6.out.blk 2
        have hl9 : mch.length ≤ 1099511627776 := h4
        obtain ⟨w6, rfl⟩ : ∃ w6, w6 = wc := ⟨_, rfl⟩
        clear h2 h3 h4 h5 hgk hlt hlt2
        go_wp2
        clear n1 n2 n3 u2 u4 u5 u7
        go_loopg [11] mch.length (fun kq v11 w' => ∃ i : Nat, v11 = .int .i64 i ∧ i + kq = mch.length ∧ Aside0 (∀ x ∈ mch.take i, clauseB ats (rdC cs x) = true) ∧ Aside0 (Below w6.heap.size w6 w'))
        case atStart => exact ⟨0, rfl, by omega, ⟨by simp⟩, ⟨Below.refl _ _⟩⟩
        case round =>
          obtain ⟨i, rfl, hik, HA, HW6⟩ := hrel
          have hgk := (HW6.out.block g (blk_lt HGK.out)).trans HGK.out
          have hgm := (HW6.out.block g2 (blk_lt HM6.out.blk)).trans HM6.out.blk
          have hbx := (HW6.out.block _ (blk_lt HBX6.out)).trans HBX6.out
          have HBWr : Aside0 (Below w.heap.size w wr) := ⟨below_then HBW6.out HBW6.out.size HW6.out⟩
          have u0 := blk_cell hbx 0
          have u2 := blk_cell hgk 0
          have u5 := blk_cell hgm 0
          have u7 := blk_cell hgm 2
          clear hgk hgm hbx
          cases gk with
          | zero =>
            obtain rfl : i = mch.length := by omega
            have hall := HA.out
            rw [List.take_length] at hall
            obtain ⟨f1, f2⟩ := HFIN.out (by trivial) hall
            have HQ1 := Aside0.mk ((HCL.out fc (.inr (.inl rfl))).trans (congrArg some f1))
            have HQ2 := Aside0.mk ((HCL.out mc (.inr (.inr rfl))).trans (congrArg some f2))
            clear hall f1 f2
            go_wp2_with (go_at_call 28; first | ((with_reducible refine (fulcrumlaw21_clause.calls k A2 c2 ats Af cf fc true _ ?side1 HC2.out ?side2 HRF.out.1.1 HQ1.out).mono ?_); (case side1 => exact C_any (Kd.C_below HR2.out HBWr.out)); (case side2 => exact C_any (Kd.C_below HRF6.out.1 HW6.out)); rintro e w7 ⟨rfl, hd⟩; have HD := Aside0.mk hd.below; have u5 := (hd.below.cell (World.block_lt_of_cell? _ _ u5)).trans u5; clear hd) | ((with_reducible refine (fulcrumlaw21_clause.calls k A2 c2 ats Ai ci mc true _ ?side1 HC2.out ?side2 HRM.out.1.1 HQ2.out).mono ?_); (case side1 => exact C_any (Kd.C_below (Kd.C_below HR2.out HBWr.out) HD.out)); (case side2 => exact C_any (Kd.C_below (Kd.C_below HRM.out.1.2 HW6.out) HD.out)); rintro e w8 ⟨rfl, hd⟩; have HD2 := Aside0.mk hd.below; clear hd))
            go_ret
            exact ⟨rfl, below_step (below_step HBWr.out HD.out) HD2.out⟩
          | succ k1 =>
            have hlt : i < mch.length := by omega
            obtain ⟨adj, rfl, hx⟩ := Kd.at_int (Kd.C_below HRM.out.2.2 HW6.out) (i : Int) (by omega) (by omega)
            rw [Int.toNat_natCast] at hx
            have htk := take_rd hlt
            have hxm := rdm hlt
            obtain ⟨x, hxe⟩ : ∃ x, x = rd mch (i : Int) := ⟨_, rfl⟩
            rw [← hxe] at hx htk hxm
            obtain ⟨x0, x1⟩ := HRNG.out x hxm
            have d0 : decide (x < 0) = false := by simp; omega
            have d1 : decide (x ≥ (cs.length : Int)) = false := by simp; omega
            obtain ⟨adc, Ac, cc, rfl, y0w, y1, y2w⟩ := at_C HR0.out x x0 x1
            have y0 := pw_cell_below HBWr.out y0w
            have HY2 := Aside0.mk (Kd.C_below y2w HBWr.out)
            have hxc := HCL.out _ (.inl (rdC_mem x0 x1))
            have HTK := Aside0.mk htk
            have hi1 : (i : Int) < (mch.length : Int) := by omega
            have hi0 : (0 : Int) ≤ (i : Int) := by omega
            obtain ⟨cl, hcle⟩ : ∃ c, c = rdC cs x := ⟨_, rfl⟩
            rw [← hcle] at y0 y1 HY2 hxc
            have HCE := Aside0.mk hcle
            have HY1 := Aside0.mk y1
            clear htk hxe hxm y0w y2w hcle y1
            cases hb : clauseB ats cl with
            | false =>
              rw [hb] at hxc
              have HXC := Aside0.mk hxc
              clear hb hxc
              go_wp2
              go_quiet (fail)
              go_wp2
              go_quiet ((go_at_call 28; exact quiet_addL ((fulcrumlaw21_clause.calls k A2 c2 ats Ac cc cl false _ (C_any (Kd.C_below HR2.out HBWr.out)) HC2.out (C_any HY2.out) HY1.out HXC.out).mono (fun e w' h => ⟨h.1, h.2.out⟩))))
              go_wp2
              go_ret
              exact ⟨rfl, bel_any (w0 := w) HBWr.out⟩
            | true =>
              rw [hb] at hxc
              have HXC := Aside0.mk hxc
              have HHB := Aside0.mk hb
              clear hb hxc
              go_wp2
              go_quiet (fail)
              go_wp2
              go_quiet ((go_at_call 28; exact quiet_addL ((fulcrumlaw21_clause.calls k A2 c2 ats Ac cc cl true _ (C_any (Kd.C_below HR2.out HBWr.out)) HC2.out (C_any HY2.out) HY1.out HXC.out).mono (fun e w' h => ⟨h.1, h.2.out⟩))))
              go_wp2
              go_roundg k1
              case measure => omega
              case rel => exact ⟨i + 1, by go_num, by omega, ⟨by rw [HTK.out]; intro z hz; rcases List.mem_append.1 hz with q | q; exact HA.out z q; rw [List.mem_singleton.1 q, ← HCE.out]; exact HHB.out⟩, ⟨bel_any (w0 := w6) HW6.out⟩⟩
    · have he2 : (fe != 0) = true := by simpa using he
      have hfc := HNE.out he
      clear he
      subst hfc
      obtain ⟨Af, cf, rfl⟩ := Kd.R_slice HL.out.r0
      go_wp2_with (go_at_call 14; refine (fulcrumlaw21_lives.calls k true _ HLV.out).mono ?_; rintro e w5 ⟨rfl, hb5⟩; have HL5 := Aside0.mk (HL.out.below hb5); have u2 := blk_cell (HL.out.below hb5).blk 0; clear hb5)
      go_ret
      exact ⟨rfl, below_then HBW.out HBW.out.size HL5.out.bel⟩
theorem clauses_all (ats : List Int) (hn : ats.length ≤ 4194304) : ∀ cs : List (List Int), (∀ c ∈ cs, c.length ≤ 4194304) → (∀ c ∈ cs, ∀ x ∈ c, w64 x) → ∃ K, ∀ k, K ≤ k → ∀ c ∈ cs, fulcrumlaw21_clause.f k ats c = some (clauseB ats c)
  | [], _, _ => ⟨0, fun _ _ c hc => by cases hc⟩
  | c :: r, hl, hw => by
    obtain ⟨K1, h1⟩ := clause_all ats hn c (hl c (by simp)) (hw c (by simp))
    obtain ⟨K2, h2⟩ := clauses_all ats hn r (fun c hc => hl c (by simp [hc])) (fun c hc => hw c (by simp [hc]))
    refine ⟨K1 + K2, fun k hk x hx => ?_⟩
    rcases List.mem_cons.1 hx with rfl | hx
    · exact h1 k (by omega)
    · exact h2 k (by omega) x hx
theorem clauseB_mem {ats s t : List Int} (h : ∀ x, x ∈ s ↔ x ∈ t) : clauseB ats s = clauseB ats t := by
  unfold clauseB
  rw [Bool.eq_iff_iff, List.any_eq_true, List.any_eq_true]
  exact ⟨fun ⟨x, hx, h1⟩ => ⟨x, (h x).1 hx, h1⟩, fun ⟨x, hx, h1⟩ => ⟨x, (h x).2 hx, h1⟩⟩
theorem learnt_copy (c : List Int) (b : Int) (ch : List Int) (hc : c.length ≤ 35184372088832) (hch : ch.length ≤ 35184372088832) : Ev (fun k => fulcrumlaw21_learnt.f k c b ch) (c, b, ch) := Ev.bind (ints_all c hc) (Ev.bind (ints_all ch hch) (Ev.now _))
theorem implies_walk (A0 : Option Addr) (c0 : Nat) (cs : List (List Int)) (A1 : Option Addr) (c1 : Nat) (ms : List Mk) (conf : Int) (A2 : Option Addr) (c2 : Nat) (ats : List Int) (w : World)
    (hr0 : Kd.C (Kd.slice 3 (Kd.int .i64)) w A0 cs.length cs) (hc0 : cs.length ≤ c0) (hr1 : Kd.C k49 w A1 ms.length ms) (hc1 : ms.length ≤ c1) (hr2 : Kd.C (Kd.int .i64) w A2 ats.length ats) (hc2 : ats.length ≤ c2)
    (hW : Wf cs ms) (hm : ms.length ≤ 524288) (hat : ats.length ≤ 4194304) :
    Calls Try.prog 10 #[.agg #[.slice A0 cs.length c0, .slice A1 ms.length c1], .int .i64 conf, .slice A2 ats.length c2] w fun e w' => e = .returned (.bool true) ∧ Below w.heap.size w w' := by
  obtain ⟨K1, k1⟩ := twin_all cs hW.lc hW.lcl
  obtain ⟨K2, k2⟩ := marks_all ms hW.lm
  obtain ⟨K3, k3⟩ := lives_all
  obtain ⟨K4, k4⟩ := clauses_all ats hat cs hW.lcl hW.c
  have hsay := firstP_says hW conf
  obtain ⟨F, hF⟩ : ∃ F, F = firstP cs ms conf := ⟨_, rfl⟩
  rw [← hF] at hsay
  obtain ⟨fc, fb, fch, fe⟩ := F
  simp only at hsay
  have hFf : analyse_First.f cs ms conf = some (fc, fb, fch, fe) := by unfold analyse_First.f; rw [wfB_of hW, if_pos rfl, hF]
  obtain ⟨Lr, hL⟩ : ∃ L, L = lessP cs ms fc fch := ⟨_, rfl⟩
  obtain ⟨mc, mb, mch, me⟩ := Lr
  rcases hsay with ⟨e1, e2, e3, e4⟩ | ⟨hvb, q0, q1, qf, S, rs, a, eF, dS, aS, lS⟩
  · subst e2 e3 e4
    have hLf : analyse_Less.f cs ms [] 0 [] = some (mc, mb, mch, me) := by
      unfold analyse_Less.f
      rw [wfB_of hW, decide_eq_true hm]
      simp [litsW, hL]
    obtain ⟨K5, k5⟩ := learnt_copy [] 0 [] (by simp) (by simp)
    obtain ⟨K6, k6⟩ := clause_all ats hat [] (by simp) (by simp)
    have hmc : mc = [] := by
      have : lessP cs ms [] [] = ([], 0, [], (lessP cs ms [] []).2.2.2) := by
        unfold lessP
        split
        · rw [if_neg (by unfold rightB; simp)]
        · rfl
      rw [← hL] at this
      exact (Prod.mk.inj this).1
    refine imp_walk (K1 + K2 + K3 + K4 + K5 + K6) A0 c0 cs A1 c1 ms conf A2 c2 ats [] [] mc mch 0 fe mb me w hr0 hc0 hr1 hc1 hr2 hc2 (k1 _ (by omega)) (k2 _ (by omega)) hFf (k3 _ (by omega)) (k5 _ (by omega)) hLf (fun _ => rfl) (fun q => absurd q e1) (fun c hc => ?_) (fun q => absurd q e1)
    rcases hc with hc | rfl | rfl
    · exact k4 _ (by omega) c hc
    · exact k6 _ (by omega)
    · rw [hmc]; exact k6 _ (by omega)
  · have hv := VT.of hvb
    have hs0 := setL_SI hW q0 q1 qf
    have hS := dS.inv hv hW hs0
    obtain ⟨T, rs2, eL, dT, aT, sT, lT⟩ := lessP_says hW hvb hS aS (conf :: rs)
    have hTs := dT.inv hv hW hS
    injection eF with eF1 eF2
    injection eF2 with eF2 eF3
    injection eF3 with eF3 eF4
    subst eF1 eF3 eF4
    rw [← hL] at eL
    injection eL with eL1 eL2
    injection eL2 with eL2 eL3
    injection eL3 with eL3 eL4
    have hp := told_perm (ms := ms) hS.n aS.m
    have hq := told_perm (ms := ms) hTs.n aT.m
    have hlS := len_of_falses hS.n hS.f
    have hlT := len_of_falses hTs.n hTs.f
    have hfl : (a :: restL ms S a).length ≤ 524288 := by rw [hp.length_eq]; omega
    have hml : mc.length ≤ 524288 := by rw [eL1, hq.length_eq]; omega
    have hchl : (conf :: rs).length ≤ 4194304 := by rw [List.length_cons]; omega
    have hfw : ∀ x ∈ a :: restL ms S a, w64 x := fun x hx => hS.w x (hp.mem_iff.1 hx)
    have hmw : ∀ x ∈ mc, w64 x := fun x hx => hTs.w x (hq.mem_iff.1 (eL1 ▸ hx))
    have hLf : analyse_Less.f cs ms (a :: restL ms S a) fb (conf :: rs) = some (mc, mb, mch, me) := by
      unfold analyse_Less.f
      have hl : litsW (a :: restL ms S a) = true := List.all_eq_true.2 (fun x hx => decide_eq_true (hfw x hx))
      rw [wfB_of hW, decide_eq_true hm, hl, decide_eq_true (show (conf :: rs).length ≤ 1099511627776 by omega), hL]
      rfl
    obtain ⟨K5, k5⟩ := learnt_copy (a :: restL ms S a) fb (conf :: rs) (by omega) (by omega)
    obtain ⟨K6, k6⟩ := clause_all ats hat (a :: restL ms S a) (by omega) hfw
    obtain ⟨K7, k7⟩ := clause_all ats hat mc (by omega) hmw
    have hmul : ms.length * (ms.length + 1) ≤ 524288 * 524289 := Nat.mul_le_mul (by omega) (by omega)
    have hlen2 : mch.length = (conf :: rs).length + rs2.length := by rw [eL3, List.length_append]
    refine imp_walk (K1 + K2 + K3 + K4 + K5 + K6 + K7) A0 c0 cs A1 c1 ms conf A2 c2 ats (a :: restL ms S a) (conf :: rs) mc mch fb 0 mb me w hr0 hc0 hr1 hc1 hr2 hc2 (k1 _ (by omega)) (k2 _ (by omega)) hFf (k3 _ (by omega)) (k5 _ (by omega)) hLf (fun q => absurd rfl q) (fun _ => ⟨eL4, by simp, by omega, by clear hm; omega, ?_⟩) (fun c hc => ?_) (fun _ hall => ?_)
    · rw [eL3]
      intro x hx
      rcases List.mem_append.1 hx with hx | hx
      · rcases List.mem_cons.1 hx with rfl | hx
        · exact ⟨q0, q1⟩
        · exact dS.range hv hW hs0 x hx
      · exact dT.range hv hW hS x hx
    · rcases hc with hc | rfl | rfl
      · exact k4 _ (by omega) c hc
      · exact k6 _ (by omega)
      · exact k7 _ (by omega)
    · rw [eL3] at hall
      have t0 : clauseB ats (setL (rdC cs conf)) = true := by
        rw [clauseB_mem (t := rdC cs conf) (fun x => setL_mem)]
        exact hall conf (by simp)
      have tS := dS.sound hv hW hs0 t0 (fun r hr => hall r (by simp [hr]))
      have tT := dT.sound hv hW hS tS (fun r hr => hall r (by simp [hr]))
      exact ⟨by rw [clauseB_perm hp]; exact tS, by rw [eL1, clauseB_perm hq]; exact tT⟩
end Go.Proofs.Ytboalbiicmcljaa.PAN
