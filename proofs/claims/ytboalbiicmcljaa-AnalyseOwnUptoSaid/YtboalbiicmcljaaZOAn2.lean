import Derived.Test.YtboalbiicmcljaaZOAn1
import Derived.IntWalk
import Derived.StillTailTactics
namespace Go.Proofs.Ytboalbiicmcljaa.PAN
open Go.RowKit Go.Proofs.YtboalbiicmcljaaW.PrintWords Go.Proofs.YtboalbiicmcljaaW.PrintLast Go.Proofs.YtboalbiicmcljaaW.PrintMore Go.Proofs.YtboalbiicmcljaaH
set_option linter.unusedVariables false
set_option linter.unusedSimpArgs false
structure Tr (w : World) (L tb : Nat) (cs : List (List Int)) (ms : List Mk) : Prop where
  le : L ≤ w.heap.size
  ex : ∃ A0 c0 A1 c1 pb, tb < L ∧ pb < L ∧ w.heap[tb]? = some (.cells #[.slice A0 cs.length c0, .slice A1 ms.length c1, .map (some pb)] 85 (0, 0)) ∧ cs.length ≤ c0 ∧ ms.length ≤ c1 ∧
    IsMapF Try.prog 3 w pb (keysM ms) (plF ms) ∧ (∀ w', Below L w w' → Kd.C (Kd.slice 3 (Kd.int .i64)) w' A0 cs.length cs) ∧ (∀ w', Below L w w' → Kd.C k49 w' A1 ms.length ms) ∧ ∀ ad, A0 = some ad → 0 < cs.length → ad.block < L
def LoadPost (w : World) (cs : List (List Int)) (ms : List Mk) (e : Ending) (w' : World) : Prop :=
  Below w.heap.size w w' ∧ ((validB cs [] ms = true ∧ ∃ tb, e = .returned (.tuple #[.pointer (some ⟨tb, 0, none⟩), .bool true]) ∧ w.heap.size ≤ tb ∧ Tr w' w'.heap.size tb cs ms) ∨ (validB cs [] ms = false ∧ e = .returned (.tuple #[.pointer none, .bool false])))
structure LoadI (w : World) (A0 A1 : Option Addr) (c0 c1 : Nat) (cs : List (List Int)) (ms : List Mk) (i : Nat) (w' : World) : Prop where
  b : Below w.heap.size w w'
  blk : w'.heap[w.heap.size + 1]? = some (.cells #[.slice A0 cs.length c0, .slice A1 ms.length c1, .map (some w.heap.size)] 85 (0, 0))
  map : IsMapF Try.prog 3 w' w.heap.size (keysM (ms.take i)) (plF (ms.take i))
  v : validB cs [] ms = validB cs (ms.take i) (ms.drop i)
  l0 : 0 ≤ lvlM (ms.take i) ∧ lvlM (ms.take i) ≤ i
theorem LoadI.step {w : World} {A0 A1 : Option Addr} {c0 c1 : Nat} {cs : List (List Int)} {ms : List Mk} {i : Nat} {w1 w2 : World} (h : LoadI w A0 A1 c0 c1 cs ms i w1) (hb : Below w1.heap.size w1 w2) : LoadI w A0 A1 c0 c1 cs ms i w2 :=
  ⟨below_step h.b hb, (hb.block _ (blk_lt h.blk)).trans h.blk, h.map.step (hb.block _ h.map.lt), h.v, h.l0⟩
theorem LoadI.pl {w : World} {A0 A1 : Option Addr} {c0 c1 : Nat} {cs : List (List Int)} {ms : List Mk} {i : Nat} {w1 : World} (h : LoadI w A0 A1 c0 c1 cs ms i w1) : Pl w1 (w.heap.size + 1) w.heap.size (ms.take i) := ⟨blk_cell h.blk 2, h.map⟩
theorem Pl.drewN {w : World} {tb pb : Nat} {pre : List Mk} (h : Pl w tb pb pre) (n : Nat) : Pl (w.drewN n) tb pb pre := ⟨h.c2, h.map.step rfl⟩
theorem at_C {w : World} {A : Option Addr} {n : Nat} {xs : List (List Int)} (h : Kd.C (Kd.slice 3 (Kd.int .i64)) w A n xs) (i : Int) (h0 : 0 ≤ i) (h1 : i < n) : ∃ ad A0 c0, A = some ad ∧ w.cell? (ad.add i.toNat) = some (.slice A0 (rdC xs i).length c0) ∧ (rdC xs i).length ≤ c0 ∧ (Kd.int .i64).C w A0 (rdC xs i).length (rdC xs i) := by
  obtain ⟨ad, c, e, _, hK, hc0⟩ := Kd.C_get h ([] : List Int) i h0 h1
  have hc : ∀ j u, c[j]? = some u → w.cell? (ad.add (i.toNat * 1 + j)) = some u := hc0
  obtain ⟨A0, c0, rfl, l0, g0⟩ := hK
  exact ⟨ad, A0, c0, e, by have hq := hc 0 _ rfl; rwa [Nat.mul_one, Nat.add_zero] at hq, l0, g0⟩
set_option maxHeartbeats 8000000 in
set_option maxRecDepth 100000 in
theorem an_load (A0 : Option Addr) (c0 : Nat) (cs : List (List Int)) (A1 : Option Addr) (c1 : Nat) (ms : List Mk) (w : World) (hr0 : Kd.C (Kd.slice 3 (Kd.int .i64)) w A0 cs.length cs) (hc0 : cs.length ≤ c0) (hr1 : Kd.C k49 w A1 ms.length ms) (hc1 : ms.length ≤ c1) (hwf : Wf cs ms) :
    Calls Try.prog 36 #[.slice A0 cs.length c0, .slice A1 ms.length c1] w (LoadPost w cs ms) := by
  have HR0 := Aside0.mk hr0
  have HR1 := Aside0.mk hr1
  have HC0 := Aside0.mk hc0
  have HC1 := Aside0.mk hc1
  have HW := Aside0.mk hwf
  have hm1 := hwf.lm
  have hm0 := hwf.lc
  have hmm := @run_makeMap Try.prog
  clear hr0 hr1 hc0 hc1 hwf
  go_enter Try.func36, Try.ntmps36
  go_wp2
  clear hmm
  have HI : Aside0 (LoadI w A0 A1 c0 c1 cs ms 0 ((w.alloc (.map #[] 0)).alloc (.cells #[.slice A0 cs.length c0, .slice A1 ms.length c1, .map (some w.heap.size)] 85))) := by
    refine ⟨⟨below_alloc (below_alloc (Below.refl _ _) _) _, ?_, ?_, by simp, by simp [lvlM]⟩⟩
    · have := heap_alloc_new (w.alloc (.map #[] 0)) (.cells #[.slice A0 cs.length c0, .slice A1 ms.length c1, .map (some w.heap.size)] 85)
      simpa using this
    · exact (isMapF_made Try.prog 3 w (plF [])).step ((below_alloc (Below.refl _ _) _).block _ (by simp))
  go_loopg [7, 17] ms.length (fun kq v7 v17 w' => ∃ i : Nat, v7 = .int .i64 (lvlM (ms.take i)) ∧ v17 = .int .i64 i ∧ i + kq = ms.length ∧ Aside0 (LoadI w A0 A1 c0 c1 cs ms i w'))
  case atStart => exact ⟨0, rfl, rfl, by omega, HI⟩
  case round =>
    obtain ⟨i, rfl, rfl, hik, HJ⟩ := hrel
    clear HI
    cases gk with
    | zero =>
      obtain rfl : i = ms.length := by omega
      have hj := HJ.out
      have hvt : validB cs [] ms = true := by rw [hj.v]; simp [validB]
      have hmap := hj.map
      rw [List.take_length] at hmap
      have HT : Aside0 (Tr wr wr.heap.size (w.heap.size + 1) cs ms) := ⟨⟨Nat.le_refl _, A0, c0, A1, c1, w.heap.size, blk_lt hj.blk, hmap.lt, hj.blk, HC0.out, HC1.out, hmap, fun w' hb => Kd.C_below (Kd.C_below HR0.out hj.b) hb, fun w' hb => Kd.C_below (Kd.C_below HR1.out hj.b) hb, fun ad e hpos => by subst e; exact Kd.C_lt (Kd.C_below HR0.out hj.b) hpos (by decide)⟩⟩
      have HV := Aside0.mk hvt
      clear hj hvt hmap
      go_wp2
      go_ret2
      exact ⟨HJ.out.b, .inl ⟨HV.out, _, rfl, by omega, HT.out⟩⟩
    | succ k1 =>
      have hlt : i < ms.length := by omega
      obtain ⟨ad, rfl, x0, x1, x2⟩ := at_T49 (Kd.C_below HR1.out HJ.out.b) (i : Int) (by omega) (by omega)
      rw [Int.toNat_natCast] at x0 x1 x2
      have hwm := HW.out.mk_rd hlt
      have htk := take_mk hlt
      have hdr := drop_mk hlt
      have hl0 := HJ.out.l0
      obtain ⟨lv, hlv⟩ : ∃ v, v = lvlM (ms.take i) := ⟨_, rfl⟩
      obtain ⟨m, hm⟩ : ∃ m, m = rd_T49 ms (i : Int) := ⟨_, rfl⟩
      rw [← hm] at x0 x1 x2 hwm htk hdr
      have hv : validB cs [] ms = (okAtB cs (ms.take i) m && validB cs (ms.take i ++ [m]) (ms.drop (i + 1))) := by rw [HJ.out.v, hdr]; rfl
      have HV := Aside0.mk hv
      have HTK := Aside0.mk htk
      have HWM := Aside0.mk hwm
      have HLV := Aside0.mk hlv
      rw [← hlv] at hl0 ⊢
      obtain ⟨hl1, hl2⟩ := hl0
      obtain ⟨a, b, c⟩ := m
      simp only at x0 x1 x2
      clear hm hv htk hdr hwm hlv
      obtain ⟨ha, hb, hc⟩ := HWM.out
      rw [w64_iff] at ha hb hc
      obtain ⟨w1, hw1⟩ : ∃ w1, w1 = wr.alloc (.cells #[.int .i64 a, .int .i64 b, .int .i64 c] 49) := ⟨_, rfl⟩
      have hbel : Below wr.heap.size wr w1 := by rw [hw1]; exact below_alloc (Below.refl _ _) _
      have g0 : w1.heap[wr.heap.size]? = some (.cells #[.int .i64 a, .int .i64 b, .int .i64 c] 49 (0, 0)) := by rw [hw1]; exact heap_alloc_new _ _
      have HJ1 := Aside0.mk (HJ.out.step hbel)
      have HG := Aside0.mk g0
      have kc0 := blk_cell g0 0
      have kc1 := blk_cell g0 1
      have kc2 := blk_cell g0 2
      have q1 := atomI_zero (x := a) HWM.out.1
      obtain ⟨at0, hat⟩ : ∃ v, v = atomI a := ⟨_, rfl⟩
      rw [← hat] at q1
      have HAT := Aside0.mk hat
      have HL2 : Aside0 (w.heap.size ≤ wr.heap.size) := ⟨HJ.out.b.size⟩
      have hcq : wrap64 (lv + 1) = lv + 1 := by unfold wrap64; omega
      have HCQ := Aside0.mk hcq
      have HL := Aside0.mk (And.intro hl1 hl2)
      have HABC := Aside0.mk (And.intro ha (And.intro hb hc))
      clear hat g0 ha hb hc hcq
      go_wp2_with fail
      rw [← hw1]
      clear hw1 x0 x1 x2 hbel
      cases hlit : litB a with
      | false =>
        have HV0 : Aside0 (validB cs [] ms = false) := ⟨by rw [HV.out]; unfold okAtB; simp [hlit]⟩
        rw [hlit] at q1
        clear hlit
        go_wp2_with (go_at_call 54; refine (an_atom a HWM.out.1 _).mono ?_; rw [← HAT.out]; rintro e w' ⟨rfl, rfl⟩)
        go_ret2
        exact ⟨HJ1.out.b, .inr ⟨HV0.out, rfl⟩⟩
      | true =>
        rw [hlit] at q1
        have HLIT := Aside0.mk hlit
        cases hkn : (hasM (ms.take i) a || hasM (ms.take i) (-a)) with
        | true =>
          have HV0 : Aside0 (validB cs [] ms = false) := ⟨by
            rw [HV.out]; unfold okAtB; simp only
            have : (!hasM (ms.take i) a && !hasM (ms.take i) (-a)) = false := by rw [← Bool.not_or, hkn]; rfl
            rw [this]; simp⟩
          have HK := Aside0.mk hkn
          clear hlit hkn
          go_wp2_with (first | (go_at_call 54; refine (an_atom a HWM.out.1 _).mono ?_; rw [← HAT.out]; rintro e w' ⟨rfl, rfl⟩) | (go_at_call 69; refine (an_known _ _ _ a _ HJ1.out.pl HWM.out.1 HLIT.out).mono ?_; rw [HK.out]; rintro e w' ⟨rfl, rfl⟩))
          go_ret2
          exact ⟨HJ1.out.b, .inr ⟨HV0.out, rfl⟩⟩
        | false =>
          have HK := Aside0.mk hkn
          have hk2 : hasM (ms.take i) a = false ∧ hasM (ms.take i) (-a) = false := by simpa using hkn
          have HK2 := Aside0.mk hk2
          clear hlit hkn hk2
          by_cases hd : c = -1
          · have hd1 : (c == (-1)) = true := by simpa using hd
            have HD := Aside0.mk hd
            clear hd
            by_cases hlv : b = lv + 1
            · have hlv1 : (b != (lv + 1)) = false := by simpa using hlv
              have HLB := Aside0.mk hlv
              clear hlv
              go_wp2_with (first | (go_at_call 54; refine (an_atom a HWM.out.1 _).mono ?_; rw [← HAT.out]; rintro e w' ⟨rfl, rfl⟩) | (go_at_call 69; refine (an_known _ _ _ a _ HJ1.out.pl HWM.out.1 HLIT.out).mono ?_; rw [HK.out]; rintro e w' ⟨rfl, rfl⟩))
              -- GEN
              have HOK : Aside0 (okAtB cs (ms.take i) ⟨a, b, c⟩ = true) := ⟨by unfold okAtB; simp only; rw [if_pos HD.out, ← HLV.out, HLIT.out, HK2.out.1, HK2.out.2, HLB.out]; simp⟩
              have c2 := HJ1.out.pl.c2
              have hlen : (keysM (ms.take i)).length < maxLen := by unfold keysM maxLen; rw [List.length_map, List.length_take]; omega
              go_still_tail 7, (by kernel_rfl)
              change wpList _ _ _ _ _ w1.drew
              have hmp : IsMapF Try.prog 3 w1.drew w.heap.size (keysM (ms.take i)) (plF (ms.take i)) := HJ1.out.map.step rfl
              have hwi : w64 (i : Int) := by rw [w64_iff]; omega
              have HWI := Aside0.mk (And.intro hwi hlen)
              have hb1 : Below w.heap.size w w1.drew := below_drew1 HJ1.out.b
              have HB1 := Aside0.mk (And.intro hb1 hmp)
              have hblk : w1.drew.heap[w.heap.size + 1]? = some (.cells #[.slice A0 cs.length c0, .slice (some ad) ms.length c1, .map (some w.heap.size)] 85 (0, 0)) := HJ1.out.blk
              have HBLK := Aside0.mk hblk
              clear hwi hlen hmp hb1 hblk
              generalize w1.drew = w2 at HB1 HBLK ⊢
              go_wp2_with (at_mapUpdate; refine wpList_put_F _ rfl _ _ _ 63 rfl 3 Try.underlying63 Try.underlying3 w.heap.size (keysM (ms.take i)) (plF (ms.take i)) rfl HB1.out.2 HWI.out.2 a (i : Int) rfl rfl HWM.out.1 HWI.out.1 ?_; intro w3 hm3 hg3)
              have HM3 := Aside0.mk hm3
              have HG3 := Aside0.mk hg3
              clear hm3 hg3
              go_roundg k1
              case measure => omega
              case rel =>
                have hil : (ms.take i).length = i := by rw [List.length_take]; omega
                refine ⟨i + 1, by rw [HTK.out, lvlM_snoc]; exact congrArg _ HLB.out.symm, by go_num, by omega, ⟨?_, ?_, ?_, ?_, ?_⟩⟩
                · exact pw_below_grown HB1.out.1 _ HB1.out.1.size HG3.out (fun k q => by injection q with q; omega)
                · exact (HG3.out.block _ (blk_lt HBLK.out) (by intro q; injection q with q; omega)).trans HBLK.out
                · have hin : insK (keysM (ms.take i)) a = keysM (ms.take i ++ [⟨a, b, c⟩]) := insK_new (m := ⟨a, b, c⟩) HK2.out.1
                  rw [HTK.out, ← hin]
                  exact HM3.out.congr (List.Perm.refl _) (fun x hx => by rw [hin] at hx; have := plF_snoc (m := ⟨a, b, c⟩) HK2.out.1 x hx; rw [hil] at this; exact this)
                · rw [HV.out, HTK.out, HOK.out]; rfl
                · rw [HTK.out, lvlM_snoc]; simp only; have := HLB.out; have := HL.out; omega
            · have hlv1 : (b != (lv + 1)) = true := by simpa using hlv
              have HV0 : Aside0 (validB cs [] ms = false) := ⟨by
                rw [HV.out]; unfold okAtB; simp only
                rw [if_pos HD.out, ← HLV.out]
                simp [hlv]⟩
              clear hlv
              go_wp2_with (first | (go_at_call 54; refine (an_atom a HWM.out.1 _).mono ?_; rw [← HAT.out]; rintro e w' ⟨rfl, rfl⟩) | (go_at_call 69; refine (an_known _ _ _ a _ HJ1.out.pl HWM.out.1 HLIT.out).mono ?_; rw [HK.out]; rintro e w' ⟨rfl, rfl⟩))
              go_ret2
              exact ⟨HJ1.out.b, .inr ⟨HV0.out, rfl⟩⟩
          · -- GEN2
            have hd1 : (c == (-1)) = false := by simpa using hd
            have HD := Aside0.mk hd
            clear hd
            by_cases hc0 : c < 0
            · have HV0 : Aside0 (validB cs [] ms = false) := ⟨by
                rw [HV.out]; unfold okAtB; simp only
                rw [if_neg HD.out, decide_eq_false (by omega : ¬ (0 ≤ c ∧ c < (cs.length : Int)))]
                simp⟩
              have hc1 : decide (c < 0) = true := by simpa using hc0
              clear hc0
              go_wp2_with (first | (go_at_call 54; refine (an_atom a HWM.out.1 _).mono ?_; rw [← HAT.out]; rintro e w' ⟨rfl, rfl⟩) | (go_at_call 69; refine (an_known _ _ _ a _ HJ1.out.pl HWM.out.1 HLIT.out).mono ?_; rw [HK.out]; rintro e w' ⟨rfl, rfl⟩))
              go_quiet (fail)
              go_wp2
              go_ret2
              exact ⟨below_step HJ1.out.b (pw_below_drewN (Below.refl _ _) _), .inr ⟨HV0.out, rfl⟩⟩
            · by_cases hcl : (cs.length : Int) ≤ c
              · have HV0 : Aside0 (validB cs [] ms = false) := ⟨by
                  rw [HV.out]; unfold okAtB; simp only
                  rw [if_neg HD.out, decide_eq_false (by omega : ¬ (0 ≤ c ∧ c < (cs.length : Int)))]
                  simp⟩
                have hc1 : decide (c < 0) = false := by simpa using hc0
                have hc2 : decide (c ≥ (cs.length : Int)) = true := by simpa using hcl
                clear hc0
                go_wp2_with (first | (go_at_call 54; refine (an_atom a HWM.out.1 _).mono ?_; rw [← HAT.out]; rintro e w' ⟨rfl, rfl⟩) | (go_at_call 69; refine (an_known _ _ _ a _ HJ1.out.pl HWM.out.1 HLIT.out).mono ?_; rw [HK.out]; rintro e w' ⟨rfl, rfl⟩))
                go_quiet (fail)
                go_wp2
                go_ret2
                exact ⟨below_step HJ1.out.b (pw_below_drewN (Below.refl _ _) _), .inr ⟨HV0.out, rfl⟩⟩
              · have hc1 : decide (c < 0) = false := by simpa using hc0
                have hc2 : decide (c ≥ (cs.length : Int)) = false := by simpa using hcl
                have hc3 : 0 ≤ c := by omega
                have hc4 : c < (cs.length : Int) := by omega
                have HC34 := Aside0.mk (And.intro hc3 hc4)
                obtain ⟨adc, Ac, cc, rfl, y0, y1, y2⟩ := at_C (Kd.C_below HR0.out HJ1.out.b) c hc3 hc4
                have HWC := Aside0.mk (HW.out.c _ (rdC_mem hc3 hc4))
                obtain ⟨cl, hcle⟩ : ∃ x, x = rdC cs c := ⟨_, rfl⟩
                rw [← hcle] at y0 y1 y2 HWC
                have HCL := Aside0.mk hcle
                have HY := Aside0.mk y2
                clear hcle y2 hc0 hcl
                cases hf : forcesB (ms.take i) cl a with
                | false =>
                  have HV0 : Aside0 (validB cs [] ms = false) := ⟨by
                    rw [HV.out]; unfold okAtB; simp only
                    rw [if_neg HD.out, ← HCL.out, hf]
                    simp⟩
                  have HF := Aside0.mk hf
                  clear hf
                  go_wp2_with (first | (go_at_call 54; refine (an_atom a HWM.out.1 _).mono ?_; rw [← HAT.out]; rintro e w' ⟨rfl, rfl⟩) | (go_at_call 69; refine (an_known _ _ _ a _ HJ1.out.pl HWM.out.1 HLIT.out).mono ?_; rw [HK.out]; rintro e w' ⟨rfl, rfl⟩))
                  go_quiet ((go_at_call 70; exact Calls.quiet_of_same ((an_forces _ _ _ _ _ cl a _ (HJ1.out.pl.drewN _) (Kd.C_drewN HY.out _) HWC.out).mono (fun e w' h => ⟨h.1.trans (by rw [HF.out]), h.2.symm⟩))))
                  go_wp2
                  go_ret2
                  exact ⟨below_step HJ1.out.b (pw_below_drewN (Below.refl _ _) _), .inr ⟨HV0.out, rfl⟩⟩
                | true =>
                  have HF := Aside0.mk hf
                  clear hf
                  go_wp2_with (first | (go_at_call 54; refine (an_atom a HWM.out.1 _).mono ?_; rw [← HAT.out]; rintro e w' ⟨rfl, rfl⟩) | (go_at_call 69; refine (an_known _ _ _ a _ HJ1.out.pl HWM.out.1 HLIT.out).mono ?_; rw [HK.out]; rintro e w' ⟨rfl, rfl⟩))
                  go_quiet ((go_at_call 70; exact Calls.quiet_of_same ((an_forces _ _ _ _ _ cl a _ (HJ1.out.pl.drewN _) (Kd.C_drewN HY.out _) HWC.out).mono (fun e w' h => ⟨h.1.trans (by rw [HF.out]), h.2.symm⟩))))
                  have HJ2 := Aside0.mk (HJ1.out.step (pw_below_drewN (Below.refl _ _) nq))
                  have kd0 : (w1.drewN nq).cell? ⟨wr.heap.size, 0, none⟩ = some (.int .i64 a) := blk_cell HG.out 0
                  have kd1 : (w1.drewN nq).cell? ⟨wr.heap.size, 1, none⟩ = some (.int .i64 b) := blk_cell HG.out 1
                  clear kc0 kc1 kc2 HJ1
                  have HJ1 := HJ2
                  clear HJ2
                  generalize w1.drewN nq = w1 at HJ1 kd0 kd1 ⊢
                  by_cases hlv : b = lv
                  · have hlv1 : (b != lv) = false := by simpa using hlv
                    have HLB := Aside0.mk hlv
                    clear hlv
                    go_wp2
                    have HOK : Aside0 (okAtB cs (ms.take i) ⟨a, b, c⟩ = true) := ⟨by unfold okAtB; simp only; rw [if_neg HD.out, ← HLV.out, HLIT.out, HK2.out.1, HK2.out.2, HLB.out, ← HCL.out, HF.out, decide_eq_true HC34.out]; simp⟩
                    have c2 := HJ1.out.pl.c2
                    have hlen : (keysM (ms.take i)).length < maxLen := by unfold keysM maxLen; rw [List.length_map, List.length_take]; omega
                    go_still_tail 7, (by kernel_rfl)
                    change wpList _ _ _ _ _ w1.drew
                    have hmp : IsMapF Try.prog 3 w1.drew w.heap.size (keysM (ms.take i)) (plF (ms.take i)) := HJ1.out.map.step rfl
                    have hwi : w64 (i : Int) := by rw [w64_iff]; omega
                    have HWI := Aside0.mk (And.intro hwi hlen)
                    have hb1 : Below w.heap.size w w1.drew := below_drew1 HJ1.out.b
                    have HB1 := Aside0.mk (And.intro hb1 hmp)
                    have hblk : w1.drew.heap[w.heap.size + 1]? = some (.cells #[.slice (some adc) cs.length c0, .slice (some ad) ms.length c1, .map (some w.heap.size)] 85 (0, 0)) := HJ1.out.blk
                    have HBLK := Aside0.mk hblk
                    clear hwi hlen hmp hb1 hblk
                    generalize w1.drew = w2 at HB1 HBLK ⊢
                    go_wp2_with (at_mapUpdate; refine wpList_put_F _ rfl _ _ _ 63 rfl 3 Try.underlying63 Try.underlying3 w.heap.size (keysM (ms.take i)) (plF (ms.take i)) rfl HB1.out.2 HWI.out.2 a (i : Int) rfl rfl HWM.out.1 HWI.out.1 ?_; intro w3 hm3 hg3)
                    have HM3 := Aside0.mk hm3
                    have HG3 := Aside0.mk hg3
                    clear hm3 hg3
                    go_roundg k1
                    case measure => omega
                    case rel =>
                      have hil : (ms.take i).length = i := by rw [List.length_take]; omega
                      refine ⟨i + 1, by rw [HTK.out, lvlM_snoc]; exact congrArg _ HLB.out.symm, by go_num, by omega, ⟨?_, ?_, ?_, ?_, ?_⟩⟩
                      · exact pw_below_grown HB1.out.1 _ HB1.out.1.size HG3.out (fun k q => by injection q with q; omega)
                      · exact (HG3.out.block _ (blk_lt HBLK.out) (by intro q; injection q with q; omega)).trans HBLK.out
                      · have hin : insK (keysM (ms.take i)) a = keysM (ms.take i ++ [⟨a, b, c⟩]) := insK_new (m := ⟨a, b, c⟩) HK2.out.1
                        rw [HTK.out, ← hin]
                        exact HM3.out.congr (List.Perm.refl _) (fun x hx => by rw [hin] at hx; have := plF_snoc (m := ⟨a, b, c⟩) HK2.out.1 x hx; rw [hil] at this; exact this)
                      · rw [HV.out, HTK.out, HOK.out]; rfl
                      · rw [HTK.out, lvlM_snoc]; simp only; have := HLB.out; have := HL.out; omega
                  · have hlv1 : (b != lv) = true := by simpa using hlv
                    have HV0 : Aside0 (validB cs [] ms = false) := ⟨by
                      rw [HV.out]; unfold okAtB; simp only
                      rw [if_neg HD.out, ← HLV.out]
                      simp [hlv]⟩
                    clear hlv
                    go_wp2
                    go_ret2
                    exact ⟨HJ1.out.b, .inr ⟨HV0.out, rfl⟩⟩
end Go.Proofs.Ytboalbiicmcljaa.PAN
