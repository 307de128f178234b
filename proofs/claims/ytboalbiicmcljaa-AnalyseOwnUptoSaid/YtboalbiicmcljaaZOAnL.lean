import Derived.Test.YtboalbiicmcljaaZOAn8
import Derived.StillTailTactics
import Derived.Deep.QuietTactic
import Derived.BigQuiet
namespace Go.Proofs.Ytboalbiicmcljaa.PAN
open Go.RowKit Go.Proofs.YtboalbiicmcljaaW.PrintWords Go.Proofs.YtboalbiicmcljaaW.PrintLast Go.Proofs.YtboalbiicmcljaaW.PrintMore Go.Proofs.YtboalbiicmcljaaH
set_option linter.unusedVariables false
set_option linter.unusedSimpArgs false
def needB (cs : List (List Int)) (ms : List Mk) (s : List Int) (x : Int) : Bool := decide (0 ≤ rsn ms x) && (rdC cs (rsn ms x)).all fun y => y == -x || (decide (y ∈ s) || !decide (lev ms y > 0))
theorem rd_dropi {l : List Int} {i : Nat} (h : i < l.length) : l.drop i = rd l (i : Int) :: l.drop (i + 1) := by
  rw [List.drop_eq_getElem_cons h]
  simp [rd, List.getD_eq_getElem?_getD, List.getElem?_eq_getElem h]
structure NeedI (w2 : World) (L sb tb mb B : Nat) (cs : List (List Int)) (ms : List Mk) (s : List Int) (a b c : Int) (w' : World) : Prop where
  bl : Below w2.heap.size w2 w'
  box : w'.heap[B]? = some (.cells #[.int .i64 a, .int .i64 b, .int .i64 c] 49 (0, 0))
  map : IsMapF Try.prog 3 w' mb s (fun _ => 1)
  tr : Tr w' L tb cs ms
  c0 : w'.cell? ⟨sb, 0, none⟩ = some (.pointer (some ⟨tb, 0, none⟩))
  c1 : w'.cell? ⟨sb, 1, none⟩ = some (.map (some mb))
theorem NeedI.step {w2 w1 w' : World} {L sb tb mb B : Nat} {cs : List (List Int)} {ms : List Mk} {s : List Int} {a b c : Int} (h : NeedI w2 L sb tb mb B cs ms s a b c w1) (hb : Below w1.heap.size w1 w') : NeedI w2 L sb tb mb B cs ms s a b c w' := by
  have hL := h.tr.le
  refine ⟨below_step h.bl hb, (hb.block _ (blk_lt h.box)).trans h.box, h.map.step (hb.block _ h.map.lt), h.tr.below ⟨hb.os, hb.tape, hb.output, hb.size, fun k hk => hb.block k (by omega)⟩, ?_, ?_⟩
  · exact (hb.cell (World.block_lt_of_cell? w1 _ h.c0)).trans h.c0
  · exact (hb.cell (World.block_lt_of_cell? w1 _ h.c1)).trans h.c1
set_option maxHeartbeats 8000000 in
set_option maxRecDepth 100000 in
theorem an_needless (L tb sb : Nat) (cs : List (List Int)) (ms : List Mk) (ok : Nat → Prop) (s ch : List Int) (x : Int) (w : World) (hT : Tr w L tb cs ms) (hS : Se w ok sb tb s ch) (hv : VT cs ms) (hx : w64 x) (hf : isFalseB ms x = true) (hwf : Wf cs ms) :
    Calls Try.prog 59 #[.pointer (some ⟨sb, 0, none⟩), .int .i64 x] w fun e w' => e = .returned (.bool (needB cs ms s x)) ∧ Below w.heap.size w w' := by
  obtain ⟨mb, vch, hS⟩ := hS
  have HT := Aside0.mk hT
  have HS := Aside0.mk hS
  have HX := Aside0.mk (And.intro hx hf)
  have HW := Aside0.mk hwf
  have hm0 : (mkOf ms x).f0 = -x := (mkOf_get hf).2
  have hnew : rsn ms x ≠ -1 → _ := hv.new hf
  have hrm : rsn ms x = (mkOf ms x).f2 := rfl
  obtain ⟨R, hR⟩ : ∃ R, R = needB cs ms s x := ⟨_, rfl⟩
  rw [← hR]
  unfold needB at hR
  have c0 := hS.c0
  obtain ⟨m, hm⟩ : ∃ m, m = mkOf ms x := ⟨_, rfl⟩
  rw [← hm] at hm0 hrm
  have HM := Aside0.mk hm
  obtain ⟨a, b, c⟩ := m
  simp only at hm0 hrm
  rw [hrm] at hR hnew
  have HR := Aside0.mk hR
  have HM0 := Aside0.mk hm0
  have HN := Aside0.mk hnew
  clear hT hS hx hf hwf hv hm hm0 hR hnew hrm
  by_cases hc : c < 0
  · have e0 : decide (c < 0) = true := by simpa using hc
    have HRF : Aside0 (R = false) := ⟨by rw [HR.out, decide_eq_false (by omega), Bool.false_and]⟩
    clear hc
    go_enter Try.func59, Try.ntmps59
    go_wp2_with (first | (go_at_call 57; refine (an_markT L tb cs ms x _ HT.out HX.out.1 HX.out.2).mono ?_; rw [← HM.out]; rintro e w1 ⟨rfl, hb1⟩; have HB1 := Aside0.mk hb1; clear hb1))
    go_ret
    exact ⟨by rw [HRF.out]; rfl, below_alloc HB1.out _⟩
  · have e0 : decide (c < 0) = false := by simpa using hc
    obtain ⟨hc0, hc1, hnew⟩ := HN.out (by omega)
    have HC0 := Aside0.mk (And.intro hc0 hc1)
    have HNE : Aside0 (∀ y ∈ rdC cs c, y ≠ -x → isFalseB ms y = true) := ⟨fun y hy hne => by
      refine (hnew y ?_).1
      unfold newL
      rw [← HM.out]
      exact List.mem_filter.2 ⟨hy, by simpa using hne⟩⟩
    have hcl : (rdC cs c).length ≤ 4194304 := HW.out.lcl _ (rdC_mem hc0 hc1)
    have HCW : Aside0 (∀ y ∈ rdC cs c, w64 y) := ⟨HW.out.c _ (rdC_mem hc0 hc1)⟩
    have HRT : Aside0 (R = (rdC cs c).all fun y => y == -x || (decide (y ∈ s) || !decide (lev ms y > 0))) := ⟨by rw [HR.out, decide_eq_true hc0, Bool.true_and]⟩
    clear hc hnew hc0 hc1
    go_enter Try.func59, Try.ntmps59
    go_wp2_with (first | (go_at_call 57; refine (an_markT L tb cs ms x _ HT.out HX.out.1 HX.out.2).mono ?_; rw [← HM.out]; rintro e w1 ⟨rfl, hb1⟩; have HB1 := Aside0.mk hb1; clear hb1))
    obtain ⟨B, hBe⟩ : ∃ B, B = w1.heap.size := ⟨_, rfl⟩
    have hbx : (w1.alloc (.cells #[.int .i64 a, .int .i64 b, .int .i64 c] 49)).heap[B]? = some (.cells #[.int .i64 a, .int .i64 b, .int .i64 c] 49 (0, 0)) := by rw [hBe]; exact heap_alloc_new _ _
    rw [← hBe]
    have hb2 := below_alloc HB1.out (.cells #[.int .i64 a, .int .i64 b, .int .i64 c] 49)
    clear hBe
    generalize w1.alloc (.cells #[.int .i64 a, .int .i64 b, .int .i64 c] 49) = w2 at hbx hb2 ⊢
    have HB2 := Aside0.mk hb2
    have hL := HT.out.le
    have hI2 : NeedI w2 L sb tb mb B cs ms s a b c w2 := ⟨Below.refl _ _, hbx, HS.out.map.step (hb2.block _ HS.out.map.lt), HT.out.below ⟨hb2.os, hb2.tape, hb2.output, hb2.size, fun k hk => hb2.block k (by omega)⟩, (hb2.cell (World.block_lt_of_cell? w _ HS.out.c0)).trans HS.out.c0, (hb2.cell (World.block_lt_of_cell? w _ HS.out.c1)).trans HS.out.c1⟩
    have HI2 := Aside0.mk hI2
    obtain ⟨adc, Ac, c0', cc, htb, y0, y1, y2⟩ := hI2.tr.clause c HC0.out.1 HC0.out.2
    obtain ⟨cl, hcle⟩ : ∃ l, l = rdC cs c := ⟨_, rfl⟩
    rw [← hcle] at y1 y2 hcl HCW HNE HRT
    have HY := Aside0.mk y2
    have d0 := hI2.c0
    have d1 : w2.cell? ⟨tb, 0, none⟩ = some (.slice (some adc) cs.length c0') := y0
    have d2 : w2.cell? ⟨B, 2, none⟩ = some (.int .i64 c) := blk_cell hbx 2
    have d3 := (y2 w2 ⟨rfl, rfl, rfl, Nat.le_refl _, fun _ _ => rfl⟩).1
    have hc0 := HC0.out.1
    have hc1 := HC0.out.2
    clear c0 hbx hb2 hI2 y0 y2 hcle hL HB1
    go_quiet (fail)
    have HI3 : Aside0 (NeedI w2 L sb tb mb B cs ms s a b c (w2.drewN nq)) := ⟨HI2.out.step (pw_below_drewN (Below.refl _ _) nq)⟩
    clear d0 d1 d2 d3 HI2
    generalize w2.drewN nq = w3 at HI3 ⊢
    go_wp2
    go_loopg [31] cl.length (fun kq v31 w' => ∃ i : Nat, v31 = .int .i64 i ∧ i + kq = cl.length ∧ Aside0 (NeedI w2 L sb tb mb B cs ms s a b c w' ∧ R = (cl.drop i).all fun y => y == -x || (decide (y ∈ s) || !decide (lev ms y > 0))))
    case atStart => exact ⟨0, rfl, by omega, ⟨HI3.out, by rw [List.drop_zero]; exact HRT.out⟩⟩
    case round =>
      obtain ⟨i, rfl, hik, HI⟩ := hrel
      clear HI3 HRT
      have hC := (HY.out wr ⟨HI.out.1.bl.os, HI.out.1.bl.tape, HI.out.1.bl.output, HI.out.1.bl.size, fun k hk => HI.out.1.bl.block k (by first | omega | (have := HI.out.1.tr.le; have := HB2.out.size; have := HT.out.le; omega))⟩).2
      cases gk with
      | succ k1 =>
        have hlt : i < cl.length := by omega
        obtain ⟨ad, rfl, hy⟩ := Kd.at_int hC (i : Int) (by omega) (by omega)
        rw [Int.toNat_natCast] at hy
        have hdr := rd_dropi hlt
        have hyw := HCW.out _ (rdm hlt)
        have hyf := HNE.out _ (rdm hlt)
        have hR := HI.out.2
        rw [hdr] at hR
        obtain ⟨y, hye⟩ : ∃ y, y = rd cl (i : Int) := ⟨_, rfl⟩
        rw [← hye] at hy hdr hyw hyf hR
        have HDR := Aside0.mk hdr
        have HYW := Aside0.mk hyw
        have HYF := Aside0.mk hyf
        have HRR := Aside0.mk hR
        have f0 : wr.cell? ⟨B, 0, none⟩ = some (.int .i64 a) := blk_cell HI.out.1.box 0
        have f1 : wr.cell? ⟨sb, 1, none⟩ = some (.map (some mb)) := HI.out.1.c1
        have f2 : wr.cell? ⟨sb, 0, none⟩ = some (.pointer (some ⟨tb, 0, none⟩)) := HI.out.1.c0
        clear hC hye hdr hyw hyf hR
        by_cases hq : y = a
        · have hq1 : (y == a) = true := by simpa using hq
          have HQ := Aside0.mk hq
          clear hq
          go_wp2
          go_roundg k1
          case measure => omega
          case rel =>
            refine ⟨i + 1, by go_num, by omega, ⟨HI.out.1, ?_⟩⟩
            rw [HRR.out, List.all_cons, HQ.out, HM0.out]
            simp
        · have hq1 : (y == a) = false := by simpa using hq
          have HYA : Aside0 (y ≠ -x) := ⟨fun q => hq (q.trans HM0.out.symm)⟩
          clear hq
          have r2 := HI.out.1.map.run_look_ok Try.underlying63 Try.underlying3 zero3 HYW.out
          obtain ⟨v2, hv2⟩ : ∃ v, v = (if y ∈ s then (1 : Int) else 0) := ⟨_, rfl⟩
          rw [← hv2] at r2
          clear hv2
          cases hys : decide (y ∈ s) with
          | true =>
            rw [hys] at r2
            have HYS := Aside0.mk hys
            clear hys
            go_wp2
            go_roundg k1
            case measure => omega
            case rel =>
              refine ⟨i + 1, by go_num, by omega, ⟨HI.out.1, ?_⟩⟩
              rw [HRR.out, List.all_cons, HYS.out]
              simp
          | false =>
            rw [hys] at r2
            have HYS := Aside0.mk hys
            clear hys
            have hlv : lev ms y = (mkOf ms y).f1 := rfl
            obtain ⟨my, hmy⟩ : ∃ m, m = mkOf ms y := ⟨_, rfl⟩
            rw [← hmy] at hlv
            have HMY := Aside0.mk hmy
            obtain ⟨a2, b2, c2⟩ := my
            simp only at hlv
            have HLV := Aside0.mk hlv
            clear hmy hlv
            have hfld := fun (a b c : Value) (w : World) => fld1 a b c w
            cases hb : decide (b2 > 0) with
            | true =>
              have hb' : decide (0 < b2) = true := hb
              have HBB := Aside0.mk hb
              clear hb
              have HRF : Aside0 (R = false) := ⟨by rw [HRR.out, List.all_cons, HYS.out, HLV.out, HBB.out, show (y == -x) = false by simpa using HYA.out]; simp⟩
              go_wp2_with (first | (go_at_call 57; refine (an_markT L tb cs ms y _ HI.out.1.tr HYW.out (HYF.out HYA.out)).mono ?_; rw [← HMY.out]; rintro e w5 ⟨rfl, hb5⟩; have HB5 := Aside0.mk hb5; clear hb5))
              go_ret
              exact ⟨by rw [HRF.out]; rfl, below_then HB2.out HB2.out.size (below_step HI.out.1.bl HB5.out)⟩
            | false =>
              have hb' : decide (0 < b2) = false := hb
              have HBB := Aside0.mk hb
              clear hb
              go_wp2_with (first | (go_at_call 57; refine (an_markT L tb cs ms y _ HI.out.1.tr HYW.out (HYF.out HYA.out)).mono ?_; rw [← HMY.out]; rintro e w5 ⟨rfl, hb5⟩; have HB5 := Aside0.mk hb5; clear hb5))
              go_roundg k1
              case measure => omega
              case rel =>
                refine ⟨i + 1, by go_num, by omega, ⟨HI.out.1.step HB5.out, ?_⟩⟩
                rw [HRR.out, List.all_cons, HLV.out, HBB.out]
                simp
      | zero =>
        obtain rfl : i = cl.length := by omega
        have HRT : Aside0 (R = true) := ⟨by have := HI.out.2; rw [List.drop_eq_nil_of_le (Nat.le_refl _)] at this; simpa using this⟩
        clear hC
        go_wp2
        go_ret
        exact ⟨by rw [HRT.out]; rfl, below_then HB2.out HB2.out.size HI.out.1.bl⟩
def okL (ms : List Mk) (c : List Int) (i : Nat) : Bool := !decide (rd c (i : Int) ∈ c.take i) && (isFalseB ms (rd c (i : Int)) && (!decide (lev ms (rd c (i : Int)) = 0) && (decide (i = 0) || !decide (lev ms (rd c (i : Int)) ≥ lev ms (rd c 0)))))
def rightB (ms : List Mk) (c : List Int) : Bool := !c.isEmpty && (List.range c.length).all fun i => okL ms c i
def lessF (cs : List (List Int)) (ms : List Mk) (first : Int) : List Int → List Int × List Int → List Int × List Int
  | [], p => p
  | x :: r, p => lessF cs ms first r (if x ≠ first ∧ needB cs ms p.1 x = true then cleanL cs ms ms.length (resL cs ms p.1 x) (p.2 ++ [rsn ms x]) else p)
def lessP (cs : List (List Int)) (ms : List Mk) (c chn : List Int) : List Int × Int × List Int × Int :=
  if validB cs [] ms = true then
    if rightB ms c = true then toldP ms (rd c 0) (lessF cs ms (rd c 0) (fallL ms c) (c, [])).1 (chn ++ (lessF cs ms (rd c 0) (fallL ms c) (c, [])).2)
    else ([], 0, [], 210)
  else ([], 0, [], 200)
theorem okL_pre {ms : List Mk} {c : List Int} : ∀ {i : Nat}, i ≤ c.length → (∀ j < i, okL ms c j = true) → (c.take i).Nodup ∧ AllF ms (c.take i)
  | 0, _, _ => ⟨by simp, fun x hx => by simp at hx⟩
  | i + 1, hi, h => by
    obtain ⟨h1, h2⟩ := okL_pre (i := i) (by omega) (fun j hj => h j (by omega))
    have h3 := h i (by omega)
    unfold okL at h3
    simp only [Bool.and_eq_true, Bool.not_eq_true', decide_eq_false_iff_not] at h3
    have htk := take_rd (l := c) (i := i) (by omega)
    refine ⟨?_, fun x hx => ?_⟩
    · rw [htk, List.nodup_append]
      exact ⟨h1, by simp, fun a ha b hb => by simp at hb; rw [hb]; intro q; exact h3.1 (q ▸ ha)⟩
    · rw [htk] at hx
      rcases List.mem_append.1 hx with hx | hx
      · exact h2 x hx
      · simp at hx; rw [hx]; exact h3.2.1
theorem right_no {ms : List Mk} {c : List Int} {i : Nat} (hi : i < c.length) (h : okL ms c i = false) : rightB ms c = false := by
  unfold rightB
  cases hb : (List.range c.length).all fun i => okL ms c i with
  | false => simp
  | true => have := List.all_eq_true.1 hb i (List.mem_range.2 hi); rw [h] at this; cases this
theorem right_yes {ms : List Mk} {c : List Int} (hc : c ≠ []) (h : ∀ j < c.length, okL ms c j = true) : rightB ms c = true := by
  unfold rightB
  rw [Bool.and_eq_true]
  refine ⟨by cases c <;> simp_all, List.all_eq_true.2 (fun j hj => h j (List.mem_range.1 hj))⟩
theorem insK_next {c : List Int} {i : Nat} (hi : i < c.length) (h : rd c (i : Int) ∉ c.take i) : insK (c.take i) (rd c (i : Int)) = c.take (i + 1) := by
  unfold insK
  rw [if_neg h, take_rd hi]
theorem AllF.resF {cs : List (List Int)} {ms : List Mk} (h : VT cs ms) {s : List Int} (hs : AllF ms s) {x : Int} (hx : isFalseB ms x = true) (hr : rsn ms x ≠ -1) : AllF ms (resL cs ms s x) := by
  intro y hy
  rcases mem_resL.1 hy with ⟨h1, _⟩ | h1
  · exact hs y h1
  · exact ((h.new hx hr).2.2 y h1).1
theorem need_rsn {cs : List (List Int)} {ms : List Mk} {s : List Int} {x : Int} (h : needB cs ms s x = true) : rsn ms x ≠ -1 := by
  unfold needB at h
  rw [Bool.and_eq_true] at h
  have := of_decide_eq_true h.1
  omega
theorem lessStep {cs : List (List Int)} {ms : List Mk} (hv : VT cs ms) {s ch : List Int} {x : Int} (hs : AllF ms s) (hn : s.Nodup) (hx : isFalseB ms x = true) (h : needB cs ms s x = true) :
    AllF ms (cleanL cs ms ms.length (resL cs ms s x) (ch ++ [rsn ms x])).1 ∧ (cleanL cs ms ms.length (resL cs ms s x) (ch ++ [rsn ms x])).1.Nodup ∧ (cleanL cs ms ms.length (resL cs ms s x) (ch ++ [rsn ms x])).2.length ≤ ch.length + 1 + ms.length := by
  have := cleanL_inv hv ms.length (resL cs ms s x) (ch ++ [rsn ms x]) (hs.resF hv hx (need_rsn h)) (nodup_resL hn x)
  rw [List.length_append, List.length_singleton] at this
  exact this
end Go.Proofs.Ytboalbiicmcljaa.PAN
