import Derived.Test.YtboalbiicmcljaaZTAn8
import Derived.Deep.QuietTactic
import Derived.BigQuiet
import Derived.Test.YtboalbiicmcljaaZTPANx0
section --
namespace Go.Proofs.Ytboalbiicmcljaa.PAN
open Go.RowKit Go.Proofs.YtboalbiicmcljaaW.PrintWords Go.Proofs.YtboalbiicmcljaaW.PrintLast Go.Proofs.YtboalbiicmcljaaW.PrintMore Go.Proofs.YtboalbiicmcljaaH
set_option linter.unusedVariables false
set_option linter.unusedSimpArgs false
def ixN (ms : List Mk) (x : Int) : Nat := ms.findIdx fun m => atomI m.f0 == atomI x
def ixI (ms : List Mk) (x : Int) : Int := if ixN ms x < ms.length then (ixN ms x : Int) else -1
set_option maxHeartbeats 1000000 in
theorem an_gcmp (cb : Nat) (a b c x : Int) (W : World) (h1 : W.cell? ⟨cb, 0, none⟩ = some (.int .i64 x)) (ha : w64 a) (hx : w64 x) :
    Calls Try.prog 53 #[.agg #[.int .i64 a, .int .i64 b, .int .i64 c], .pointer (some ⟨cb, 0, none⟩)] W fun e w' => e = .returned (.bool (atomI a == atomI x)) ∧ Below W.heap.size W w' := by
  have HA := Aside0.mk ha
  have HX := Aside0.mk hx
  have HC := Aside0.mk h1
  clear ha hx h1
  go_enter Try.func53, Try.ntmps53
  go_wp2
  obtain ⟨w1, hw1⟩ : ∃ w1, w1 = W.alloc (.cells #[.int .i64 a, .int .i64 b, .int .i64 c] 49) := ⟨_, rfl⟩
  have hbel : Below W.heap.size W w1 := by rw [hw1]; exact below_alloc (Below.refl _ _) _
  have b0 : w1.heap[W.heap.size]? = some (.cells #[.int .i64 a, .int .i64 b, .int .i64 c] 49 (0, 0)) := by rw [hw1]; exact heap_alloc_new _ _
  have d0 := blk_cell b0 0
  have c1 := pw_cell_below hbel HC.out
  rw [← hw1]
  have HBL := Aside0.mk hbel
  clear hw1 b0 hbel
  go_quiet ((go_at_call 54; refine Calls.quiet_of_same ((an_atom _ ?_ _).mono (fun e w' h => ⟨h.1, h.2.symm⟩)); first | exact HA.out | exact HX.out))
  go_wp2
  go_ret
  exact ⟨rfl, below_step HBL.out (pw_below_drewN (Below.refl _ _) _)⟩
set_option maxHeartbeats 2000000 in
set_option maxRecDepth 100000 in
theorem an_ixf (cb : Nat) (ms : List Mk) (A : Option Addr) (cap : Nat) (x : Int) (W : World) (h1 : W.cell? ⟨cb, 0, none⟩ = some (.int .i64 x)) (hc : Kd.C k49 W A ms.length ms) (hm : ∀ m ∈ ms, w64 m.f0) (hx : w64 x) :
    Calls Try.prog 52 #[.slice A ms.length cap, .func (.func 53) #[] #[.pointer (some ⟨cb, 0, none⟩)]] W fun e w' => e = .returned (.int .i64 (ixI ms x)) ∧ Below W.heap.size W w' := by
  have HC1 := Aside0.mk h1
  have HC := Aside0.mk hc
  have HM := Aside0.mk hm
  have HX := Aside0.mk hx
  have hmax := Kd.C_max hc
  clear h1 hc hm hx
  go_enter Try.func52, Try.ntmps52
  go_wp2
  go_loopg [8] ms.length (fun kq v8 w' => ∃ i : Nat, v8 = .int .i64 i ∧ i + kq = ms.length ∧ Aside0 ((ms.take i).all (fun m => !(atomI m.f0 == atomI x)) = true) ∧ Aside0 (Below W.heap.size W w'))
  case atStart => exact ⟨0, rfl, by omega, ⟨by simp⟩, ⟨Below.refl _ _⟩⟩
  case round =>
    obtain ⟨i, rfl, hik, HJ, HB⟩ := hrel
    cases gk with
    | succ k1 =>
      have hlt : i < ms.length := by omega
      obtain ⟨ad, rfl, x0, x1, x2⟩ := at_T49 (Kd.C_below HC.out HB.out) (i : Int) (by omega) (by omega)
      rw [Int.toNat_natCast] at x0 x1 x2
      have htk := take_mk hlt
      have HWM := Aside0.mk (HM.out _ (by have := List.getElem_mem hlt; unfold rd_T49; rwa [Int.toNat_natCast, List.getD_eq_getElem?_getD, List.getElem?_eq_getElem hlt] : rd_T49 ms (i : Int) ∈ ms))
      have hdk := drop_mk hlt
      obtain ⟨m, hme⟩ : ∃ m, m = rd_T49 ms (i : Int) := ⟨_, rfl⟩
      rw [← hme] at x0 x1 x2 htk HWM hdk
      have HTK := Aside0.mk htk
      have HDK := Aside0.mk hdk
      obtain ⟨a, b, c⟩ := m
      simp only at x0 x1 x2 HWM
      have hc1 := pw_cell_below HB.out HC1.out
      have HCC := Aside0.mk hc1
      clear hme htk hdk hc1
      cases hq : (atomI a == atomI x) with
      | true =>
        have HQ := Aside0.mk hq
        clear hq
        go_wp2_with (go_at_call 53; refine (an_gcmp cb a b c x _ HCC.out HWM.out HX.out).mono ?_; rw [HQ.out]; rintro e w1 ⟨rfl, hb1⟩; have HB1 := Aside0.mk hb1; clear hb1)
        go_ret
        refine ⟨?_, below_step HB.out HB1.out⟩
        have e1 : ixN ms x = i := by
          unfold ixN
          conv => lhs; rw [← List.take_append_drop i ms, HDK.out]
          rw [List.findIdx_append, if_neg (by
            rw [List.findIdx_lt_length]
            rintro ⟨m, hm, hp⟩
            have := List.all_eq_true.1 HJ.out m hm
            rw [hp] at this; cases this), List.findIdx_cons]
          have := HQ.out
          simp only [this, cond_true, List.length_take]
          omega
        unfold ixI
        rw [e1, if_pos (by omega)]
        rfl
      | false =>
        have HQ := Aside0.mk hq
        clear hq
        go_wp2_with (go_at_call 53; refine (an_gcmp cb a b c x _ HCC.out HWM.out HX.out).mono ?_; rw [HQ.out]; rintro e w1 ⟨rfl, hb1⟩; have HB1 := Aside0.mk hb1; clear hb1)
        go_roundg k1
        case measure => omega
        case rel => exact ⟨i + 1, by go_num, by omega, ⟨by rw [HTK.out, List.all_append, HJ.out]; simp [HQ.out]⟩, ⟨below_step HB.out HB1.out⟩⟩
    | zero =>
      obtain rfl : i = ms.length := by omega
      go_wp2
      go_ret
      refine ⟨?_, HB.out⟩
      have h1 := HJ.out
      rw [List.take_length] at h1
      unfold ixI
      rw [if_neg (by
        unfold ixN
        rw [List.findIdx_lt_length]
        rintro ⟨m, hm, hp⟩
        have := List.all_eq_true.1 h1 m hm
        rw [hp] at this; cases this)]
      rfl
def glueP (ms : List Mk) : List Int → List Int → Int × Int
  | [], s => ((s.length : Int), 0)
  | x :: r, s => if litB x = true ∧ ixN ms x < ms.length then glueP ms r (insK s (rd_T49 ms (ixN ms x : Nat)).f1) else (0, 210)
theorem glueP_nil (ms : List Mk) (s : List Int) : glueP ms [] s = ((s.length : Int), 0) := rfl
theorem glueP_cons (ms : List Mk) (x : Int) (r s : List Int) : glueP ms (x :: r) s = if litB x = true ∧ ixN ms x < ms.length then glueP ms r (insK s (rd_T49 ms (ixN ms x : Nat)).f1) else (0, 210) := rfl
structure GlI (w w' : World) (s : List Int) : Prop where
  b : Below w.heap.size w w'
  map : IsMapF Try.prog 3 w' w.heap.size s (fun _ => 1)
set_option maxHeartbeats 4000000 in
set_option maxRecDepth 100000 in
theorem an_glue (A0 : Option Addr) (c0 : Nat) (ms : List Mk) (A1 : Option Addr) (c1 : Nat) (c : List Int) (w : World) (hr0 : Kd.C k49 w A0 ms.length ms) (hr1 : Kd.C (Kd.int .i64) w A1 c.length c) (hm : ∀ m ∈ ms, w64 m.f0 ∧ w64 m.f1) (hw : ∀ x ∈ c, w64 x) (hlm : ms.length ≤ 4194304) (hlc : c.length ≤ 4194304) :
    Calls Try.prog 22 #[.slice A0 ms.length c0, .slice A1 c.length c1] w fun e w' => e = .returned (.tuple #[.int .i64 (glueP ms c []).1, .int .i64 (glueP ms c []).2]) ∧ Below w.heap.size w w' := by
  have HR0 := Aside0.mk hr0
  have HR1 := Aside0.mk hr1
  have HM := Aside0.mk hm
  have HW := Aside0.mk hw
  have hmm := @run_makeMap Try.prog
  clear hr0 hr1 hm hw
  go_enter Try.func22, Try.ntmps22
  go_wp2
  have HI0 : Aside0 (GlI w (w.alloc (.map #[] 0)) []) := ⟨⟨below_alloc (Below.refl _ _) _, isMapF_made Try.prog 3 w (fun _ => 1)⟩⟩
  go_loopg [13] c.length (fun kq v13 w' => ∃ i : Nat, ∃ s : List Int, v13 = .int .i64 i ∧ i + kq = c.length ∧ s.length ≤ i ∧ Aside0 (glueP ms c [] = glueP ms (c.drop i) s) ∧ Aside0 (GlI w w' s))
  case atStart => exact ⟨0, [], rfl, by omega, by simp, ⟨by simp⟩, HI0⟩
  case round =>
    obtain ⟨i, s, rfl, hik, hsl, HP, HI⟩ := hrel
    clear HI0
    cases gk with
    | succ k1 =>
      have hlt : i < c.length := by omega
      obtain ⟨ad, rfl, hx⟩ := Kd.at_int (Kd.C_below HR1.out HI.out.b) (i : Int) (by omega) (by omega)
      rw [Int.toNat_natCast] at hx
      have HWX := Aside0.mk (HW.out _ (rdm hlt))
      have hdr : c.drop i = rd c (i : Int) :: c.drop (i + 1) := by
        rw [List.drop_eq_getElem_cons hlt]
        simp [rd, List.getD_eq_getElem?_getD, List.getElem?_eq_getElem hlt]
      have hP := HP.out
      rw [hdr, glueP_cons] at hP
      obtain ⟨x, hxe⟩ : ∃ x, x = rd c (i : Int) := ⟨_, rfl⟩
      rw [← hxe] at hx HWX hP
      have HP1 := Aside0.mk hP
      have haz := atomI_zero HWX.out
      clear hxe hdr hP HP
      have hal : ∀ o : Obj, Below w.heap.size w (wr.alloc o) := fun o => below_alloc HI.out.b o
      have HIX : Aside0 (Calls Try.prog 52 #[.slice A0 ms.length c0, .func (.func 53) #[] #[.pointer (some ⟨wr.heap.size, 0, none⟩)]] (wr.alloc (.cells #[.int .i64 x] 3)) (fun e w' => e = .returned (.int .i64 (ixI ms x)) ∧ Below (wr.alloc (.cells #[.int .i64 x] 3)).heap.size (wr.alloc (.cells #[.int .i64 x] 3)) w')) :=
        ⟨an_ixf wr.heap.size ms A0 c0 x _ (blk_cell (heap_alloc_new wr _) 0) (Kd.C_below HR0.out (hal _)) (fun m hm => (HM.out m hm).1) HWX.out⟩
      have HAL : Aside0 (∀ w2, Below (wr.alloc (.cells #[.int .i64 x] 3)).heap.size (wr.alloc (.cells #[.int .i64 x] 3)) w2 → w2.cell? ⟨wr.heap.size, 0, none⟩ = some (.int .i64 x) ∧ Below w.heap.size w w2 ∧ IsMapF Try.prog 3 w2 w.heap.size s (fun _ => 1)) :=
        ⟨fun w2 h => ⟨blk_cell ((h.block _ (by simp)).trans (heap_alloc_new wr _)) 0, below_step (hal _) h, (HI.out.map.step ((below_alloc (Below.refl wr.heap.size wr) _).block _ HI.out.map.lt)).step (h.block _ (by have := HI.out.map.lt; simp; omega))⟩⟩
      have HAZ := Aside0.mk haz
      clear hal haz
      cases hl : litB x with
      | false =>
        have HL := Aside0.mk hl
        have haz : (atomI x == 0) = true := by rw [HAZ.out, hl]; rfl
        clear hl
        go_wp2_with (first | (go_at_call 52; refine HIX.out.mono ?_; rintro e w2 ⟨rfl, hb2⟩; have hc8 := (HAL.out w2 hb2).1; have H2 := Aside0.mk (HAL.out w2 hb2).2; clear hb2) | (go_at_call 54; refine (an_atom x HWX.out _).mono ?_; rintro e w' ⟨rfl, rfl⟩))
        go_ret2
        refine ⟨?_, H2.out.1⟩
        rw [HP1.out, if_neg (by rw [HL.out]; simp)]
        rfl
      | true =>
        have HL := Aside0.mk hl
        have haz : (atomI x == 0) = false := by rw [HAZ.out, hl]; rfl
        clear hl
        by_cases hn : ixN ms x < ms.length
        · have hix : ixI ms x = ixN ms x := if_pos hn
          have hQ := HP1.out
          rw [if_pos ⟨HL.out, hn⟩] at hQ
          obtain ⟨n, hne⟩ : ∃ n, n = ixN ms x := ⟨_, rfl⟩
          rw [← hne] at hix hn hQ
          have HIX' := HIX.out
          rw [hix] at HIX'
          have HIX2 := Aside0.mk HIX'
          obtain ⟨adm, rfl, _, x1, _⟩ := at_T49 HR0.out (n : Int) (by omega) (by omega)
          rw [Int.toNat_natCast] at x1
          have HX1 := Aside0.mk x1
          have HWL : Aside0 (w64 (rd_T49 ms (n : Int)).f1) := ⟨(HM.out _ (by have := List.getElem_mem hn; unfold rd_T49; rwa [Int.toNat_natCast, List.getD_eq_getElem?_getD, List.getElem?_eq_getElem hn])).2⟩
          obtain ⟨lv, hlv⟩ : ∃ lv, lv = (rd_T49 ms (n : Int)).f1 := ⟨_, rfl⟩
          rw [← hlv] at HX1 HWL hQ
          have HQ := Aside0.mk hQ
          have hsm : s.length < maxLen := by unfold maxLen; omega
          have HSM := Aside0.mk hsm
          have hn1 : (n : Int) < (ms.length : Int) := by omega
          have hn0 : (0 : Int) ≤ (n : Int) := by omega
          clear hix HIX' HIX x1 hlv hQ hne hsm
          go_wp2_with (first | (go_at_call 52; refine HIX2.out.mono ?_; rintro e w2 ⟨rfl, hb2⟩; have hc8 := (HAL.out w2 hb2).1; have H2 := Aside0.mk (HAL.out w2 hb2).2; have hx1 := pw_cell_below H2.out.1 HX1.out; clear hb2) | (go_at_call 54; refine (an_atom x HWX.out _).mono ?_; rintro e w' ⟨rfl, rfl⟩) | (at_mapUpdate; refine wpList_put_F _ rfl _ _ _ 63 rfl 3 Try.underlying63 Try.underlying3 w.heap.size s (fun _ => 1) rfl H2.out.2 HSM.out lv 1 rfl rfl HWL.out (by decide) ?_; intro w3 hm3 hg3; have HM3 := Aside0.mk hm3; have HG3 := Aside0.mk hg3; clear hm3 hg3))
          go_roundg k1
          case measure => omega
          case rel =>
            refine ⟨i + 1, insK s lv, by go_num, by omega, ?_, ⟨?_⟩, ⟨?_, ?_⟩⟩
            · rw [length_insK]; split <;> omega
            · exact HQ.out
            · exact pw_below_grown H2.out.1 _ H2.out.1.size HG3.out (fun k q => by injection q with q; omega)
            · exact HM3.out.congr (List.Perm.refl _) (fun y _ => by unfold updF; split <;> rfl)
        · have hix : ixI ms x = -1 := if_neg hn
          have HIX' := HIX.out
          rw [hix] at HIX'
          have HIX2 := Aside0.mk HIX'
          have HQ : Aside0 (glueP ms c [] = (0, 210)) := ⟨by rw [HP1.out, if_neg (fun h => hn h.2)]⟩
          clear hix HIX' HIX
          go_wp2_with (first | (go_at_call 52; refine HIX2.out.mono ?_; rintro e w2 ⟨rfl, hb2⟩; have hc8 := (HAL.out w2 hb2).1; have H2 := Aside0.mk (HAL.out w2 hb2).2; clear hb2) | (go_at_call 54; refine (an_atom x HWX.out _).mono ?_; rintro e w' ⟨rfl, rfl⟩))
          go_ret2
          refine ⟨?_, H2.out.1⟩
          rw [HQ.out]
          rfl
    | zero =>
      obtain rfl : i = c.length := by omega
      have hq := HP.out
      rw [List.drop_length, glueP_nil] at hq
      have HQ := Aside0.mk hq
      clear hq
      go_wp2_with (at_len; refine wpList_len_F _ rfl _ 63 rfl 3 Try.underlying63 w.heap.size s (fun _ => 1) rfl HI.out.map ?_)
      go_ret2
      refine ⟨?_, HI.out.b⟩
      rw [HQ.out]
      rfl
end Go.Proofs.Ytboalbiicmcljaa.PAN
end
section --
namespace Go.Proofs.Ytboalbiicmcljaa.PAN
open Go.Proofs.YtboalbiicmcljaaH
open Go.RowKit Go.Proofs.YtboalbiicmcljaaW.PrintWords Go.Proofs.YtboalbiicmcljaaW.PrintLast Go.Proofs.YtboalbiicmcljaaW.PrintMore
attribute [local go_sem] max2_int min2_int max_two min_two max_three min_three max_four min_four   -- for this text's walks alone
set_option linter.unusedVariables false
set_option linter.unusedSimpArgs false
open Go.Proofs.YtboalbiicmcljaaH
def analyse_Glue.f (l0 : List (S49)) (l1 : List Int) : Option (Int × Int) := if (wfB [] l0 && litsW l1 && decide (l1.length ≤ 4194304)) = true then some (glueP l0 l1 []) else none
theorem analyse_Glue.calls (A0 : Option Addr) (c0 : Nat) (l0 : List (S49)) (A1 : Option Addr) (c1 : Nat) (l1 : List Int) (r1 : Int) (r2 : Int) (w : World) (hr0 : Kd.C k49 w A0 l0.length l0) (hc0 : l0.length ≤ c0) (hr1 : Kd.C (Kd.int .i64) w A1 l1.length l1) (hc1 : l1.length ≤ c1) (h : analyse_Glue.f l0 l1 = some (r1, r2)) :
  Calls Try.prog 22 #[.slice A0 l0.length c0, .slice A1 l1.length c1] w fun e w' => e = .returned (.tuple #[.int .i64 r1, .int .i64 r2]) ∧ Below w.heap.size w w' := by
 unfold analyse_Glue.f at h
 cases hw : wfB [] l0 && litsW l1 && decide (l1.length ≤ 4194304) with
 | false => rw [hw] at h; simp at h
 | true =>
  rw [hw, if_pos rfl] at h
  injection h with h
  simp only [Bool.and_eq_true, decide_eq_true_eq] at hw
  obtain ⟨⟨h1, h2⟩, h3⟩ := hw
  have hW := wfB_iff h1
  have hx := an_glue A0 c0 l0 A1 c1 l1 w hr0 hr1 (fun m hm => ⟨(hW.m m hm).1, (hW.m m hm).2.1⟩) (fun x hx => by unfold litsW at h2; exact of_decide_eq_true (List.all_eq_true.1 h2 x hx)) hW.lm h3
  rw [h] at hx
  exact hx
end Go.Proofs.Ytboalbiicmcljaa.PAN
end
