import Derived.Test.YtboalbiicmcljaaZOAn3
import Derived.IntWalk
import Derived.StillTailTactics
import Derived.Deep.RegionLaw
import Derived.Test.YtboalbiicmcljaaZOHStep
namespace Go.Proofs.Ytboalbiicmcljaa.PAN
open Go.RowKit Go.Proofs.YtboalbiicmcljaaW.PrintWords Go.Proofs.YtboalbiicmcljaaW.PrintLast Go.Proofs.YtboalbiicmcljaaW.PrintMore Go.Proofs.YtboalbiicmcljaaH
set_option linter.unusedVariables false
set_option linter.unusedSimpArgs false
def newL (cs : List (List Int)) (ms : List Mk) (x : Int) : List Int := (rdC cs (mkOf ms x).f2).filter fun y => y ≠ -x
def resL (cs : List (List Int)) (ms : List Mk) (s : List Int) (x : Int) : List Int := (newL cs ms x).foldl insK (delK s x)
theorem foldl_insK_len : ∀ (l s : List Int), (l.foldl insK s).length ≤ s.length + l.length
  | [], s => by simp
  | x :: r, s => by
    have h := foldl_insK_len r (insK s x)
    rw [length_insK] at h
    simp only [List.foldl_cons, List.length_cons]
    split at h <;> omega
theorem SeP.parts {w : World} {L tb : Nat} {cs : List (List Int)} {ms : List Mk} (h : Tr w L tb cs ms) : ∃ A0 c0 A1 c1 pb, w.cell? ⟨tb, 0, none⟩ = some (.slice A0 cs.length c0) ∧ w.cell? ⟨tb, 1, none⟩ = some (.slice A1 ms.length c1) ∧ Pl w tb pb ms ∧ Kd.C (Kd.slice 3 (Kd.int .i64)) w A0 cs.length cs ∧ Kd.C k49 w A1 ms.length ms ∧ tb < L := by
  obtain ⟨hl, A0, c0, A1, c1, pb, h1, h2, h3, h4, h5, h6, h7, h8, _⟩ := h
  have hb : Below L w w := ⟨rfl, rfl, rfl, Nat.le_refl _, fun _ _ => rfl⟩
  exact ⟨A0, c0, A1, c1, pb, blk_cell h3 0, blk_cell h3 1, ⟨blk_cell h3 2, h6⟩, h7 w hb, h8 w hb, h1⟩
theorem Tr.clause {w : World} {L tb : Nat} {cs : List (List Int)} {ms : List Mk} (h : Tr w L tb cs ms) (i : Int) (h0 : 0 ≤ i) (hi : i < cs.length) : ∃ ad A c0 c1, tb < L ∧ w.cell? ⟨tb, 0, none⟩ = some (.slice (some ad) cs.length c0) ∧ (rdC cs i).length ≤ c1 ∧
    ∀ w', Below L w w' → w'.cell? (ad.add i.toNat) = some (.slice A (rdC cs i).length c1) ∧ (Kd.int .i64).C w' A (rdC cs i).length (rdC cs i) := by
  obtain ⟨hl, A0, c0, A1, c1, pb, h1, h2, h3, h4, h5, h6, h7, h8, h9⟩ := h
  have hb : Below L w w := ⟨rfl, rfl, rfl, Nat.le_refl _, fun _ _ => rfl⟩
  obtain ⟨ad, A, c, rfl, y0, y1, y2⟩ := at_C (h7 w hb) i h0 hi
  have hL := h9 ad rfl (by omega)
  refine ⟨ad, A, c0, c, h1, blk_cell h3 0, y1, fun w' q => ?_⟩
  obtain ⟨ad', A', c', e, z0, z1, z2⟩ := at_C (h7 w' q) i h0 hi
  injection e with e
  subst e
  have hc := q.cell (p := ad.add i.toNat) (by unfold Addr.add; split <;> exact hL)
  rw [y0, z0] at hc
  injection hc with hc
  injection hc with hc1 _ hc2
  subst hc1 hc2
  exact ⟨z0, z2⟩
theorem an_markT (L tb : Nat) (cs : List (List Int)) (ms : List Mk) (l : Int) (w : World) (h : Tr w L tb cs ms) (hl : w64 l) (hf : isFalseB ms l = true) :
    Calls Try.prog 57 #[.pointer (some ⟨tb, 0, none⟩), .int .i64 l] w fun e w' => e = .returned (.agg #[.int .i64 (mkOf ms l).f0, .int .i64 (mkOf ms l).f1, .int .i64 (mkOf ms l).f2]) ∧ Below w.heap.size w w' := by
  obtain ⟨A0, c0, A1, c1, pb, _, h1, h2, _, h4, _⟩ := SeP.parts h
  exact an_mark tb pb ms A1 c1 l w h2 h1 h4 hl hf
theorem SeP.putm {w w1 : World} {ok : Nat → Prop} {sb tb mb : Nat} {vch : Value} {s s' ch : List Int} (h : SeP w ok sb tb mb vch s ch) (hm : IsMapF Try.prog 3 w1 mb s' (fun _ => 1)) (hg : w.grownBy w1 (some mb)) : SeP w1 ok sb tb mb vch s' ch :=
  ⟨h.og, h.om, (hg.block _ (blk_lt h.blk) (by intro e; injection e with e; exact h.map.ne_cells h.blk e.symm)).trans h.blk, hm, Kd.R_grown h.rch hg (fun k hk e => hk.2.2 (by injection e))⟩
theorem SeP.putc {w w1 : World} {ok ok' : Nat → Prop} {sb tb mb : Nat} {vch v1 : Value} {s ch ch' : List Int} (h : SeP w ok sb tb mb vch s ch) (hok : ∀ k, ok k → ok' k) (hv : Kd.R (Kd.int .i64) 3 w1 0 (fun k => ok' k ∧ k ≠ sb ∧ k ≠ mb) v1 ch') (hg : w.grownBy w1 vch.ownBlock) :
    SeP (w1.setCell ⟨sb, 2, none⟩ v1) ok' sb tb mb v1 s ch' := by
  have hb1 : w1.heap[sb]? = some (.cells #[.pointer (some ⟨tb, 0, none⟩), .map (some mb), vch] 65 (0, 0)) := (hg.block sb (blk_lt h.blk) (fun e => (h.rch.1 sb e.symm).2.1 rfl)).trans h.blk
  have hmn : some mb ≠ vch.ownBlock := fun e => (h.rch.1 mb e.symm).2.2 rfl
  have hms := h.map.ne_cells h.blk
  exact ⟨hok _ h.og, hok _ h.om, by have := blk_set hb1 2 v1; simpa using this, (h.map.step (hg.block _ h.map.lt hmn)).step (Below.heap_setCell w1 ⟨sb, 2, none⟩ v1 mb (fun e => hms e)), Kd.R_far hv (fun k hk => hk.2.1) _⟩
theorem SeP.c0 {w : World} {ok : Nat → Prop} {sb tb mb : Nat} {vch : Value} {s ch : List Int} (h : SeP w ok sb tb mb vch s ch) : w.cell? ⟨sb, 0, none⟩ = some (.pointer (some ⟨tb, 0, none⟩)) := blk_cell h.blk 0
theorem SeP.c1 {w : World} {ok : Nat → Prop} {sb tb mb : Nat} {vch : Value} {s ch : List Int} (h : SeP w ok sb tb mb vch s ch) : w.cell? ⟨sb, 1, none⟩ = some (.map (some mb)) := blk_cell h.blk 1
theorem SeP.c2 {w : World} {ok : Nat → Prop} {sb tb mb : Nat} {vch : Value} {s ch : List Int} (h : SeP w ok sb tb mb vch s ch) : w.cell? ⟨sb, 2, none⟩ = some vch := blk_cell h.blk 2
structure ResI (w : World) (L : Nat) (ok : Nat → Prop) (sb tb mb B : Nat) (vch : Value) (s ch : List Int) (a b c : Int) (w' : World) : Prop where
  se : SeP w' ok sb tb mb vch s ch
  box : w'.heap[B]? = some (.cells #[.int .i64 a, .int .i64 b, .int .i64 c] 49 (0, 0))
  rest : Rest w w' ok
  bl : Below L w w'
theorem ResI.step {w : World} {L : Nat} {ok : Nat → Prop} {sb tb mb B : Nat} {vch : Value} {s ch : List Int} {a b c : Int} {w1 w2 : World} (h : ResI w L ok sb tb mb B vch s ch a b c w1) (hb : Below w1.heap.size w1 w2) (hL : L ≤ w.heap.size) : ResI w L ok sb tb mb B vch s ch a b c w2 :=
  ⟨h.se.step (fun k _ hk => hb.block k hk), (hb.block _ (blk_lt h.box)).trans h.box, h.rest.then_below hb, ⟨hb.os.trans h.bl.os, hb.tape.trans h.bl.tape, hb.output.trans h.bl.output, Nat.le_trans h.bl.size hb.size, fun k hk => (hb.block k (Nat.lt_of_lt_of_le hk (Nat.le_trans hL h.bl.size))).trans (h.bl.block k hk)⟩⟩
set_option maxHeartbeats 8000000 in
set_option maxRecDepth 100000 in
theorem an_resolve (L tb sb : Nat) (cs : List (List Int)) (ms : List Mk) (ok : Nat → Prop) (s ch : List Int) (x : Int) (w : World) (hT : Tr w L tb cs ms) (hS : Se w ok sb tb s ch) (hok : ∀ k, ok k → L ≤ k) (hx : w64 x) (hf : isFalseB ms x = true) (hwf : Wf cs ms) (hr0 : 0 ≤ (mkOf ms x).f2) (hr1 : (mkOf ms x).f2 < cs.length) (hs : s.length ≤ 4194304) (hch : ch.length ≤ 1099511627776) :
    Calls Try.prog 39 #[.pointer (some ⟨sb, 0, none⟩), .int .i64 x] w fun e w' => e = .returned (.tuple #[]) ∧ Se w' (fun k => ok k ∨ w.heap.size ≤ k) sb tb (resL cs ms s x) (ch ++ [(mkOf ms x).f2]) ∧ Rest w w' ok := by
  obtain ⟨mb, vch, hS⟩ := hS
  have HT := Aside0.mk hT
  have HS := Aside0.mk hS
  have HOK := Aside0.mk hok
  have HX := Aside0.mk (And.intro hx hf)
  have HW := Aside0.mk hwf
  have HCH := Aside0.mk (And.intro hs hch)
  have HR := Aside0.mk (And.intro hr0 hr1)
  have hm0 : (mkOf ms x).f0 = -x := (mkOf_get hf).2
  have hcl : (rdC cs (mkOf ms x).f2).length ≤ 4194304 := hwf.lcl _ (rdC_mem hr0 hr1)
  have hcw := hwf.c _ (rdC_mem hr0 hr1)
  have hres : resL cs ms s x = ((rdC cs (mkOf ms x).f2).filter fun y => y ≠ -x).foldl insK (delK s x) := rfl
  have c0 := hS.c0
  obtain ⟨m, hm⟩ : ∃ m, m = mkOf ms x := ⟨_, rfl⟩
  rw [hres]
  rw [← hm] at hm0 hcl hcw HR ⊢
  have HM := Aside0.mk hm
  obtain ⟨a, b, c⟩ := m
  simp only at hm0 hcl hcw ⊢
  have HM0 := Aside0.mk hm0
  have HCL := Aside0.mk (And.intro hcl hcw)
  clear hT hS hok hx hf hwf hs hch hr0 hr1 hres hm hm0 hcl hcw
  go_enter Try.func39, Try.ntmps39
  go_wp2_with (first | (go_at_call 57; refine (an_markT L tb cs ms x _ HT.out HX.out.1 HX.out.2).mono ?_; rw [← HM.out]; rintro e w1 ⟨rfl, hb1⟩; have c1 : ∀ o : Obj, (w1.alloc o).cell? ⟨sb, 1, none⟩ = some (.map (some mb)) := fun o => blk_cell (((below_alloc hb1 o).block _ (blk_lt HS.out.blk)).trans HS.out.blk) 1; have HB1 := Aside0.mk hb1; have HMP : Aside0 (IsMapF Try.prog 3 (w1.alloc (.cells #[.int .i64 a, .int .i64 b, .int .i64 c] 49)) mb s (fun _ => 1)) := ⟨HS.out.map.step ((below_alloc hb1 _).block _ HS.out.map.lt)⟩; clear hb1) | (at_delete; refine wpList_del_F _ rfl _ _ 63 3 rfl Try.underlying63 Try.underlying3 mb s (fun _ => 1) rfl HMP.out x rfl HX.out.1 ?_; intro w2 hd2 hg2; have H2 := Aside0.mk (And.intro hd2 hg2); clear hd2 hg2))
  have hr2 : Rest w w2 ok := (Rest.grown (w1 := w1.alloc (.cells #[.int .i64 a, .int .i64 b, .int .i64 c] 49)) (Rest.of_below (below_alloc HB1.out _) ok) H2.out.2 (fun k hk _ => by injection hk with hk; exact hk ▸ HS.out.om))
  have hs2 : SeP w2 ok sb tb mb vch (delK s x) ch := (HS.out.step (w1 := w1.alloc (.cells #[.int .i64 a, .int .i64 b, .int .i64 c] 49)) (fun k _ hk => (below_alloc HB1.out _).block k hk)).putm H2.out.1 H2.out.2
  have hbx : w2.heap[w1.heap.size]? = some (.cells #[.int .i64 a, .int .i64 b, .int .i64 c] 49 (0, 0)) := (H2.out.2.block _ (by simp) (by intro e; injection e with e; have := HS.out.map.lt; have := HB1.out.size; omega)).trans (heap_alloc_new _ _)
  have hB : w.heap.size ≤ w1.heap.size := HB1.out.size
  obtain ⟨B, hBe⟩ : ∃ B, B = w1.heap.size := ⟨_, rfl⟩
  rw [← hBe] at hbx hB ⊢
  have HI2 : Aside0 (ResI w L ok sb tb mb B vch (delK s x) ch a b c w2) := ⟨⟨hs2, hbx, hr2, hr2.belowL HT.out.le HOK.out⟩⟩
  have HB := Aside0.mk hB
  obtain ⟨adc, Ac, c0', cc, htb, y0, y1, y2⟩ := HT.out.clause c HR.out.1 HR.out.2
  obtain ⟨cl, hcle⟩ : ∃ l, l = rdC cs c := ⟨_, rfl⟩
  rw [← hcle] at y1 y2
  have hcl := HCL.out.1
  have HCW : Aside0 (∀ y ∈ cl, w64 y) := ⟨hcle ▸ HCL.out.2⟩
  have HCE := Aside0.mk hcle
  rw [← hcle] at hcl
  clear hcle
  have HY := Aside0.mk y2
  have d0 := hs2.c0
  have d1 : w2.cell? ⟨tb, 0, none⟩ = some (.slice (some adc) cs.length c0') := (HI2.out.bl.cell (p := ⟨tb, 0, none⟩) htb).trans y0
  have d2 : w2.cell? ⟨B, 2, none⟩ = some (.int .i64 c) := blk_cell hbx 2
  have d3 := (y2 w2 HI2.out.bl).1
  have hc0 := HR.out.1
  have hc1 := HR.out.2
  clear c0 c1 HMP H2 HB1 hr2 hs2 hbx hBe hB y0 y2
  go_quiet (fail)
  have HI3 : Aside0 (ResI w L ok sb tb mb B vch (delK s x) ch a b c (w2.drewN nq)) := ⟨HI2.out.step (pw_below_drewN (Below.refl _ _) nq) HT.out.le⟩
  clear d0 d1 d2 d3 HI2
  generalize w2.drewN nq = w3 at HI3 ⊢
  go_wp2
  go_loopg [30] cl.length (fun kq v30 w' => ∃ i : Nat, v30 = .int .i64 i ∧ i + kq = cl.length ∧ Aside0 (ResI w L ok sb tb mb B vch ((cl.take i).filter (fun y => y ≠ -x) |>.foldl insK (delK s x)) ch a b c w'))
  case atStart => exact ⟨0, rfl, by omega, HI3⟩
  case round =>
    obtain ⟨i, rfl, hik, HI⟩ := hrel
    clear HI3
    have hC := (HY.out wr HI.out.bl).2
    cases gk with
    | succ k1 =>
      have hlt : i < cl.length := by omega
      obtain ⟨ad, rfl, hy⟩ := Kd.at_int hC (i : Int) (by omega) (by omega)
      rw [Int.toNat_natCast] at hy
      have htk := take_rd hlt
      have hyw := HCW.out _ (rdm hlt)
      obtain ⟨y, hye⟩ : ∃ y, y = rd cl (i : Int) := ⟨_, rfl⟩
      rw [← hye] at hy htk hyw
      have HTK := Aside0.mk htk
      have HYW := Aside0.mk hyw
      have e0 : wr.cell? ⟨B, 0, none⟩ = some (.int .i64 a) := blk_cell HI.out.box 0
      have e1 : wr.cell? ⟨sb, 1, none⟩ = some (.map (some mb)) := HI.out.se.c1
      clear hC hye htk hyw
      by_cases hq : y = a
      · have hq1 : (y != a) = false := by simpa using hq
        have HQ := Aside0.mk hq
        clear hq
        go_wp2
        go_roundg k1
        case measure => omega
        case rel =>
          refine ⟨i + 1, by go_num, by omega, ?_⟩
          rw [HTK.out, List.filter_append]
          have : [y].filter (fun y => decide (y ≠ -x)) = [] := by rw [HQ.out, HM0.out]; simp
          rw [this, List.append_nil]
          exact HI
      · have hq1 : (y != a) = true := by simpa using hq
        have HQ := Aside0.mk hq
        have hsl : ((cl.take i).filter (fun y => decide (y ≠ -x)) |>.foldl insK (delK s x)).length < maxLen := by
          have h1 := foldl_insK_len ((cl.take i).filter (fun y => decide (y ≠ -x))) (delK s x)
          have h2 := List.length_filter_le (fun y => decide (y ≠ -x)) (cl.take i)
          have h3 := List.length_filter_le (fun y => decide (y ≠ x)) s
          have h4 := HCH.out.1
          rw [List.length_take] at h2
          unfold delK at h1 ⊢
          unfold maxLen
          omega
        have HSL := Aside0.mk hsl
        clear hq hsl
        go_wp2_with (at_mapUpdate; refine wpList_put_F _ rfl _ _ _ 63 rfl 3 Try.underlying63 Try.underlying3 mb _ (fun _ => 1) rfl HI.out.se.map HSL.out y 1 rfl rfl HYW.out (by decide) ?_; intro w4 hm4 hg4; have H4 := Aside0.mk (And.intro hm4 hg4); clear hm4 hg4)
        have hf1 : updF (fun _ => 1) y 1 = fun _ => (1 : Int) := by funext z; unfold updF; split <;> rfl
        have hI4 : ResI w L ok sb tb mb B vch (insK (((cl.take i).filter (fun y => decide (y ≠ -x))).foldl insK (delK s x)) y) ch a b c w4 :=
          ⟨HI.out.se.putm (hf1 ▸ H4.out.1) H4.out.2, (H4.out.2.block _ (blk_lt HI.out.box) (by intro e; injection e with e; exact HI.out.se.map.ne_cells HI.out.box e.symm)).trans HI.out.box, HI.out.rest.grown H4.out.2 (fun k hk _ => by injection hk with hk; exact hk ▸ HS.out.om),
            pw_below_grown HI.out.bl _ (Nat.le_trans HT.out.le HI.out.bl.size) H4.out.2 (fun k hk => by injection hk with hk; exact HOK.out k (hk ▸ HS.out.om))⟩
        have HI4 := Aside0.mk hI4
        clear hI4 hf1
        go_roundg k1
        case measure => omega
        case rel =>
          refine ⟨i + 1, by go_num, by omega, ?_⟩
          rw [HTK.out, List.filter_append]
          have hny : y ≠ -x := fun q => HQ.out (q.trans HM0.out.symm)
          have : [y].filter (fun y => decide (y ≠ -x)) = [y] := by simp [hny]
          rw [this, List.foldl_append]
          exact HI4
    | zero =>
      obtain rfl : i = cl.length := by omega
      have HI9 : Aside0 (ResI w L ok sb tb mb B vch ((cl.filter (fun y => decide (y ≠ -x))).foldl insK (delK s x)) ch a b c wr) := ⟨by have := HI.out; rwa [List.take_length] at this⟩
      clear HI hC
      go_wp2
      have hse := HI9.out.se
      obtain ⟨Ah, chc, rfl⟩ := Kd.R_slice hse.rch
      have c2 : wr.cell? ⟨sb, 2, none⟩ = some (.slice Ah ch.length chc) := hse.c2
      have c2a : ∀ o : Obj, (wr.alloc o).cell? ⟨sb, 2, none⟩ = some (.slice Ah ch.length chc) := fun o => ((below_alloc (Below.refl wr.heap.size wr) o).cell (World.block_lt_of_cell? wr _ c2)).trans c2
      have f2 : wr.frozen? ⟨sb, 2, none⟩ = false := blk_frozen hse.blk 2
      have e2 : wr.cell? ⟨B, 2, none⟩ = some (.int .i64 c) := blk_cell HI9.out.box 2
      have e2a : ∀ o : Obj, (wr.alloc o).cell? ⟨B, 2, none⟩ = some (.int .i64 c) := fun o => ((below_alloc (Below.refl wr.heap.size wr) o).cell (World.block_lt_of_cell? wr _ e2)).trans e2
      have HO : Aside0 (Kd.R (Kd.int .i64) 3 wr 0 (fun k => (ok k ∨ w.heap.size ≤ k) ∧ k ≠ sb ∧ k ≠ mb) (.slice Ah ch.length chc) ch) := ⟨Kd.R_mono hse.rch (fun k hk => ⟨.inl hk.1, hk.2⟩)⟩
      have hws : w.heap.size ≤ wr.heap.size := HI9.out.rest.size
      have HWS := Aside0.mk hws
      have HSBM : Aside0 (sb < wr.heap.size ∧ mb < wr.heap.size) := ⟨blk_lt hse.blk, hse.map.lt⟩
      clear hse hws
      go_region_law (refine R_append_drew (Kd.int .i64) (w0 := wr) 0 rfl (.tmp 48) (.tmp 51) 27 3 (.int .i64 0) 8 rfl Try.underlying27 info_int rfl (by decide) (by omega) (.slice Ah ch.length chc) ch c [.int .i64 c] (fun k => (ok k ∨ w.heap.size ≤ k) ∧ k ≠ sb ∧ k ≠ mb) (fun _ => False) (by simp [Act.eval, Act.put]) (by simp [Act.eval, Act.put]) ?aP (fun _ hk => hk.elim) ?aF ?aO ?aB ?aS ?aL ?_; (case aP => exact rfl); (case aF => exact fun k hk => ⟨.inr (Nat.le_trans HWS.out hk), by have := HSBM.out; omega, by have := HSBM.out; omega⟩); (case aO => exact Kd.R_drew HO.out); (case aB => exact ⟨rfl, rfl, rfl, Nat.le_refl _, fun _ h => by omega⟩); (case aS => exact Nat.zero_le _); (case aL => have := HCH.out.2; omega); intro v1 w5 ho hb hg hat; obtain ⟨A1, cc1, rfl⟩ := Kd.R_slice ho; rw [show (ch ++ [c]).length = ch.length + 1 from by simp] at ho hat; have hb1 := (hg.block sb (blk_lt HI9.out.se.blk) (fun e => (HI9.out.se.rch.1 sb e.symm).2.1 rfl)).trans HI9.out.se.blk; have k2 : w5.cell? ⟨sb, 2, none⟩ = some (.slice Ah ch.length chc) := blk_cell hb1 2; have k2f := blk_frozen hb1 2; have HO1 := Aside0.mk ho; have HG1 := Aside0.mk hg; clear ho hb hg hat hb1)
      all_goals
        have hg0 : wr.grownBy w5 (Value.slice Ah ch.length chc).ownBlock := ⟨HG1.out.os, HG1.out.tape, HG1.out.output, HG1.out.size, HG1.out.block⟩
        have hp := HI9.out.se.putc (ok' := fun k => ok k ∨ w.heap.size ≤ k) (fun k h => .inl h) HO1.out hg0
        have hr : Rest w (w5.setCell ⟨sb, 2, none⟩ (.slice A1 (ch.length + 1) cc1)) ok := Rest.set (p := ⟨sb, 2, none⟩) (HI9.out.rest.grown hg0 (fun k e _ => (HI9.out.se.rch.1 k e).1)) (fun _ => HI9.out.se.og) _
        go_end0
        refine ⟨rfl, ⟨mb, .slice A1 (ch.length + 1) cc1, ?_⟩, hr⟩
        rw [← HCE.out]
        exact hp
end Go.Proofs.Ytboalbiicmcljaa.PAN
