import Derived.Test.YtegaaobiedfjcaaSt3
import Derived.Test.YtegaaobiedfjcaaHStep
namespace Go.Proofs.Ytegaaobiedfjcaa.PU
open Go.RowKit Go.Proofs.YtegaaobiedfjcaaW.PrintWords Go.Proofs.YtegaaobiedfjcaaW.PrintLast Go.Proofs.YtegaaobiedfjcaaW.PrintMore Go.Proofs.YtegaaobiedfjcaaH
set_option linter.unusedVariables false
set_option linter.unusedSimpArgs false
set_option maxHeartbeats 1000000 in
theorem st_lam (ok : Nat → Prop) (g B : Nat) (vals : List Int) (cls : List (List Int × Int × Int)) (marks : List S48) (l : Int) (w : World) (h : St w ok g vals cls marks) (hv : Vals vals) (hB : w.cell? ⟨B, 0, none⟩ = some (.pointer (some ⟨g, 0, none⟩))) :
    Calls Try.prog 46 #[.int .i64 l, .pointer (some ⟨B, 0, none⟩)] w fun e w' => e = .returned (.bool (!(litB ((vals.length : Int) - 1) l))) ∧ w = w' := by
  have H := Aside0.mk h
  have HV := Aside0.mk hv
  obtain ⟨b, hb⟩ : ∃ b, b = litB ((vals.length : Int) - 1) l := ⟨_, rfl⟩
  rw [← hb]
  have HBB := Aside0.mk hb
  clear h hv hb
  go_enter Try.func46, Try.ntmps46
  go_wp2_with (first | (go_at_call 47; refine (st_literal ok g vals cls marks l _ H.out HV.out).mono ?_; rw [← HBB.out]; rintro e w' ⟨rfl, rfl⟩))
  go_ret
  exact ⟨rfl, rfl⟩
set_option maxHeartbeats 1000000 in
theorem st_IndexF (ok : Nat → Prop) (g B : Nat) (vals : List Int) (cls : List (List Int × Int × Int)) (marks : List S48) (A0 : Option Addr) (c0 : Nat) (l0 : List Int) (w : World) (hr0 : Kd.C (Kd.int .i64) w A0 l0.length l0) (h : St w ok g vals cls marks) (hv : Vals vals) (hB : w.cell? ⟨B, 0, none⟩ = some (.pointer (some ⟨g, 0, none⟩))) :
    Calls Try.prog 61 #[.slice A0 l0.length c0, .func (.func 46) #[] #[.pointer (some ⟨B, 0, none⟩)]] w fun e w' => ∃ r : Int, e = .returned (.int .i64 r) ∧ decide (0 ≤ r) = l0.any (fun l => !(litB ((vals.length : Int) - 1) l)) ∧ w = w' := by
  have HR := Aside0.mk hr0
  have H := Aside0.mk h
  have HV := Aside0.mk hv
  have HBB := Aside0.mk hB
  have hmax := Kd.C_max hr0
  clear hr0 h hv hB
  obtain ⟨p, hp⟩ : ∃ p : Int → Bool, p = fun l => !(litB ((vals.length : Int) - 1) l) := ⟨_, rfl⟩
  have HLAM : Aside0 (∀ (x : Int), Calls Try.prog 46 #[.int .i64 x, .pointer (some ⟨B, 0, none⟩)] w fun e w' => e = .returned (.bool (p x)) ∧ w = w') := ⟨fun x => by rw [hp]; exact st_lam ok g B vals cls marks x w H.out HV.out HBB.out⟩
  rw [← hp]
  clear hp
  go_enter Try.func61, Try.ntmps61
  go_wp2
  go_loopg [8] l0.length (fun kq v8 w' => ∃ i : Nat, v8 = .int .i64 i ∧ i + kq = l0.length ∧ Aside0 ((l0.take i).any p = false) ∧ w = w')
  case atStart => exact ⟨0, rfl, by omega, ⟨by simp⟩, rfl⟩
  case round =>
    obtain ⟨i, rfl, hik, HN, rfl⟩ := hrel
    cases gk with
    | succ k1 =>
      have hlt : i < l0.length := by omega
      obtain ⟨ad, rfl, hx⟩ := Kd.at_int HR.out (i : Int) (by omega) (by omega)
      rw [Int.toNat_natCast] at hx
      have hsn : (l0.take (i + 1)).any p = p (rd l0 (i : Int)) := by
        rw [List.take_succ_eq_append_getElem hlt, List.any_append, HN.out]
        simp [rd, List.getD_eq_getElem?_getD, List.getElem?_eq_getElem hlt]
      have hall : l0.any p = ((l0.take (i + 1)).any p || (l0.drop (i + 1)).any p) := by rw [← List.any_append, List.take_append_drop]
      cases hpx : p (rd l0 (i : Int)) with
      | true =>
        have HP := Aside0.mk hpx
        have HALL : Aside0 (l0.any p = true) := ⟨by rw [hall, hsn, hpx]; simp⟩
        clear hsn hall hpx
        go_wp2_with (first | (go_at_call 46; refine (HLAM.out _).mono ?_; rw [HP.out]; rintro e w' ⟨rfl, rfl⟩))
        go_ret
        exact ⟨_, rfl, by rw [HALL.out]; simp, rfl⟩
      | false =>
        have HP := Aside0.mk hpx
        have HN1 : Aside0 ((l0.take (i + 1)).any p = false) := ⟨by rw [hsn, hpx]⟩
        clear hsn hall hpx
        go_wp2_with (first | (go_at_call 46; refine (HLAM.out _).mono ?_; rw [HP.out]; rintro e w' ⟨rfl, rfl⟩))
        go_roundg k1
        case measure => omega
        case rel => exact ⟨i + 1, by go_num, by omega, HN1, rfl⟩
    | zero =>
      have hie : i = l0.length := by omega
      subst hie
      rw [List.take_length] at HN
      go_wp2
      go_ret
      exact ⟨_, rfl, by rw [HN.out]; rfl, rfl⟩
set_option maxHeartbeats 1000000 in
theorem st_ContainsF (ok : Nat → Prop) (g B : Nat) (vals : List Int) (cls : List (List Int × Int × Int)) (marks : List S48) (A0 : Option Addr) (c0 : Nat) (l0 : List Int) (w : World) (hr0 : Kd.C (Kd.int .i64) w A0 l0.length l0) (h : St w ok g vals cls marks) (hv : Vals vals) (hB : w.cell? ⟨B, 0, none⟩ = some (.pointer (some ⟨g, 0, none⟩))) :
    Calls Try.prog 45 #[.slice A0 l0.length c0, .func (.func 46) #[] #[.pointer (some ⟨B, 0, none⟩)]] w fun e w' => e = .returned (.bool (l0.any (fun l => !(litB ((vals.length : Int) - 1) l)))) ∧ w = w' := by
  have HC := Aside0.mk (st_IndexF ok g B vals cls marks A0 c0 l0 w hr0 h hv hB)
  obtain ⟨q, hq⟩ : ∃ q, q = l0.any (fun l => !(litB ((vals.length : Int) - 1) l)) := ⟨_, rfl⟩
  rw [← hq] at HC ⊢
  clear hr0 h hv hB hq
  go_enter Try.func45, Try.ntmps45
  go_wp2_with (first | (go_at_call 61; refine HC.out.mono ?_; rintro e w' ⟨r, rfl, hr, rfl⟩; subst hr))
  go_ret
  exact ⟨rfl, rfl⟩

/-- A store's field is written: clauses. -/
theorem Parts.put2 {w w1 : World} {ok ok' : Nat → Prop} {g : Nat} {vv vc vm v1 : Value} {vals : List Int} {cls cls' : List (List Int × Int × Int)} {marks : List S48} (h : Parts w ok g vv vc vm vals cls marks)
    (hok : ∀ k, ok k → ok' k) (hv : Kd.R kW 80 w1 0 (fun k => (ok' k ∧ k ≠ g) ∧ some k ≠ vv.ownBlock) v1 cls') (hg : w.grownBy w1 vc.ownBlock) :
    Parts (w1.setCell ⟨g, 2, none⟩ v1) ok' g vv v1 vm vals cls' marks := by
  have hgv : some g ≠ vc.ownBlock := fun e => (h.rc.1 g e.symm).1.2 rfl
  have hgl := blk_lt h.blk
  have hb1 : w1.heap[g]? = some (.cells #[.bool true, vv, vc, vm] 55 (0, 0)) := (hg.block g hgl hgv).trans h.blk
  have e1 : Kd.R (Kd.int .i64) 3 w1 0 (fun k => ok k ∧ k ≠ g) vv vals := Kd.R_over h.rv h.rc (by decide) hg
  have e2 : Kd.R k48 48 w1 0 (fun k => (ok k ∧ k ≠ g) ∧ some k ≠ vv.ownBlock) vm marks := Kd.R_over h.rm h.rc (by simp [k48, Kd.iso, Kd.pair, Kd.int, Kd.scalar]) hg
  exact ⟨hok g h.og, by have := blk_set hb1 2 v1; simpa using this, Kd.R_far (Kd.R_mono e1 (fun k hk => ⟨hok k hk.1, hk.2⟩)) (fun k hk => hk.2) _, Kd.R_far hv (fun k hk => hk.1.2) _, Kd.R_far (Kd.R_mono e2 (fun k hk => ⟨⟨hok k hk.1.1, hk.1.2⟩, hk.2⟩)) (fun k hk => hk.1.2) _⟩
def litsOk (vals : List Int) (c : List Int) : Bool := !(c.any (fun l => !(litB ((vals.length : Int) - 1) l)))
theorem info_watched : (Try.prog.info? 80).map (fun i => (i.zero, i.size, i.bytes)) = some (some (.agg #[.slice none 0 0, .int .i64 0, .int .i64 0]), 3, 40) := by kernel_rfl
theorem kW_mkM {w : World} {base : Nat} {ok : Nat → Prop} {v : Value} {l : List Int} (h : Kd.R (Kd.int .i64) 3 w base ok v l) (a b : Int) : kW.M w base ok (l, a, b) [v, .int .i64 a, .int .i64 b] :=
  ⟨[v], [.int .i64 a, .int .i64 b], rfl, ⟨v, rfl, h⟩, ⟨[.int .i64 a], [.int .i64 b], rfl, rfl, rfl⟩⟩
set_option maxHeartbeats 2000000 in
theorem st_Add_bad (ok : Nat → Prop) (g : Nat) (vals : List Int) (cls : List (List Int × Int × Int)) (marks : List S48) (A0 : Option Addr) (c0 : Nat) (l0 : List Int) (w : World) (hr0 : Kd.C (Kd.int .i64) w A0 l0.length l0) (h : St w ok g vals cls marks) (hv : Vals vals) (hb : litsOk vals l0 = false) :
    Calls Try.prog 25 #[.pointer (some ⟨g, 0, none⟩), .slice A0 l0.length c0] w fun e w' => e = .returned (.tuple #[.int .i64 0, .int .i64 180]) ∧ Below w.heap.size w w' := by
  have hA := fun (o : Obj) => below_alloc (Below.refl w.heap.size w) o
  have H := Aside0.mk (fun o => h.below (hA o))
  have HR := Aside0.mk (fun o => Kd.C_below hr0 (hA o))
  have HV := Aside0.mk hv
  have HBD : Aside0 (l0.any (fun l => !(litB ((vals.length : Int) - 1) l)) = true) := ⟨by unfold litsOk at hb; simpa using hb⟩
  have c0' : ∀ o, (w.alloc o).cell? ⟨g, 0, none⟩ = some (.bool true) := fun o => by obtain ⟨_, _, _, hp⟩ := H.out o; exact hp.c0
  have C0 := Aside0.mk c0'
  clear h hr0 hv hb hA c0'
  go_enter Try.func25, Try.ntmps25
  go_wp2_with (first | (go_at_call 35; refine (st_is g _ (C0.out _)).mono ?_; rintro e w' ⟨rfl, rfl⟩) | (go_at_call 45; refine (st_ContainsF ok g w.heap.size vals cls marks A0 c0 l0 _ (HR.out _) (H.out _) HV.out (by simp [go_sem])).mono ?_; rw [HBD.out]; rintro e w' ⟨rfl, rfl⟩))
  go_ret2
  exact ⟨rfl, below_alloc (Below.refl _ _) _⟩
set_option maxHeartbeats 8000000 in
set_option maxRecDepth 100000 in
theorem st_Add (ok : Nat → Prop) (g : Nat) (vals : List Int) (cls : List (List Int × Int × Int)) (marks : List S48) (A0 : Option Addr) (c0 : Nat) (l0 : List Int) (w : World) (hr0 : Kd.C (Kd.int .i64) w A0 l0.length l0) (h : St w ok g vals cls marks) (hv : Vals vals) (hb : litsOk vals l0 = true) (hn : cls.length < 1048576) (hl0 : l0.length ≤ 4194304) :
    Calls Try.prog 25 #[.pointer (some ⟨g, 0, none⟩), .slice A0 l0.length c0] w fun e w' => e = .returned (.tuple #[.int .i64 (cls.length : Int), .int .i64 0]) ∧ St w' (fun k => ok k ∨ w.heap.size ≤ k) g vals (cls ++ [(l0, 0, 0)]) marks ∧ Rest w w' ok := by
  have hA := fun (o : Obj) => below_alloc (Below.refl w.heap.size w) o
  have H := Aside0.mk (fun o => h.below (hA o))
  have HR := Aside0.mk (fun o => Kd.C_below hr0 (hA o))
  have HV := Aside0.mk hv
  have HBD : Aside0 (l0.any (fun l => !(litB ((vals.length : Int) - 1) l)) = false) := ⟨by unfold litsOk at hb; simpa using hb⟩
  obtain ⟨vv, vc, vm, h⟩ := h
  obtain ⟨Ac, cc, rfl, _, _⟩ := Kd.R_reads h.rc
  have HP := Aside0.mk h
  have hp1 := fun o => h.step (w1 := w.alloc o) (fun k _ hk => (hA o).block k hk)
  have HP1 := Aside0.mk hp1
  have C0 : Aside0 (∀ o, (w.alloc o).cell? ⟨g, 0, none⟩ = some (.bool true)) := ⟨fun o => (hp1 o).c0⟩
  have c2 : ∀ o, (w.alloc o).cell? ⟨g, 2, none⟩ = some (.slice Ac cls.length cc) := fun o => (hp1 o).c2
  have hne : ((cls.length : Int) == 1048576) = false := by rw [beq_eq_false_iff_ne]; omega
  have HN := Aside0.mk hn
  have HL0 := Aside0.mk hl0
  clear h hr0 hv hb hA hp1 hn hl0
  go_enter Try.func25, Try.ntmps25
  go_wp2_with (first | (go_at_call 35; refine (st_is g _ (C0.out _)).mono ?_; rintro e w' ⟨rfl, rfl⟩) | (go_at_call 45; refine (st_ContainsF ok g w.heap.size vals cls marks A0 c0 l0 _ (HR.out _) (H.out _) HV.out (by simp [go_sem])).mono ?_; rw [HBD.out]; rintro e w' ⟨rfl, rfl⟩))
  have hbx : ∀ p : Value, (w.alloc (.cells #[p] 22)).cell? ⟨w.heap.size, 0, none⟩ = some p := fun p => by simp [go_sem]
  have b0 := hbx (.pointer (some ⟨g, 0, none⟩))
  have c2' := c2 (.cells #[.pointer (some ⟨g, 0, none⟩)] 22)
  have hp1 := HP1.out (.cells #[.pointer (some ⟨g, 0, none⟩)] 22)
  have hr1 := HR.out (.cells #[.pointer (some ⟨g, 0, none⟩)] 22)
  obtain ⟨w1, hw1⟩ : ∃ w1, w1 = w.alloc (.cells #[.pointer (some ⟨g, 0, none⟩)] 22) := ⟨_, rfl⟩
  rw [← hw1] at b0 c2' hp1 hr1 ⊢
  have hws : w.heap.size ≤ w1.heap.size := by rw [hw1]; simp
  have HR1 := Aside0.mk hr1
  have HQ := Aside0.mk hp1
  have HW := Aside0.mk hw1
  have HWS := Aside0.mk hws
  have HF : Aside0 (∀ k, w.heap.size ≤ k → ((ok k ∨ w.heap.size ≤ k) ∧ k ≠ g) ∧ some k ≠ vv.ownBlock) := ⟨fun k hk => ⟨⟨.inr hk, fun e => by have := blk_lt HP.out.blk; omega⟩, fun e => by have := Kd.R_lt HP.out.rv k e.symm; omega⟩⟩
  clear hbx c2 hp1 hr1 hw1 hws C0 HP1 HR H
  go_region_law (first | (refine R_append_law kW (w0 := w1) 0 rfl (.tmp 25) (.tmp 29) 53 80 (.agg #[.slice none 0 0, .int .i64 0, .int .i64 0]) 40 rfl Try.underlying53 info_watched rfl (by decide) (by omega) (.slice Ac cls.length cc) cls (l0, 0, 0) [.slice A1 l0.length cc1, .int .i64 0, .int .i64 0] (fun k => ((ok k ∨ w.heap.size ≤ k) ∧ k ≠ g) ∧ some k ≠ vv.ownBlock) (fun k => w1.heap.size ≤ k) (by simp [Act.eval, Act.put]) (by simp [Act.eval, Act.put]) ?aP ?aK ?aF ?aO ?aB ?aS ?aL ?_; (case aP => exact kW_mkM HO1.out 0 0); (case aK => exact fun k hk => ⟨HF.out k (Nat.le_trans HWS.out hk), fun e => by have := Kd.R_lt HQ.out.rc k e.symm; omega⟩); (case aF => exact fun k hk => HF.out k (Nat.le_trans HWS.out (Nat.le_trans HB1.out.size hk))); (case aO => exact Kd.R_mono (Kd.R_below HQ.out.rc HB1.out) (fun k hk => ⟨⟨.inl hk.1.1, hk.1.2⟩, hk.2⟩)); (case aB => exact ⟨HB1.out.os, HB1.out.tape, HB1.out.output, HB1.out.size, fun _ h => by omega⟩); (case aS => exact Nat.zero_le _); (case aL => have := HN.out; omega); intro v1 w2 ho hb hg hat; obtain ⟨A2, cc2, rfl⟩ := Kd.R_slice ho; rw [show (cls ++ [(l0, (0 : Int), (0 : Int))]).length = cls.length + 1 from by simp] at ho; have hb1 := (hg.block g (Nat.lt_of_lt_of_le (blk_lt HQ.out.blk) HB1.out.size) (fun e => (HQ.out.rc.1 g e.symm).1.2 rfl)).trans ((HB1.out.block g (blk_lt HQ.out.blk)).trans HQ.out.blk); have k2 : w2.cell? ⟨g, 2, none⟩ = some (.slice Ac cls.length cc) := blk_cell hb1 2; have k2f := blk_frozen hb1 2; have bq := (World.cell?_of_block (hg.block w.heap.size (Nat.lt_of_lt_of_le (World.block_lt_of_cell? _ _ b0) HB1.out.size) (fun e => Nat.lt_irrefl _ (Kd.R_lt HP.out.rc _ e.symm)))).trans b1; have HO2 := Aside0.mk ho; have HG2 := Aside0.mk hg; clear ho hb hg hat hb1) | (go_simp; go_at_call 39; refine (clone_ints A0 c0 l0 _ (Kd.C_drew HR1.out) HL0.out).mono ?_; rintro e wc ⟨v0, rfl, hr, hb⟩; obtain ⟨A1, cc1, rfl⟩ := Kd.R_slice hr; have HO1 := Aside0.mk (Kd.R_mono (Kd.R_lower (Kd.R_bound hr) (Nat.zero_le _)) (ok' := fun k => w1.heap.size ≤ k) (fun k hk => hk.2.1)); have hb' : Below w1.heap.size w1 wc := ⟨hb.os, hb.tape, hb.output, hb.size, hb.block⟩; have HB1 := Aside0.mk hb'; have b1 := (hb'.cell (World.block_lt_of_cell? _ _ b0)).trans b0; have c21 := (hb'.cell (World.block_lt_of_cell? _ _ c2')).trans c2'; have b1a := fun o => ((below_alloc (Below.refl wc.heap.size wc) o).cell (World.block_lt_of_cell? _ _ b1)).trans b1; have c2a := fun o => ((below_alloc (Below.refl wc.heap.size wc) o).cell (World.block_lt_of_cell? _ _ c21)).trans c21; clear hr hb hb'))
  all_goals
    have hpc := HQ.out.step (w1 := wc) (fun k _ hk => HB1.out.block k hk)
    have hp3 := hpc.put2 (ok' := fun k => ok k ∨ w.heap.size ≤ k) (fun k h => .inl h) HO2.out HG2.out
    have hBg : w.heap.size ≠ g := fun e => Nat.lt_irrefl _ (e ▸ blk_lt HP.out.blk)
    have d0 := (World.cell?_of_block (a := ⟨w.heap.size, 0, none⟩) (Below.heap_setCell w2 ⟨g, 2, none⟩ (.slice A2 (cls.length + 1) cc2) w.heap.size hBg)).trans bq
    have hr3 : Rest w (w2.setCell ⟨g, 2, none⟩ (.slice A2 (cls.length + 1) cc2)) ok := by
      refine Rest.set (p := ⟨g, 2, none⟩) (Rest.grown (w1 := wc) ?_ HG2.out (fun k e _ => (HP.out.rc.1 k e).1.1)) HP.out.og _
      refine Rest.trans (w1 := w1) ?_ (Rest.of_below HB1.out ok) (fun _ _ h => h)
      rw [HW.out]
      exact (Rest.refl w ok).alloc _
    have e2 := hp3.c2
    have HP3 := Aside0.mk hp3
    have HR3 := Aside0.mk hr3
    obtain ⟨w3, hw3⟩ : ∃ w3, w3 = w2.setCell ⟨g, 2, none⟩ (.slice A2 (cls.length + 1) cc2) := ⟨_, rfl⟩
    rw [← hw3] at HP3 HR3 d0 e2 ⊢
    clear hpc hp3 hr3 hw3 HO1 HO2 HG2 HB1 HQ bq b1 b1a c21 c2a k2 k2f b0 c2'
    go_wp2
    go_ret2
    exact ⟨by simp; unfold wrap64; have := HN.out; omega, ⟨_, _, _, HP3.out⟩, HR3.out⟩

end Go.Proofs.Ytegaaobiedfjcaa.PU
