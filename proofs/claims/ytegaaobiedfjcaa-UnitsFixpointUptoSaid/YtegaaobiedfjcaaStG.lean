import Derived.Test.YtegaaobiedfjcaaStF
import Derived.Deep.RegionWith
namespace Go.Proofs.Ytegaaobiedfjcaa.PU
open Go.RowKit Go.Proofs.YtegaaobiedfjcaaW.PrintWords Go.Proofs.YtegaaobiedfjcaaW.PrintLast Go.Proofs.YtegaaobiedfjcaaW.PrintMore Go.Proofs.YtegaaobiedfjcaaH
set_option linter.unusedVariables false
set_option linter.unusedSimpArgs false
set_option maxHeartbeats 16000000 in
set_option maxRecDepth 100000 in
theorem fix_walkA (n : Int) (dq1 : decide (n < 0) = true) (A0 : Option Addr) (c0 : Nat) (l0 : List (List Int)) (A1 : Option Addr) (c1 : Nat) (l1 : List Int) (w : World)
    (hr0 : Kd.C (Kd.slice 3 (Kd.int .i64)) w A0 l0.length l0) (hr1 : Kd.C (Kd.int .i64) w A1 l1.length l1) (hl0 : l0.length < 1048576) (hl1 : ∀ c ∈ l0, c.length ≤ 4194304) (hl2 : l1.length ≤ 1048576) :
    Calls Try.prog 4 #[.int .i64 n, .slice A0 l0.length c0, .slice A1 l1.length c1] w fun e w' => e = .returned (.bool true) ∧ Below w.heap.size w w' := by
  have HR0 := Aside0.mk hr0
  have HR1 := Aside0.mk hr1
  have HL := Aside0.mk (And.intro hl0 (And.intro hl1 hl2))
  have hN0 : (0 : Int) ≤ 3 := by omega
  have hN1 : (3 : Int) ≤ 262144 := by omega
  obtain ⟨vm, hvm⟩ : ∃ vm : List Int × List S48, vm = l1.foldl decU (List.replicate ((3 : Int) + 1).toNat 0, []) := ⟨_, rfl⟩
  have HVM := Aside0.mk hvm
  have dl : decide (1048576 < (l0.length : Int)) = false := decide_eq_false (by omega)
  have hll : l0.length ≤ 1048576 := by omega
  clear hr0 hr1 hl0 hl1 hl2 hvm
  go_enter Try.func4, Try.ntmps4
  go_wp2_with (first | (go_at_call 16; refine (made_any _ A0 c0 l0 A1 c1 l1 _ hN0 hN1 HR0.out HR1.out HL.out.1 HL.out.2.1 HL.out.2.2 vm HVM.out).mono ?_; rintro e w1 ⟨ga, rfl, hm1, hb1⟩; have HM1 := Aside0.mk (And.intro hm1 hb1); clear hm1 hb1))
  go_loopg [8, 9] l0.length (fun kq v8 v9 w' => ∃ x9 : Int, v9 = .int .i64 x9 ∧ Aside0 (x9 = (kq : Int) - 1 ∧ kq ≤ l0.length) ∧ Aside0 (Kd.R (Kd.fixed (Kd.slice 3 (Kd.int .i64)) w) 34 w' w1.heap.size (fun _ => True) v8 ((l0.drop kq).reverse) ∧ Below w1.heap.size w1 w'))
  case atStart => exact ⟨_, rfl, ⟨rfl, Nat.le_refl _⟩, ⟨by rw [List.drop_length]; exact Kd.R_nil _ _ _ _ _, Below.refl _ _⟩⟩
  case round =>
    obtain ⟨x9, rfl, HX, H2⟩ := hrel
    cases gk with
    | succ k1 =>
      obtain rfl : x9 = (k1 : Int) := by have := HX.out.1; omega
      have hk1 : k1 < l0.length := by have := HX.out.2; omega
      obtain ⟨ad, Ax, cx, rfl, hxc, hcx, hxC⟩ := at_L2 HR0.out (k1 : Int) (by omega) (by omega)
      rw [Int.toNat_natCast] at hxc
      replace hxc := (HM1.out.2.cell (World.block_lt_of_cell? w _ hxc)).trans hxc
      replace hxc := (H2.out.2.cell (World.block_lt_of_cell? w1 _ hxc)).trans hxc
      have hrev := drop_rev hk1
      obtain ⟨x, hx⟩ : ∃ x, x = rd_L2 l0 (k1 : Int) := ⟨_, rfl⟩
      rw [← hx] at hxc hcx hxC hrev
      obtain ⟨xs, hxs⟩ : ∃ xs, xs = (l0.drop (k1 + 1)).reverse := ⟨_, rfl⟩
      have hxl : xs.length ≤ 1048576 := by rw [hxs, List.length_reverse, List.length_drop]; omega
      rw [← hxs] at H2 hrev
      obtain ⟨A8, c8, rfl⟩ := Kd.R_slice H2.out.1
      have HXL := Aside0.mk hxl
      have HREV := Aside0.mk hrev
      have HXC := Aside0.mk (And.intro hcx hxC)
      clear hx hcx hxC hrev hxs hxl
      go_wp2_with (first | (at_builtin; refine Kd.R_append (Kd.fixed (Kd.slice 3 (Kd.int .i64)) w) (w0 := w1) w1.heap.size rfl (.tmp 35) (.tmp 40) 31 34 (.slice none 0 0) 24 rfl Try.underlying31 info_clause rfl Nat.one_pos (by omega) (.slice A8 xs.length c8) xs x [.slice Ax x.length cx] (fun _ => True) (fun _ => False) rfl rfl ?aP ?aK ?aF ?aO ?aB ?aS ?aL ?_; (case aP => exact ⟨Ax, cx, rfl, HXC.out.1, HXC.out.2⟩); (case aK => exact fun k hk => hk.elim); (case aF => exact fun _ _ => trivial); (case aO => exact (by (with_reducible repeat (first | apply Kd.R_alloc | apply Kd.R_drewN | apply Kd.R_drew)); exact H2.out.1)); (case aB => exact (by repeat (first | (with_reducible first | exact H2.out.2 | apply below_alloc | apply pw_below_drewN | apply below_drew1) | exact H2.out.2))); (case aS => exact (below_size (by repeat (first | (with_reducible first | exact H2.out.2 | apply below_alloc | apply pw_below_drewN | apply below_drew1) | exact H2.out.2)))); (case aL => have := HXL.out; omega); intro v5 w5 ho hb hg hat; rw [← HREV.out] at ho; have HZ := Aside0.mk (And.intro ho hb); clear ho hb hg hat))
      go_roundg k1
      case measure => omega
      case rel => exact ⟨_, rfl, ⟨rfl, by omega⟩, HZ⟩
    | zero =>
      obtain rfl : x9 = -1 := by have := HX.out.1; omega
      clear HX
      have H3 := H2.out
      rw [List.drop_zero] at H3
      obtain ⟨bk, hbk⟩ : ∃ bk, bk = l0.reverse := ⟨_, rfl⟩
      rw [← hbk] at H3
      obtain ⟨A8, c8, rfl⟩ := Kd.R_slice H3.1
      have HBK := Aside0.mk hbk
      have HWR := Aside0.mk (below_step HM1.out.2 H3.2)
      have HC8 := Aside0.mk (fixed_C (Kd.R_reads' H3.1).2.2 HWR.out)
      have HB3 := Aside0.mk H3.2
      have HBL : Aside0 (bk.length < 1048576 ∧ ∀ c ∈ bk, c.length ≤ 4194304) := ⟨by rw [hbk, List.length_reverse]; exact HL.out.1, fun c hc => HL.out.2.1 c (by rw [hbk] at hc; exact List.mem_reverse.1 hc)⟩
      clear H2 H3 hbk
      go_wp2_with (first | (go_at_call 16; refine (made_any _ A8 c8 bk A1 c1 l1 _ hN0 hN1 HC8.out (Kd.C_below HR1.out HWR.out) HBL.out.1 HBL.out.2 HL.out.2.2 vm HVM.out).mono ?_; rintro e w2 ⟨gb, rfl, hm2, hb2⟩; have HM2 := Aside0.mk (And.intro hm2 hb2); have HP1 := Aside0.mk (Made.pi (ok' := fun k => (w.heap.size ≤ k ∧ k < w1.heap.size) ∨ w2.heap.size ≤ k) HM1.out.1 (fun k _ hk => (hb2.block k (Nat.lt_of_lt_of_le hk HB3.out.size)).trans (HB3.out.block k hk)) (fun k h hk => .inl ⟨h, hk⟩)); clear hm2 hb2))
      refine (prop_any _ _ _ csOf_lits _ ga _ _ _ _ (fun k hk => .inr hk) HP1.out).mono ?_
      rintro e w3 ⟨x, va, cla, ma, rfl, hpa, hea⟩
      have HA := Aside0.mk (And.intro hpa hea)
      have HP2 := Aside0.mk (Made.pi (ok' := fun k => (wr.heap.size ≤ k ∧ k < w2.heap.size) ∨ w3.heap.size ≤ k) HM2.out.1 (fun k h hk => hpa.rest.block k hk (fun q => by have h1 := HB3.out.size; rcases q with q | q <;> omega)) (fun k h hk => .inl ⟨h, hk⟩))
      clear hpa hea
      go_wp2_with fail
      refine (prop_any _ _ _ csOf_lits _ gb _ _ _ _ (fun k hk => .inr hk) HP2.out).mono ?_
      rintro e w4 ⟨y, vb, clb, mb, rfl, hpb, heb⟩
      have hT : Two ((3 : Int) + 1).toNat (csOf 3 l0) (csOf 3 bk) vm.1 ga gb w4 va vb cla clb ma mb := by
        refine ⟨⟨_, HA.out.1.st.bound.step (w1 := w4) (fun k q hk => hpb.rest.block k hk (fun r => ?_))⟩, ⟨_, hpb.st⟩, HA.out.1.fit, hpb.fit, HA.out.1.cs, hpb.cs, HA.out.1.inv, hpb.inv, csOf_lits, csOf_lits, fun c hc => HL.out.2.1 c (List.mem_filter.1 hc).1, fun c hc => HBL.out.2 c (List.mem_filter.1 hc).1, fun c => ?_, by omega⟩
        · have h1 := HB3.out.size
          rcases q.1 with q | q <;> rcases r with r | r <;> omega
        · rw [HBK.out]; unfold csOf; simp only [List.mem_filter, List.mem_reverse]
      have HT := Aside0.mk hT
      have HB4 : Aside0 (Below w.heap.size w w4) := ⟨Rest.below (Rest.below (below_step HWR.out HM2.out.2) HA.out.1.rest (fun k q => by have h1 := HWR.out.size; have h2 := HM2.out.2.size; rcases q with q | q <;> omega)) hpb.rest (fun k q => by have h1 := HWR.out.size; have h2 := HM2.out.2.size; have h3 := HA.out.1.rest.size; rcases q with q | q <;> omega)⟩
      have hend := hT.ends HA.out.2 heb
      obtain ⟨ca, hca⟩ : ∃ ca, ca = csOf 3 l0 := ⟨_, rfl⟩
      obtain ⟨cb, hcb⟩ : ∃ cb, cb = csOf 3 bk := ⟨_, rfl⟩
      rw [← hca, ← hcb] at HT hend
      clear hpb heb hT HA HP1 HP2 HM2 HC8 hca hcb
      rcases hend with ⟨rfl, rfl, k, e1, e2⟩ | ⟨i, j, c, d, rfl, rfl, hi, hj, k, e1, e2⟩
      · have HE1 := Aside0.mk e1
        have HE2 := Aside0.mk e2
        clear e1 e2
        go_wp2_with fail
        refine (HT.out.marksA).mono ?_
        rintro e w5 ⟨A5, c5, rfl, h5, hb5⟩
        have H5 := Aside0.mk h5
        have HT := Aside0.mk (HT.out.below hb5)
        have HB4 := Aside0.mk (below_step HB4.out hb5)
        clear h5 hb5
        go_wp2_with fail
        refine (HT.out.marksB).mono ?_
        rintro e w6 ⟨A6, c6, rfl, h6, hb6⟩
        have H6 := Aside0.mk h6
        have HT := Aside0.mk (HT.out.below hb6)
        have HB4 := Aside0.mk (below_step HB4.out hb6)
        have H5 := Aside0.mk (And.intro H5.out.1 (Kd.C_below H5.out.2 hb6))
        clear h6 hb6
        go_wp2_with fail
        refine (fulcrumref20_SameTrue.calls k A5 c5 ma A6 c6 mb true _ H5.out.2 H5.out.1 H6.out.2 H6.out.1 HE1.out).mono ?_
        rintro e w7 ⟨rfl, hd7⟩
        have hb7 := hd7.below
        have HT := Aside0.mk (HT.out.below hb7)
        have HB4 := Aside0.mk (below_step HB4.out hb7)
        clear hd7 hb7
        go_wp2_with fail
        refine (HT.out.clsA).mono ?_
        rintro e w8 ⟨A8, c8, rfl, h8, hb8⟩
        have H8 := Aside0.mk (And.intro (Kd.R_reads' h8).2.1 (Kd.R_reads' h8).2.2)
        have HT := Aside0.mk (HT.out.below hb8)
        have HB4 := Aside0.mk (below_step HB4.out hb8)
        clear h8 hb8
        go_wp2_with fail
        refine (HT.out.marksA).mono ?_
        rintro e w9 ⟨A9, c9, rfl, h9, hb9⟩
        have H9 := Aside0.mk h9
        have HT := Aside0.mk (HT.out.below hb9)
        have HB4 := Aside0.mk (below_step HB4.out hb9)
        have H8 := Aside0.mk (And.intro H8.out.1 (Kd.C_below H8.out.2 hb9))
        clear h9 hb9
        go_wp2_with fail
        refine (fulcrumref20_Rest.calls k _ _ ca A9 c9 ma true _ H8.out.2 H8.out.1 H9.out.2 H9.out.1 HE2.out).mono ?_
        rintro e w10 ⟨rfl, hd10⟩
        have hb10 := hd10.below
        have HT := Aside0.mk (HT.out.below hb10)
        have HB4 := Aside0.mk (below_step HB4.out hb10)
        clear hd10 hb10
        go_wp2_with fail
        go_ret
        exact ⟨rfl, HB4.out⟩
      · have HE1 := Aside0.mk e1
        have HE2 := Aside0.mk e2
        have HI := Aside0.mk (And.intro hi hj)
        have di : ((i : Int) == -1) = false := by rw [beq_eq_false_iff_ne]; omega
        have dj : ((j : Int) == -1) = false := by rw [beq_eq_false_iff_ne]; omega
        clear e1 e2 hi hj
        go_wp2_with fail
        refine (HT.out.clsA).mono ?_
        rintro e w15 ⟨A15, c15, rfl, h15, hb15⟩
        have H15 := Aside0.mk h15
        have HT := Aside0.mk (HT.out.below hb15)
        have HB4 := Aside0.mk (below_step HB4.out hb15)
        clear h15 hb15
        go_wp2_with fail
        refine (at_any ca i c A15 c15 _ H15.out HI.out.1).mono ?_
        rintro e w16 ⟨A16, c16, rfl, h16, hb16⟩
        have H16 := Aside0.mk h16
        have HT := Aside0.mk (HT.out.below hb16)
        have HB4 := Aside0.mk (below_step HB4.out hb16)
        clear h16 hb16
        go_wp2_with fail
        refine (HT.out.marksA).mono ?_
        rintro e w17 ⟨A17, c17, rfl, h17, hb17⟩
        have H17 := Aside0.mk h17
        have HT := Aside0.mk (HT.out.below hb17)
        have HB4 := Aside0.mk (below_step HB4.out hb17)
        have H16 := Aside0.mk (And.intro H16.out.1 (Kd.C_below H16.out.2 hb17))
        clear h17 hb17
        go_wp2_with fail
        refine (fulcrumref20_Broken.calls k A16 c16 c A17 c17 ma true _ H16.out.2 H16.out.1 H17.out.2 H17.out.1 HE1.out).mono ?_
        rintro e w18 ⟨rfl, hd18⟩
        have hb18 := hd18.below
        have HT := Aside0.mk (HT.out.below hb18)
        have HB4 := Aside0.mk (below_step HB4.out hb18)
        clear hd18 hb18
        go_wp2_with fail
        refine (HT.out.clsB).mono ?_
        rintro e w25 ⟨A25, c25, rfl, h25, hb25⟩
        have H25 := Aside0.mk h25
        have HT := Aside0.mk (HT.out.below hb25)
        have HB4 := Aside0.mk (below_step HB4.out hb25)
        clear h25 hb25
        go_wp2_with fail
        refine (at_any cb j d A25 c25 _ H25.out HI.out.2).mono ?_
        rintro e w26 ⟨A26, c26, rfl, h26, hb26⟩
        have H26 := Aside0.mk h26
        have HT := Aside0.mk (HT.out.below hb26)
        have HB4 := Aside0.mk (below_step HB4.out hb26)
        clear h26 hb26
        go_wp2_with fail
        refine (HT.out.marksB).mono ?_
        rintro e w27 ⟨A27, c27, rfl, h27, hb27⟩
        have H27 := Aside0.mk h27
        have HT := Aside0.mk (HT.out.below hb27)
        have HB4 := Aside0.mk (below_step HB4.out hb27)
        have H26 := Aside0.mk (And.intro H26.out.1 (Kd.C_below H26.out.2 hb27))
        clear h27 hb27
        go_wp2_with fail
        refine (fulcrumref20_Broken.calls k A26 c26 d A27 c27 mb true _ H26.out.2 H26.out.1 H27.out.2 H27.out.1 HE2.out).mono ?_
        rintro e w28 ⟨rfl, hd28⟩
        have hb28 := hd28.below
        have HT := Aside0.mk (HT.out.below hb28)
        have HB4 := Aside0.mk (below_step HB4.out hb28)
        clear hd28 hb28
        go_wp2_with fail
        go_ret
        exact ⟨rfl, HB4.out⟩

set_option maxHeartbeats 16000000 in
set_option maxRecDepth 100000 in
theorem fix_walkB (n : Int) (dq1 : decide (n < 0) = false) (dq2 : decide (262144 < n) = true) (A0 : Option Addr) (c0 : Nat) (l0 : List (List Int)) (A1 : Option Addr) (c1 : Nat) (l1 : List Int) (w : World)
    (hr0 : Kd.C (Kd.slice 3 (Kd.int .i64)) w A0 l0.length l0) (hr1 : Kd.C (Kd.int .i64) w A1 l1.length l1) (hl0 : l0.length < 1048576) (hl1 : ∀ c ∈ l0, c.length ≤ 4194304) (hl2 : l1.length ≤ 1048576) :
    Calls Try.prog 4 #[.int .i64 n, .slice A0 l0.length c0, .slice A1 l1.length c1] w fun e w' => e = .returned (.bool true) ∧ Below w.heap.size w w' := by
  have HR0 := Aside0.mk hr0
  have HR1 := Aside0.mk hr1
  have HL := Aside0.mk (And.intro hl0 (And.intro hl1 hl2))
  have hN0 : (0 : Int) ≤ 3 := by omega
  have hN1 : (3 : Int) ≤ 262144 := by omega
  obtain ⟨vm, hvm⟩ : ∃ vm : List Int × List S48, vm = l1.foldl decU (List.replicate ((3 : Int) + 1).toNat 0, []) := ⟨_, rfl⟩
  have HVM := Aside0.mk hvm
  have dl : decide (1048576 < (l0.length : Int)) = false := decide_eq_false (by omega)
  have hll : l0.length ≤ 1048576 := by omega
  clear hr0 hr1 hl0 hl1 hl2 hvm
  go_enter Try.func4, Try.ntmps4
  go_wp2_with (first | (go_at_call 16; refine (made_any _ A0 c0 l0 A1 c1 l1 _ hN0 hN1 HR0.out HR1.out HL.out.1 HL.out.2.1 HL.out.2.2 vm HVM.out).mono ?_; rintro e w1 ⟨ga, rfl, hm1, hb1⟩; have HM1 := Aside0.mk (And.intro hm1 hb1); clear hm1 hb1))
  go_loopg [8, 9] l0.length (fun kq v8 v9 w' => ∃ x9 : Int, v9 = .int .i64 x9 ∧ Aside0 (x9 = (kq : Int) - 1 ∧ kq ≤ l0.length) ∧ Aside0 (Kd.R (Kd.fixed (Kd.slice 3 (Kd.int .i64)) w) 34 w' w1.heap.size (fun _ => True) v8 ((l0.drop kq).reverse) ∧ Below w1.heap.size w1 w'))
  case atStart => exact ⟨_, rfl, ⟨rfl, Nat.le_refl _⟩, ⟨by rw [List.drop_length]; exact Kd.R_nil _ _ _ _ _, Below.refl _ _⟩⟩
  case round =>
    obtain ⟨x9, rfl, HX, H2⟩ := hrel
    cases gk with
    | succ k1 =>
      obtain rfl : x9 = (k1 : Int) := by have := HX.out.1; omega
      have hk1 : k1 < l0.length := by have := HX.out.2; omega
      obtain ⟨ad, Ax, cx, rfl, hxc, hcx, hxC⟩ := at_L2 HR0.out (k1 : Int) (by omega) (by omega)
      rw [Int.toNat_natCast] at hxc
      replace hxc := (HM1.out.2.cell (World.block_lt_of_cell? w _ hxc)).trans hxc
      replace hxc := (H2.out.2.cell (World.block_lt_of_cell? w1 _ hxc)).trans hxc
      have hrev := drop_rev hk1
      obtain ⟨x, hx⟩ : ∃ x, x = rd_L2 l0 (k1 : Int) := ⟨_, rfl⟩
      rw [← hx] at hxc hcx hxC hrev
      obtain ⟨xs, hxs⟩ : ∃ xs, xs = (l0.drop (k1 + 1)).reverse := ⟨_, rfl⟩
      have hxl : xs.length ≤ 1048576 := by rw [hxs, List.length_reverse, List.length_drop]; omega
      rw [← hxs] at H2 hrev
      obtain ⟨A8, c8, rfl⟩ := Kd.R_slice H2.out.1
      have HXL := Aside0.mk hxl
      have HREV := Aside0.mk hrev
      have HXC := Aside0.mk (And.intro hcx hxC)
      clear hx hcx hxC hrev hxs hxl
      go_wp2_with (first | (at_builtin; refine Kd.R_append (Kd.fixed (Kd.slice 3 (Kd.int .i64)) w) (w0 := w1) w1.heap.size rfl (.tmp 35) (.tmp 40) 31 34 (.slice none 0 0) 24 rfl Try.underlying31 info_clause rfl Nat.one_pos (by omega) (.slice A8 xs.length c8) xs x [.slice Ax x.length cx] (fun _ => True) (fun _ => False) rfl rfl ?aP ?aK ?aF ?aO ?aB ?aS ?aL ?_; (case aP => exact ⟨Ax, cx, rfl, HXC.out.1, HXC.out.2⟩); (case aK => exact fun k hk => hk.elim); (case aF => exact fun _ _ => trivial); (case aO => exact (by (with_reducible repeat (first | apply Kd.R_alloc | apply Kd.R_drewN | apply Kd.R_drew)); exact H2.out.1)); (case aB => exact (by repeat (first | (with_reducible first | exact H2.out.2 | apply below_alloc | apply pw_below_drewN | apply below_drew1) | exact H2.out.2))); (case aS => exact (below_size (by repeat (first | (with_reducible first | exact H2.out.2 | apply below_alloc | apply pw_below_drewN | apply below_drew1) | exact H2.out.2)))); (case aL => have := HXL.out; omega); intro v5 w5 ho hb hg hat; rw [← HREV.out] at ho; have HZ := Aside0.mk (And.intro ho hb); clear ho hb hg hat))
      go_roundg k1
      case measure => omega
      case rel => exact ⟨_, rfl, ⟨rfl, by omega⟩, HZ⟩
    | zero =>
      obtain rfl : x9 = -1 := by have := HX.out.1; omega
      clear HX
      have H3 := H2.out
      rw [List.drop_zero] at H3
      obtain ⟨bk, hbk⟩ : ∃ bk, bk = l0.reverse := ⟨_, rfl⟩
      rw [← hbk] at H3
      obtain ⟨A8, c8, rfl⟩ := Kd.R_slice H3.1
      have HBK := Aside0.mk hbk
      have HWR := Aside0.mk (below_step HM1.out.2 H3.2)
      have HC8 := Aside0.mk (fixed_C (Kd.R_reads' H3.1).2.2 HWR.out)
      have HB3 := Aside0.mk H3.2
      have HBL : Aside0 (bk.length < 1048576 ∧ ∀ c ∈ bk, c.length ≤ 4194304) := ⟨by rw [hbk, List.length_reverse]; exact HL.out.1, fun c hc => HL.out.2.1 c (by rw [hbk] at hc; exact List.mem_reverse.1 hc)⟩
      clear H2 H3 hbk
      go_wp2_with (first | (go_at_call 16; refine (made_any _ A8 c8 bk A1 c1 l1 _ hN0 hN1 HC8.out (Kd.C_below HR1.out HWR.out) HBL.out.1 HBL.out.2 HL.out.2.2 vm HVM.out).mono ?_; rintro e w2 ⟨gb, rfl, hm2, hb2⟩; have HM2 := Aside0.mk (And.intro hm2 hb2); have HP1 := Aside0.mk (Made.pi (ok' := fun k => (w.heap.size ≤ k ∧ k < w1.heap.size) ∨ w2.heap.size ≤ k) HM1.out.1 (fun k _ hk => (hb2.block k (Nat.lt_of_lt_of_le hk HB3.out.size)).trans (HB3.out.block k hk)) (fun k h hk => .inl ⟨h, hk⟩)); clear hm2 hb2))
      refine (prop_any _ _ _ csOf_lits _ ga _ _ _ _ (fun k hk => .inr hk) HP1.out).mono ?_
      rintro e w3 ⟨x, va, cla, ma, rfl, hpa, hea⟩
      have HA := Aside0.mk (And.intro hpa hea)
      have HP2 := Aside0.mk (Made.pi (ok' := fun k => (wr.heap.size ≤ k ∧ k < w2.heap.size) ∨ w3.heap.size ≤ k) HM2.out.1 (fun k h hk => hpa.rest.block k hk (fun q => by have h1 := HB3.out.size; rcases q with q | q <;> omega)) (fun k h hk => .inl ⟨h, hk⟩))
      clear hpa hea
      go_wp2_with fail
      refine (prop_any _ _ _ csOf_lits _ gb _ _ _ _ (fun k hk => .inr hk) HP2.out).mono ?_
      rintro e w4 ⟨y, vb, clb, mb, rfl, hpb, heb⟩
      have hT : Two ((3 : Int) + 1).toNat (csOf 3 l0) (csOf 3 bk) vm.1 ga gb w4 va vb cla clb ma mb := by
        refine ⟨⟨_, HA.out.1.st.bound.step (w1 := w4) (fun k q hk => hpb.rest.block k hk (fun r => ?_))⟩, ⟨_, hpb.st⟩, HA.out.1.fit, hpb.fit, HA.out.1.cs, hpb.cs, HA.out.1.inv, hpb.inv, csOf_lits, csOf_lits, fun c hc => HL.out.2.1 c (List.mem_filter.1 hc).1, fun c hc => HBL.out.2 c (List.mem_filter.1 hc).1, fun c => ?_, by omega⟩
        · have h1 := HB3.out.size
          rcases q.1 with q | q <;> rcases r with r | r <;> omega
        · rw [HBK.out]; unfold csOf; simp only [List.mem_filter, List.mem_reverse]
      have HT := Aside0.mk hT
      have HB4 : Aside0 (Below w.heap.size w w4) := ⟨Rest.below (Rest.below (below_step HWR.out HM2.out.2) HA.out.1.rest (fun k q => by have h1 := HWR.out.size; have h2 := HM2.out.2.size; rcases q with q | q <;> omega)) hpb.rest (fun k q => by have h1 := HWR.out.size; have h2 := HM2.out.2.size; have h3 := HA.out.1.rest.size; rcases q with q | q <;> omega)⟩
      have hend := hT.ends HA.out.2 heb
      obtain ⟨ca, hca⟩ : ∃ ca, ca = csOf 3 l0 := ⟨_, rfl⟩
      obtain ⟨cb, hcb⟩ : ∃ cb, cb = csOf 3 bk := ⟨_, rfl⟩
      rw [← hca, ← hcb] at HT hend
      clear hpb heb hT HA HP1 HP2 HM2 HC8 hca hcb
      rcases hend with ⟨rfl, rfl, k, e1, e2⟩ | ⟨i, j, c, d, rfl, rfl, hi, hj, k, e1, e2⟩
      · have HE1 := Aside0.mk e1
        have HE2 := Aside0.mk e2
        clear e1 e2
        go_wp2_with fail
        refine (HT.out.marksA).mono ?_
        rintro e w5 ⟨A5, c5, rfl, h5, hb5⟩
        have H5 := Aside0.mk h5
        have HT := Aside0.mk (HT.out.below hb5)
        have HB4 := Aside0.mk (below_step HB4.out hb5)
        clear h5 hb5
        go_wp2_with fail
        refine (HT.out.marksB).mono ?_
        rintro e w6 ⟨A6, c6, rfl, h6, hb6⟩
        have H6 := Aside0.mk h6
        have HT := Aside0.mk (HT.out.below hb6)
        have HB4 := Aside0.mk (below_step HB4.out hb6)
        have H5 := Aside0.mk (And.intro H5.out.1 (Kd.C_below H5.out.2 hb6))
        clear h6 hb6
        go_wp2_with fail
        refine (fulcrumref20_SameTrue.calls k A5 c5 ma A6 c6 mb true _ H5.out.2 H5.out.1 H6.out.2 H6.out.1 HE1.out).mono ?_
        rintro e w7 ⟨rfl, hd7⟩
        have hb7 := hd7.below
        have HT := Aside0.mk (HT.out.below hb7)
        have HB4 := Aside0.mk (below_step HB4.out hb7)
        clear hd7 hb7
        go_wp2_with fail
        refine (HT.out.clsA).mono ?_
        rintro e w8 ⟨A8, c8, rfl, h8, hb8⟩
        have H8 := Aside0.mk (And.intro (Kd.R_reads' h8).2.1 (Kd.R_reads' h8).2.2)
        have HT := Aside0.mk (HT.out.below hb8)
        have HB4 := Aside0.mk (below_step HB4.out hb8)
        clear h8 hb8
        go_wp2_with fail
        refine (HT.out.marksA).mono ?_
        rintro e w9 ⟨A9, c9, rfl, h9, hb9⟩
        have H9 := Aside0.mk h9
        have HT := Aside0.mk (HT.out.below hb9)
        have HB4 := Aside0.mk (below_step HB4.out hb9)
        have H8 := Aside0.mk (And.intro H8.out.1 (Kd.C_below H8.out.2 hb9))
        clear h9 hb9
        go_wp2_with fail
        refine (fulcrumref20_Rest.calls k _ _ ca A9 c9 ma true _ H8.out.2 H8.out.1 H9.out.2 H9.out.1 HE2.out).mono ?_
        rintro e w10 ⟨rfl, hd10⟩
        have hb10 := hd10.below
        have HT := Aside0.mk (HT.out.below hb10)
        have HB4 := Aside0.mk (below_step HB4.out hb10)
        clear hd10 hb10
        go_wp2_with fail
        go_ret
        exact ⟨rfl, HB4.out⟩
      · have HE1 := Aside0.mk e1
        have HE2 := Aside0.mk e2
        have HI := Aside0.mk (And.intro hi hj)
        have di : ((i : Int) == -1) = false := by rw [beq_eq_false_iff_ne]; omega
        have dj : ((j : Int) == -1) = false := by rw [beq_eq_false_iff_ne]; omega
        clear e1 e2 hi hj
        go_wp2_with fail
        refine (HT.out.clsA).mono ?_
        rintro e w15 ⟨A15, c15, rfl, h15, hb15⟩
        have H15 := Aside0.mk h15
        have HT := Aside0.mk (HT.out.below hb15)
        have HB4 := Aside0.mk (below_step HB4.out hb15)
        clear h15 hb15
        go_wp2_with fail
        refine (at_any ca i c A15 c15 _ H15.out HI.out.1).mono ?_
        rintro e w16 ⟨A16, c16, rfl, h16, hb16⟩
        have H16 := Aside0.mk h16
        have HT := Aside0.mk (HT.out.below hb16)
        have HB4 := Aside0.mk (below_step HB4.out hb16)
        clear h16 hb16
        go_wp2_with fail
        refine (HT.out.marksA).mono ?_
        rintro e w17 ⟨A17, c17, rfl, h17, hb17⟩
        have H17 := Aside0.mk h17
        have HT := Aside0.mk (HT.out.below hb17)
        have HB4 := Aside0.mk (below_step HB4.out hb17)
        have H16 := Aside0.mk (And.intro H16.out.1 (Kd.C_below H16.out.2 hb17))
        clear h17 hb17
        go_wp2_with fail
        refine (fulcrumref20_Broken.calls k A16 c16 c A17 c17 ma true _ H16.out.2 H16.out.1 H17.out.2 H17.out.1 HE1.out).mono ?_
        rintro e w18 ⟨rfl, hd18⟩
        have hb18 := hd18.below
        have HT := Aside0.mk (HT.out.below hb18)
        have HB4 := Aside0.mk (below_step HB4.out hb18)
        clear hd18 hb18
        go_wp2_with fail
        refine (HT.out.clsB).mono ?_
        rintro e w25 ⟨A25, c25, rfl, h25, hb25⟩
        have H25 := Aside0.mk h25
        have HT := Aside0.mk (HT.out.below hb25)
        have HB4 := Aside0.mk (below_step HB4.out hb25)
        clear h25 hb25
        go_wp2_with fail
        refine (at_any cb j d A25 c25 _ H25.out HI.out.2).mono ?_
        rintro e w26 ⟨A26, c26, rfl, h26, hb26⟩
        have H26 := Aside0.mk h26
        have HT := Aside0.mk (HT.out.below hb26)
        have HB4 := Aside0.mk (below_step HB4.out hb26)
        clear h26 hb26
        go_wp2_with fail
        refine (HT.out.marksB).mono ?_
        rintro e w27 ⟨A27, c27, rfl, h27, hb27⟩
        have H27 := Aside0.mk h27
        have HT := Aside0.mk (HT.out.below hb27)
        have HB4 := Aside0.mk (below_step HB4.out hb27)
        have H26 := Aside0.mk (And.intro H26.out.1 (Kd.C_below H26.out.2 hb27))
        clear h27 hb27
        go_wp2_with fail
        refine (fulcrumref20_Broken.calls k A26 c26 d A27 c27 mb true _ H26.out.2 H26.out.1 H27.out.2 H27.out.1 HE2.out).mono ?_
        rintro e w28 ⟨rfl, hd28⟩
        have hb28 := hd28.below
        have HT := Aside0.mk (HT.out.below hb28)
        have HB4 := Aside0.mk (below_step HB4.out hb28)
        clear hd28 hb28
        go_wp2_with fail
        go_ret
        exact ⟨rfl, HB4.out⟩

set_option maxHeartbeats 16000000 in
set_option maxRecDepth 100000 in
theorem fix_walkC (n : Int) (dq1 : decide (n < 0) = false) (dq2 : decide (262144 < n) = false) (hn0 : 0 ≤ n) (hn1 : n ≤ 262144) (A0 : Option Addr) (c0 : Nat) (l0 : List (List Int)) (A1 : Option Addr) (c1 : Nat) (l1 : List Int) (w : World)
    (hr0 : Kd.C (Kd.slice 3 (Kd.int .i64)) w A0 l0.length l0) (hr1 : Kd.C (Kd.int .i64) w A1 l1.length l1) (hl0 : l0.length < 1048576) (hl1 : ∀ c ∈ l0, c.length ≤ 4194304) (hl2 : l1.length ≤ 1048576) :
    Calls Try.prog 4 #[.int .i64 n, .slice A0 l0.length c0, .slice A1 l1.length c1] w fun e w' => e = .returned (.bool true) ∧ Below w.heap.size w w' := by
  have HR0 := Aside0.mk hr0
  have HR1 := Aside0.mk hr1
  have HL := Aside0.mk (And.intro hl0 (And.intro hl1 hl2))
  have hN0 : (0 : Int) ≤ n := by omega
  have hN1 : (n : Int) ≤ 262144 := by omega
  obtain ⟨vm, hvm⟩ : ∃ vm : List Int × List S48, vm = l1.foldl decU (List.replicate ((n : Int) + 1).toNat 0, []) := ⟨_, rfl⟩
  have HVM := Aside0.mk hvm
  have dl : decide (1048576 < (l0.length : Int)) = false := decide_eq_false (by omega)
  have hll : l0.length ≤ 1048576 := by omega
  clear hr0 hr1 hl0 hl1 hl2 hvm
  go_enter Try.func4, Try.ntmps4
  go_wp2_with (first | (go_at_call 16; refine (made_any _ A0 c0 l0 A1 c1 l1 _ hN0 hN1 HR0.out HR1.out HL.out.1 HL.out.2.1 HL.out.2.2 vm HVM.out).mono ?_; rintro e w1 ⟨ga, rfl, hm1, hb1⟩; have HM1 := Aside0.mk (And.intro hm1 hb1); clear hm1 hb1))
  go_loopg [8, 9] l0.length (fun kq v8 v9 w' => ∃ x9 : Int, v9 = .int .i64 x9 ∧ Aside0 (x9 = (kq : Int) - 1 ∧ kq ≤ l0.length) ∧ Aside0 (Kd.R (Kd.fixed (Kd.slice 3 (Kd.int .i64)) w) 34 w' w1.heap.size (fun _ => True) v8 ((l0.drop kq).reverse) ∧ Below w1.heap.size w1 w'))
  case atStart => exact ⟨_, rfl, ⟨rfl, Nat.le_refl _⟩, ⟨by rw [List.drop_length]; exact Kd.R_nil _ _ _ _ _, Below.refl _ _⟩⟩
  case round =>
    obtain ⟨x9, rfl, HX, H2⟩ := hrel
    cases gk with
    | succ k1 =>
      obtain rfl : x9 = (k1 : Int) := by have := HX.out.1; omega
      have hk1 : k1 < l0.length := by have := HX.out.2; omega
      obtain ⟨ad, Ax, cx, rfl, hxc, hcx, hxC⟩ := at_L2 HR0.out (k1 : Int) (by omega) (by omega)
      rw [Int.toNat_natCast] at hxc
      replace hxc := (HM1.out.2.cell (World.block_lt_of_cell? w _ hxc)).trans hxc
      replace hxc := (H2.out.2.cell (World.block_lt_of_cell? w1 _ hxc)).trans hxc
      have hrev := drop_rev hk1
      obtain ⟨x, hx⟩ : ∃ x, x = rd_L2 l0 (k1 : Int) := ⟨_, rfl⟩
      rw [← hx] at hxc hcx hxC hrev
      obtain ⟨xs, hxs⟩ : ∃ xs, xs = (l0.drop (k1 + 1)).reverse := ⟨_, rfl⟩
      have hxl : xs.length ≤ 1048576 := by rw [hxs, List.length_reverse, List.length_drop]; omega
      rw [← hxs] at H2 hrev
      obtain ⟨A8, c8, rfl⟩ := Kd.R_slice H2.out.1
      have HXL := Aside0.mk hxl
      have HREV := Aside0.mk hrev
      have HXC := Aside0.mk (And.intro hcx hxC)
      clear hx hcx hxC hrev hxs hxl
      go_wp2_with (first | (at_builtin; refine Kd.R_append (Kd.fixed (Kd.slice 3 (Kd.int .i64)) w) (w0 := w1) w1.heap.size rfl (.tmp 35) (.tmp 40) 31 34 (.slice none 0 0) 24 rfl Try.underlying31 info_clause rfl Nat.one_pos (by omega) (.slice A8 xs.length c8) xs x [.slice Ax x.length cx] (fun _ => True) (fun _ => False) rfl rfl ?aP ?aK ?aF ?aO ?aB ?aS ?aL ?_; (case aP => exact ⟨Ax, cx, rfl, HXC.out.1, HXC.out.2⟩); (case aK => exact fun k hk => hk.elim); (case aF => exact fun _ _ => trivial); (case aO => exact (by (with_reducible repeat (first | apply Kd.R_alloc | apply Kd.R_drewN | apply Kd.R_drew)); exact H2.out.1)); (case aB => exact (by repeat (first | (with_reducible first | exact H2.out.2 | apply below_alloc | apply pw_below_drewN | apply below_drew1) | exact H2.out.2))); (case aS => exact (below_size (by repeat (first | (with_reducible first | exact H2.out.2 | apply below_alloc | apply pw_below_drewN | apply below_drew1) | exact H2.out.2)))); (case aL => have := HXL.out; omega); intro v5 w5 ho hb hg hat; rw [← HREV.out] at ho; have HZ := Aside0.mk (And.intro ho hb); clear ho hb hg hat))
      go_roundg k1
      case measure => omega
      case rel => exact ⟨_, rfl, ⟨rfl, by omega⟩, HZ⟩
    | zero =>
      obtain rfl : x9 = -1 := by have := HX.out.1; omega
      clear HX
      have H3 := H2.out
      rw [List.drop_zero] at H3
      obtain ⟨bk, hbk⟩ : ∃ bk, bk = l0.reverse := ⟨_, rfl⟩
      rw [← hbk] at H3
      obtain ⟨A8, c8, rfl⟩ := Kd.R_slice H3.1
      have HBK := Aside0.mk hbk
      have HWR := Aside0.mk (below_step HM1.out.2 H3.2)
      have HC8 := Aside0.mk (fixed_C (Kd.R_reads' H3.1).2.2 HWR.out)
      have HB3 := Aside0.mk H3.2
      have HBL : Aside0 (bk.length < 1048576 ∧ ∀ c ∈ bk, c.length ≤ 4194304) := ⟨by rw [hbk, List.length_reverse]; exact HL.out.1, fun c hc => HL.out.2.1 c (by rw [hbk] at hc; exact List.mem_reverse.1 hc)⟩
      clear H2 H3 hbk
      go_wp2_with (first | (go_at_call 16; refine (made_any _ A8 c8 bk A1 c1 l1 _ hN0 hN1 HC8.out (Kd.C_below HR1.out HWR.out) HBL.out.1 HBL.out.2 HL.out.2.2 vm HVM.out).mono ?_; rintro e w2 ⟨gb, rfl, hm2, hb2⟩; have HM2 := Aside0.mk (And.intro hm2 hb2); have HP1 := Aside0.mk (Made.pi (ok' := fun k => (w.heap.size ≤ k ∧ k < w1.heap.size) ∨ w2.heap.size ≤ k) HM1.out.1 (fun k _ hk => (hb2.block k (Nat.lt_of_lt_of_le hk HB3.out.size)).trans (HB3.out.block k hk)) (fun k h hk => .inl ⟨h, hk⟩)); clear hm2 hb2))
      refine (prop_any _ _ _ csOf_lits _ ga _ _ _ _ (fun k hk => .inr hk) HP1.out).mono ?_
      rintro e w3 ⟨x, va, cla, ma, rfl, hpa, hea⟩
      have HA := Aside0.mk (And.intro hpa hea)
      have HP2 := Aside0.mk (Made.pi (ok' := fun k => (wr.heap.size ≤ k ∧ k < w2.heap.size) ∨ w3.heap.size ≤ k) HM2.out.1 (fun k h hk => hpa.rest.block k hk (fun q => by have h1 := HB3.out.size; rcases q with q | q <;> omega)) (fun k h hk => .inl ⟨h, hk⟩))
      clear hpa hea
      go_wp2_with fail
      refine (prop_any _ _ _ csOf_lits _ gb _ _ _ _ (fun k hk => .inr hk) HP2.out).mono ?_
      rintro e w4 ⟨y, vb, clb, mb, rfl, hpb, heb⟩
      have hT : Two ((n : Int) + 1).toNat (csOf n l0) (csOf n bk) vm.1 ga gb w4 va vb cla clb ma mb := by
        refine ⟨⟨_, HA.out.1.st.bound.step (w1 := w4) (fun k q hk => hpb.rest.block k hk (fun r => ?_))⟩, ⟨_, hpb.st⟩, HA.out.1.fit, hpb.fit, HA.out.1.cs, hpb.cs, HA.out.1.inv, hpb.inv, csOf_lits, csOf_lits, fun c hc => HL.out.2.1 c (List.mem_filter.1 hc).1, fun c hc => HBL.out.2 c (List.mem_filter.1 hc).1, fun c => ?_, by omega⟩
        · have h1 := HB3.out.size
          rcases q.1 with q | q <;> rcases r with r | r <;> omega
        · rw [HBK.out]; unfold csOf; simp only [List.mem_filter, List.mem_reverse]
      have HT := Aside0.mk hT
      have HB4 : Aside0 (Below w.heap.size w w4) := ⟨Rest.below (Rest.below (below_step HWR.out HM2.out.2) HA.out.1.rest (fun k q => by have h1 := HWR.out.size; have h2 := HM2.out.2.size; rcases q with q | q <;> omega)) hpb.rest (fun k q => by have h1 := HWR.out.size; have h2 := HM2.out.2.size; have h3 := HA.out.1.rest.size; rcases q with q | q <;> omega)⟩
      have hend := hT.ends HA.out.2 heb
      obtain ⟨ca, hca⟩ : ∃ ca, ca = csOf n l0 := ⟨_, rfl⟩
      obtain ⟨cb, hcb⟩ : ∃ cb, cb = csOf n bk := ⟨_, rfl⟩
      rw [← hca, ← hcb] at HT hend
      clear hpb heb hT HA HP1 HP2 HM2 HC8 hca hcb
      rcases hend with ⟨rfl, rfl, k, e1, e2⟩ | ⟨i, j, c, d, rfl, rfl, hi, hj, k, e1, e2⟩
      · have HE1 := Aside0.mk e1
        have HE2 := Aside0.mk e2
        clear e1 e2
        go_wp2_with fail
        refine (HT.out.marksA).mono ?_
        rintro e w5 ⟨A5, c5, rfl, h5, hb5⟩
        have H5 := Aside0.mk h5
        have HT := Aside0.mk (HT.out.below hb5)
        have HB4 := Aside0.mk (below_step HB4.out hb5)
        clear h5 hb5
        go_wp2_with fail
        refine (HT.out.marksB).mono ?_
        rintro e w6 ⟨A6, c6, rfl, h6, hb6⟩
        have H6 := Aside0.mk h6
        have HT := Aside0.mk (HT.out.below hb6)
        have HB4 := Aside0.mk (below_step HB4.out hb6)
        have H5 := Aside0.mk (And.intro H5.out.1 (Kd.C_below H5.out.2 hb6))
        clear h6 hb6
        go_wp2_with fail
        refine (fulcrumref20_SameTrue.calls k A5 c5 ma A6 c6 mb true _ H5.out.2 H5.out.1 H6.out.2 H6.out.1 HE1.out).mono ?_
        rintro e w7 ⟨rfl, hd7⟩
        have hb7 := hd7.below
        have HT := Aside0.mk (HT.out.below hb7)
        have HB4 := Aside0.mk (below_step HB4.out hb7)
        clear hd7 hb7
        go_wp2_with fail
        refine (HT.out.clsA).mono ?_
        rintro e w8 ⟨A8, c8, rfl, h8, hb8⟩
        have H8 := Aside0.mk (And.intro (Kd.R_reads' h8).2.1 (Kd.R_reads' h8).2.2)
        have HT := Aside0.mk (HT.out.below hb8)
        have HB4 := Aside0.mk (below_step HB4.out hb8)
        clear h8 hb8
        go_wp2_with fail
        refine (HT.out.marksA).mono ?_
        rintro e w9 ⟨A9, c9, rfl, h9, hb9⟩
        have H9 := Aside0.mk h9
        have HT := Aside0.mk (HT.out.below hb9)
        have HB4 := Aside0.mk (below_step HB4.out hb9)
        have H8 := Aside0.mk (And.intro H8.out.1 (Kd.C_below H8.out.2 hb9))
        clear h9 hb9
        go_wp2_with fail
        refine (fulcrumref20_Rest.calls k _ _ ca A9 c9 ma true _ H8.out.2 H8.out.1 H9.out.2 H9.out.1 HE2.out).mono ?_
        rintro e w10 ⟨rfl, hd10⟩
        have hb10 := hd10.below
        have HT := Aside0.mk (HT.out.below hb10)
        have HB4 := Aside0.mk (below_step HB4.out hb10)
        clear hd10 hb10
        go_wp2_with fail
        go_ret
        exact ⟨rfl, HB4.out⟩
      · have HE1 := Aside0.mk e1
        have HE2 := Aside0.mk e2
        have HI := Aside0.mk (And.intro hi hj)
        have di : ((i : Int) == -1) = false := by rw [beq_eq_false_iff_ne]; omega
        have dj : ((j : Int) == -1) = false := by rw [beq_eq_false_iff_ne]; omega
        clear e1 e2 hi hj
        go_wp2_with fail
        refine (HT.out.clsA).mono ?_
        rintro e w15 ⟨A15, c15, rfl, h15, hb15⟩
        have H15 := Aside0.mk h15
        have HT := Aside0.mk (HT.out.below hb15)
        have HB4 := Aside0.mk (below_step HB4.out hb15)
        clear h15 hb15
        go_wp2_with fail
        refine (at_any ca i c A15 c15 _ H15.out HI.out.1).mono ?_
        rintro e w16 ⟨A16, c16, rfl, h16, hb16⟩
        have H16 := Aside0.mk h16
        have HT := Aside0.mk (HT.out.below hb16)
        have HB4 := Aside0.mk (below_step HB4.out hb16)
        clear h16 hb16
        go_wp2_with fail
        refine (HT.out.marksA).mono ?_
        rintro e w17 ⟨A17, c17, rfl, h17, hb17⟩
        have H17 := Aside0.mk h17
        have HT := Aside0.mk (HT.out.below hb17)
        have HB4 := Aside0.mk (below_step HB4.out hb17)
        have H16 := Aside0.mk (And.intro H16.out.1 (Kd.C_below H16.out.2 hb17))
        clear h17 hb17
        go_wp2_with fail
        refine (fulcrumref20_Broken.calls k A16 c16 c A17 c17 ma true _ H16.out.2 H16.out.1 H17.out.2 H17.out.1 HE1.out).mono ?_
        rintro e w18 ⟨rfl, hd18⟩
        have hb18 := hd18.below
        have HT := Aside0.mk (HT.out.below hb18)
        have HB4 := Aside0.mk (below_step HB4.out hb18)
        clear hd18 hb18
        go_wp2_with fail
        refine (HT.out.clsB).mono ?_
        rintro e w25 ⟨A25, c25, rfl, h25, hb25⟩
        have H25 := Aside0.mk h25
        have HT := Aside0.mk (HT.out.below hb25)
        have HB4 := Aside0.mk (below_step HB4.out hb25)
        clear h25 hb25
        go_wp2_with fail
        refine (at_any cb j d A25 c25 _ H25.out HI.out.2).mono ?_
        rintro e w26 ⟨A26, c26, rfl, h26, hb26⟩
        have H26 := Aside0.mk h26
        have HT := Aside0.mk (HT.out.below hb26)
        have HB4 := Aside0.mk (below_step HB4.out hb26)
        clear h26 hb26
        go_wp2_with fail
        refine (HT.out.marksB).mono ?_
        rintro e w27 ⟨A27, c27, rfl, h27, hb27⟩
        have H27 := Aside0.mk h27
        have HT := Aside0.mk (HT.out.below hb27)
        have HB4 := Aside0.mk (below_step HB4.out hb27)
        have H26 := Aside0.mk (And.intro H26.out.1 (Kd.C_below H26.out.2 hb27))
        clear h27 hb27
        go_wp2_with fail
        refine (fulcrumref20_Broken.calls k A26 c26 d A27 c27 mb true _ H26.out.2 H26.out.1 H27.out.2 H27.out.1 HE2.out).mono ?_
        rintro e w28 ⟨rfl, hd28⟩
        have hb28 := hd28.below
        have HT := Aside0.mk (HT.out.below hb28)
        have HB4 := Aside0.mk (below_step HB4.out hb28)
        clear hd28 hb28
        go_wp2_with fail
        go_ret
        exact ⟨rfl, HB4.out⟩

theorem fix_walk (n : Int) (A0 : Option Addr) (c0 : Nat) (l0 : List (List Int)) (A1 : Option Addr) (c1 : Nat) (l1 : List Int) (w : World)
    (hr0 : Kd.C (Kd.slice 3 (Kd.int .i64)) w A0 l0.length l0) (hr1 : Kd.C (Kd.int .i64) w A1 l1.length l1) (hl0 : l0.length < 1048576) (hl1 : ∀ c ∈ l0, c.length ≤ 4194304) (hl2 : l1.length ≤ 1048576) :
    Calls Try.prog 4 #[.int .i64 n, .slice A0 l0.length c0, .slice A1 l1.length c1] w fun e w' => e = .returned (.bool true) ∧ Below w.heap.size w w' := by
  have hcase : (decide (n < 0) = true) ∨ (decide (n < 0) = false ∧ decide (262144 < n) = true) ∨ (decide (n < 0) = false ∧ decide (262144 < n) = false ∧ 0 ≤ n ∧ n ≤ 262144) := by
    simp only [decide_eq_true_eq, decide_eq_false_iff_not]
    omega
  rcases hcase with dq1 | ⟨dq1, dq2⟩ | ⟨dq1, dq2, hn0, hn1⟩
  · exact fix_walkA n dq1 A0 c0 l0 A1 c1 l1 w hr0 hr1 hl0 hl1 hl2
  · exact fix_walkB n dq1 dq2 A0 c0 l0 A1 c1 l1 w hr0 hr1 hl0 hl1 hl2
  · exact fix_walkC n dq1 dq2 hn0 hn1 A0 c0 l0 A1 c1 l1 w hr0 hr1 hl0 hl1 hl2

end Go.Proofs.Ytegaaobiedfjcaa.PU
