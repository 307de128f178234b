import Derived.Test.YtegaaobiedfjcaaStB
namespace Go.Proofs.Ytegaaobiedfjcaa.PU
open Go.RowKit Go.Proofs.YtegaaobiedfjcaaW.PrintWords Go.Proofs.YtegaaobiedfjcaaW.PrintLast Go.Proofs.YtegaaobiedfjcaaW.PrintMore Go.Proofs.YtegaaobiedfjcaaH
set_option linter.unusedVariables false
set_option linter.unusedSimpArgs false
set_option maxHeartbeats 16000000 in
set_option maxRecDepth 100000 in
theorem follow_walkA (n : Int) (dq1 : decide (n < 0) = true) (Ad : Option Addr) (cd : Nat) (ld : List Int) (At : Option Addr) (ct : Nat) (lt : List Bool) (A0 : Option Addr) (c0 : Nat) (l0 : List (List Int)) (w : World)
    (hr0 : Kd.C (Kd.slice 3 (Kd.int .i64)) w A0 l0.length l0) (hrd : Kd.C (Kd.int .i64) w Ad ld.length ld) (hrt : Kd.C Kd.bool w At lt.length lt) (hct : lt.length ≤ ct) (hl0 : l0.length < 1048576) (hl1 : ∀ c ∈ l0, c.length ≤ 4194304) (hl2 : ld.length ≤ 1048576) :
    Calls Try.prog 5 #[.agg #[.int .i64 n, .slice Ad ld.length cd, .slice At lt.length ct], .slice A0 l0.length c0] w fun e w' => e = .returned (.bool true) ∧ Below w.heap.size w w' := by
  have HR0 := Aside0.mk hr0
  have HRD := Aside0.mk hrd
  have HRT := Aside0.mk (And.intro hrt hct)
  have HL := Aside0.mk (And.intro hl0 (And.intro hl1 hl2))
  clear hr0 hrd hrt hct hl0 hl1 hl2
  go_enter Try.func5, Try.ntmps5
  go_wp2_with (first | (go_at_call 16; refine (st_made _ A0 c0 l0 Ad cd ld _ ?n0 ?n1 (Kd.C_below HR0.out ?b0) (Kd.C_below HRD.out ?b1) HL.out.1 HL.out.2.1 HL.out.2.2).mono ?_; (case n0 => omega); (case n1 => omega); (case b0 => exact by repeat (first | exact Below.refl _ _ | apply below_alloc | (refine below_set ?_ (Nat.le_refl _)))); (case b1 => exact by repeat (first | exact Below.refl _ _ | apply below_alloc | (refine below_set ?_ (Nat.le_refl _)))); rintro e w4 ⟨g, vals, marks, rfl, hfold, hst, hfit, hb4⟩; have hB : Below w.heap.size w w4 := below_step (by repeat (first | exact Below.refl _ _ | apply below_alloc | (refine below_set ?_ (Nat.le_refl _)))) hb4; have hX : w4.cell? ⟨w.heap.size, 2, none⟩ = some (.slice At lt.length ct) := (hb4.cell (by simp)).trans (by simp [go_sem]); have hS : St w4 (fun k => w.heap.size < k) g vals _ marks := hst.mono (fun k hk => by simp at hk; omega); obtain ⟨N, cs, cls, hcs, hlc, hpi⟩ := follow_start HL.out.2.1 hfold hS hfit; have HB := Aside0.mk hB; have HPI := Aside0.mk hpi; have HCS := Aside0.mk (And.intro hcs hlc); have HX := Aside0.mk (And.intro hX (blk_of_cell hX)); clear hfold hst hfit hb4 hB hS hcs hlc hpi hX) | (go_at_call 15; refine (st_Propagate (FInv N cs) cs (fun k => w.heap.size < k) g vals cls marks _ (FInv.step HCS.out.1) (fun k hk => Nat.lt_of_lt_of_le HX.out.2 hk) HPI.out).mono ?_; rintro e w5 ⟨vals5, cls5, marks5, m5, rfl, hpi5, hor5⟩; have H5 := Aside0.mk (And.intro hpi5 hor5); have HB5 := Aside0.mk (hpi5.rest.below HB.out (fun k h => Nat.le_of_lt h)); have HX5 := Aside0.mk ((World.cell?_of_block (a := ⟨w.heap.size, 2, none⟩) (hpi5.rest.block w.heap.size HX.out.2 (Nat.lt_irrefl _))).trans HX.out.1); clear hpi5 hor5) | (go_at_call 20; refine (st_Marks (fun k => w.heap.size < k) g vals5 cls5 marks5 _ H5.out.1.st (by have h8 := H5.out.1.fit.sum; have h9 := H5.out.1.fit.v.max; omega)).mono ?_; rintro e w6 ⟨v6, rfl, hv6, hb6⟩; obtain ⟨A6, c6, rfl⟩ := Kd.R_slice hv6; have HC6 := Aside0.mk (Kd.R_reads' hv6).2.2; have HB6 := Aside0.mk hb6; have HX6 := Aside0.mk ((hb6.cell (World.block_lt_of_cell? _ _ HX5.out)).trans HX5.out); clear hv6 hb6) | (go_at_call 19; refine (st_Clauses (fun k => w.heap.size < k) g vals5 cls5 marks5 _ (H5.out.1.st.below HB6.out) H5.out.1.fit.cap (fun x hx => HCS.out.2 x.1 (by rw [← H5.out.1.cs]; exact List.mem_map_of_mem hx))).mono ?_; rintro e w7 ⟨v7, rfl, hv7, hb7⟩; rw [H5.out.1.cs] at hv7; obtain ⟨A7, c7, rfl⟩ := Kd.R_slice hv7; have HC7 := Aside0.mk (Kd.R_reads' hv7).2.2; have HC67 := Aside0.mk (Kd.C_below HC6.out hb7); have HB7 := Aside0.mk (below_step (below_step HB5.out HB6.out) hb7); have hX7 := (hb7.cell (World.block_lt_of_cell? _ _ HX6.out)).trans HX6.out; clear hv7 hb7))
  have hcl5 : cs.length ≤ 1048576 := by rw [← H5.out.1.cs, List.length_map]; exact H5.out.1.fit.cap
  have hml5 : marks5.length ≤ 4194304 := by have h8 := H5.out.1.fit.sum; have h9 := H5.out.1.fit.v.max; omega
  have hm5 : -1 ≤ m5 := by rcases H5.out.2 with ⟨q, _⟩ | ⟨i, c, q, _⟩ <;> omega
  go_loopg [9] cs.length (fun kq v9 w' => ∃ i : Nat, v9 = .int .i64 (i : Int) ∧ i + kq = cs.length ∧ Aside0 (∀ (j : Nat) (c : List Int), j < i → cs[j]? = some c → c.any (fun x => tru x lt) = true) ∧ Drawn0 w7 w')
  case atStart => exact ⟨0, rfl, by omega, ⟨fun j c h => by omega⟩, by repeat (first | exact Drawn0.refl _ | apply Drawn0.step)⟩
  case round =>
    obtain ⟨i, rfl, hik, HA, ⟨m1, rfl⟩⟩ := hrel
    cases gk with
    | succ k1 =>
      have hlt : i < cs.length := by omega
      obtain ⟨ad, Ax, cx, rfl, hxc, hcx, hxC⟩ := at_L2 HC7.out (i : Int) (by omega) (by omega)
      rw [Int.toNat_natCast] at hxc
      have hci : cs[i]? = some (rd_L2 cs (i : Int)) := by
        rw [List.getElem?_eq_getElem hlt]
        simp [rd_L2, List.getD_eq_getElem?_getD, List.getElem?_eq_getElem hlt]
      obtain ⟨c, hc⟩ : ∃ c, c = rd_L2 cs (i : Int) := ⟨_, rfl⟩
      rw [← hc] at hxc hcx hxC hci
      have hcm := List.mem_of_getElem? hci
      have HMF := Aside0.mk (Made_f (T := lt) (c := c) (fun x hx => by have h1 := HCS.out.1 c hcm x hx; have h2 := H5.out.1.fit.v.max; have h3 := H5.out.1.inv.len; omega) (by have := HCS.out.2 c hcm; omega))
      have HXC := Aside0.mk (And.intro hxC hcx)
      have HCI := Aside0.mk hci
      obtain ⟨b, hb⟩ : ∃ b, b = c.any (fun x => tru x lt) := ⟨_, rfl⟩
      rw [← hb] at HMF
      have HBB := Aside0.mk hb
      clear hc hcx hxC hci hcm hb
      cases b with
      | true =>
        go_wp2
        go_quiet (first | (go_at_call 23; refine quiet_add (Calls.mono (fulcrumref18_Made.calls (c.length + 1) Ax cx c At ct lt _ _ (by repeat (first | exact HXC.out.1 | refine Kd.C_drewN ?_ _ | refine Kd.C_drew ?_)) HXC.out.2 (by repeat (first | exact (Kd.C_below HRT.out.1 HB7.out) | refine Kd.C_drewN ?_ _ | refine Kd.C_drew ?_)) HRT.out.2 HMF.out) (fun _ _ h => ⟨h.1, h.2.out⟩))))
        go_wp2
        go_roundg k1
        case measure => omega
        case rel =>
          refine ⟨i + 1, by go_num, by omega, ⟨fun j c' hj hc' => ?_⟩, by repeat (first | exact Drawn0.refl _ | apply Drawn0.step)⟩
          by_cases hji : j = i
          · subst hji
            obtain rfl : c' = c := Option.some.inj (hc'.symm.trans HCI.out)
            exact HBB.out.symm
          · exact HA.out j c' (by omega) hc'
      | false =>
        have dge : decide (m5 ≥ -1) = true := decide_eq_true hm5
        have dge' : decide (-1 ≤ m5) = true := decide_eq_true hm5
        go_wp2
        go_quiet (first | (go_at_call 23; refine quiet_add (Calls.mono (fulcrumref18_Made.calls (c.length + 1) Ax cx c At ct lt _ _ (by repeat (first | exact HXC.out.1 | refine Kd.C_drewN ?_ _ | refine Kd.C_drew ?_)) HXC.out.2 (by repeat (first | exact (Kd.C_below HRT.out.1 HB7.out) | refine Kd.C_drewN ?_ _ | refine Kd.C_drew ?_)) HRT.out.2 HMF.out) (fun _ _ h => ⟨h.1, h.2.out⟩))))
        go_wp2
        go_ret
        exact ⟨rfl, by repeat (first | exact HB7.out | apply pw_below_drewN | apply below_drew1)⟩
    | zero =>
      obtain rfl : i = cs.length := by omega
      have HT : Aside0 (∀ c ∈ cs, c.any (fun x => tru x lt) = true) := ⟨fun c hc => by
        obtain ⟨j, hj⟩ := List.mem_iff_getElem?.1 hc
        exact HA.out j c (List.getElem?_eq_some_iff.1 hj).1 hj⟩
      clear HA
      go_wp2
      go_loopg [11] marks5.length (fun kq v11 w' => ∃ i : Nat, v11 = .int .i64 (i : Int) ∧ i + kq = marks5.length ∧ Aside0 (∀ (j : Nat) (mk : S48), j < i → marks5[j]? = some mk → mk.f2 = -1 → tru mk.f0 lt = true) ∧ Drawn0 w7 w')
      case atStart => exact ⟨0, rfl, by omega, ⟨fun j c h => by omega⟩, by repeat (first | exact Drawn0.refl _ | apply Drawn0.step)⟩
      case round =>
        obtain ⟨i, rfl, hik, HA, ⟨m2, rfl⟩⟩ := hrel
        cases gk with
        | succ k1 =>
          have hlt : i < marks5.length := by omega
          obtain ⟨ad, rfl, hx0, hx1, hx2⟩ := at_T48 HC67.out (i : Int) (by omega) (by omega)
          rw [Int.toNat_natCast] at hx0 hx2
          clear hx1
          have hmi : marks5[i]? = some (rd_T48 marks5 (i : Int)) := by
            rw [List.getElem?_eq_getElem hlt]
            simp [rd_T48, List.getD_eq_getElem?_getD, List.getElem?_eq_getElem hlt]
          obtain ⟨mk, hmk⟩ : ∃ mk, mk = rd_T48 marks5 (i : Int) := ⟨_, rfl⟩
          rw [← hmk] at hx0 hx2 hmi
          have hmr := H5.out.1.inv.rng mk (List.mem_of_getElem? hmi)
          have HTF := Aside0.mk (True_f (l := mk.f0) (T := lt) (by have h2 := H5.out.1.fit.v.max; have h3 := H5.out.1.inv.len; omega) (by have h2 := H5.out.1.fit.v.max; have h3 := H5.out.1.inv.len; omega))
          obtain ⟨b, hb⟩ : ∃ b, b = tru mk.f0 lt := ⟨_, rfl⟩
          rw [← hb] at HTF
          have HMI := Aside0.mk hmi
          have HBB := Aside0.mk hb
          clear hmk hmi hmr hb
          by_cases hf2 : mk.f2 = -1
          · have df2 : (mk.f2 == -1) = true := beq_iff_eq.2 hf2
            have HF2 := Aside0.mk hf2
            clear hf2
            cases b with
            | true =>
              go_wp2
              go_quiet (first | (go_at_call 24; refine quiet_add (Calls.mono (fulcrumref18_True.calls _ At ct lt _ _ (by repeat (first | exact (Kd.C_below HRT.out.1 HB7.out) | refine Kd.C_drewN ?_ _ | refine Kd.C_drew ?_)) HRT.out.2 HTF.out) (fun _ _ h => ⟨h.1, h.2.out⟩))))
              go_wp2
              go_roundg k1
              case measure => omega
              case rel =>
                refine ⟨i + 1, by go_num, by omega, ⟨fun j mk' hj hm' => ?_⟩, by repeat (first | exact Drawn0.refl _ | apply Drawn0.step)⟩
                by_cases hji : j = i
                · subst hji
                  obtain rfl : mk' = mk := Option.some.inj (hm'.symm.trans HMI.out)
                  exact fun _ => HBB.out.symm
                · exact HA.out j mk' (by omega) hm'
            | false =>
              go_wp2
              go_quiet (first | (go_at_call 24; refine quiet_add (Calls.mono (fulcrumref18_True.calls _ At ct lt _ _ (by repeat (first | exact (Kd.C_below HRT.out.1 HB7.out) | refine Kd.C_drewN ?_ _ | refine Kd.C_drew ?_)) HRT.out.2 HTF.out) (fun _ _ h => ⟨h.1, h.2.out⟩))))
              go_wp2
              go_ret
              exact ⟨rfl, by repeat (first | exact HB7.out | apply pw_below_drewN | apply below_drew1)⟩
          · have df2 : (mk.f2 == -1) = false := beq_eq_false_iff_ne.2 hf2
            have HF2 := Aside0.mk hf2
            clear hf2
            go_wp2
            go_quiet (fail)
            go_wp2
            go_roundg k1
            case measure => omega
            case rel =>
              refine ⟨i + 1, by go_num, by omega, ⟨fun j mk' hj hm' => ?_⟩, by repeat (first | exact Drawn0.refl _ | apply Drawn0.step)⟩
              by_cases hji : j = i
              · subst hji
                obtain rfl : mk' = mk := Option.some.inj (hm'.symm.trans HMI.out)
                exact fun q => absurd q HF2.out
              · exact HA.out j mk' (by omega) hm'
        | zero =>
          obtain rfl : i = marks5.length := by omega
          have HD : Aside0 (∀ mk ∈ marks5, mk.f2 = -1 → tru mk.f0 lt = true) := ⟨fun mk hm => by
            obtain ⟨j, hj⟩ := List.mem_iff_getElem?.1 hm
            exact HA.out j mk (List.getElem?_eq_some_iff.1 hj).1 hj⟩
          have HALL := Aside0.mk (H5.out.1.inv.snd lt HT.out HD.out)
          have hm5e : m5 = -1 := by
            rcases H5.out.2 with ⟨q, _⟩ | ⟨j, c, _, hj, hs⟩
            · exact q
            · exact absurd (H5.out.1.inv.end_ HCS.out.1 HT.out HD.out hj hs) id
          subst hm5e
          clear HA
          go_wp2
          go_loopg [12] marks5.length (fun kq v12 w' => ∃ i : Nat, v12 = .int .i64 (i : Int) ∧ i + kq = marks5.length ∧ Drawn0 w7 w')
          case atStart => exact ⟨0, rfl, by omega, by repeat (first | exact Drawn0.refl _ | apply Drawn0.step)⟩
          case round =>
            obtain ⟨i, rfl, hik, ⟨m3, rfl⟩⟩ := hrel
            cases gk with
            | succ k1 =>
              have hlt : i < marks5.length := by omega
              obtain ⟨ad, rfl, hx0, hx1, hx2⟩ := at_T48 HC67.out (i : Int) (by omega) (by omega)
              rw [Int.toNat_natCast] at hx0 hx2
              clear hx1
              have hmi : marks5[i]? = some (rd_T48 marks5 (i : Int)) := by
                rw [List.getElem?_eq_getElem hlt]
                simp [rd_T48, List.getD_eq_getElem?_getD, List.getElem?_eq_getElem hlt]
              obtain ⟨mk, hmk⟩ : ∃ mk, mk = rd_T48 marks5 (i : Int) := ⟨_, rfl⟩
              rw [← hmk] at hx0 hx2 hmi
              have hmr := H5.out.1.inv.rng mk (List.mem_of_getElem? hmi)
              have HTF := Aside0.mk (True_f (l := mk.f0) (T := lt) (by have h2 := H5.out.1.fit.v.max; have h3 := H5.out.1.inv.len; omega) (by have h2 := H5.out.1.fit.v.max; have h3 := H5.out.1.inv.len; omega))
              obtain ⟨b, hb⟩ : ∃ b, b = tru mk.f0 lt := ⟨_, rfl⟩
              rw [← hb] at HTF
              have HMI := Aside0.mk hmi
              have HBB := Aside0.mk hb
              clear hmk hmi hmr hb
              obtain rfl : b = true := HBB.out.trans (HALL.out mk (List.mem_of_getElem? HMI.out))
              go_wp2
              go_quiet (first | (go_at_call 24; refine quiet_add (Calls.mono (fulcrumref18_True.calls _ At ct lt _ _ (by repeat (first | exact (Kd.C_below HRT.out.1 HB7.out) | refine Kd.C_drewN ?_ _ | refine Kd.C_drew ?_)) HRT.out.2 HTF.out) (fun _ _ h => ⟨h.1, h.2.out⟩))))
              go_wp2
              go_roundg k1
              case measure => omega
              case rel => exact ⟨i + 1, by go_num, by omega, by repeat (first | exact Drawn0.refl _ | apply Drawn0.step)⟩
            | zero =>
              obtain rfl : i = marks5.length := by omega
              go_wp2
              go_ret
              exact ⟨rfl, by repeat (first | exact HB7.out | apply pw_below_drewN | apply below_drew1)⟩

set_option maxHeartbeats 16000000 in
set_option maxRecDepth 100000 in
theorem follow_walkB (n : Int) (dq1 : decide (n < 0) = false) (dq2 : decide (262144 < n) = true) (Ad : Option Addr) (cd : Nat) (ld : List Int) (At : Option Addr) (ct : Nat) (lt : List Bool) (A0 : Option Addr) (c0 : Nat) (l0 : List (List Int)) (w : World)
    (hr0 : Kd.C (Kd.slice 3 (Kd.int .i64)) w A0 l0.length l0) (hrd : Kd.C (Kd.int .i64) w Ad ld.length ld) (hrt : Kd.C Kd.bool w At lt.length lt) (hct : lt.length ≤ ct) (hl0 : l0.length < 1048576) (hl1 : ∀ c ∈ l0, c.length ≤ 4194304) (hl2 : ld.length ≤ 1048576) :
    Calls Try.prog 5 #[.agg #[.int .i64 n, .slice Ad ld.length cd, .slice At lt.length ct], .slice A0 l0.length c0] w fun e w' => e = .returned (.bool true) ∧ Below w.heap.size w w' := by
  have HR0 := Aside0.mk hr0
  have HRD := Aside0.mk hrd
  have HRT := Aside0.mk (And.intro hrt hct)
  have HL := Aside0.mk (And.intro hl0 (And.intro hl1 hl2))
  clear hr0 hrd hrt hct hl0 hl1 hl2
  go_enter Try.func5, Try.ntmps5
  go_wp2_with (first | (go_at_call 16; refine (st_made _ A0 c0 l0 Ad cd ld _ ?n0 ?n1 (Kd.C_below HR0.out ?b0) (Kd.C_below HRD.out ?b1) HL.out.1 HL.out.2.1 HL.out.2.2).mono ?_; (case n0 => omega); (case n1 => omega); (case b0 => exact by repeat (first | exact Below.refl _ _ | apply below_alloc | (refine below_set ?_ (Nat.le_refl _)))); (case b1 => exact by repeat (first | exact Below.refl _ _ | apply below_alloc | (refine below_set ?_ (Nat.le_refl _)))); rintro e w4 ⟨g, vals, marks, rfl, hfold, hst, hfit, hb4⟩; have hB : Below w.heap.size w w4 := below_step (by repeat (first | exact Below.refl _ _ | apply below_alloc | (refine below_set ?_ (Nat.le_refl _)))) hb4; have hX : w4.cell? ⟨w.heap.size, 2, none⟩ = some (.slice At lt.length ct) := (hb4.cell (by simp)).trans (by simp [go_sem]); have hS : St w4 (fun k => w.heap.size < k) g vals _ marks := hst.mono (fun k hk => by simp at hk; omega); obtain ⟨N, cs, cls, hcs, hlc, hpi⟩ := follow_start HL.out.2.1 hfold hS hfit; have HB := Aside0.mk hB; have HPI := Aside0.mk hpi; have HCS := Aside0.mk (And.intro hcs hlc); have HX := Aside0.mk (And.intro hX (blk_of_cell hX)); clear hfold hst hfit hb4 hB hS hcs hlc hpi hX) | (go_at_call 15; refine (st_Propagate (FInv N cs) cs (fun k => w.heap.size < k) g vals cls marks _ (FInv.step HCS.out.1) (fun k hk => Nat.lt_of_lt_of_le HX.out.2 hk) HPI.out).mono ?_; rintro e w5 ⟨vals5, cls5, marks5, m5, rfl, hpi5, hor5⟩; have H5 := Aside0.mk (And.intro hpi5 hor5); have HB5 := Aside0.mk (hpi5.rest.below HB.out (fun k h => Nat.le_of_lt h)); have HX5 := Aside0.mk ((World.cell?_of_block (a := ⟨w.heap.size, 2, none⟩) (hpi5.rest.block w.heap.size HX.out.2 (Nat.lt_irrefl _))).trans HX.out.1); clear hpi5 hor5) | (go_at_call 20; refine (st_Marks (fun k => w.heap.size < k) g vals5 cls5 marks5 _ H5.out.1.st (by have h8 := H5.out.1.fit.sum; have h9 := H5.out.1.fit.v.max; omega)).mono ?_; rintro e w6 ⟨v6, rfl, hv6, hb6⟩; obtain ⟨A6, c6, rfl⟩ := Kd.R_slice hv6; have HC6 := Aside0.mk (Kd.R_reads' hv6).2.2; have HB6 := Aside0.mk hb6; have HX6 := Aside0.mk ((hb6.cell (World.block_lt_of_cell? _ _ HX5.out)).trans HX5.out); clear hv6 hb6) | (go_at_call 19; refine (st_Clauses (fun k => w.heap.size < k) g vals5 cls5 marks5 _ (H5.out.1.st.below HB6.out) H5.out.1.fit.cap (fun x hx => HCS.out.2 x.1 (by rw [← H5.out.1.cs]; exact List.mem_map_of_mem hx))).mono ?_; rintro e w7 ⟨v7, rfl, hv7, hb7⟩; rw [H5.out.1.cs] at hv7; obtain ⟨A7, c7, rfl⟩ := Kd.R_slice hv7; have HC7 := Aside0.mk (Kd.R_reads' hv7).2.2; have HC67 := Aside0.mk (Kd.C_below HC6.out hb7); have HB7 := Aside0.mk (below_step (below_step HB5.out HB6.out) hb7); have hX7 := (hb7.cell (World.block_lt_of_cell? _ _ HX6.out)).trans HX6.out; clear hv7 hb7))
  have hcl5 : cs.length ≤ 1048576 := by rw [← H5.out.1.cs, List.length_map]; exact H5.out.1.fit.cap
  have hml5 : marks5.length ≤ 4194304 := by have h8 := H5.out.1.fit.sum; have h9 := H5.out.1.fit.v.max; omega
  have hm5 : -1 ≤ m5 := by rcases H5.out.2 with ⟨q, _⟩ | ⟨i, c, q, _⟩ <;> omega
  go_loopg [9] cs.length (fun kq v9 w' => ∃ i : Nat, v9 = .int .i64 (i : Int) ∧ i + kq = cs.length ∧ Aside0 (∀ (j : Nat) (c : List Int), j < i → cs[j]? = some c → c.any (fun x => tru x lt) = true) ∧ Drawn0 w7 w')
  case atStart => exact ⟨0, rfl, by omega, ⟨fun j c h => by omega⟩, by repeat (first | exact Drawn0.refl _ | apply Drawn0.step)⟩
  case round =>
    obtain ⟨i, rfl, hik, HA, ⟨m1, rfl⟩⟩ := hrel
    cases gk with
    | succ k1 =>
      have hlt : i < cs.length := by omega
      obtain ⟨ad, Ax, cx, rfl, hxc, hcx, hxC⟩ := at_L2 HC7.out (i : Int) (by omega) (by omega)
      rw [Int.toNat_natCast] at hxc
      have hci : cs[i]? = some (rd_L2 cs (i : Int)) := by
        rw [List.getElem?_eq_getElem hlt]
        simp [rd_L2, List.getD_eq_getElem?_getD, List.getElem?_eq_getElem hlt]
      obtain ⟨c, hc⟩ : ∃ c, c = rd_L2 cs (i : Int) := ⟨_, rfl⟩
      rw [← hc] at hxc hcx hxC hci
      have hcm := List.mem_of_getElem? hci
      have HMF := Aside0.mk (Made_f (T := lt) (c := c) (fun x hx => by have h1 := HCS.out.1 c hcm x hx; have h2 := H5.out.1.fit.v.max; have h3 := H5.out.1.inv.len; omega) (by have := HCS.out.2 c hcm; omega))
      have HXC := Aside0.mk (And.intro hxC hcx)
      have HCI := Aside0.mk hci
      obtain ⟨b, hb⟩ : ∃ b, b = c.any (fun x => tru x lt) := ⟨_, rfl⟩
      rw [← hb] at HMF
      have HBB := Aside0.mk hb
      clear hc hcx hxC hci hcm hb
      cases b with
      | true =>
        go_wp2
        go_quiet (first | (go_at_call 23; refine quiet_add (Calls.mono (fulcrumref18_Made.calls (c.length + 1) Ax cx c At ct lt _ _ (by repeat (first | exact HXC.out.1 | refine Kd.C_drewN ?_ _ | refine Kd.C_drew ?_)) HXC.out.2 (by repeat (first | exact (Kd.C_below HRT.out.1 HB7.out) | refine Kd.C_drewN ?_ _ | refine Kd.C_drew ?_)) HRT.out.2 HMF.out) (fun _ _ h => ⟨h.1, h.2.out⟩))))
        go_wp2
        go_roundg k1
        case measure => omega
        case rel =>
          refine ⟨i + 1, by go_num, by omega, ⟨fun j c' hj hc' => ?_⟩, by repeat (first | exact Drawn0.refl _ | apply Drawn0.step)⟩
          by_cases hji : j = i
          · subst hji
            obtain rfl : c' = c := Option.some.inj (hc'.symm.trans HCI.out)
            exact HBB.out.symm
          · exact HA.out j c' (by omega) hc'
      | false =>
        have dge : decide (m5 ≥ -1) = true := decide_eq_true hm5
        have dge' : decide (-1 ≤ m5) = true := decide_eq_true hm5
        go_wp2
        go_quiet (first | (go_at_call 23; refine quiet_add (Calls.mono (fulcrumref18_Made.calls (c.length + 1) Ax cx c At ct lt _ _ (by repeat (first | exact HXC.out.1 | refine Kd.C_drewN ?_ _ | refine Kd.C_drew ?_)) HXC.out.2 (by repeat (first | exact (Kd.C_below HRT.out.1 HB7.out) | refine Kd.C_drewN ?_ _ | refine Kd.C_drew ?_)) HRT.out.2 HMF.out) (fun _ _ h => ⟨h.1, h.2.out⟩))))
        go_wp2
        go_ret
        exact ⟨rfl, by repeat (first | exact HB7.out | apply pw_below_drewN | apply below_drew1)⟩
    | zero =>
      obtain rfl : i = cs.length := by omega
      have HT : Aside0 (∀ c ∈ cs, c.any (fun x => tru x lt) = true) := ⟨fun c hc => by
        obtain ⟨j, hj⟩ := List.mem_iff_getElem?.1 hc
        exact HA.out j c (List.getElem?_eq_some_iff.1 hj).1 hj⟩
      clear HA
      go_wp2
      go_loopg [11] marks5.length (fun kq v11 w' => ∃ i : Nat, v11 = .int .i64 (i : Int) ∧ i + kq = marks5.length ∧ Aside0 (∀ (j : Nat) (mk : S48), j < i → marks5[j]? = some mk → mk.f2 = -1 → tru mk.f0 lt = true) ∧ Drawn0 w7 w')
      case atStart => exact ⟨0, rfl, by omega, ⟨fun j c h => by omega⟩, by repeat (first | exact Drawn0.refl _ | apply Drawn0.step)⟩
      case round =>
        obtain ⟨i, rfl, hik, HA, ⟨m2, rfl⟩⟩ := hrel
        cases gk with
        | succ k1 =>
          have hlt : i < marks5.length := by omega
          obtain ⟨ad, rfl, hx0, hx1, hx2⟩ := at_T48 HC67.out (i : Int) (by omega) (by omega)
          rw [Int.toNat_natCast] at hx0 hx2
          clear hx1
          have hmi : marks5[i]? = some (rd_T48 marks5 (i : Int)) := by
            rw [List.getElem?_eq_getElem hlt]
            simp [rd_T48, List.getD_eq_getElem?_getD, List.getElem?_eq_getElem hlt]
          obtain ⟨mk, hmk⟩ : ∃ mk, mk = rd_T48 marks5 (i : Int) := ⟨_, rfl⟩
          rw [← hmk] at hx0 hx2 hmi
          have hmr := H5.out.1.inv.rng mk (List.mem_of_getElem? hmi)
          have HTF := Aside0.mk (True_f (l := mk.f0) (T := lt) (by have h2 := H5.out.1.fit.v.max; have h3 := H5.out.1.inv.len; omega) (by have h2 := H5.out.1.fit.v.max; have h3 := H5.out.1.inv.len; omega))
          obtain ⟨b, hb⟩ : ∃ b, b = tru mk.f0 lt := ⟨_, rfl⟩
          rw [← hb] at HTF
          have HMI := Aside0.mk hmi
          have HBB := Aside0.mk hb
          clear hmk hmi hmr hb
          by_cases hf2 : mk.f2 = -1
          · have df2 : (mk.f2 == -1) = true := beq_iff_eq.2 hf2
            have HF2 := Aside0.mk hf2
            clear hf2
            cases b with
            | true =>
              go_wp2
              go_quiet (first | (go_at_call 24; refine quiet_add (Calls.mono (fulcrumref18_True.calls _ At ct lt _ _ (by repeat (first | exact (Kd.C_below HRT.out.1 HB7.out) | refine Kd.C_drewN ?_ _ | refine Kd.C_drew ?_)) HRT.out.2 HTF.out) (fun _ _ h => ⟨h.1, h.2.out⟩))))
              go_wp2
              go_roundg k1
              case measure => omega
              case rel =>
                refine ⟨i + 1, by go_num, by omega, ⟨fun j mk' hj hm' => ?_⟩, by repeat (first | exact Drawn0.refl _ | apply Drawn0.step)⟩
                by_cases hji : j = i
                · subst hji
                  obtain rfl : mk' = mk := Option.some.inj (hm'.symm.trans HMI.out)
                  exact fun _ => HBB.out.symm
                · exact HA.out j mk' (by omega) hm'
            | false =>
              go_wp2
              go_quiet (first | (go_at_call 24; refine quiet_add (Calls.mono (fulcrumref18_True.calls _ At ct lt _ _ (by repeat (first | exact (Kd.C_below HRT.out.1 HB7.out) | refine Kd.C_drewN ?_ _ | refine Kd.C_drew ?_)) HRT.out.2 HTF.out) (fun _ _ h => ⟨h.1, h.2.out⟩))))
              go_wp2
              go_ret
              exact ⟨rfl, by repeat (first | exact HB7.out | apply pw_below_drewN | apply below_drew1)⟩
          · have df2 : (mk.f2 == -1) = false := beq_eq_false_iff_ne.2 hf2
            have HF2 := Aside0.mk hf2
            clear hf2
            go_wp2
            go_quiet (fail)
            go_wp2
            go_roundg k1
            case measure => omega
            case rel =>
              refine ⟨i + 1, by go_num, by omega, ⟨fun j mk' hj hm' => ?_⟩, by repeat (first | exact Drawn0.refl _ | apply Drawn0.step)⟩
              by_cases hji : j = i
              · subst hji
                obtain rfl : mk' = mk := Option.some.inj (hm'.symm.trans HMI.out)
                exact fun q => absurd q HF2.out
              · exact HA.out j mk' (by omega) hm'
        | zero =>
          obtain rfl : i = marks5.length := by omega
          have HD : Aside0 (∀ mk ∈ marks5, mk.f2 = -1 → tru mk.f0 lt = true) := ⟨fun mk hm => by
            obtain ⟨j, hj⟩ := List.mem_iff_getElem?.1 hm
            exact HA.out j mk (List.getElem?_eq_some_iff.1 hj).1 hj⟩
          have HALL := Aside0.mk (H5.out.1.inv.snd lt HT.out HD.out)
          have hm5e : m5 = -1 := by
            rcases H5.out.2 with ⟨q, _⟩ | ⟨j, c, _, hj, hs⟩
            · exact q
            · exact absurd (H5.out.1.inv.end_ HCS.out.1 HT.out HD.out hj hs) id
          subst hm5e
          clear HA
          go_wp2
          go_loopg [12] marks5.length (fun kq v12 w' => ∃ i : Nat, v12 = .int .i64 (i : Int) ∧ i + kq = marks5.length ∧ Drawn0 w7 w')
          case atStart => exact ⟨0, rfl, by omega, by repeat (first | exact Drawn0.refl _ | apply Drawn0.step)⟩
          case round =>
            obtain ⟨i, rfl, hik, ⟨m3, rfl⟩⟩ := hrel
            cases gk with
            | succ k1 =>
              have hlt : i < marks5.length := by omega
              obtain ⟨ad, rfl, hx0, hx1, hx2⟩ := at_T48 HC67.out (i : Int) (by omega) (by omega)
              rw [Int.toNat_natCast] at hx0 hx2
              clear hx1
              have hmi : marks5[i]? = some (rd_T48 marks5 (i : Int)) := by
                rw [List.getElem?_eq_getElem hlt]
                simp [rd_T48, List.getD_eq_getElem?_getD, List.getElem?_eq_getElem hlt]
              obtain ⟨mk, hmk⟩ : ∃ mk, mk = rd_T48 marks5 (i : Int) := ⟨_, rfl⟩
              rw [← hmk] at hx0 hx2 hmi
              have hmr := H5.out.1.inv.rng mk (List.mem_of_getElem? hmi)
              have HTF := Aside0.mk (True_f (l := mk.f0) (T := lt) (by have h2 := H5.out.1.fit.v.max; have h3 := H5.out.1.inv.len; omega) (by have h2 := H5.out.1.fit.v.max; have h3 := H5.out.1.inv.len; omega))
              obtain ⟨b, hb⟩ : ∃ b, b = tru mk.f0 lt := ⟨_, rfl⟩
              rw [← hb] at HTF
              have HMI := Aside0.mk hmi
              have HBB := Aside0.mk hb
              clear hmk hmi hmr hb
              obtain rfl : b = true := HBB.out.trans (HALL.out mk (List.mem_of_getElem? HMI.out))
              go_wp2
              go_quiet (first | (go_at_call 24; refine quiet_add (Calls.mono (fulcrumref18_True.calls _ At ct lt _ _ (by repeat (first | exact (Kd.C_below HRT.out.1 HB7.out) | refine Kd.C_drewN ?_ _ | refine Kd.C_drew ?_)) HRT.out.2 HTF.out) (fun _ _ h => ⟨h.1, h.2.out⟩))))
              go_wp2
              go_roundg k1
              case measure => omega
              case rel => exact ⟨i + 1, by go_num, by omega, by repeat (first | exact Drawn0.refl _ | apply Drawn0.step)⟩
            | zero =>
              obtain rfl : i = marks5.length := by omega
              go_wp2
              go_ret
              exact ⟨rfl, by repeat (first | exact HB7.out | apply pw_below_drewN | apply below_drew1)⟩

set_option maxHeartbeats 16000000 in
set_option maxRecDepth 100000 in
theorem follow_walkC (n : Int) (dq1 : decide (n < 0) = false) (dq2 : decide (262144 < n) = false) (hn0 : 0 ≤ n) (hn1 : n ≤ 262144) (Ad : Option Addr) (cd : Nat) (ld : List Int) (At : Option Addr) (ct : Nat) (lt : List Bool) (A0 : Option Addr) (c0 : Nat) (l0 : List (List Int)) (w : World)
    (hr0 : Kd.C (Kd.slice 3 (Kd.int .i64)) w A0 l0.length l0) (hrd : Kd.C (Kd.int .i64) w Ad ld.length ld) (hrt : Kd.C Kd.bool w At lt.length lt) (hct : lt.length ≤ ct) (hl0 : l0.length < 1048576) (hl1 : ∀ c ∈ l0, c.length ≤ 4194304) (hl2 : ld.length ≤ 1048576) :
    Calls Try.prog 5 #[.agg #[.int .i64 n, .slice Ad ld.length cd, .slice At lt.length ct], .slice A0 l0.length c0] w fun e w' => e = .returned (.bool true) ∧ Below w.heap.size w w' := by
  have HR0 := Aside0.mk hr0
  have HRD := Aside0.mk hrd
  have HRT := Aside0.mk (And.intro hrt hct)
  have HL := Aside0.mk (And.intro hl0 (And.intro hl1 hl2))
  clear hr0 hrd hrt hct hl0 hl1 hl2
  go_enter Try.func5, Try.ntmps5
  go_wp2_with (first | (go_at_call 16; refine (st_made _ A0 c0 l0 Ad cd ld _ ?n0 ?n1 (Kd.C_below HR0.out ?b0) (Kd.C_below HRD.out ?b1) HL.out.1 HL.out.2.1 HL.out.2.2).mono ?_; (case n0 => omega); (case n1 => omega); (case b0 => exact by repeat (first | exact Below.refl _ _ | apply below_alloc | (refine below_set ?_ (Nat.le_refl _)))); (case b1 => exact by repeat (first | exact Below.refl _ _ | apply below_alloc | (refine below_set ?_ (Nat.le_refl _)))); rintro e w4 ⟨g, vals, marks, rfl, hfold, hst, hfit, hb4⟩; have hB : Below w.heap.size w w4 := below_step (by repeat (first | exact Below.refl _ _ | apply below_alloc | (refine below_set ?_ (Nat.le_refl _)))) hb4; have hX : w4.cell? ⟨w.heap.size, 2, none⟩ = some (.slice At lt.length ct) := (hb4.cell (by simp)).trans (by simp [go_sem]); have hS : St w4 (fun k => w.heap.size < k) g vals _ marks := hst.mono (fun k hk => by simp at hk; omega); obtain ⟨N, cs, cls, hcs, hlc, hpi⟩ := follow_start HL.out.2.1 hfold hS hfit; have HB := Aside0.mk hB; have HPI := Aside0.mk hpi; have HCS := Aside0.mk (And.intro hcs hlc); have HX := Aside0.mk (And.intro hX (blk_of_cell hX)); clear hfold hst hfit hb4 hB hS hcs hlc hpi hX) | (go_at_call 15; refine (st_Propagate (FInv N cs) cs (fun k => w.heap.size < k) g vals cls marks _ (FInv.step HCS.out.1) (fun k hk => Nat.lt_of_lt_of_le HX.out.2 hk) HPI.out).mono ?_; rintro e w5 ⟨vals5, cls5, marks5, m5, rfl, hpi5, hor5⟩; have H5 := Aside0.mk (And.intro hpi5 hor5); have HB5 := Aside0.mk (hpi5.rest.below HB.out (fun k h => Nat.le_of_lt h)); have HX5 := Aside0.mk ((World.cell?_of_block (a := ⟨w.heap.size, 2, none⟩) (hpi5.rest.block w.heap.size HX.out.2 (Nat.lt_irrefl _))).trans HX.out.1); clear hpi5 hor5) | (go_at_call 20; refine (st_Marks (fun k => w.heap.size < k) g vals5 cls5 marks5 _ H5.out.1.st (by have h8 := H5.out.1.fit.sum; have h9 := H5.out.1.fit.v.max; omega)).mono ?_; rintro e w6 ⟨v6, rfl, hv6, hb6⟩; obtain ⟨A6, c6, rfl⟩ := Kd.R_slice hv6; have HC6 := Aside0.mk (Kd.R_reads' hv6).2.2; have HB6 := Aside0.mk hb6; have HX6 := Aside0.mk ((hb6.cell (World.block_lt_of_cell? _ _ HX5.out)).trans HX5.out); clear hv6 hb6) | (go_at_call 19; refine (st_Clauses (fun k => w.heap.size < k) g vals5 cls5 marks5 _ (H5.out.1.st.below HB6.out) H5.out.1.fit.cap (fun x hx => HCS.out.2 x.1 (by rw [← H5.out.1.cs]; exact List.mem_map_of_mem hx))).mono ?_; rintro e w7 ⟨v7, rfl, hv7, hb7⟩; rw [H5.out.1.cs] at hv7; obtain ⟨A7, c7, rfl⟩ := Kd.R_slice hv7; have HC7 := Aside0.mk (Kd.R_reads' hv7).2.2; have HC67 := Aside0.mk (Kd.C_below HC6.out hb7); have HB7 := Aside0.mk (below_step (below_step HB5.out HB6.out) hb7); have hX7 := (hb7.cell (World.block_lt_of_cell? _ _ HX6.out)).trans HX6.out; clear hv7 hb7))
  have hcl5 : cs.length ≤ 1048576 := by rw [← H5.out.1.cs, List.length_map]; exact H5.out.1.fit.cap
  have hml5 : marks5.length ≤ 4194304 := by have h8 := H5.out.1.fit.sum; have h9 := H5.out.1.fit.v.max; omega
  have hm5 : -1 ≤ m5 := by rcases H5.out.2 with ⟨q, _⟩ | ⟨i, c, q, _⟩ <;> omega
  go_loopg [9] cs.length (fun kq v9 w' => ∃ i : Nat, v9 = .int .i64 (i : Int) ∧ i + kq = cs.length ∧ Aside0 (∀ (j : Nat) (c : List Int), j < i → cs[j]? = some c → c.any (fun x => tru x lt) = true) ∧ Drawn0 w7 w')
  case atStart => exact ⟨0, rfl, by omega, ⟨fun j c h => by omega⟩, by repeat (first | exact Drawn0.refl _ | apply Drawn0.step)⟩
  case round =>
    obtain ⟨i, rfl, hik, HA, ⟨m1, rfl⟩⟩ := hrel
    cases gk with
    | succ k1 =>
      have hlt : i < cs.length := by omega
      obtain ⟨ad, Ax, cx, rfl, hxc, hcx, hxC⟩ := at_L2 HC7.out (i : Int) (by omega) (by omega)
      rw [Int.toNat_natCast] at hxc
      have hci : cs[i]? = some (rd_L2 cs (i : Int)) := by
        rw [List.getElem?_eq_getElem hlt]
        simp [rd_L2, List.getD_eq_getElem?_getD, List.getElem?_eq_getElem hlt]
      obtain ⟨c, hc⟩ : ∃ c, c = rd_L2 cs (i : Int) := ⟨_, rfl⟩
      rw [← hc] at hxc hcx hxC hci
      have hcm := List.mem_of_getElem? hci
      have HMF := Aside0.mk (Made_f (T := lt) (c := c) (fun x hx => by have h1 := HCS.out.1 c hcm x hx; have h2 := H5.out.1.fit.v.max; have h3 := H5.out.1.inv.len; omega) (by have := HCS.out.2 c hcm; omega))
      have HXC := Aside0.mk (And.intro hxC hcx)
      have HCI := Aside0.mk hci
      obtain ⟨b, hb⟩ : ∃ b, b = c.any (fun x => tru x lt) := ⟨_, rfl⟩
      rw [← hb] at HMF
      have HBB := Aside0.mk hb
      clear hc hcx hxC hci hcm hb
      cases b with
      | true =>
        go_wp2
        go_quiet (first | (go_at_call 23; refine quiet_add (Calls.mono (fulcrumref18_Made.calls (c.length + 1) Ax cx c At ct lt _ _ (by repeat (first | exact HXC.out.1 | refine Kd.C_drewN ?_ _ | refine Kd.C_drew ?_)) HXC.out.2 (by repeat (first | exact (Kd.C_below HRT.out.1 HB7.out) | refine Kd.C_drewN ?_ _ | refine Kd.C_drew ?_)) HRT.out.2 HMF.out) (fun _ _ h => ⟨h.1, h.2.out⟩))))
        go_wp2
        go_roundg k1
        case measure => omega
        case rel =>
          refine ⟨i + 1, by go_num, by omega, ⟨fun j c' hj hc' => ?_⟩, by repeat (first | exact Drawn0.refl _ | apply Drawn0.step)⟩
          by_cases hji : j = i
          · subst hji
            obtain rfl : c' = c := Option.some.inj (hc'.symm.trans HCI.out)
            exact HBB.out.symm
          · exact HA.out j c' (by omega) hc'
      | false =>
        have dge : decide (m5 ≥ -1) = true := decide_eq_true hm5
        have dge' : decide (-1 ≤ m5) = true := decide_eq_true hm5
        go_wp2
        go_quiet (first | (go_at_call 23; refine quiet_add (Calls.mono (fulcrumref18_Made.calls (c.length + 1) Ax cx c At ct lt _ _ (by repeat (first | exact HXC.out.1 | refine Kd.C_drewN ?_ _ | refine Kd.C_drew ?_)) HXC.out.2 (by repeat (first | exact (Kd.C_below HRT.out.1 HB7.out) | refine Kd.C_drewN ?_ _ | refine Kd.C_drew ?_)) HRT.out.2 HMF.out) (fun _ _ h => ⟨h.1, h.2.out⟩))))
        go_wp2
        go_ret
        exact ⟨rfl, by repeat (first | exact HB7.out | apply pw_below_drewN | apply below_drew1)⟩
    | zero =>
      obtain rfl : i = cs.length := by omega
      have HT : Aside0 (∀ c ∈ cs, c.any (fun x => tru x lt) = true) := ⟨fun c hc => by
        obtain ⟨j, hj⟩ := List.mem_iff_getElem?.1 hc
        exact HA.out j c (List.getElem?_eq_some_iff.1 hj).1 hj⟩
      clear HA
      go_wp2
      go_loopg [11] marks5.length (fun kq v11 w' => ∃ i : Nat, v11 = .int .i64 (i : Int) ∧ i + kq = marks5.length ∧ Aside0 (∀ (j : Nat) (mk : S48), j < i → marks5[j]? = some mk → mk.f2 = -1 → tru mk.f0 lt = true) ∧ Drawn0 w7 w')
      case atStart => exact ⟨0, rfl, by omega, ⟨fun j c h => by omega⟩, by repeat (first | exact Drawn0.refl _ | apply Drawn0.step)⟩
      case round =>
        obtain ⟨i, rfl, hik, HA, ⟨m2, rfl⟩⟩ := hrel
        cases gk with
        | succ k1 =>
          have hlt : i < marks5.length := by omega
          obtain ⟨ad, rfl, hx0, hx1, hx2⟩ := at_T48 HC67.out (i : Int) (by omega) (by omega)
          rw [Int.toNat_natCast] at hx0 hx2
          clear hx1
          have hmi : marks5[i]? = some (rd_T48 marks5 (i : Int)) := by
            rw [List.getElem?_eq_getElem hlt]
            simp [rd_T48, List.getD_eq_getElem?_getD, List.getElem?_eq_getElem hlt]
          obtain ⟨mk, hmk⟩ : ∃ mk, mk = rd_T48 marks5 (i : Int) := ⟨_, rfl⟩
          rw [← hmk] at hx0 hx2 hmi
          have hmr := H5.out.1.inv.rng mk (List.mem_of_getElem? hmi)
          have HTF := Aside0.mk (True_f (l := mk.f0) (T := lt) (by have h2 := H5.out.1.fit.v.max; have h3 := H5.out.1.inv.len; omega) (by have h2 := H5.out.1.fit.v.max; have h3 := H5.out.1.inv.len; omega))
          obtain ⟨b, hb⟩ : ∃ b, b = tru mk.f0 lt := ⟨_, rfl⟩
          rw [← hb] at HTF
          have HMI := Aside0.mk hmi
          have HBB := Aside0.mk hb
          clear hmk hmi hmr hb
          by_cases hf2 : mk.f2 = -1
          · have df2 : (mk.f2 == -1) = true := beq_iff_eq.2 hf2
            have HF2 := Aside0.mk hf2
            clear hf2
            cases b with
            | true =>
              go_wp2
              go_quiet (first | (go_at_call 24; refine quiet_add (Calls.mono (fulcrumref18_True.calls _ At ct lt _ _ (by repeat (first | exact (Kd.C_below HRT.out.1 HB7.out) | refine Kd.C_drewN ?_ _ | refine Kd.C_drew ?_)) HRT.out.2 HTF.out) (fun _ _ h => ⟨h.1, h.2.out⟩))))
              go_wp2
              go_roundg k1
              case measure => omega
              case rel =>
                refine ⟨i + 1, by go_num, by omega, ⟨fun j mk' hj hm' => ?_⟩, by repeat (first | exact Drawn0.refl _ | apply Drawn0.step)⟩
                by_cases hji : j = i
                · subst hji
                  obtain rfl : mk' = mk := Option.some.inj (hm'.symm.trans HMI.out)
                  exact fun _ => HBB.out.symm
                · exact HA.out j mk' (by omega) hm'
            | false =>
              go_wp2
              go_quiet (first | (go_at_call 24; refine quiet_add (Calls.mono (fulcrumref18_True.calls _ At ct lt _ _ (by repeat (first | exact (Kd.C_below HRT.out.1 HB7.out) | refine Kd.C_drewN ?_ _ | refine Kd.C_drew ?_)) HRT.out.2 HTF.out) (fun _ _ h => ⟨h.1, h.2.out⟩))))
              go_wp2
              go_ret
              exact ⟨rfl, by repeat (first | exact HB7.out | apply pw_below_drewN | apply below_drew1)⟩
          · have df2 : (mk.f2 == -1) = false := beq_eq_false_iff_ne.2 hf2
            have HF2 := Aside0.mk hf2
            clear hf2
            go_wp2
            go_quiet (fail)
            go_wp2
            go_roundg k1
            case measure => omega
            case rel =>
              refine ⟨i + 1, by go_num, by omega, ⟨fun j mk' hj hm' => ?_⟩, by repeat (first | exact Drawn0.refl _ | apply Drawn0.step)⟩
              by_cases hji : j = i
              · subst hji
                obtain rfl : mk' = mk := Option.some.inj (hm'.symm.trans HMI.out)
                exact fun q => absurd q HF2.out
              · exact HA.out j mk' (by omega) hm'
        | zero =>
          obtain rfl : i = marks5.length := by omega
          have HD : Aside0 (∀ mk ∈ marks5, mk.f2 = -1 → tru mk.f0 lt = true) := ⟨fun mk hm => by
            obtain ⟨j, hj⟩ := List.mem_iff_getElem?.1 hm
            exact HA.out j mk (List.getElem?_eq_some_iff.1 hj).1 hj⟩
          have HALL := Aside0.mk (H5.out.1.inv.snd lt HT.out HD.out)
          have hm5e : m5 = -1 := by
            rcases H5.out.2 with ⟨q, _⟩ | ⟨j, c, _, hj, hs⟩
            · exact q
            · exact absurd (H5.out.1.inv.end_ HCS.out.1 HT.out HD.out hj hs) id
          subst hm5e
          clear HA
          go_wp2
          go_loopg [12] marks5.length (fun kq v12 w' => ∃ i : Nat, v12 = .int .i64 (i : Int) ∧ i + kq = marks5.length ∧ Drawn0 w7 w')
          case atStart => exact ⟨0, rfl, by omega, by repeat (first | exact Drawn0.refl _ | apply Drawn0.step)⟩
          case round =>
            obtain ⟨i, rfl, hik, ⟨m3, rfl⟩⟩ := hrel
            cases gk with
            | succ k1 =>
              have hlt : i < marks5.length := by omega
              obtain ⟨ad, rfl, hx0, hx1, hx2⟩ := at_T48 HC67.out (i : Int) (by omega) (by omega)
              rw [Int.toNat_natCast] at hx0 hx2
              clear hx1
              have hmi : marks5[i]? = some (rd_T48 marks5 (i : Int)) := by
                rw [List.getElem?_eq_getElem hlt]
                simp [rd_T48, List.getD_eq_getElem?_getD, List.getElem?_eq_getElem hlt]
              obtain ⟨mk, hmk⟩ : ∃ mk, mk = rd_T48 marks5 (i : Int) := ⟨_, rfl⟩
              rw [← hmk] at hx0 hx2 hmi
              have hmr := H5.out.1.inv.rng mk (List.mem_of_getElem? hmi)
              have HTF := Aside0.mk (True_f (l := mk.f0) (T := lt) (by have h2 := H5.out.1.fit.v.max; have h3 := H5.out.1.inv.len; omega) (by have h2 := H5.out.1.fit.v.max; have h3 := H5.out.1.inv.len; omega))
              obtain ⟨b, hb⟩ : ∃ b, b = tru mk.f0 lt := ⟨_, rfl⟩
              rw [← hb] at HTF
              have HMI := Aside0.mk hmi
              have HBB := Aside0.mk hb
              clear hmk hmi hmr hb
              obtain rfl : b = true := HBB.out.trans (HALL.out mk (List.mem_of_getElem? HMI.out))
              go_wp2
              go_quiet (first | (go_at_call 24; refine quiet_add (Calls.mono (fulcrumref18_True.calls _ At ct lt _ _ (by repeat (first | exact (Kd.C_below HRT.out.1 HB7.out) | refine Kd.C_drewN ?_ _ | refine Kd.C_drew ?_)) HRT.out.2 HTF.out) (fun _ _ h => ⟨h.1, h.2.out⟩))))
              go_wp2
              go_roundg k1
              case measure => omega
              case rel => exact ⟨i + 1, by go_num, by omega, by repeat (first | exact Drawn0.refl _ | apply Drawn0.step)⟩
            | zero =>
              obtain rfl : i = marks5.length := by omega
              go_wp2
              go_ret
              exact ⟨rfl, by repeat (first | exact HB7.out | apply pw_below_drewN | apply below_drew1)⟩

set_option maxHeartbeats 16000000 in
set_option maxRecDepth 100000 in
theorem follow_walk (n : Int) (Ad : Option Addr) (cd : Nat) (ld : List Int) (At : Option Addr) (ct : Nat) (lt : List Bool) (A0 : Option Addr) (c0 : Nat) (l0 : List (List Int)) (w : World)
    (hr0 : Kd.C (Kd.slice 3 (Kd.int .i64)) w A0 l0.length l0) (hrd : Kd.C (Kd.int .i64) w Ad ld.length ld) (hrt : Kd.C Kd.bool w At lt.length lt) (hct : lt.length ≤ ct) (hl0 : l0.length < 1048576) (hl1 : ∀ c ∈ l0, c.length ≤ 4194304) (hl2 : ld.length ≤ 1048576) :
    Calls Try.prog 5 #[.agg #[.int .i64 n, .slice Ad ld.length cd, .slice At lt.length ct], .slice A0 l0.length c0] w fun e w' => e = .returned (.bool true) ∧ Below w.heap.size w w' := by
  have hcase : (decide (n < 0) = true) ∨ (decide (n < 0) = false ∧ decide (262144 < n) = true) ∨ (decide (n < 0) = false ∧ decide (262144 < n) = false ∧ 0 ≤ n ∧ n ≤ 262144) := by
    simp only [decide_eq_true_eq, decide_eq_false_iff_not]
    omega
  rcases hcase with dq1 | ⟨dq1, dq2⟩ | ⟨dq1, dq2, hn0, hn1⟩
  · exact follow_walkA n dq1 Ad cd ld At ct lt A0 c0 l0 w hr0 hrd hrt hct hl0 hl1 hl2
  · exact follow_walkB n dq1 dq2 Ad cd ld At ct lt A0 c0 l0 w hr0 hrd hrt hct hl0 hl1 hl2
  · exact follow_walkC n dq1 dq2 hn0 hn1 Ad cd ld At ct lt A0 c0 l0 w hr0 hrd hrt hct hl0 hl1 hl2

end Go.Proofs.Ytegaaobiedfjcaa.PU
