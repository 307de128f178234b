import Derived.Test.YtegaaobiedfjcaaSt2
import Derived.Test.YtegaaobiedfjcaaHStep
namespace Go.Proofs.Ytegaaobiedfjcaa.PU
open Go.RowKit Go.Proofs.YtegaaobiedfjcaaW.PrintWords Go.Proofs.YtegaaobiedfjcaaW.PrintLast Go.Proofs.YtegaaobiedfjcaaW.PrintMore Go.Proofs.YtegaaobiedfjcaaH
set_option linter.unusedVariables false
set_option linter.unusedSimpArgs false
/-- A store's field is written: marks. -/
theorem Parts.put3 {w w1 : World} {ok ok' : Nat → Prop} {g : Nat} {vv vc vm v1 : Value} {vals : List Int} {cls : List (List Int × Int × Int)} {marks marks' : List S48} (h : Parts w ok g vv vc vm vals cls marks)
    (hok : ∀ k, ok k → ok' k) (hv : Kd.R k48 48 w1 0 (fun k => (ok' k ∧ k ≠ g) ∧ some k ≠ vv.ownBlock) v1 marks') (hg : w.grownBy w1 vm.ownBlock) :
    Parts (w1.setCell ⟨g, 3, none⟩ v1) ok' g vv vc v1 vals cls marks' := by
  have hgv : some g ≠ vm.ownBlock := fun e => (h.rm.1 g e.symm).1.2 rfl
  have hgl := blk_lt h.blk
  have hb1 : w1.heap[g]? = some (.cells #[.bool true, vv, vc, vm] 55 (0, 0)) := (hg.block g hgl hgv).trans h.blk
  have e1 : Kd.R (Kd.int .i64) 3 w1 0 (fun k => ok k ∧ k ≠ g) vv vals := Kd.R_over h.rv h.rm (by decide) hg
  have e2 : Kd.R kW 80 w1 0 (fun k => (ok k ∧ k ≠ g) ∧ some k ≠ vv.ownBlock) vc cls := Kd.R_over h.rc h.rm (by simp [kW, Kd.pair, Kd.slice, Kd.int, Kd.scalar]) hg
  exact ⟨hok g h.og, by have := blk_set hb1 3 v1; simpa using this, Kd.R_far (Kd.R_mono e1 (fun k hk => ⟨hok k hk.1, hk.2⟩)) (fun k hk => hk.2) _, Kd.R_far (Kd.R_mono e2 (fun k hk => ⟨⟨hok k hk.1.1, hk.1.2⟩, hk.2⟩)) (fun k hk => hk.1.2) _, Kd.R_far hv (fun k hk => hk.1.2) _⟩
/-- An element of values is written. -/
theorem Parts.putv {w : World} {ok : Nat → Prop} {g gv cv : Nat} {vc vm : Value} {vals : List Int} {cls : List (List Int × Int × Int)} {marks : List S48} (h : Parts w ok g (.slice (some ⟨gv, 0, none⟩) vals.length cv) vc vm vals cls marks) (i x : Int) :
    Parts (w.setCell ⟨gv, i.toNat, none⟩ (.int .i64 x)) ok g (.slice (some ⟨gv, 0, none⟩) vals.length cv) vc vm (vals.set i.toNat x) cls marks := by
  have hp := Kd.R_putg h.rv i x
  have hgv : gv ≠ g := (h.rv.1 gv rfl).2
  refine ⟨h.og, blk_far h.blk (fun e => hgv e.symm) _, hp.1, Kd.R_far h.rc (fun k hk e => hk.2 ?_) _, Kd.R_far h.rm (fun k hk e => hk.2 ?_) _⟩
  · rw [e]; rfl
  · rw [e]; rfl
theorem Rest.set' {w w1 : World} {ok : Nat → Prop} (h : Rest w w1 ok) {p : Addr} {q : Prop} (_ : True → q) (hp : p.block < w.heap.size → ok p.block) (u : Value) : Rest w (w1.setCell p u) ok :=
  ⟨h.os, h.tape, h.output, by simpa [World.setCell] using h.size, fun k hk hn => (Below.heap_setCell w1 p u k (fun e => hn (by rw [e]; exact hp (e ▸ hk)))).trans (h.block k hk hn)⟩
theorem box_kept {w1 w2 : World} {g B : Nat} {row : Option Nat} (hg : w1.drew.grownBy w2 row) (hB : B < w1.heap.size) (hne : some B ≠ row) (hgB : B ≠ g) (i j : Nat) (v : Value) : (w2.setCell ⟨g, i, none⟩ v).cell? ⟨B, j, none⟩ = w1.cell? ⟨B, j, none⟩ :=
  World.cell?_of_block (((Below.heap_setCell w2 ⟨g, i, none⟩ v B hgB)).trans (hg.block B hB hne))
def markV (vals : List Int) (l : Int) : List Int := if l < 0 then vals.set (-l).toNat (-1) else vals.set l.toNat 1
set_option maxHeartbeats 4000000 in
set_option maxRecDepth 100000 in
theorem st_mark (ok : Nat → Prop) (g : Nat) (vals : List Int) (cls : List (List Int × Int × Int)) (marks : List S48) (m : S48) (w : World) (h : St w ok g vals cls marks) (h1 : -(vals.length : Int) < m.f0) (h2 : m.f0 < (vals.length : Int)) (hl : marks.length ≤ 4194304) (hvl : vals.length ≤ 262145) :
    Calls Try.prog 37 #[.pointer (some ⟨g, 0, none⟩), .agg #[.int .i64 m.f0, .int .i64 m.f1, .int .i64 m.f2]] w fun e w' => e = .returned (.tuple #[]) ∧ St w' (fun k => ok k ∨ w.heap.size ≤ k) g (markV vals m.f0) cls (marks ++ [m]) ∧ Rest w w' ok := by
  obtain ⟨vv, vc, vm, h⟩ := h
  obtain ⟨a, b, c⟩ := m
  obtain ⟨Am, cm, rfl, hlm, hCm⟩ := Kd.R_reads h.rm
  have HP := Aside0.mk h
  clear hCm
  simp only at h1 h2
  go_enter Try.func37, Try.ntmps37
  go_wp2
  have hp1 := h.step (w1 := w.alloc (.cells #[.int .i64 a, .int .i64 b, .int .i64 c] 48)) (fun k _ hk => (below_alloc (Below.refl w.heap.size w) _).block k hk)
  have c3 := hp1.c3
  have f3 := hp1.f 3
  obtain ⟨w1, hw1⟩ : ∃ w1, w1 = w.alloc (.cells #[.int .i64 a, .int .i64 b, .int .i64 c] 48) := ⟨_, rfl⟩
  have b0 : w1.cell? ⟨w.heap.size, 0, none⟩ = some (.int .i64 a) := by rw [hw1]; simp [go_sem]
  have b1 : w1.cell? ⟨w.heap.size, 1, none⟩ = some (.int .i64 b) := by rw [hw1]; simp [go_sem]
  have b2 : w1.cell? ⟨w.heap.size, 2, none⟩ = some (.int .i64 c) := by rw [hw1]; simp [go_sem]
  rw [← hw1] at hp1 c3 f3 ⊢
  have HW := Aside0.mk hw1
  have HP1 := Aside0.mk hp1
  clear h hp1 hw1
  have HF : Aside0 (∀ k, w.heap.size ≤ k → ((ok k ∨ w.heap.size ≤ k) ∧ k ≠ g) ∧ some k ≠ vv.ownBlock) := ⟨fun k hk => ⟨⟨.inr hk, fun e => by have := blk_lt HP.out.blk; omega⟩, fun e => by have := Kd.R_lt HP.out.rv k e.symm; omega⟩⟩
  have HO : Aside0 (Kd.R k48 48 w1 0 (fun k => ((ok k ∨ w.heap.size ≤ k) ∧ k ≠ g) ∧ some k ≠ vv.ownBlock) (.slice Am marks.length cm) marks) := ⟨Kd.R_mono HP1.out.rm (fun k hk => ⟨⟨.inl hk.1.1, hk.1.2⟩, hk.2⟩)⟩
  have hws : w.heap.size ≤ w1.heap.size := by rw [HW.out]; simp
  have HWS := Aside0.mk hws
  have HL := Aside0.mk hl
  clear hws hl
  have c3a : ∀ o : Obj, (w1.alloc o).cell? ⟨g, 3, none⟩ = some (.slice Am marks.length cm) := fun o => ((below_alloc (Below.refl w1.heap.size w1) o).cell (World.block_lt_of_cell? _ _ c3)).trans c3
  go_region_law (refine R_append_drew k48 (w0 := w1) 0 rfl (.tmp 8) (.tmp 10) 38 48 (.agg #[(.int .i64 0), (.int .i64 0), (.int .i64 0)]) 24 rfl Try.underlying38 info_mark rfl (by decide) (by omega) (.slice Am marks.length cm) marks (⟨a, b, c⟩ : S48) [.int .i64 a, .int .i64 b, .int .i64 c] (fun k => ((ok k ∨ w.heap.size ≤ k) ∧ k ≠ g) ∧ some k ≠ vv.ownBlock) (fun _ => False) (by simp [Act.eval, Act.put]) (by simp [Act.eval, Act.put]) ?aP (fun _ hk => hk.elim) ?aF ?aO ?aB ?aS ?aL ?_; (case aP => exact k48_mkM _ _ _ (⟨a, b, c⟩ : S48)); (case aF => exact fun k hk => HF.out k (Nat.le_trans HWS.out hk)); (case aO => exact Kd.R_drew HO.out); (case aB => exact ⟨rfl, rfl, rfl, Nat.le_refl _, fun _ h => by omega⟩); (case aS => exact Nat.zero_le _); (case aL => have := HL.out; omega); intro v1 w2 ho hb hg hat; obtain ⟨A1, cc1, rfl⟩ := Kd.R_slice ho; rw [show (marks ++ [(⟨a, b, c⟩ : S48)]).length = marks.length + 1 from by simp] at ho hat; have hb1 := (hg.block g (blk_lt HP1.out.blk) (fun e => (HP1.out.rm.1 g e.symm).1.2 rfl)).trans HP1.out.blk; have k3 : w2.cell? ⟨g, 3, none⟩ = some (.slice Am marks.length cm) := blk_cell hb1 3; have k3f := blk_frozen hb1 3; have HO1 := Aside0.mk ho; have HG1 := Aside0.mk hg; clear ho hb hg hat hb1)
  all_goals
    have hg0 : w1.grownBy w2 (Value.slice Am marks.length cm).ownBlock := ⟨HG1.out.os, HG1.out.tape, HG1.out.output, HG1.out.size, HG1.out.block⟩
    have hp3 := HP1.out.put3 (ok' := fun k => ok k ∨ w.heap.size ≤ k) (fun k h => .inl h) HO1.out hg0
    have hB : w.heap.size < w1.heap.size := World.block_lt_of_cell? _ _ b0
    have hBv : some w.heap.size ≠ (Value.slice Am marks.length cm).ownBlock := fun e => Nat.lt_irrefl _ (Kd.R_lt HP.out.rm _ e.symm)
    have hBg : w.heap.size ≠ g := fun e => Nat.lt_irrefl _ (e ▸ blk_lt HP.out.blk)
    have d0 := (box_kept HG1.out hB hBv hBg 3 0 (.slice A1 (marks.length + 1) cc1)).trans b0
    have hr3 : Rest w (w2.setCell ⟨g, 3, none⟩ (.slice A1 (marks.length + 1) cc1)) ok := by
      refine Rest.set (p := ⟨g, 3, none⟩) (Rest.grown (w1 := w1) ?_ hg0 (fun k e _ => (HP.out.rm.1 k e).1.1)) HP.out.og _
      rw [HW.out]
      exact (Rest.refl w ok).alloc _
    clear b0 b1 b2 c3 f3 k3 k3f c3a HO HO1 HG1
    obtain ⟨w3, hw3⟩ : ∃ w3, w3 = w2.setCell ⟨g, 3, none⟩ (.slice A1 (marks.length + 1) cc1) := ⟨_, rfl⟩
    rw [← hw3] at hp3 d0 hr3 ⊢
    have HP3 := Aside0.mk hp3
    have HR3 := Aside0.mk hr3
    have c1 := hp3.c1
    obtain ⟨Av, cv, rfl, _, _⟩ := Kd.R_reads hp3.rv
    have hpos : 0 < vals.length := by omega
    obtain ⟨gv, cv', e1, _, _, _⟩ := Kd.R_form hp3.rv hpos
    injection e1 with e1 e2 e3
    subst e1 e3
    clear hp3 hr3 hw3 hB hBv hBg hg0 e2
    by_cases ha : a < 0
    · have hi0 : 0 ≤ -a := by omega
      have hi1 : -a < (vals.length : Int) := by omega
      obtain ⟨x0, hcell, hfro⟩ : ∃ u, w3.cell? ⟨gv, (-a).toNat, none⟩ = some u ∧ w3.frozen? ⟨gv, (-a).toNat, none⟩ = false := ⟨_, Kd.R_celln 0 HP3.out.rv (-a) hi0 hi1⟩
      have hw : IntKind.i64.wrap (-a) = -a := IntWalk.i64_in _ (by omega)
      go_wp2
      go_region
      all_goals
        go_end0
        have hM : markV vals a = vals.set (-a).toNat (-1) := if_pos ha
        exact ⟨rfl, ⟨_, _, _, by rw [hM]; exact (HP3.out.putv (-a) (-1)).step (fun _ _ _ => rfl)⟩, (HR3.out.set' (p := ⟨gv, (-a).toNat, none⟩) (fun _ => (HP3.out.rv.1 gv rfl).1) (fun h => (HP.out.rv.1 gv rfl).1) _).drewN 1⟩
    · have hi0 : 0 ≤ a := by omega
      have hi1 : a < (vals.length : Int) := by omega
      obtain ⟨x0, hcell, hfro⟩ : ∃ u, w3.cell? ⟨gv, a.toNat, none⟩ = some u ∧ w3.frozen? ⟨gv, a.toNat, none⟩ = false := ⟨_, Kd.R_celln 0 HP3.out.rv a hi0 hi1⟩
      go_wp2
      go_region
      all_goals
        go_end0
        have hM : markV vals a = vals.set a.toNat 1 := if_neg (by omega)
        exact ⟨rfl, ⟨_, _, _, by rw [hM]; exact (HP3.out.putv a 1).step (fun _ _ _ => rfl)⟩, (HR3.out.set' (p := ⟨gv, a.toNat, none⟩) (fun _ => (HP3.out.rv.1 gv rfl).1) (fun h => (HP.out.rv.1 gv rfl).1) _).drewN 1⟩

set_option maxHeartbeats 1000000 in
theorem st_lam (ok : Nat → Prop) (g B : Nat) (vals : List Int) (cls : List (List Int × Int × Int)) (marks : List S48) (l : Int) (w : World) (h : St w ok g vals cls marks) (hv : Vals vals) (hB : w.cell? ⟨B, 0, none⟩ = some (.pointer (some ⟨g, 0, none⟩))) :
    Calls Try.prog 46 #[.int .i64 l, .pointer (some ⟨B, 0, none⟩)] w fun e w' => e = .returned (.bool (!(litB ((vals.length : Int) - 1) l))) ∧ w = w' := by
  have H := Aside0.mk h
  have HV := Aside0.mk hv
  obtain ⟨b, hb⟩ : ∃ b, b = litB ((vals.length : Int) - 1) l := ⟨_, rfl⟩
  rw [← hb]
  have HBB := Aside0.mk hb
  clear h hv hb
  go_enter Try.func46, Try.ntmps46
  go_wp2_with (first | (go_at_call 47; refine (st_literal ok g vals cls marks l _ H.out HV.out).mono ?_; rw [← HBB.out]; rintro e w' ⟨rfl, rfl⟩))
  go_ret
  exact ⟨rfl, rfl⟩
set_option maxHeartbeats 1000000 in
theorem st_IndexF (ok : Nat → Prop) (g B : Nat) (vals : List Int) (cls : List (List Int × Int × Int)) (marks : List S48) (A0 : Option Addr) (c0 : Nat) (l0 : List Int) (w : World) (hr0 : Kd.C (Kd.int .i64) w A0 l0.length l0) (h : St w ok g vals cls marks) (hv : Vals vals) (hB : w.cell? ⟨B, 0, none⟩ = some (.pointer (some ⟨g, 0, none⟩))) :
    Calls Try.prog 61 #[.slice A0 l0.length c0, .func (.func 46) #[] #[.pointer (some ⟨B, 0, none⟩)]] w fun e w' => ∃ r : Int, e = .returned (.int .i64 r) ∧ decide (0 ≤ r) = l0.any (fun l => !(litB ((vals.length : Int) - 1) l)) ∧ w = w' := by
  have HR := Aside0.mk hr0
  have H := Aside0.mk h
  have HV := Aside0.mk hv
  have HBB := Aside0.mk hB
  have hmax := Kd.C_max hr0
  clear hr0 h hv hB
  obtain ⟨p, hp⟩ : ∃ p : Int → Bool, p = fun l => !(litB ((vals.length : Int) - 1) l) := ⟨_, rfl⟩
  have HLAM : Aside0 (∀ (x : Int), Calls Try.prog 46 #[.int .i64 x, .pointer (some ⟨B, 0, none⟩)] w fun e w' => e = .returned (.bool (p x)) ∧ w = w') := ⟨fun x => by rw [hp]; exact st_lam ok g B vals cls marks x w H.out HV.out HBB.out⟩
  rw [← hp]
  clear hp
  go_enter Try.func61, Try.ntmps61
  go_wp2
  go_loopg [8] l0.length (fun kq v8 w' => ∃ i : Nat, v8 = .int .i64 i ∧ i + kq = l0.length ∧ Aside0 ((l0.take i).any p = false) ∧ w = w')
  case atStart => exact ⟨0, rfl, by omega, ⟨by simp⟩, rfl⟩
  case round =>
    obtain ⟨i, rfl, hik, HN, rfl⟩ := hrel
    cases gk with
    | succ k1 =>
      have hlt : i < l0.length := by omega
      obtain ⟨ad, rfl, hx⟩ := Kd.at_int HR.out (i : Int) (by omega) (by omega)
      rw [Int.toNat_natCast] at hx
      have hsn : (l0.take (i + 1)).any p = p (rd l0 (i : Int)) := by
        rw [List.take_succ_eq_append_getElem hlt, List.any_append, HN.out]
        simp [rd, List.getD_eq_getElem?_getD, List.getElem?_eq_getElem hlt]
      have hall : l0.any p = ((l0.take (i + 1)).any p || (l0.drop (i + 1)).any p) := by rw [← List.any_append, List.take_append_drop]
      cases hpx : p (rd l0 (i : Int)) with
      | true =>
        have HP := Aside0.mk hpx
        have HALL : Aside0 (l0.any p = true) := ⟨by rw [hall, hsn, hpx]; simp⟩
        clear hsn hall hpx
        go_wp2_with (first | (go_at_call 46; refine (HLAM.out _).mono ?_; rw [HP.out]; rintro e w' ⟨rfl, rfl⟩))
        go_ret
        exact ⟨_, rfl, by rw [HALL.out]; simp, rfl⟩
      | false =>
        have HP := Aside0.mk hpx
        have HN1 : Aside0 ((l0.take (i + 1)).any p = false) := ⟨by rw [hsn, hpx]⟩
        clear hsn hall hpx
        go_wp2_with (first | (go_at_call 46; refine (HLAM.out _).mono ?_; rw [HP.out]; rintro e w' ⟨rfl, rfl⟩))
        go_roundg k1
        case measure => omega
        case rel => exact ⟨i + 1, by go_num, by omega, HN1, rfl⟩
    | zero =>
      have hie : i = l0.length := by omega
      subst hie
      rw [List.take_length] at HN
      go_wp2
      go_ret
      exact ⟨_, rfl, by rw [HN.out]; rfl, rfl⟩
set_option maxHeartbeats 1000000 in
theorem st_ContainsF (ok : Nat → Prop) (g B : Nat) (vals : List Int) (cls : List (List Int × Int × Int)) (marks : List S48) (A0 : Option Addr) (c0 : Nat) (l0 : List Int) (w : World) (hr0 : Kd.C (Kd.int .i64) w A0 l0.length l0) (h : St w ok g vals cls marks) (hv : Vals vals) (hB : w.cell? ⟨B, 0, none⟩ = some (.pointer (some ⟨g, 0, none⟩))) :
    Calls Try.prog 45 #[.slice A0 l0.length c0, .func (.func 46) #[] #[.pointer (some ⟨B, 0, none⟩)]] w fun e w' => e = .returned (.bool (l0.any (fun l => !(litB ((vals.length : Int) - 1) l)))) ∧ w = w' := by
  have HC := Aside0.mk (st_IndexF ok g B vals cls marks A0 c0 l0 w hr0 h hv hB)
  obtain ⟨q, hq⟩ : ∃ q, q = l0.any (fun l => !(litB ((vals.length : Int) - 1) l)) := ⟨_, rfl⟩
  rw [← hq] at HC ⊢
  clear hr0 h hv hB hq
  go_enter Try.func45, Try.ntmps45
  go_wp2_with (first | (go_at_call 61; refine HC.out.mono ?_; rintro e w' ⟨r, rfl, hr, rfl⟩; subst hr))
  go_ret
  exact ⟨rfl, rfl⟩

/-- A store's field is written: clauses. -/
theorem Parts.put2 {w w1 : World} {ok ok' : Nat → Prop} {g : Nat} {vv vc vm v1 : Value} {vals : List Int} {cls cls' : List (List Int × Int × Int)} {marks : List S48} (h : Parts w ok g vv vc vm vals cls marks)
    (hok : ∀ k, ok k → ok' k) (hv : Kd.R kW 80 w1 0 (fun k => (ok' k ∧ k ≠ g) ∧ some k ≠ vv.ownBlock) v1 cls') (hg : w.grownBy w1 vc.ownBlock) :
    Parts (w1.setCell ⟨g, 2, none⟩ v1) ok' g vv v1 vm vals cls' marks := by
  have hgv : some g ≠ vc.ownBlock := fun e => (h.rc.1 g e.symm).1.2 rfl
  have hgl := blk_lt h.blk
  have hb1 : w1.heap[g]? = some (.cells #[.bool true, vv, vc, vm] 55 (0, 0)) := (hg.block g hgl hgv).trans h.blk
  have e1 : Kd.R (Kd.int .i64) 3 w1 0 (fun k => ok k ∧ k ≠ g) vv vals := Kd.R_over h.rv h.rc (by decide) hg
  have e2 : Kd.R k48 48 w1 0 (fun k => (ok k ∧ k ≠ g) ∧ some k ≠ vv.ownBlock) vm marks := Kd.R_over h.rm h.rc (by simp [k48, Kd.iso, Kd.pair, Kd.int, Kd.scalar]) hg
  exact ⟨hok g h.og, by have := blk_set hb1 2 v1; simpa using this, Kd.R_far (Kd.R_mono e1 (fun k hk => ⟨hok k hk.1, hk.2⟩)) (fun k hk => hk.2) _, Kd.R_far hv (fun k hk => hk.1.2) _, Kd.R_far (Kd.R_mono e2 (fun k hk => ⟨⟨hok k hk.1.1, hk.1.2⟩, hk.2⟩)) (fun k hk => hk.1.2) _⟩
def litsOk (vals : List Int) (c : List Int) : Bool := !(c.any (fun l => !(litB ((vals.length : Int) - 1) l)))
theorem info_watched : (Try.prog.info? 80).map (fun i => (i.zero, i.size, i.bytes)) = some (some (.agg #[.slice none 0 0, .int .i64 0, .int .i64 0]), 3, 40) := by kernel_rfl
theorem kW_mkM {w : World} {base : Nat} {ok : Nat → Prop} {v : Value} {l : List Int} (h : Kd.R (Kd.int .i64) 3 w base ok v l) (a b : Int) : kW.M w base ok (l, a, b) [v, .int .i64 a, .int .i64 b] :=
  ⟨[v], [.int .i64 a, .int .i64 b], rfl, ⟨v, rfl, h⟩, ⟨[.int .i64 a], [.int .i64 b], rfl, rfl, rfl⟩⟩
set_option maxHeartbeats 2000000 in
theorem st_Add_bad (ok : Nat → Prop) (g : Nat) (vals : List Int) (cls : List (List Int × Int × Int)) (marks : List S48) (A0 : Option Addr) (c0 : Nat) (l0 : List Int) (w : World) (hr0 : Kd.C (Kd.int .i64) w A0 l0.length l0) (h : St w ok g vals cls marks) (hv : Vals vals) (hb : litsOk vals l0 = false) :
    Calls Try.prog 25 #[.pointer (some ⟨g, 0, none⟩), .slice A0 l0.length c0] w fun e w' => e = .returned (.tuple #[.int .i64 0, .int .i64 180]) ∧ Below w.heap.size w w' := by
  have hA := fun (o : Obj) => below_alloc (Below.refl w.heap.size w) o
  have H := Aside0.mk (fun o => h.below (hA o))
  have HR := Aside0.mk (fun o => Kd.C_below hr0 (hA o))
  have HV := Aside0.mk hv
  have HBD : Aside0 (l0.any (fun l => !(litB ((vals.length : Int) - 1) l)) = true) := ⟨by unfold litsOk at hb; simpa using hb⟩
  have c0' : ∀ o, (w.alloc o).cell? ⟨g, 0, none⟩ = some (.bool true) := fun o => by obtain ⟨_, _, _, hp⟩ := H.out o; exact hp.c0
  have C0 := Aside0.mk c0'
  clear h hr0 hv hb hA c0'
  go_enter Try.func25, Try.ntmps25
  go_wp2_with (first | (go_at_call 35; refine (st_is g _ (C0.out _)).mono ?_; rintro e w' ⟨rfl, rfl⟩) | (go_at_call 45; refine (st_ContainsF ok g w.heap.size vals cls marks A0 c0 l0 _ (HR.out _) (H.out _) HV.out (by simp [go_sem])).mono ?_; rw [HBD.out]; rintro e w' ⟨rfl, rfl⟩))
  go_ret2
  exact ⟨rfl, below_alloc (Below.refl _ _) _⟩
set_option maxHeartbeats 8000000 in
set_option maxRecDepth 100000 in
theorem st_Add (ok : Nat → Prop) (g : Nat) (vals : List Int) (cls : List (List Int × Int × Int)) (marks : List S48) (A0 : Option Addr) (c0 : Nat) (l0 : List Int) (w : World) (hr0 : Kd.C (Kd.int .i64) w A0 l0.length l0) (h : St w ok g vals cls marks) (hv : Vals vals) (hb : litsOk vals l0 = true) (hn : cls.length < 1048576) (hl0 : l0.length ≤ 4194304) :
    Calls Try.prog 25 #[.pointer (some ⟨g, 0, none⟩), .slice A0 l0.length c0] w fun e w' => e = .returned (.tuple #[.int .i64 (cls.length : Int), .int .i64 0]) ∧ St w' (fun k => ok k ∨ w.heap.size ≤ k) g vals (cls ++ [(l0, 0, 0)]) marks ∧ Rest w w' ok := by
  have hA := fun (o : Obj) => below_alloc (Below.refl w.heap.size w) o
  have H := Aside0.mk (fun o => h.below (hA o))
  have HR := Aside0.mk (fun o => Kd.C_below hr0 (hA o))
  have HV := Aside0.mk hv
  have HBD : Aside0 (l0.any (fun l => !(litB ((vals.length : Int) - 1) l)) = false) := ⟨by unfold litsOk at hb; simpa using hb⟩
  obtain ⟨vv, vc, vm, h⟩ := h
  obtain ⟨Ac, cc, rfl, _, _⟩ := Kd.R_reads h.rc
  have HP := Aside0.mk h
  have hp1 := fun o => h.step (w1 := w.alloc o) (fun k _ hk => (hA o).block k hk)
  have HP1 := Aside0.mk hp1
  have C0 : Aside0 (∀ o, (w.alloc o).cell? ⟨g, 0, none⟩ = some (.bool true)) := ⟨fun o => (hp1 o).c0⟩
  have c2 : ∀ o, (w.alloc o).cell? ⟨g, 2, none⟩ = some (.slice Ac cls.length cc) := fun o => (hp1 o).c2
  have hne : ((cls.length : Int) == 1048576) = false := by rw [beq_eq_false_iff_ne]; omega
  have HN := Aside0.mk hn
  have HL0 := Aside0.mk hl0
  clear h hr0 hv hb hA hp1 hn hl0
  go_enter Try.func25, Try.ntmps25
  go_wp2_with (first | (go_at_call 35; refine (st_is g _ (C0.out _)).mono ?_; rintro e w' ⟨rfl, rfl⟩) | (go_at_call 45; refine (st_ContainsF ok g w.heap.size vals cls marks A0 c0 l0 _ (HR.out _) (H.out _) HV.out (by simp [go_sem])).mono ?_; rw [HBD.out]; rintro e w' ⟨rfl, rfl⟩))
  have hbx : ∀ p : Value, (w.alloc (.cells #[p] 22)).cell? ⟨w.heap.size, 0, none⟩ = some p := fun p => by simp [go_sem]
  have b0 := hbx (.pointer (some ⟨g, 0, none⟩))
  have c2' := c2 (.cells #[.pointer (some ⟨g, 0, none⟩)] 22)
  have hp1 := HP1.out (.cells #[.pointer (some ⟨g, 0, none⟩)] 22)
  have hr1 := HR.out (.cells #[.pointer (some ⟨g, 0, none⟩)] 22)
  obtain ⟨w1, hw1⟩ : ∃ w1, w1 = w.alloc (.cells #[.pointer (some ⟨g, 0, none⟩)] 22) := ⟨_, rfl⟩
  rw [← hw1] at b0 c2' hp1 hr1 ⊢
  have hws : w.heap.size ≤ w1.heap.size := by rw [hw1]; simp
  have HR1 := Aside0.mk hr1
  have HQ := Aside0.mk hp1
  have HW := Aside0.mk hw1
  have HWS := Aside0.mk hws
  have HF : Aside0 (∀ k, w.heap.size ≤ k → ((ok k ∨ w.heap.size ≤ k) ∧ k ≠ g) ∧ some k ≠ vv.ownBlock) := ⟨fun k hk => ⟨⟨.inr hk, fun e => by have := blk_lt HP.out.blk; omega⟩, fun e => by have := Kd.R_lt HP.out.rv k e.symm; omega⟩⟩
  clear hbx c2 hp1 hr1 hw1 hws C0 HP1 HR H
  go_region_law (first | (refine R_append_law kW (w0 := w1) 0 rfl (.tmp 25) (.tmp 29) 53 80 (.agg #[.slice none 0 0, .int .i64 0, .int .i64 0]) 40 rfl Try.underlying53 info_watched rfl (by decide) (by omega) (.slice Ac cls.length cc) cls (l0, 0, 0) [.slice A1 l0.length cc1, .int .i64 0, .int .i64 0] (fun k => ((ok k ∨ w.heap.size ≤ k) ∧ k ≠ g) ∧ some k ≠ vv.ownBlock) (fun k => w1.heap.size ≤ k) (by simp [Act.eval, Act.put]) (by simp [Act.eval, Act.put]) ?aP ?aK ?aF ?aO ?aB ?aS ?aL ?_; (case aP => exact kW_mkM HO1.out 0 0); (case aK => exact fun k hk => ⟨HF.out k (Nat.le_trans HWS.out hk), fun e => by have := Kd.R_lt HQ.out.rc k e.symm; omega⟩); (case aF => exact fun k hk => HF.out k (Nat.le_trans HWS.out (Nat.le_trans HB1.out.size hk))); (case aO => exact Kd.R_mono (Kd.R_below HQ.out.rc HB1.out) (fun k hk => ⟨⟨.inl hk.1.1, hk.1.2⟩, hk.2⟩)); (case aB => exact ⟨HB1.out.os, HB1.out.tape, HB1.out.output, HB1.out.size, fun _ h => by omega⟩); (case aS => exact Nat.zero_le _); (case aL => have := HN.out; omega); intro v1 w2 ho hb hg hat; obtain ⟨A2, cc2, rfl⟩ := Kd.R_slice ho; rw [show (cls ++ [(l0, (0 : Int), (0 : Int))]).length = cls.length + 1 from by simp] at ho; have hb1 := (hg.block g (Nat.lt_of_lt_of_le (blk_lt HQ.out.blk) HB1.out.size) (fun e => (HQ.out.rc.1 g e.symm).1.2 rfl)).trans ((HB1.out.block g (blk_lt HQ.out.blk)).trans HQ.out.blk); have k2 : w2.cell? ⟨g, 2, none⟩ = some (.slice Ac cls.length cc) := blk_cell hb1 2; have k2f := blk_frozen hb1 2; have bq := (World.cell?_of_block (hg.block w.heap.size (Nat.lt_of_lt_of_le (World.block_lt_of_cell? _ _ b0) HB1.out.size) (fun e => Nat.lt_irrefl _ (Kd.R_lt HP.out.rc _ e.symm)))).trans b1; have HO2 := Aside0.mk ho; have HG2 := Aside0.mk hg; clear ho hb hg hat hb1) | (go_simp; go_at_call 39; refine (clone_ints A0 c0 l0 _ (Kd.C_drew HR1.out) HL0.out).mono ?_; rintro e wc ⟨v0, rfl, hr, hb⟩; obtain ⟨A1, cc1, rfl⟩ := Kd.R_slice hr; have HO1 := Aside0.mk (Kd.R_mono (Kd.R_lower (Kd.R_bound hr) (Nat.zero_le _)) (ok' := fun k => w1.heap.size ≤ k) (fun k hk => hk.2.1)); have hb' : Below w1.heap.size w1 wc := ⟨hb.os, hb.tape, hb.output, hb.size, hb.block⟩; have HB1 := Aside0.mk hb'; have b1 := (hb'.cell (World.block_lt_of_cell? _ _ b0)).trans b0; have c21 := (hb'.cell (World.block_lt_of_cell? _ _ c2')).trans c2'; have b1a := fun o => ((below_alloc (Below.refl wc.heap.size wc) o).cell (World.block_lt_of_cell? _ _ b1)).trans b1; have c2a := fun o => ((below_alloc (Below.refl wc.heap.size wc) o).cell (World.block_lt_of_cell? _ _ c21)).trans c21; clear hr hb hb'))
  all_goals
    have hpc := HQ.out.step (w1 := wc) (fun k _ hk => HB1.out.block k hk)
    have hp3 := hpc.put2 (ok' := fun k => ok k ∨ w.heap.size ≤ k) (fun k h => .inl h) HO2.out HG2.out
    have hBg : w.heap.size ≠ g := fun e => Nat.lt_irrefl _ (e ▸ blk_lt HP.out.blk)
    have d0 := (World.cell?_of_block (a := ⟨w.heap.size, 0, none⟩) (Below.heap_setCell w2 ⟨g, 2, none⟩ (.slice A2 (cls.length + 1) cc2) w.heap.size hBg)).trans bq
    have hr3 : Rest w (w2.setCell ⟨g, 2, none⟩ (.slice A2 (cls.length + 1) cc2)) ok := by
      refine Rest.set (p := ⟨g, 2, none⟩) (Rest.grown (w1 := wc) ?_ HG2.out (fun k e _ => (HP.out.rc.1 k e).1.1)) HP.out.og _
      refine Rest.trans (w1 := w1) ?_ (Rest.of_below HB1.out ok) (fun _ _ h => h)
      rw [HW.out]
      exact (Rest.refl w ok).alloc _
    have e2 := hp3.c2
    have HP3 := Aside0.mk hp3
    have HR3 := Aside0.mk hr3
    obtain ⟨w3, hw3⟩ : ∃ w3, w3 = w2.setCell ⟨g, 2, none⟩ (.slice A2 (cls.length + 1) cc2) := ⟨_, rfl⟩
    rw [← hw3] at HP3 HR3 d0 e2 ⊢
    clear hpc hp3 hr3 hw3 HO1 HO2 HG2 HB1 HQ bq b1 b1a c21 c2a k2 k2f b0 c2'
    go_wp2
    go_ret2
    exact ⟨by simp; unfold wrap64; have := HN.out; omega, ⟨_, _, _, HP3.out⟩, HR3.out⟩

set_option maxHeartbeats 2000000 in
theorem st_Decide_arg (ok : Nat → Prop) (g : Nat) (vals : List Int) (cls : List (List Int × Int × Int)) (marks : List S48) (l : Int) (w : World) (h : St w ok g vals cls marks) (hv : Vals vals) (hb : litB ((vals.length : Int) - 1) l = false) :
    Calls Try.prog 27 #[.pointer (some ⟨g, 0, none⟩), .int .i64 l] w fun e w' => e = .returned (.int .i64 1) ∧ w = w' := by
  have H := Aside0.mk h
  have HV := Aside0.mk hv
  have HB := Aside0.mk hb
  have C0 : Aside0 (w.cell? ⟨g, 0, none⟩ = some (.bool true)) := ⟨by obtain ⟨_, _, _, hp⟩ := h; exact hp.c0⟩
  clear h hv hb
  go_enter Try.func27, Try.ntmps27
  go_wp2_with (first | (go_at_call 35; refine (st_is g _ C0.out).mono ?_; rintro e w' ⟨rfl, rfl⟩) | (go_at_call 47; refine (st_literal ok g vals cls marks l _ H.out HV.out).mono ?_; rw [HB.out]; rintro e w' ⟨rfl, rfl⟩))
  go_ret
  exact ⟨rfl, rfl⟩
theorem litB_iff {n l : Int} : litB n l = true ↔ l ≠ 0 ∧ l ≤ n ∧ -n ≤ l := by simp [litB]
set_option maxHeartbeats 2000000 in
theorem st_Decide_trail (ok : Nat → Prop) (g : Nat) (vals : List Int) (cls : List (List Int × Int × Int)) (marks : List S48) (l : Int) (w : World) (h : St w ok g vals cls marks) (hv : Vals vals) (hb : litB ((vals.length : Int) - 1) l = true) (hn : valL vals l ≠ 0) :
    Calls Try.prog 27 #[.pointer (some ⟨g, 0, none⟩), .int .i64 l] w fun e w' => e = .returned (.int .i64 200) ∧ w = w' := by
  have H := Aside0.mk h
  have HV := Aside0.mk hv
  have HB := Aside0.mk hb
  have C0 : Aside0 (w.cell? ⟨g, 0, none⟩ = some (.bool true)) := ⟨by obtain ⟨_, _, _, hp⟩ := h; exact hp.c0⟩
  have HR : Aside0 (-(vals.length : Int) < l ∧ l < (vals.length : Int)) := ⟨by have := litB_iff.1 hb; omega⟩
  obtain ⟨x, hx⟩ : ∃ x, x = valL vals l := ⟨_, rfl⟩
  have HX := Aside0.mk hx
  have hne : (x != 0) = true := by rw [bne_iff_ne, hx]; exact hn
  clear h hv hb hn hx
  go_enter Try.func27, Try.ntmps27
  go_wp2_with (first | (go_at_call 35; refine (st_is g _ C0.out).mono ?_; rintro e w' ⟨rfl, rfl⟩) | (go_at_call 47; refine (st_literal ok g vals cls marks l _ H.out HV.out).mono ?_; rw [HB.out]; rintro e w' ⟨rfl, rfl⟩) | (go_at_call 48; refine (st_value ok g vals cls marks l _ H.out HV.out HR.out.1 HR.out.2).mono ?_; rw [← HX.out]; rintro e w' ⟨rfl, rfl⟩))
  go_ret
  exact ⟨rfl, rfl⟩
set_option maxHeartbeats 4000000 in
theorem st_Decide (ok : Nat → Prop) (g : Nat) (vals : List Int) (cls : List (List Int × Int × Int)) (marks : List S48) (l : Int) (w : World) (h : St w ok g vals cls marks) (hv : Vals vals) (hb : litB ((vals.length : Int) - 1) l = true) (hn : valL vals l = 0) (hl : marks.length ≤ 4194304) (hlv : 0 ≤ lvl marks ∧ lvl marks ≤ 4194304) :
    Calls Try.prog 27 #[.pointer (some ⟨g, 0, none⟩), .int .i64 l] w fun e w' => e = .returned (.int .i64 0) ∧ St w' (fun k => ok k ∨ w.heap.size ≤ k) g (markV vals l) cls (marks ++ [⟨l, lvl marks + 1, -1⟩]) ∧ Rest w w' ok := by
  have H := Aside0.mk h
  have HV := Aside0.mk hv
  have HB := Aside0.mk hb
  have HL := Aside0.mk hl
  have C0 : Aside0 (w.cell? ⟨g, 0, none⟩ = some (.bool true)) := ⟨by obtain ⟨_, _, _, hp⟩ := h; exact hp.c0⟩
  have HR : Aside0 (-(vals.length : Int) < l ∧ l < (vals.length : Int)) := ⟨by have := litB_iff.1 hb; omega⟩
  have HX := Aside0.mk hn
  obtain ⟨y, hy⟩ : ∃ y, y = lvl marks := ⟨_, rfl⟩
  rw [← hy] at hlv ⊢
  have HY := Aside0.mk hy
  obtain ⟨hl0, hl1⟩ := hlv
  clear h hv hb hn hy hl
  go_enter Try.func27, Try.ntmps27
  go_wp2_with (first | (go_at_call 35; refine (st_is g _ C0.out).mono ?_; rintro e w' ⟨rfl, rfl⟩) | (go_at_call 47; refine (st_literal ok g vals cls marks l _ H.out HV.out).mono ?_; rw [HB.out]; rintro e w' ⟨rfl, rfl⟩) | (go_at_call 48; refine (st_value ok g vals cls marks l _ H.out HV.out HR.out.1 HR.out.2).mono ?_; rw [HX.out]; rintro e w' ⟨rfl, rfl⟩) | (go_at_call 14; refine (st_Level ok g vals cls marks _ H.out).mono ?_; rw [← HY.out]; rintro e w' ⟨rfl, ⟨nd, rfl⟩⟩) | (go_at_call 37; refine (st_mark ok g vals cls marks ⟨l, y + 1, -1⟩ _ (H.out.below (pw_below_drewN (Below.refl w.heap.size w) nd)) HR.out.1 HR.out.2 HL.out HV.out.max).mono ?_; rintro e w3 ⟨rfl, hs, hr⟩; have HS := Aside0.mk hs; have HRR := Aside0.mk hr; clear hs hr))
  go_ret
  exact ⟨rfl, HS.out, ((Rest.refl w ok).drewN nd).trans HRR.out (fun _ _ h => h)⟩

/-! ### look -/
def scanU (vals : List Int) : List Int → Int → Int × Bool
  | [], op => (op, op == 0)
  | l :: ls, op => if valL vals l < 0 ∨ l = op then scanU vals ls op else if 0 < valL vals l then (0, false) else if op ≠ 0 then (0, false) else scanU vals ls l
def okAt (c : List Int) (a b : Int) : Prop := 1 < c.length → (0 ≤ a ∧ a < c.length) ∧ (0 ≤ b ∧ b < c.length)
theorem scanU_true (vals : List Int) {x : Int} (hx : 0 < valL vals x) (h0 : x ≠ 0) : ∀ (c : List Int) (op : Int), x ∈ c → (op = 0 ∨ valL vals op = 0) → scanU vals c op = (0, false) := by
  intro c
  induction c with
  | nil => intro op h; cases h
  | cons l ls ih =>
    intro op h ho
    rw [scanU]
    by_cases h1 : valL vals l < 0 ∨ l = op
    · rw [if_pos h1]
      refine ih op ?_ ho
      rcases List.mem_cons.1 h with rfl | h2
      · rcases h1 with h1 | h1
        · omega
        · subst h1
          rcases ho with h3 | h3
          · exact absurd h3 h0
          · omega
      · exact h2
    · rw [if_neg h1]
      by_cases h2 : 0 < valL vals l
      · rw [if_pos h2]
      · rw [if_neg h2]
        by_cases h3 : op ≠ 0
        · rw [if_pos h3]
        · rw [if_neg h3]
          refine ih l ?_ (.inr ?_)
          · rcases List.mem_cons.1 h with rfl | h4
            · omega
            · exact h4
          · have : ¬ valL vals l < 0 := fun h => h1 (.inl h)
            omega
theorem scanU_two (vals : List Int) {x y : Int} (hx : valL vals x = 0) (hy : valL vals y = 0) (hxy : x ≠ y) (hx0 : x ≠ 0) (hy0 : y ≠ 0) : ∀ (c : List Int) (op : Int), (op = 0 → x ∈ c ∧ y ∈ c) → (op = x → y ∈ c) → (op ≠ 0 → x ∈ c ∨ y ∈ c ∨ True) → (op = y → x ∈ c) → (op ≠ 0 → op ≠ x → op ≠ y → x ∈ c ∨ y ∈ c) → scanU vals c op = (0, false) := by
  intro c
  induction c with
  | nil =>
    intro op h1 h2 _ h3 h4
    by_cases e0 : op = 0
    · exact absurd (h1 e0).1 (by simp)
    · by_cases e1 : op = x
      · exact absurd (h2 e1) (by simp)
      · by_cases e2 : op = y
        · exact absurd (h3 e2) (by simp)
        · exact absurd (h4 e0 e1 e2) (by simp)
  | cons l ls ih =>
    intro op h1 h2 _ h3 h4
    rw [scanU]
    by_cases c1 : valL vals l < 0 ∨ l = op
    · rw [if_pos c1]
      have hlx : l = x → op = x := by
        rintro rfl
        rcases c1 with c1 | c1
        · omega
        · exact c1.symm
      have hly : l = y → op = y := by
        rintro rfl
        rcases c1 with c1 | c1
        · omega
        · exact c1.symm
      have mx : x ∈ l :: ls → op ≠ x → x ∈ ls := fun h hn => (List.mem_cons.1 h).elim (fun e => absurd (hlx e.symm) hn) id
      have my : y ∈ l :: ls → op ≠ y → y ∈ ls := fun h hn => (List.mem_cons.1 h).elim (fun e => absurd (hly e.symm) hn) id
      refine ih op (fun e => ⟨mx (h1 e).1 (by omega), my (h1 e).2 (by omega)⟩) (fun e => my (h2 e) (by omega)) (fun _ => .inr (.inr trivial)) (fun e => mx (h3 e) (by omega)) (fun a b d => (h4 a b d).imp (fun h => mx h b) (fun h => my h d))
    · rw [if_neg c1]
      by_cases c2 : 0 < valL vals l
      · rw [if_pos c2]
      · rw [if_neg c2]
        by_cases c3 : op ≠ 0
        · rw [if_pos c3]
        · rw [if_neg c3]
          have e0 : op = 0 := by omega
          have hl0 : l ≠ 0 := fun e => c1 (.inr (by omega))
          obtain ⟨m1, m2⟩ := h1 e0
          refine ih l (fun e => absurd e hl0) (fun e => ?_) (fun _ => .inr (.inr trivial)) (fun e => ?_) (fun _ b d => .inl ?_)
          · exact (List.mem_cons.1 m2).elim (fun h => absurd (e.symm.trans h.symm) (by omega)) id
          · exact (List.mem_cons.1 m1).elim (fun h => absurd (e.symm.trans h.symm) (by omega)) id
          · exact (List.mem_cons.1 m1).elim (fun h => absurd h.symm b) id
/-- Element i of the clauses: its places are written. -/
theorem Parts.putw {w : World} {ok : Nat → Prop} {g gc cc : Nat} {vv vm : Value} {vals : List Int} {cls : List (List Int × Int × Int)} {marks : List S48} (h : Parts w ok g vv (.slice (some ⟨gc, 0, none⟩) cls.length cc) vm vals cls marks) {i : Nat} (hi : i < cls.length) {c : List Int} {a b : Int} (hc : cls[i]? = some (c, a, b)) :
    (∃ A k, w.cell? ⟨gc, i * 3, none⟩ = some (.slice A c.length k) ∧ Kd.C (Kd.int .i64) w A c.length c) ∧ w.cell? ⟨gc, i * 3 + 1, none⟩ = some (.int .i64 a) ∧ w.cell? ⟨gc, i * 3 + 2, none⟩ = some (.int .i64 b) ∧ (∀ j, w.frozen? ⟨gc, i * 3 + j, none⟩ = false) ∧ ok gc ∧
    (∀ a', Parts (w.setCell ⟨gc, i * 3 + 1, none⟩ (.int .i64 a')) ok g vv (.slice (some ⟨gc, 0, none⟩) cls.length cc) vm vals (cls.set i (c, a', b)) marks) ∧
    (∀ a' b', Parts ((w.setCell ⟨gc, i * 3 + 1, none⟩ (.int .i64 a')).setCell ⟨gc, i * 3 + 2, none⟩ (.int .i64 b')) ok g vv (.slice (some ⟨gc, 0, none⟩) cls.length cc) vm vals (cls.set i (c, a', b')) marks) := by
  obtain ⟨cs, hcl, hM, hcell, hfr⟩ := Kd.R_elem h.rc ([], 0, 0) (i : Int) (by omega) (by omega)
  have hgt : (cls.getD i ([], 0, 0)) = (c, a, b) := by rw [List.getD_eq_getElem?_getD, hc]; rfl
  rw [Int.toNat_natCast, hgt] at hM
  rw [Int.toNat_natCast] at hcell hfr
  obtain ⟨c0, c1, rfl, ⟨v, rfl, hR⟩, ⟨c2, c3, rfl, rfl, rfl⟩⟩ := hM
  have hsz : kW.sz = 3 := rfl
  rw [hsz] at hcell hfr
  obtain ⟨A, k, rfl, hlk, hC⟩ := Kd.R_reads hR
  have hgg : gc ≠ g := (h.rc.1 gc rfl).1.2
  have key : ∀ (seg : List Value) (x' : List Int × Int × Int), 1 + seg.length ≤ 3 → kW.M w 0 (fun k => ((ok k ∧ k ≠ g) ∧ some k ≠ vv.ownBlock) ∧ k ≠ gc) x' ([Value.slice A c.length k, Value.int .i64 a, Value.int .i64 b].take 1 ++ seg ++ [Value.slice A c.length k, Value.int .i64 a, Value.int .i64 b].drop (1 + seg.length)) →
      Parts (w.setCells gc (i * 3 + 1) seg) ok g vv (.slice (some ⟨gc, 0, none⟩) cls.length cc) vm vals (cls.set i x') marks := by
    intro seg x' hs hm
    have hh := Kd.R_seg h.rc (i : Int) (by omega) (by omega) (c := [Value.slice A c.length k, Value.int .i64 a, Value.int .i64 b]) (seg := seg) (j := 1) rfl (by rw [Int.toNat_natCast, hsz]; exact hcell) (by rw [hsz]; exact hs) hm (fun k hk => hk)
    rw [Int.toNat_natCast, hsz] at hh
    have hb := hh.2.block
    refine ⟨h.og, (hb g (blk_lt h.blk) (fun e => hgg (by injection e with e; exact e.symm))).trans h.blk, ?_, hh.1, ?_⟩
    · exact Kd.R_over h.rv h.rc (by decide) hh.2
    · exact Kd.R_over h.rm h.rc (by simp [k48, Kd.iso, Kd.pair, Kd.int, Kd.scalar]) hh.2
  refine ⟨⟨A, k, by simpa using hcell 0 _ rfl, hC⟩, hcell 1 _ rfl, hcell 2 _ rfl, hfr, (h.rc.1 gc rfl).1.1, fun a' => ?_, fun a' b' => ?_⟩
  · have := key [.int .i64 a'] (c, a', b) (by simp) (kW_mkM hR a' b)
    simpa [World.setCells] using this
  · have := key [.int .i64 a', .int .i64 b'] (c, a', b') (by simp) (kW_mkM hR a' b')
    simpa [World.setCells] using this

end Go.Proofs.Ytegaaobiedfjcaa.PU
