import Derived.Test.YtboalbiicmcljaaZOAn5
import Derived.Maps.RangeWalk
namespace Go.Proofs.Ytboalbiicmcljaa.PAN
open Go.RowKit Go.Proofs.YtboalbiicmcljaaW.PrintWords Go.Proofs.YtboalbiicmcljaaW.PrintLast Go.Proofs.YtboalbiicmcljaaW.PrintMore Go.Proofs.YtboalbiicmcljaaH
set_option linter.unusedVariables false
set_option linter.unusedSimpArgs false
def mostL (ms : List Mk) : List Int → Int
  | [] => 0
  | x :: r => max (lev ms x) (mostL ms r)
theorem mostL_perm {ms : List Mk} {l l' : List Int} (h : l.Perm l') : mostL ms l = mostL ms l' := by
  induction h with
  | nil => rfl
  | cons x _ ih => rw [mostL, mostL, ih]
  | swap x y l => rw [mostL, mostL, mostL, mostL]; omega
  | trans _ _ h1 h2 => rw [h1, h2]
theorem mostL_snoc (ms : List Mk) (l : List Int) (x : Int) : mostL ms (l ++ [x]) = max (mostL ms l) (lev ms x) := by
  rw [mostL_perm (List.perm_append_comm (l₁ := l) (l₂ := [x]))]
  show max (lev ms x) (mostL ms l) = _
  omega
theorem mostL_nonneg (ms : List Mk) : ∀ l, 0 ≤ mostL ms l
  | [] => Int.le_refl _
  | x :: r => by have := mostL_nonneg ms r; rw [mostL]; omega
theorem mostL_le {ms : List Mk} : ∀ {l : List Int} {x : Int}, x ∈ l → lev ms x ≤ mostL ms l
  | y :: r, x, h => by
    rw [mostL]
    rcases List.mem_cons.1 h with rfl | h
    · omega
    · have := mostL_le (ms := ms) h; omega
theorem mostL_mem {ms : List Mk} : ∀ (l : List Int), mostL ms l ≠ 0 → ∃ x ∈ l, lev ms x = mostL ms l
  | [], h => absurd rfl h
  | y :: r, h => by
    rw [mostL] at h ⊢
    rcases Int.lt_or_le (lev ms y) (mostL ms r) with hlt | hge
    · rw [Int.max_eq_right (Int.le_of_lt hlt)] at h ⊢
      obtain ⟨x, hx, he⟩ := mostL_mem r h
      exact ⟨x, List.mem_cons_of_mem _ hx, he⟩
    · rw [Int.max_eq_left hge]
      exact ⟨y, List.mem_cons_self, rfl⟩
def atL (ms : List Mk) (s : List Int) (m : Int) : List Int := (fallL ms s).filter fun x => lev ms x == m
structure TopI (w : World) (mb r : Nat) (s : List Int) (w' : World) (done : List Int) : Prop where
  b : Below w.heap.size w w'
  rg : RangesF Try.prog 3 w' mb r s (fun _ => 1) done
  r0 : w.heap.size ≤ r
set_option maxHeartbeats 8000000 in
set_option maxRecDepth 100000 in
theorem an_top (L tb sb : Nat) (cs : List (List Int)) (ms : List Mk) (ok : Nat → Prop) (s ch : List Int) (w : World) (hT : Tr w L tb cs ms) (hS : Se w ok sb tb s ch) (hf : AllF ms s) (hwf : Wf cs ms) :
    Calls Try.prog 38 #[.pointer (some ⟨sb, 0, none⟩)] w fun e w' => ∃ v, e = .returned (.tuple #[v, .int .i64 (mostL ms s)]) ∧ Kd.R (Kd.int .i64) 3 w' w.heap.size (fun _ => True) v (atL ms s (mostL ms s)) ∧ Below w.heap.size w w' := by
  have HSE := Aside0.mk hS
  obtain ⟨mb, vch, hS⟩ := hS
  have HT := Aside0.mk hT
  have HS := Aside0.mk hS
  have HF := Aside0.mk hf
  have HW := Aside0.mk hwf
  have HXW : Aside0 (∀ x ∈ s, w64 x) := ⟨fun x hx => (hS.map.wf x hx).1⟩
  have c1 := hS.c1
  have HMP := Aside0.mk hS.map
  clear hT hS hf hwf
  go_enter Try.func38, Try.ntmps38
  go_wp2_with (at_range; refine wpList_range_F _ rfl _ 63 rfl 3 Try.underlying63 Try.underlying3 mb s (fun _ => 1) rfl HMP.out ?_; intro w1 hr1 hg1 hs1)
  go_frame
  have HI0 : Aside0 (TopI w mb w.heap.size s w1 []) := ⟨⟨(Below.refl _ _).grown hg1 (Nat.le_refl _) (fun j hj => by cases hj), hr1, Nat.le_refl _⟩⟩
  clear hr1 hg1 hs1 c1
  go_loopg [4] s.length (fun kq v4 w' => ∃ done, v4 = .int .i64 (mostL ms done) ∧ kq + done.length = s.length ∧ Aside0 (TopI w mb w.heap.size s w' done))
  case atStart => exact ⟨[], rfl, by simp, HI0⟩
  case round =>
    obtain ⟨done, rfl, hkd, HI⟩ := hrel
    clear HI0
    go_wp2_with (at_next; refine wpList_next_F _ rfl _ rfl 3 Try.underlying3 mb w.heap.size s (fun _ => 1) done rfl HI.out.rg ?_ ?_)
    · intro hp
      have hmo := mostL_perm (ms := ms) hp
      rw [hmo]
      clear hp hmo
      have HT1 : Aside0 (Tr wr L tb cs ms) := ⟨HT.out.below (below_L HI.out.b HT.out.le)⟩
      have HS1 : Aside0 (Se wr ok sb tb s ch) := ⟨HSE.out.below HI.out.b⟩
      go_wp2_with (first | (go_at_call 58; refine (an_falling L tb sb cs ms _ s ch _ HT1.out HS1.out HF.out HW.out.lm).mono ?_; rintro e w2 ⟨v, rfl, hv2, hb2⟩; obtain ⟨A2, c2, rfl⟩ := Kd.R_slice hv2; have H2 := Aside0.mk (And.intro hv2 (And.intro hb2 (below_step HI.out.b hb2))); clear hv2 hb2))
      obtain ⟨m, hm⟩ : ∃ m, m = mostL ms s := ⟨_, rfl⟩
      rw [← hm]
      have HM := Aside0.mk hm
      clear hm
      have hlen : (fallL ms s).length ≤ 4194304 := by
        have h1 := (fallL_perm ms s).length_eq
        have h2 := len_of_falses HS.out.map.nodup HF.out
        have h3 := HW.out.lm
        omega
      have HLW : Aside0 (∀ x ∈ fallL ms s, isFalseB ms x = true ∧ w64 x) := ⟨fun x hx => by
        have h1 := (fallL_perm ms s).mem_iff.1 hx
        exact ⟨HF.out x h1, HXW.out x h1⟩⟩
      obtain ⟨l, hl⟩ : ∃ l, l = fallL ms s := ⟨_, rfl⟩
      rw [← hl] at H2 HLW hlen ⊢
      have HLE := Aside0.mk hl
      clear hl
      have HJ0 : Aside0 (Kd.R (Kd.int .i64) 3 w2 w2.heap.size (fun k => w2.heap.size ≤ k) (.slice none 0 0) [] ∧ Below w2.heap.size w2 w2) := ⟨Kd.R_nil _ _ _ _ _, Below.refl _ _⟩
      go_loopg [6, 30] l.length (fun kq v6 v30 w' => ∃ i : Nat, v30 = .int .i64 i ∧ i + kq = l.length ∧ Aside0 (Kd.R (Kd.int .i64) 3 w' w2.heap.size (fun k => w2.heap.size ≤ k) v6 ((l.take i).filter fun x => lev ms x == m) ∧ Below w2.heap.size w2 w'))
      case atStart => exact ⟨0, rfl, by omega, HJ0⟩
      case round =>
        obtain ⟨i, rfl, hik, HK⟩ := hrel
        clear HJ0
        cases gk with
        | zero =>
          obtain rfl : i = l.length := by omega
          go_wp2
          go_ret2
          have hret : Ending.returned (.tuple #[u6, .int .i64 m]) = Ending.returned (.tuple #[u6, .int .i64 (mostL ms s)]) := by rw [HM.out]
          refine ⟨u6, hret, ?_, below_step H2.out.2.2 HK.out.2⟩
          have := HK.out.1
          rw [List.take_length, HLE.out, HM.out] at this
          exact Kd.R_mono (Kd.R_lower this H2.out.2.2.size) (fun _ _ => trivial)
        | succ k1 =>
          have hlt : i < l.length := by omega
          have hC := Kd.C_below (Kd.R_reads' H2.out.1).2.2 HK.out.2
          obtain ⟨ad, rfl, hx⟩ := Kd.at_int hC (i : Int) (by omega) (by omega)
          rw [Int.toNat_natCast] at hx
          have hxm := HLW.out _ (rdm hlt)
          have htk := take_rd hlt
          obtain ⟨x, hxq⟩ : ∃ x, x = rd l (i : Int) := ⟨_, rfl⟩
          rw [← hxq] at hx hxm htk
          have HX := Aside0.mk hxm
          have HTK := Aside0.mk htk
          have hbw := below_step H2.out.2.2 HK.out.2
          have HT2 : Aside0 (Tr wr L tb cs ms) := ⟨HT.out.below (below_L hbw HT.out.le)⟩
          have c0 : wr.cell? ⟨sb, 0, none⟩ = some (.pointer (some ⟨tb, 0, none⟩)) := (HS.out.step (fun k _ hk => hbw.block k hk)).c0
          have hfld := fun (a b c : Value) (w : World) => fld1 a b c w
          clear hC hxm hxq htk hbw
          by_cases h0 : lev ms x = m
          · have h01 : ((mkOf ms x).f1 == m) = true := by simpa [lev] using h0
            have H0 := Aside0.mk h0
            clear h0
            have HBB : Aside0 (i ≤ 4194304) := ⟨by omega⟩
            go_wp2_with (first | (go_at_call 57; refine (an_markT L tb cs ms x _ HT2.out HX.out.2 HX.out.1).mono ?_; rintro e w4 ⟨rfl, hb4⟩; have H4 := Aside0.mk (And.intro hb4 (And.intro (Kd.R_below HK.out.1 hb4) (below_step HK.out.2 hb4))); clear hb4) | (at_builtin; refine Kd.R_append (Kd.int .i64) (w0 := w2) w2.heap.size rfl (.tmp 43) (.tmp 45) 27 3 (.int .i64 0) 8 rfl Try.underlying27 info_int rfl (by decide) (by omega) u6 ((l.take i).filter fun x => lev ms x == m) x [.int .i64 x] (fun k => w2.heap.size ≤ k) (fun _ => False) rfl rfl ?aP (fun _ hk => hk.elim) ?aF H4.out.2.1 H4.out.2.2 H4.out.2.2.size ?aL ?_; (case aP => exact rfl); (case aF => exact fun k hk => Nat.le_trans H4.out.2.2.size hk); (case aL => have h1 := List.length_filter_le (fun x => lev ms x == m) (l.take i); rw [List.length_take] at h1; have := HBB.out; omega); intro v5 w5 ho hb hg hat; have H5 := Aside0.mk (And.intro ho hb); clear ho hb hg hat))
            go_roundg k1
            case measure => omega
            case rel =>
              refine ⟨i + 1, by go_num, by omega, ?_⟩
              rw [HTK.out, List.filter_append]
              have : ([x].filter fun x => lev ms x == m) = [x] := by simp [H0.out]
              rw [this]
              exact H5
          · have h01 : ((mkOf ms x).f1 == m) = false := by simpa [lev] using h0
            have H0 := Aside0.mk h0
            clear h0
            go_wp2_with (first | (go_at_call 57; refine (an_markT L tb cs ms x _ HT2.out HX.out.2 HX.out.1).mono ?_; rintro e w4 ⟨rfl, hb4⟩; have H4 := Aside0.mk (And.intro (Kd.R_below HK.out.1 hb4) (below_step HK.out.2 hb4)); clear hb4))
            go_roundg k1
            case measure => omega
            case rel =>
              refine ⟨i + 1, by go_num, by omega, ?_⟩
              rw [HTK.out, List.filter_append]
              have : ([x].filter fun x => lev ms x == m) = [] := by simp [H0.out]
              rw [this, List.append_nil]
              exact H4
    · intro x w2 hx hxs hxd hrg hgr hsz hen
      cases gk with
      | zero =>
        exfalso
        have h1 := hrg.le
        rw [List.length_append, List.length_singleton] at h1
        omega
      | succ k1 =>
        have hI2 : TopI w mb w.heap.size s w2 (done ++ [x]) := ⟨HI.out.b.grown hgr HI.out.b.size (fun j hj => by injection hj with hj; omega), hrg, Nat.le_refl _⟩
        have HI2 := Aside0.mk hI2
        have HT2 : Aside0 (Tr w2 L tb cs ms) := ⟨HT.out.below (below_L hI2.b HT.out.le)⟩
        have c0 : w2.cell? ⟨sb, 0, none⟩ = some (.pointer (some ⟨tb, 0, none⟩)) := (HS.out.step (fun k _ hk => hI2.b.block k hk)).c0
        have HX := Aside0.mk (And.intro hx (HF.out x hxs))
        have HLEN := Aside0.mk hrg.le
        have hfld := fun (a b c : Value) (w : World) => fld1 a b c w
        clear hI2 hrg hgr hsz hxs hxd hx
        go_wp2_with (first | (go_at_call 57; refine (an_markT L tb cs ms x _ HT2.out HX.out.1 HX.out.2).mono ?_; rintro e w4 ⟨rfl, hb4⟩; have HB4 := Aside0.mk hb4; clear hb4))
        have hI4 : TopI w mb w.heap.size s w4 (done ++ [x]) := ⟨below_step HI2.out.b HB4.out, HI2.out.rg.step (HB4.out.block _ HI2.out.rg.map.lt) (HB4.out.block _ HI2.out.rg.lt), Nat.le_refl _⟩
        have HI4 := Aside0.mk hI4
        clear hI4
        go_roundg k1
        case measure => omega
        case rel => exact ⟨done ++ [x], by rw [mostL_snoc]; rfl, by simp; omega, HI4⟩
end Go.Proofs.Ytboalbiicmcljaa.PAN
