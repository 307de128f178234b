import Derived.Test.YtboalbiicmcljaaZTAn8
import Derived.Test.YtboalbiicmcljaaZTPANx22
import Derived.IntWalk
import Derived.StillTailTactics
import Derived.Maps.Own
import Derived.Maps.Keyed
namespace Go.Proofs.Ytboalbiicmcljaa.PAN
open Go.RowKit Go.Proofs.YtboalbiicmcljaaW.PrintWords Go.Proofs.YtboalbiicmcljaaW.PrintLast Go.Proofs.YtboalbiicmcljaaW.PrintMore Go.Proofs.YtboalbiicmcljaaH
set_option linter.unusedVariables false
set_option linter.unusedSimpArgs false
def revG (x : List Int) (i : Nat) : List Int := (List.range x.length).map fun j => if i ≤ j ∧ j + i < x.length then x.getD (x.length - 1 - j) 0 else x.getD j 0
theorem revG_len (x : List Int) (i : Nat) : (revG x i).length = x.length := by simp [revG]
theorem revG_get (x : List Int) (i j : Nat) (h : j < x.length) : (revG x i)[j]? = some (if i ≤ j ∧ j + i < x.length then x.getD (x.length - 1 - j) 0 else x.getD j 0) := by
  simp [revG, h]
theorem revG_all (x : List Int) : revG x 0 = x.reverse := by
  apply List.ext_getElem?
  intro j
  by_cases h : j < x.length
  · rw [revG_get x 0 j h, if_pos ⟨Nat.zero_le _, h⟩, List.getElem?_reverse h, List.getD_eq_getElem?_getD, List.getElem?_eq_getElem (by omega)]
    rfl
  · rw [List.getElem?_eq_none (by rw [revG_len]; omega), List.getElem?_eq_none (by rw [List.length_reverse]; omega)]
theorem revG_end (x : List Int) (i : Nat) (h : x.length ≤ 2 * i + 1) : revG x i = x := by
  apply List.ext_getElem?
  intro j
  by_cases hj : j < x.length
  · rw [revG_get x i j hj, List.getElem?_eq_getElem hj]
    have e : ∀ k, k < x.length → x.getD k 0 = x[k]?.getD 0 := fun k _ => List.getD_eq_getElem?_getD
    split
    · rename_i hc
      have : x.length - 1 - j = j := by omega
      rw [this, e j hj, List.getElem?_eq_getElem hj]; rfl
    · rw [e j hj, List.getElem?_eq_getElem hj]; rfl
  · rw [List.getElem?_eq_none (by rw [revG_len]; omega), List.getElem?_eq_none (by omega)]
theorem getD_set (x : List Int) (a k : Nat) (v : Int) (ha : a < x.length) : (x.set a v).getD k 0 = if k = a then v else x.getD k 0 := by
  rw [List.getD_eq_getElem?_getD, List.getElem?_set]
  by_cases h : a = k
  · rw [if_pos h, if_pos (by omega), if_pos h.symm]; rfl
  · rw [if_neg h, if_neg (fun q => h q.symm), List.getD_eq_getElem?_getD]
theorem revG_step (x : List Int) (i : Nat) (h : 2 * i + 1 < x.length) : revG ((x.set i (x.getD (x.length - 1 - i) 0)).set (x.length - 1 - i) (x.getD i 0)) (i + 1) = revG x i := by
  have hl : ((x.set i (x.getD (x.length - 1 - i) 0)).set (x.length - 1 - i) (x.getD i 0)).length = x.length := by simp
  have hg : ∀ k, ((x.set i (x.getD (x.length - 1 - i) 0)).set (x.length - 1 - i) (x.getD i 0)).getD k 0 = if k = x.length - 1 - i then x.getD i 0 else if k = i then x.getD (x.length - 1 - i) 0 else x.getD k 0 := fun k => by
    rw [getD_set _ _ _ _ (by simp; omega), getD_set _ _ _ _ (by omega)]
  apply List.ext_getElem?
  intro j
  by_cases hj : j < x.length
  · rw [revG_get _ _ j (by rw [hl]; exact hj), revG_get x i j hj, hl, hg, hg]
    congr 1
    by_cases c1 : i + 1 ≤ j ∧ j + (i + 1) < x.length
    · rw [if_pos c1, if_pos (show i ≤ j ∧ j + i < x.length by omega), if_neg (by omega), if_neg (by omega)]
    · rw [if_neg c1]
      by_cases c2 : j = x.length - 1 - i
      · rw [if_pos c2, if_pos (by omega), c2]
        congr 1; omega
      · rw [if_neg c2]
        by_cases c3 : j = i
        · rw [if_pos c3, if_pos (by omega), c3]
        · rw [if_neg c3, if_neg (by omega)]
  · rw [List.getElem?_eq_none (by rw [revG_len, hl]; omega), List.getElem?_eq_none (by rw [revG_len]; omega)]
theorem rd_nat (x : List Int) (k : Nat) : rd x (k : Int) = x.getD k 0 := by unfold rd; rw [Int.toNat_natCast]
theorem reverse_ev : ∀ (d i : Nat) (x : List Int), x.length ≤ 4611686018427387904 → 2 * i ≤ x.length → x.length ≤ 2 * i + d → Ev (fun k => slices_Reverse_int_int.l0 k x (i : Int) ((x.length : Int) - 1 - i)) (revG x i) := by
  intro d
  induction d with
  | zero =>
    intro i x hx h1 h2
    rw [revG_end x i (by omega)]
    refine Ev.step (f := fun _ => some x) (fun k => ?_) (Ev.now _)
    simp only [slices_Reverse_int_int.l0]; rw [if_neg (by omega)]
  | succ d ih =>
    intro i x hx h1 h2
    by_cases hc : 2 * i + 1 < x.length
    · have hl : ((x.set i (x.getD (x.length - 1 - i) 0)).set (x.length - 1 - i) (x.getD i 0)).length = x.length := by simp
      have h3 := ih (i + 1) ((x.set i (x.getD (x.length - 1 - i) 0)).set (x.length - 1 - i) (x.getD i 0)) (by rw [hl]; exact hx) (by rw [hl]; omega) (by rw [hl]; omega)
      rw [revG_step x i hc, hl] at h3
      refine Ev.step (fun k => ?_) h3
      have e1 : (x.length : Int) - 1 - i = ((x.length - 1 - i : Nat) : Int) := by omega
      have e2 : wrap64 ((i : Int) + 1) = ((i + 1 : Nat) : Int) := by unfold wrap64; omega
      have e3 : wrap64 (((x.length - 1 - i : Nat) : Int) - 1) = (x.length : Int) - 1 - ((i + 1 : Nat) : Int) := by unfold wrap64; omega
      simp only [slices_Reverse_int_int.l0]
      rw [if_pos (by omega), if_pos (by omega), if_pos (by omega), if_pos (by omega), if_pos (by omega), e1, rd_nat, rd_nat, Int.toNat_natCast, Int.toNat_natCast, e2, e3]
    · rw [revG_end x i (by omega)]
      refine Ev.step (f := fun _ => some x) (fun k => ?_) (Ev.now _)
      simp only [slices_Reverse_int_int.l0]; rw [if_neg (by omega)]
theorem reverse_all (x : List Int) (hx : x.length ≤ 4611686018427387904) : Ev (fun k => slices_Reverse_int_int.f k x) x.reverse := by
  have h := reverse_ev x.length 0 x hx (by omega) (by omega)
  rw [revG_all] at h
  have e : wrap64 ((x.length : Int) - 1) = (x.length : Int) - 1 - ((0 : Nat) : Int) := by unfold wrap64; omega
  unfold slices_Reverse_int_int.f
  rw [e]
  exact h
section
variable {P : Program} {t e : TypeId}
variable (w : World) {ops : Array Oper} {rest : List Oper} {o : Oper} {a : Act} {Q : Exit → Act → World → Prop}
theorem wpList_insert_F (hg : o.guard = none) (m x y : Operand) (t : TypeId) (hop : o.op = Op.insert t m x y)
    (e : TypeId) (ht : P.underlying t = some (.map e e)) (he : P.underlying e = some (.int .i64)) (b : Nat) (s : List Int) (f : Int → Int)
    (hm : a.eval m = .map (some b)) (hs : IsMapF P e w b s f) (hl : s.length < maxLen) (z v : Int) (hx : a.eval x = .int .i64 z) (hy : a.eval y = .int .i64 v) (hwz : w64 z) (hwv : w64 v)
    (hK : ∀ w', IsMapF P e w' b (insK s z) (updF f z v) → w.grownBy w' (some b) → wpList P ops Q rest (a.put o.dst undef) w') : wpList P ops Q (o :: rest) a w := by
  obtain ⟨D, h1, h2, h3, h4, h5⟩ := hs
  refine wpList_plain hg fun K' hK' => ?_
  obtain ⟨w', hrun, r1, r2⟩ := h1.update (Maps.int_keyed he) ht hl (Maps.keyOf_int_mk he hwz) (plainElem_int he hwv)
  unfold Oper.wp
  simp [execOp, hop, hm, hx, hy, hrun, Result.andThen]
  exact hK' _ _ (hK w' (IsMapF.put_own (Maps.int_keyed he) hwz hwv h1 h2 h3 h4 h5 r1) r2)
end
def addF (ms : List Mk) (a : Int) (S : List Int) (l : Int) : List Int := if l = a then S else insK S (placeN ms (-l) : Nat)
def mkAt (ms : List Mk) (n : Nat) : Mk := rd_T49 ms (n : Int)
def finL (cs : List (List Int)) (ms : List Mk) : Nat → List Int → List Int → List Int
  | 0, _, out => out
  | n + 1, S, out => if (n : Int) ∈ S then (if (mkAt ms n).f2 < 0 then finL cs ms n S (out ++ [(mkAt ms n).f0]) else finL cs ms n ((rdC cs (mkAt ms n).f2).foldl (addF ms (mkAt ms n).f0) S) out) else finL cs ms n S out
theorem finL_zero (cs : List (List Int)) (ms : List Mk) (S out : List Int) : finL cs ms 0 S out = out := rfl
theorem finL_succ (cs : List (List Int)) (ms : List Mk) (n : Nat) (S out : List Int) : finL cs ms (n + 1) S out = if (n : Int) ∈ S then (if (mkAt ms n).f2 < 0 then finL cs ms n S (out ++ [(mkAt ms n).f0]) else finL cs ms n ((rdC cs (mkAt ms n).f2).foldl (addF ms (mkAt ms n).f0) S) out) else finL cs ms n S out := rfl
def finalP (cs : List (List Int)) (ms : List Mk) (lit : Int) : List Int × Int :=
  if validB cs [] ms = true then (if hasM ms lit = true then ((finL cs ms (placeN ms lit + 1) [(placeN ms lit : Int)] []).reverse, 0) else ([], 210)) else ([], 200)
theorem Tr.pl {w : World} {L tb : Nat} {cs : List (List Int)} {ms : List Mk} (h : Tr w L tb cs ms) : ∃ pb, pb < L ∧ ∀ W, Below L w W → Pl W tb pb ms := by
  obtain ⟨hl, A0, c0, A1, c1, pb, h1, h2, h3, h4, h5, h6, h7, h8, _⟩ := h
  exact ⟨pb, h2, fun W hb => ⟨blk_cell ((hb.block _ h1).trans h3) 2, h6.step (hb.block _ h2)⟩⟩
structure FinI (w2 : World) (N : Nat) (v : Value) (S out : List Int) (W : World) : Prop where
  b : Below w2.heap.size w2 W
  map : IsMapF Try.prog 3 W w2.heap.size S (fun _ => 1)
  rng : ∀ x ∈ S, 0 ≤ x ∧ x < (N : Int)
  rv : Kd.R (Kd.int .i64) 3 W w2.heap.size (fun k => k ≠ w2.heap.size) v out
theorem FinI.below {w2 : World} {N : Nat} {v : Value} {S out : List Int} {W W' : World} (h : FinI w2 N v S out W) (hb : Below W.heap.size W W') : FinI w2 N v S out W' :=
  ⟨below_step h.b hb, h.map.step (hb.block _ h.map.lt), h.rng, Kd.R_below h.rv hb⟩
theorem FinI.len {w2 : World} {N : Nat} {v : Value} {S out : List Int} {W : World} (h : FinI w2 N v S out W) : S.length ≤ N := by
  have h1 := len_le_sub (l := S) (s := (List.range N).map (fun n : Nat => (n : Int))) h.map.nodup (fun x hx => by
    obtain ⟨h0, h1⟩ := h.rng x hx
    exact List.mem_map.2 ⟨x.toNat, List.mem_range.2 (by omega), by omega⟩)
  simpa using h1
theorem FinI.put {w2 : World} {N : Nat} {v : Value} {S out : List Int} {W W' : World} (h : FinI w2 N v S out W) {z : Int} (hz : 0 ≤ z ∧ z < (N : Int)) (hm : IsMapF Try.prog 3 W' w2.heap.size (insK S z) (updF (fun _ => 1) z 1)) (hg : W.grownBy W' (some w2.heap.size)) : FinI w2 N v (insK S z) out W' :=
  ⟨pw_below_grown h.b _ h.b.size hg (fun k q => by injection q with q; omega), hm.congr (List.Perm.refl _) (fun y _ => by unfold updF; split <;> rfl), fun x hx => (mem_insK.1 hx).elim (h.rng x) (fun q => q ▸ hz), Kd.R_grown h.rv hg (fun k hk e => hk (by injection e))⟩
set_option maxHeartbeats 8000000 in
set_option maxRecDepth 100000 in
theorem an_final (A0 : Option Addr) (c0 : Nat) (cs : List (List Int)) (A1 : Option Addr) (c1 : Nat) (ms : List Mk) (lit : Int) (w : World) (hr0 : Kd.C (Kd.slice 3 (Kd.int .i64)) w A0 cs.length cs) (hc0 : cs.length ≤ c0) (hr1 : Kd.C k49 w A1 ms.length ms) (hc1 : ms.length ≤ c1) (hwf : Wf cs ms) (hlw : w64 lit) :
    Calls Try.prog 25 #[.slice A0 cs.length c0, .slice A1 ms.length c1, .int .i64 lit] w fun e w' => ∃ v, e = .returned (.tuple #[v, .int .i64 (finalP cs ms lit).2]) ∧ Kd.R (Kd.int .i64) 3 w' w.heap.size (fun _ => True) v (finalP cs ms lit).1 ∧ Below w.heap.size w w' := by
  have HR0 := Aside0.mk hr0
  have HR1 := Aside0.mk hr1
  have HC0 := Aside0.mk hc0
  have HC1 := Aside0.mk hc1
  have HW := Aside0.mk hwf
  have HLW := Aside0.mk hlw
  have hm1 := hwf.lm
  clear hr0 hr1 hc0 hc1 hwf hlw
  cases hv : validB cs [] ms with
  | false =>
    have HV := Aside0.mk hv
    have HP : Aside0 (finalP cs ms lit = ([], 200)) := ⟨by unfold finalP; rw [hv]; rfl⟩
    clear hv
    go_enter Try.func25, Try.ntmps25
    go_wp2_with (go_at_call 36; refine (load_no A0 c0 cs A1 c1 ms _ HR0.out HC0.out HR1.out HC1.out HW.out HV.out).mono ?_; rintro e w2 ⟨rfl, hb2⟩; have HB2 := Aside0.mk hb2; clear hb2)
    go_ret2
    rw [HP.out]
    exact ⟨_, rfl, Kd.R_nil _ _ _ _ _, HB2.out⟩
  | true =>
    have HV := Aside0.mk hv
    clear hv
    cases hh : hasM ms lit with
    | false =>
      have HH := Aside0.mk hh
      have HP : Aside0 (finalP cs ms lit = ([], 210)) := ⟨by unfold finalP; rw [HV.out, hh]; rfl⟩
      clear hh
      go_enter Try.func25, Try.ntmps25
      go_wp2_with (go_at_call 36; refine (load_yes A0 c0 cs A1 c1 ms _ HR0.out HC0.out HR1.out HC1.out HW.out HV.out).mono ?_; rintro e w2 ⟨tb, rfl, ht2, hb2⟩; have HB2 := Aside0.mk hb2; obtain ⟨pb, hpb, hpl⟩ := Tr.pl ht2; have hp2 := hpl w2 (Below.refl _ _); have d2 := hp2.c2; have r1 := hp2.map.run_look_ok Try.underlying63 Try.underlying3 zero3 HLW.out; rw [mem_keysM, HH.out] at r1; generalize (if lit ∈ keysM ms then plF ms lit else 0) = v0 at r1; clear hb2 ht2 hpl hp2 hpb)
      go_ret2
      rw [HP.out]
      exact ⟨_, rfl, Kd.R_nil _ _ _ _ _, HB2.out⟩
    | true =>
      have HH := Aside0.mk hh
      have hplt := placeN_lt.2 hh
      have hmem := hasM_mem.1 hh
      have HP : Aside0 (finalP cs ms lit = ((finL cs ms (placeN ms lit + 1) [(placeN ms lit : Int)] []).reverse, 0)) := ⟨by unfold finalP; rw [HV.out, hh]; rfl⟩
      have hpf : (if lit ∈ keysM ms then plF ms lit else 0) = (placeN ms lit : Int) := by rw [if_pos hmem]; rfl
      obtain ⟨p, hp⟩ : ∃ p, p = placeN ms lit := ⟨_, rfl⟩
      rw [← hp] at hplt HP hpf
      have HPF := Aside0.mk hpf
      have HWP : Aside0 (w64 (p : Int)) := ⟨by rw [w64_iff]; omega⟩
      have hmm := @run_makeMap Try.prog
      clear hh hmem hp hpf
      go_enter Try.func25, Try.ntmps25
      go_wp2_with (first | (go_at_call 36; refine (load_yes A0 c0 cs A1 c1 ms _ HR0.out HC0.out HR1.out HC1.out HW.out HV.out).mono ?_; rintro e w2 ⟨tb, rfl, ht2, hb2⟩; have HB2 := Aside0.mk hb2; obtain ⟨pb, hpb, hpl⟩ := Tr.pl ht2; have hp2 := hpl w2 (Below.refl _ _); have d2 := hp2.c2; have r1 := hp2.map.run_look_ok Try.underlying63 Try.underlying3 zero3 HLW.out; rw [mem_keysM, HH.out, HPF.out] at r1; have HPL := Aside0.mk hpl; clear hb2 ht2 hpl hp2 hpb) | (refine wpList_insert_F _ rfl _ _ _ 63 rfl 3 Try.underlying63 Try.underlying3 w2.heap.size [] (fun _ => 1) rfl (isMapF_made _ _ w2 (fun _ => 1)) (by decide) (p : Int) 1 rfl rfl HWP.out (by decide) ?_; intro w4 hm4 hg4; have HM4 := Aside0.mk (And.intro hm4 hg4); clear hm4 hg4))
      have HI0 : Aside0 (FinI w2 ms.length (.slice none 0 0) [(p : Int)] [] w4) := by
        have hb0 := below_alloc (Below.refl w2.heap.size w2) (.map #[] 0)
        refine ⟨⟨pw_below_grown hb0 _ hb0.size HM4.out.2 (fun k q => by injection q with q; omega), HM4.out.1.congr (List.Perm.refl _) (fun y _ => by unfold updF; split <;> rfl), fun x hx => ?_, Kd.R_nil _ _ _ _ _⟩⟩
        simp at hx; subst hx; omega
      clear HM4 d2 r1 hmm
      go_loopg [13, 14] (p + 1) (fun kq v13 v14 w' => ∃ i : Int, ∃ S out : List Int, v14 = .int .i64 i ∧ i + 1 = kq ∧ kq ≤ ms.length ∧ out.length + kq ≤ ms.length ∧ Aside0 (finL cs ms (p + 1) [(p : Int)] [] = finL cs ms kq S out) ∧ Aside0 (FinI w2 ms.length v13 S out w'))
      case atStart => exact ⟨p, _, [], rfl, by omega, by omega, by simp; omega, ⟨rfl⟩, HI0⟩
      case round =>
        obtain ⟨i, S, out, rfl, hi, hkq, hol, HQ, HI⟩ := hrel
        clear HI0
        cases gk with
        | zero =>
          obtain rfl : i = -1 := by omega
          have hq := HQ.out
          rw [finL_zero] at hq
          have HQ0 := Aside0.mk hq
          obtain ⟨k, hk⟩ := (reverse_all out (by omega)).rounds
          have HREV := Aside0.mk (slices_Reverse_int_int.calls k (fun k => k ≠ w2.heap.size) u13 out out.reverse w2 wr HI.out.b HI.out.rv hk)
          clear hq HQ hk
          go_wp2_with (go_at_call 55; refine HREV.out.mono ?_; rintro e w5 ⟨rfl, hr5, hb5, _⟩; have H5 := Aside0.mk (And.intro hr5 hb5); clear hr5 hb5)
          go_ret2
          rw [HP.out, HQ0.out]
          have hs := HB2.out.size
          exact ⟨_, rfl, Kd.R_mono (Kd.R_lower H5.out.1 hs) (fun _ _ => trivial), below_then HB2.out hs H5.out.2⟩
        | succ k1 =>
          obtain rfl : i = (k1 : Int) := by omega
          have hbw : Below w.heap.size w wr := below_then HB2.out HB2.out.size HI.out.b
          have HBW := Aside0.mk hbw
          have hlt : k1 < ms.length := by omega
          have hwk : w64 (k1 : Int) := by rw [w64_iff]; omega
          have rc := HI.out.map.run_look Try.underlying63 Try.underlying3 zero3 hwk
          have hq := HQ.out
          rw [finL_succ cs ms k1 S out] at hq
          clear hbw hwk HQ
          by_cases hin : (k1 : Int) ∈ S
          · rw [if_pos hin] at rc hq
            clear hin
            have hwm := HW.out.mk_rd hlt
            obtain ⟨ad, rfl, x0, x1, x2⟩ := at_T49 (Kd.C_below HR1.out HBW.out) (k1 : Int) (by omega) (by omega)
            rw [Int.toNat_natCast] at x0 x1 x2
            have hv1 := okAt_iff.1 (VT.of HV.out k1 (mkAt ms k1) (by unfold mkAt rd_T49; rw [Int.toNat_natCast, List.getD_eq_getElem?_getD, List.getElem?_eq_getElem hlt]; rfl))
            have hme : mkAt ms k1 = rd_T49 ms (k1 : Int) := rfl
            obtain ⟨m, hm⟩ : ∃ m, m = rd_T49 ms (k1 : Int) := ⟨_, rfl⟩
            rw [← hm] at x0 x1 x2 hwm hme
            rw [hme] at hq hv1
            obtain ⟨a, b, c⟩ := m
            simp only at x0 x1 x2 hq
            have HWM := Aside0.mk hwm
            have HV1 := Aside0.mk hv1
            clear hm hme hwm hv1
            have hbel : Below wr.heap.size wr (wr.alloc (.cells #[.int .i64 a, .int .i64 b, .int .i64 c] 49)) := below_alloc (Below.refl _ _) _
            have HJ := Aside0.mk (HI.out.below hbel)
            have HG := Aside0.mk (heap_alloc_new wr (.cells #[.int .i64 a, .int .i64 b, .int .i64 c] 49))
            have HWR : Aside0 (w2.heap.size < wr.heap.size) := ⟨HI.out.map.lt⟩
            by_cases hc : c < 0
            · rw [if_pos hc] at hq
              have HQ := Aside0.mk hq
              have hc1 : decide (c < 0) = true := by simpa using hc
              clear hc hq hbel
              go_upto_region 15 with (fail)
              clear x0 x1 x2
              generalize (wr.alloc (.cells #[.int .i64 a, .int .i64 b, .int .i64 c] 49)) = w1 at HJ HG ⊢
              have kc0 := blk_cell HG.out 0
              have hal : out.length + 1 ≤ 4194304 := by omega
              have HAL := Aside0.mk hal
              clear hal
              go_wp2_with (at_builtin; refine Kd.R_append (Kd.int .i64) (w0 := w2) w2.heap.size rfl (.tmp 56) (.tmp 59) 27 3 (.int .i64 0) 8 rfl Try.underlying27 info_int rfl (by decide) (by omega) u13 out a [.int .i64 a] (fun k => k ≠ w2.heap.size) (fun _ => False) rfl rfl ?aP (fun _ hk => hk.elim) ?aF HJ.out.rv HJ.out.b HJ.out.b.size ?aL ?_; (case aP => exact rfl); (case aF => exact fun k hk => by have := HJ.out.map.lt; omega); (case aL => have := HAL.out; omega); intro v4 w4 ho hb hg hat; have H4 := Aside0.mk (And.intro ho (And.intro hb hg)); clear ho hb hg hat)
              have hnm : some w2.heap.size ≠ u13.ownBlock := Kd.R_away HJ.out.rv (fun k hk => hk)
              have HI4 : Aside0 (FinI w2 ms.length v4 S (out ++ [a]) w4) := ⟨H4.out.2.1, HJ.out.map.step (H4.out.2.2.block _ HJ.out.map.lt hnm), HJ.out.rng, H4.out.1⟩
              clear hnm
              go_roundg k1
              case measure => omega
              case rel => exact ⟨(k1 : Int) - 1, S, out ++ [a], by go_num, by omega, by omega, by simp; omega, HQ, HI4⟩
            · rw [if_neg hc] at hq
              obtain ⟨hc3, hc4, hfc⟩ : 0 ≤ c ∧ c < cs.length ∧ forcesB (ms.take k1) (rdC cs c) a = true := by
                rcases HV1.out.how with ⟨h1, _⟩ | ⟨_, h1, h2, h3, _⟩
                · simp only at h1; omega
                · exact ⟨h1, h2, h3⟩
              have hc1 : decide (c < 0) = false := by simpa using hc
              obtain ⟨adc, Ac, cc, rfl, y0w, y1, y2⟩ := at_C HR0.out c hc3 hc4
              have y0 := pw_cell_below (below_step HBW.out hbel) y0w
              clear y0w
              have HWC := Aside0.mk (HW.out.c _ (rdC_mem hc3 hc4))
              have HLC := Aside0.mk (HW.out.lcl _ (rdC_mem hc3 hc4))
              have HFC := Aside0.mk hfc
              obtain ⟨cl, hcle⟩ : ∃ x, x = rdC cs c := ⟨_, rfl⟩
              rw [← hcle] at y0 y1 y2 HWC HLC HFC hq
              have HY := Aside0.mk y2
              have HQ := Aside0.mk hq
              clear hcle y2 hc hfc hq hbel
              go_wp2
              clear x0 x1 x2 y0
              generalize (wr.alloc (.cells #[.int .i64 a, .int .i64 b, .int .i64 c] 49)) = w1 at HJ HG HY ⊢
              obtain ⟨vo, rfl⟩ : ∃ v, v = u13 := ⟨_, rfl⟩
              obtain ⟨wo, rfl⟩ : ∃ w, w = wr := ⟨_, rfl⟩
              have hlc := HLC.out
              go_loopg [67] cl.length (fun kj v67 w' => ∃ j : Nat, ∃ S' : List Int, v67 = .int .i64 j ∧ j + kj = cl.length ∧ Aside0 (S' = (cl.take j).foldl (addF ms a) S) ∧ Aside0 (FinI w2 ms.length vo S' out w' ∧ w'.heap[wo.heap.size]? = some (.cells #[.int .i64 a, .int .i64 b, .int .i64 c] 49 (0, 0))))
              case atStart => exact ⟨0, S, rfl, by omega, ⟨by simp⟩, ⟨HJ.out, HG.out⟩⟩
              case round =>
                obtain ⟨j, S', rfl, hj, HS, HK⟩ := hrel
                have HBW2 : Aside0 (Below w.heap.size w wr) := ⟨below_then HB2.out HB2.out.size HK.out.1.b⟩
                cases gk with
                | zero =>
                  obtain rfl : j = cl.length := by omega
                  have hs := HS.out
                  rw [List.take_length] at hs
                  have hq := HQ.out
                  rw [← hs] at hq
                  have HQ2 := Aside0.mk hq
                  clear hs hq HS HQ
                  go_wp2
                  go_roundg k1
                  case measure => omega
                  case rel => exact ⟨(k1 : Int) - 1, S', out, by go_num, by omega, by omega, by omega, HQ2, ⟨HK.out.1⟩⟩
                | succ kj =>
                  have hltj : j < cl.length := by omega
                  obtain ⟨adx, rfl, hx⟩ := Kd.at_int (Kd.C_below HY.out HBW2.out) (j : Int) (by omega) (by omega)
                  rw [Int.toNat_natCast] at hx
                  have htk := take_rd hltj
                  have hxm := rdm hltj
                  have HWX := Aside0.mk (HWC.out _ hxm)
                  have hfl : (rd cl (j : Int) == a || isFalseB (ms.take k1) (rd cl (j : Int))) = true := by
                    have h1 := HFC.out
                    unfold forcesB at h1
                    rw [Bool.and_eq_true] at h1
                    exact List.all_eq_true.1 h1.2 _ hxm
                  obtain ⟨x, hxe⟩ : ∃ x, x = rd cl (j : Int) := ⟨_, rfl⟩
                  rw [← hxe] at hx htk HWX hfl
                  have HS2 : Aside0 (addF ms a S' x = (cl.take (j + 1)).foldl (addF ms a) S) := ⟨by rw [htk, List.foldl_append, ← HS.out]; rfl⟩
                  have kc0 := blk_cell HK.out.2 0
                  clear htk hxm hxe HS
                  by_cases hxa : x = a
                  · have hx1 : (x != a) = false := by simpa using hxa
                    have hS3 := HS2.out
                    unfold addF at hS3
                    rw [if_pos hxa] at hS3
                    have HS3 := Aside0.mk hS3
                    clear hxa hfl hS3 HS2
                    go_wp2
                    go_roundg kj
                    case measure => omega
                    case rel => exact ⟨j + 1, S', by go_num, by omega, HS3, HK⟩
                  · have hx1 : (x != a) = true := by simpa using hxa
                    have hx2 : (x == a) = false := by simpa using hxa
                    rw [hx2, Bool.false_or] at hfl
                    unfold isFalseB at hfl
                    rw [Bool.and_eq_true] at hfl
                    obtain ⟨hn1, hn2⟩ := wneg HWX.out hfl.1
                    have hS3 := HS2.out
                    unfold addF at hS3
                    rw [if_neg hxa] at hS3
                    obtain ⟨hm2, hq2⟩ : hasM ms (-x) = true ∧ placeN ms (-x) < ms.length := by
                      have h1 : hasM ms (-x) = true := by
                        have h2 := hasM_mem.1 hfl.2
                        rw [hasM_mem]
                        exact List.mem_of_mem_take (by simpa [keysM, List.map_take] using h2)
                      exact ⟨h1, placeN_lt.2 h1⟩
                    have r2 := (HPL.out wr HK.out.1.b).map.run_look Try.underlying63 Try.underlying3 zero3 hn2
                    rw [if_pos (hasM_mem.1 hm2)] at r2
                    unfold plF at r2
                    have d2 := (HPL.out wr HK.out.1.b).c2
                    obtain ⟨q, hqe⟩ : ∃ q, q = placeN ms (-x) := ⟨_, rfl⟩
                    rw [← hqe] at r2 hq2 hS3
                    obtain ⟨nx, hnx⟩ : ∃ n, n = -x := ⟨_, rfl⟩
                    rw [← hnx] at r2
                    replace hn1 := hn1.trans hnx.symm
                    have HS3 := Aside0.mk hS3
                    have HWQ : Aside0 (w64 (q : Int)) := ⟨by rw [w64_iff]; omega⟩
                    have hsm : S'.length < maxLen := by have := HK.out.1.len; unfold maxLen; omega
                    have HSM := Aside0.mk hsm
                    clear hxa hx2 hfl hn2 hm2 hqe hnx hS3 HS2 hsm
                    go_wp2_with (at_mapUpdate; refine wpList_put_F _ rfl _ _ _ 63 rfl 3 Try.underlying63 Try.underlying3 w2.heap.size S' (fun _ => 1) rfl HK.out.1.map HSM.out (q : Int) 1 rfl rfl HWQ.out (by decide) ?_; intro w3 hm3 hg3; have HM3 := Aside0.mk (And.intro hm3 hg3); clear hm3 hg3)
                    go_roundg kj
                    case measure => omega
                    case rel => exact ⟨j + 1, insK S' (q : Int), by go_num, by omega, HS3, ⟨HK.out.1.put ⟨by omega, by omega⟩ HM3.out.1 HM3.out.2, (HM3.out.2.block _ (blk_lt HK.out.2) (by intro e; injection e with e; have := HWR.out; omega)).trans HK.out.2⟩⟩
          · rw [if_neg hin] at rc hq
            have HQ := Aside0.mk hq
            clear hin hq
            go_wp2
            go_roundg k1
            case measure => omega
            case rel => exact ⟨(k1 : Int) - 1, S, out, by go_num, by omega, by omega, by omega, HQ, HI⟩
end Go.Proofs.Ytboalbiicmcljaa.PAN
