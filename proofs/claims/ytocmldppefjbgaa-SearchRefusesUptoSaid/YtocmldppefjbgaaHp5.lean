import Derived.Test.YtocmldppefjbgaaHp4
import Derived.BigQuiet
import Derived.Deep.QuietTactic
namespace Go.Proofs.Ytocmldppefjbgaa.PHP
open Go.RowKit Go.Proofs.YtocmldppefjbgaaW.PrintWords Go.Proofs.YtocmldppefjbgaaW.PrintLast Go.Proofs.YtocmldppefjbgaaW.PrintMore Go.Proofs.YtocmldppefjbgaaH
set_option linter.unusedVariables false
set_option linter.unusedSimpArgs false
theorem info_int : (Try.prog.info? 3).map (fun i => (i.zero, i.size, i.bytes)) = some (some (.int .i64 0), 1, 8) := by kernel_rfl
section
variable {w : World} {ok : Nat → Prop} {g hb gs gp : Nat} {vl : Value} {l : List Int} {sc : List Nat} {pl : List Int} {st : Nat}
set_option maxRecDepth 100000 in
set_option maxHeartbeats 4000000 in
theorem hp_push (X X' : Int → Prop) (x : Int) (h : HM w ok g hb gs gp vl l sc pl st) (hwf : WF sc.length X l pl) (hhp : HP sc l) (hx : x ∉ l) (h0 : 0 ≤ x) (h1 : x < (sc.length : Int)) (hX : ∀ v, X v → v ≠ x → X' v) (hs : ∀ x ∈ sc, x < inf) (hl : sc.length ≤ 1048576) :
    Calls Try.prog 54 #[.pointer (some ⟨g, 0, none⟩), .int .i64 x] w fun e w' => e = .returned (.tuple #[]) ∧ ∃ vl' l' pl', HM w' (fun k => ok k ∨ w.heap.size ≤ k) g hb gs gp vl' l' sc pl' st ∧ WF sc.length X' l' pl' ∧ HP sc l' ∧ (∀ v, v ∈ l' ↔ v ∈ l ∨ v = x) ∧ l'.length = l.length + 1 ∧ Rest w w' ok := by
  obtain ⟨A, c, rfl⟩ := h.sl
  have H := Aside0.mk h
  have HWF := Aside0.mk (hwf.snoc hx h0 h1 hX)
  have HHP := Aside0.mk (hhp.snoc (sc := sc) x)
  have HS := Aside0.mk hs
  have hle := hwf.le
  have hlt : (l ++ [x]).length ≤ sc.length := by have := HWF.out.le; exact this
  rw [List.length_append, List.length_singleton] at hlt
  have c0 := h.c 0
  have f0 := h.f 0
  have HL := Aside0.mk (And.intro hlt hl)
  have HLA : Aside0 (l.length < (l ++ [x]).length ∧ (l ++ [x]).length ≤ 1048576) := ⟨by simp, by simp; omega⟩
  have HWU : Aside0 (WF sc.length X' (l ++ [x]) (pl.set (gI (l ++ [x]) l.length).toNat (l.length : Int))) := ⟨by rw [gI_app_at]; exact HWF.out⟩
  have hw1 : wrap64 (l.length : Int) = (l.length : Int) := by unfold wrap64; omega
  have HF : Aside0 (∀ k, w.heap.size ≤ k → ((ok k ∨ w.heap.size ≤ k) ∧ off g hb gs gp k)) := ⟨fun k hk => ⟨.inr hk, by have := blk_lt h.blk; omega, by have := blk_lt h.box; omega, by have := blk_lt h.bs; omega, by have := blk_lt h.bp; omega⟩⟩
  have HO := Aside0.mk (Kd.R_mono h.rl (ok' := fun k => ((ok k ∨ w.heap.size ≤ k) ∧ off g hb gs gp k)) (fun k q => ⟨.inl q.1, q.2⟩))
  have HGL := Aside0.mk (blk_lt h.blk)
  clear h hwf hhp hx hX hs hle hlt hl
  have c0a : ∀ o : Obj, (w.alloc o).cell? ⟨g, 0, none⟩ = some (.slice A l.length c) := fun o => ((below_alloc (Below.refl w.heap.size w) o).cell HGL.out).trans c0
  go_enter Try.func54, Try.ntmps54
  go_upto_region 1 with (at_builtin; go_loud (refine Kd.R_append (Kd.int .i64) (w0 := w) 0 rfl (.tmp 8) (.tmp 10) 22 3 (.int .i64 0) 8 rfl Try.underlying22 info_int rfl (by decide) (by omega) (.slice A l.length c) l x [.int .i64 x] (fun k => ((ok k ∨ w.heap.size ≤ k) ∧ off g hb gs gp k)) (fun _ => False) rfl rfl ?aP (fun _ hk => hk.elim) HF.out HO.out ⟨rfl, rfl, rfl, Nat.le_refl _, fun _ h => by omega⟩ (Nat.zero_le _) ?aL ?_; (case aP => exact rfl); (case aL => have := HL.out; omega); intro v1 w1 ho hb0 hg hat; obtain ⟨A1, c1, rfl⟩ := Kd.R_slice ho; have hm1 := H.out.setv (fun k q => .inl q) ho hg; rw [show (l ++ [x]).length = l.length + 1 from by simp] at hm1; have hbg := (hg.block g HGL.out (fun e => (H.out.rl.1 g e.symm).2.1 rfl)).trans H.out.blk; have k0 := blk_cell hbg 0; have k0f := blk_frozen hbg 0; have HM1 := Aside0.mk hm1; have HG1 := Aside0.mk hg; clear ho hb0 hg hat hm1 hbg))
  obtain ⟨w3, hw3⟩ : ∃ w3, w3 = w1.setCell ⟨g, 0, none⟩ (.slice A1 (l.length + 1) c1) := ⟨_, rfl⟩
  have hR3 : Rest w w3 ok := by rw [hw3]; exact ((Rest.refl w ok).grown HG1.out (fun k e _ => (H.out.rl.1 k e).1)).set (p := ⟨g, 0, none⟩) (fun _ => H.out.og) _
  have HM3 : Aside0 (HM w3 (fun k => ok k ∨ w.heap.size ≤ k) g hb gs gp (.slice A1 (l.length + 1) c1) (l ++ [x]) sc pl st) := ⟨by rw [hw3]; exact HM1.out⟩
  have HR3 := Aside0.mk hR3
  rw [← hw3]
  clear hw3 hR3 c0 c0a f0 k0 k0f HM1 HG1
  have c0 := HM3.out.c 0
  go_wp2_with (go_at_call 55; go_loud (refine (hp_up X' l.length HM3.out HLA.out.1 HWU.out HHP.out HS.out HLA.out.2).mono ?_; rintro e w4 ⟨rfl, l', pl', a1, a2, a3, a4, a5, a6⟩; have HA := Aside0.mk (And.intro a1 (And.intro a2 (And.intro a3 (And.intro a4 (And.intro a5 a6))))); clear a1 a2 a3 a4 a5 a6 c0))
  go_end0
  obtain ⟨a1, a2, a3, a4, a5, a6⟩ := HA.out
  exact ⟨rfl, _, l', pl', a1, a2, a3, fun v => by rw [a4 v]; simp, by rw [a5]; simp, HR3.out.trans a6 (fun k hk q => q.elim id (fun q => by omega))⟩
end

section
variable {w : World} {ok : Nat → Prop} {g hb gs gp : Nat} {vl : Value} {l : List Int} {sc : List Nat} {pl : List Int} {st : Nat}
set_option maxRecDepth 100000 in
set_option maxHeartbeats 8000000 in
theorem hp_pop (X : Int → Prop) (h : HM w ok g hb gs gp vl l sc pl st) (hwf : WF sc.length X l pl) (hhp : HP sc l) (h0 : 0 < l.length) (hs : ∀ x ∈ sc, x < inf) (hl : sc.length ≤ 1048576) :
    Calls Try.prog 49 #[.pointer (some ⟨g, 0, none⟩)] w fun e w' => e = .returned (.int .i64 (gI l 0)) ∧ ∃ vl' l' pl', HM w' ok g hb gs gp vl' l' sc pl' st ∧ WF sc.length X l' pl' ∧ HP sc l' ∧ (∀ v, v ∈ l' ↔ v ∈ l ∧ v ≠ gI l 0) ∧ l'.length + 1 = l.length ∧ Rest w w' ok := by
  obtain ⟨k, hk⟩ : ∃ k, l.length = k + 1 := ⟨l.length - 1, by omega⟩
  obtain ⟨gl, c, rfl, hq⟩ := h.q h0
  have hle := hwf.le
  have H := Aside0.mk h
  obtain ⟨x, hx⟩ : ∃ x, x = gI l 0 := ⟨_, rfl⟩
  obtain ⟨y, hy⟩ : ∃ y, y = gI l k := ⟨_, rfl⟩
  have HXR := Aside0.mk (hwf.rng x (by rw [hx]; exact gI_mem h0))
  have HYR := Aside0.mk (hwf.rng y (by rw [hy]; exact gI_mem (by omega)))
  have q0 := (hq 0 h0).1
  have qk := (hq k (by omega)).1
  have f0 := (hq 0 h0).2
  rw [← hx] at q0
  rw [← hy] at qk
  rw [← hx]
  rw [hk] at H
  have c0 := H.out.c 0
  have hcf := H.out.f 0
  have c2 := H.out.c 2
  have hcap : k ≤ c := by have := (Kd.R_reads' H.out.rl).2.1; omega
  have hw1 : wrap64 (k : Int) = (k : Int) := by unfold wrap64; omega
  have i0 : (0 : Int) ≤ (k : Int) := by omega
  have i1 : (k : Int) < ((k + 1 : Nat) : Int) := by omega
  have i2 : (0 : Int) < ((k + 1 : Nat) : Int) := by omega
  have i3 : (0 < k + 1) = True := by simp
  have i4 : (k : Int) < (k : Int) + 1 := by omega
  have i5 : (0 : Int) < (k : Int) + 1 := by omega
  have hci : (k : Int) ≤ (c : Int) := by omega
  have HWF := Aside0.mk hwf
  have HHP := Aside0.mk hhp
  have HS := Aside0.mk hs
  have HK := Aside0.mk (And.intro hk (And.intro hx (And.intro hy (And.intro hle hl))))
  clear h hwf hhp hs hk hx hy hle hl hq h0
  go_enter Try.func49, Try.ntmps49
  go_upto_region 2 with fail
  go_wp2_with fail
  go_quiet (fail)
  have HD := Aside0.mk (show Drawn0 w (w.drewN nq) from Drawn0.step (Drawn0.refl w) nq)
  obtain ⟨wq, hwq⟩ : ∃ wq, wq = w.drewN nq := ⟨_, rfl⟩
  rw [← hwq] at HD ⊢
  have HQ := Aside0.mk (H.out.drawn HD.out)
  clear hwq c0 hcf c2 q0 qk f0
  have c0 := HQ.out.c 0
  have hcf := HQ.out.f 0
  go_wp2_with fail
  go_region
  have hset := HQ.out.setv (w1 := wq) (fun _ q => q) (Kd.R_take HQ.out.rl (show k ≤ l.length by have := HK.out.1; omega)) ⟨rfl, rfl, rfl, Nat.le_refl _, fun _ _ _ => rfl⟩
  obtain ⟨w3, hw3⟩ : ∃ w3, w3 = (wq.setCell ⟨g, 0, none⟩ (.slice (some ⟨gl, 0, none⟩) k c)).drew := ⟨_, rfl⟩
  have HM3 : Aside0 (HM w3 ok g hb gs gp (.slice (some ⟨gl, 0, none⟩) k c) (l.take k) sc pl st) := ⟨by rw [hw3]; exact hset.step (fun _ _ _ => rfl)⟩
  have HR3 : Aside0 (Rest w w3 ok) := ⟨by rw [hw3]; exact ((((Rest.refl w ok).drawn HD.out).set (p := ⟨g, 0, none⟩) (fun _ => H.out.og) _).trans (Rest.of_below (below_drew1 (Below.refl _ _)) ok) (fun _ _ q => q))⟩
  rw [← hw3]
  clear hset hw3 c0 hcf hcap hci hw1 i0 i1 i2 i3 i4 i5
  have c0 := HM3.out.c 0
  have c2 := HM3.out.c 2
  by_cases hk0 : k = 0
  · subst hk0
    have HWL := Aside0.mk (pop_last HWF.out HK.out.1)
    have hlt0 : l.take 0 = [] := rfl
    rw [hlt0] at HM3
    go_wp2_with (go_at_call 57; go_loud (refine (hp_moved x (-1) HM3.out HXR.out.1 (by rw [HWF.out.len]; exact HXR.out.2)).mono ?_; rintro e w4 ⟨rfl, rfl⟩))
    go_ret
    refine ⟨rfl, _, _, _, HM3.out.setp x.toNat (-1), by rw [HK.out.2.1]; exact HWL.out, fun i _ hi => absurd hi (Nat.not_lt_zero _), fun v => ?_, by rw [HK.out.1]; rfl, HR3.out.set (p := ⟨gp, x.toNat, none⟩) (fun _ => HM3.out.op) _⟩
    constructor
    · intro q; exact absurd q List.not_mem_nil
    · rintro ⟨q1, q2⟩
      obtain ⟨i, hi, e⟩ := mem_gI.1 q1
      rw [HK.out.1] at hi
      exact absurd (by rw [← e, HK.out.2.1, show i = 0 by omega]) q2
  · have hkp : 0 < k := by omega
    have hkt : (0 : Int) < (k : Int) := by omega
    have hkd : (0 < k) = True := by simp [hkp]
    obtain ⟨s1, s2, s3⟩ := pop_start HWF.out HHP.out HK.out.1 hkp
    rw [← HK.out.2.1] at s1 s3
    rw [← HK.out.2.2.1] at s1 s2 s3
    have htl : 0 < (l.take k).length := by rw [List.length_take, HK.out.1]; omega
    obtain ⟨gl', c', e, hq⟩ := HM3.out.q htl
    simp only [Value.slice.injEq, Option.some.injEq, Addr.mk.injEq] at e
    obtain ⟨⟨rfl, -⟩, -, rfl⟩ := e
    obtain ⟨x0, xf⟩ := hq 0 htl
    have HM4 := Aside0.mk (HM3.out.setl 0 y)
    have hg0 : gI ((l.take k).set 0 y) 0 = y := by rw [gI_set y htl, if_pos rfl]
    have HWD : Aside0 (WF sc.length (fun v => X v ∨ v = x) ((l.take k).set 0 y) (pl.set (gI ((l.take k).set 0 y) 0).toNat ((0 : Nat) : Int))) := ⟨by rw [hg0]; exact s1⟩
    have HHD := Aside0.mk s2
    have HME := Aside0.mk s3
    have HLD : Aside0 (0 < ((l.take k).set 0 y).length ∧ ((l.take k).set 0 y).length ≤ 1048576 ∧ ((l.take k).set 0 y).length = k) := ⟨by rw [List.length_set, List.length_take, HK.out.1]; have h1 := HK.out.2.2.2; have h2 := HK.out.1; omega⟩
    have HOK := Aside0.mk (HM3.out.rl.1 gl rfl).1
    clear s1 s2 s3 htl hq hg0
    go_upto_region 6 with fail
    have HR4 : Aside0 (Rest w (w3.setCell ⟨gl, 0, none⟩ (.int .i64 y)) ok) := ⟨HR3.out.set (p := ⟨gl, 0, none⟩) (fun _ => HOK.out) _⟩
    obtain ⟨w4, hw4⟩ : ∃ w4, w4 = w3.setCell ⟨gl, 0, none⟩ (.int .i64 y) := ⟨_, rfl⟩
    rw [← hw4] at HR4 HM4 ⊢
    clear hw4 x0 xf c0 c2
    go_upto_region 7 with (go_at_call 60; go_loud (refine (hp_down (fun v => X v ∨ v = x) 0 HM4.out HLD.out.1 HWD.out HHD.out HS.out HLD.out.2.1).mono ?_; rintro e w5 ⟨rfl, l', pl', a1, a2, a3, a4, a5, a6⟩; have HA := Aside0.mk (And.intro a1 (And.intro a2 (And.intro a3 (And.intro a4 (And.intro a5 a6))))); have c2 := a1.c 2; clear a1 a2 a3 a4 a5 a6))
    go_wp2_with (go_at_call 57; go_loud (refine (hp_moved x (-1) HA.out.1 HXR.out.1 (by rw [HA.out.2.1.len]; exact HXR.out.2)).mono ?_; rintro e w6 ⟨rfl, rfl⟩))
    go_ret
    obtain ⟨a1, a2, a3, a4, a5, a6⟩ := HA.out
    have hxn : x ∉ l' := fun q => ((HME.out x).1 ((a4 x).1 q)).2 rfl
    exact ⟨rfl, _, _, _, a1.setp x.toNat (-1), a2.gone hxn HXR.out.1 HXR.out.2, a3, fun v => (a4 v).trans (HME.out v), by rw [a5, HLD.out.2.2, HK.out.1], (HR4.out.trans a6 (fun _ _ q => q)).set (p := ⟨gp, x.toNat, none⟩) (fun _ => a1.op) _⟩
end

end Go.Proofs.Ytocmldppefjbgaa.PHP
