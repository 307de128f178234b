import Derived.Test.YtocmldppefjbgaaHp8
import Derived.StillTailTactics
import Derived.BigQuiet
import Derived.Deep.QuietTactic
namespace Go.Proofs.Ytocmldppefjbgaa.PHP
open Go.RowKit Go.Proofs.YtocmldppefjbgaaW.PrintWords Go.Proofs.YtocmldppefjbgaaW.PrintLast Go.Proofs.YtocmldppefjbgaaW.PrintMore Go.Proofs.YtocmldppefjbgaaH
set_option linter.unusedVariables false
set_option linter.unusedSimpArgs false
theorem HS.st1t {w : World} {ok : Nat → Prop} {g n : Nat} {l : List Int} {sc : List Nat} {st : Nat} (h : HS w ok g n l sc st) : st ≤ twice := Nat.le_trans h.st1 (by decide +kernel)
theorem bump_up {sc : List Nat} {l pl : List Int} {n a q : Nat} {v : Int} (h : HP sc l) (hw : WF n (fun _ => False) l pl) (ha : a < l.length) (hv : gI l a = v) (hsc : sc.length = n) (hq : gW sc v ≤ q) : HPup (sc.set v.toNat q) l a := by
  have hr := fun i (hi : i < l.length) => hw.rng _ (gI_mem hi)
  have hvr := hr a ha
  rw [hv] at hvr
  refine ⟨fun i i0 i1 i2 => ?_, fun i i0 i1 i2 i3 => ?_⟩
  · exact ah_rose (by omega) hq (hr _ (by omega)).1 (hr _ i1).1 hvr.1 (fun e => hw.ne i1 ha i2 (by rw [hv]; exact e)) (h i i0 i1)
  · have h1 := h a i3 ha
    have h2 := h i i0 i1
    rw [i2] at h2
    exact ah_rose (by omega) hq (hr _ (by omega)).1 (hr _ i1).1 hvr.1 (fun e => hw.ne i1 ha (by omega) (by rw [hv]; exact e)) (ah_trans h1 h2)
theorem bump_out {sc : List Nat} {l pl : List Int} {n q : Nat} {v : Int} (h : HP sc l) (hw : WF n (fun _ => False) l pl) (hv : v ∉ l) (h0 : 0 ≤ v) (h1 : v.toNat < sc.length) (hq : gW sc v ≤ q) : HP (sc.set v.toNat q) l := fun i i0 i1 =>
  ah_rose h1 hq (hw.rng _ (gI_mem (by omega))).1 (hw.rng _ (gI_mem i1)).1 h0 (fun e => hv (e ▸ gI_mem i1)) (h i i0 i1)
theorem gW_set {sc : List Nat} {v : Int} {q : Nat} (h : v.toNat < sc.length) (h0 : 0 ≤ v) : gW (sc.set v.toNat q) ((v.toNat : Nat) : Int) = q := by
  unfold gW
  rw [Int.toNat_natCast, List.getD_eq_getElem?_getD, List.getElem?_set_self h]
  rfl
section
variable {w : World} {ok : Nat → Prop} {g n : Nat} {l : List Int} {sc : List Nat} {st : Nat}
theorem hm_is {hb gs gp : Nat} {vl : Value} {pl : List Int} (v : Int) (h1 : HM w ok g hb gs gp vl l sc pl st) (hn : sc.length = n) : Calls Try.prog 48 #[.pointer (some ⟨g, 0, none⟩), .int .i64 v] w fun e w' => e = .returned (.bool (decide (0 ≤ v ∧ v < (n : Int)))) ∧ w = w' := by
  have c3 := h1.c 3
  rw [hn] at c3
  clear h1 hn
  by_cases q0 : 0 ≤ v
  · have d0 : decide (0 ≤ v) = true := decide_eq_true q0
    have e : decide (0 ≤ v ∧ v < (n : Int)) = decide (v < (n : Int)) := by simp [q0]
    rw [e]
    clear e
    go_enter Try.func48, Try.ntmps48
    go_wp2
    go_ret
    exact ⟨rfl, rfl⟩
  · have d0 : decide (0 ≤ v) = false := decide_eq_false q0
    have e : decide (0 ≤ v ∧ v < (n : Int)) = false := by simp [q0]
    rw [e]
    clear e
    go_enter Try.func48, Try.ntmps48
    go_wp2
    go_ret
    exact ⟨rfl, rfl⟩
theorem hm_Has {hb gs gp : Nat} {vl : Value} {pl : List Int} (v : Int) (h1 : HM w ok g hb gs gp vl l sc pl st) (h2 : WF sc.length (fun _ => False) l pl) (hn : sc.length = n) : Calls Try.prog 26 #[.pointer (some ⟨g, 0, none⟩), .int .i64 v] w fun e w' => e = .returned (.bool (decide (v ∈ l))) ∧ w = w' := by
  have H := Aside0.mk (And.intro h1 hn)
  by_cases hv : 0 ≤ v ∧ v < (n : Int)
  · have HI : Aside0 (decide (0 ≤ v ∧ v < (n : Int)) = true) := ⟨decide_eq_true hv⟩
    have c4 := h1.c 4
    have hpl : pl.length = n := by rw [h2.len, hn]
    rw [hpl] at c4
    have hx := (WF.place (X := fun _ => False) h2 v hv.1 (by rw [hn]; exact hv.2)).1
    have p1 := (h1.p (i := v.toNat) (by omega)).1
    obtain ⟨y, hy⟩ : ∃ y, y = gI pl v.toNat := ⟨_, rfl⟩
    rw [← hy] at hx p1
    rw [← hx]
    have i0 := hv.1
    have i1 := hv.2
    clear h1 h2 hpl hx hy hv hn
    go_enter Try.func26, Try.ntmps26
    go_wp2_with (go_at_call 48; refine (hm_is v H.out.1 H.out.2).mono ?_; rw [HI.out]; rintro e w' ⟨rfl, rfl⟩)
    go_ret
    exact ⟨rfl, rfl⟩
  · have HI : Aside0 (decide (0 ≤ v ∧ v < (n : Int)) = false) := ⟨decide_eq_false hv⟩
    have hn' : decide (v ∈ l) = false := decide_eq_false (fun q => hv (by have := h2.rng v q; rw [hn] at this; exact this))
    rw [hn']
    clear h1 h2 hv hn hn'
    go_enter Try.func26, Try.ntmps26
    go_wp2_with (go_at_call 48; refine (hm_is v H.out.1 H.out.2).mono ?_; rw [HI.out]; rintro e w' ⟨rfl, rfl⟩)
    go_ret
    exact ⟨rfl, rfl⟩
theorem hs_Bump_no (v : Int) (h : HS w ok g n l sc st) (hv : ¬ (0 ≤ v ∧ v < (n : Int))) : Calls Try.prog 40 #[.pointer (some ⟨g, 0, none⟩), .int .i64 v] w fun e w' => e = .returned (.int .i64 61) ∧ w = w' := by
  have H := Aside0.mk h
  have HI : Aside0 (decide (0 ≤ v ∧ v < (n : Int)) = false) := ⟨decide_eq_false hv⟩
  clear h hv
  go_enter Try.func40, Try.ntmps40
  go_wp2_with (go_at_call 48; refine (hs_is v H.out).mono ?_; rw [HI.out]; rintro e w' ⟨rfl, rfl⟩)
  go_ret
  exact ⟨rfl, rfl⟩
set_option maxRecDepth 100000 in
set_option maxHeartbeats 4000000 in
theorem hs_Bump_in (v : Int) (h : HS w ok g n l sc st) (hv : 0 ≤ v ∧ v < (n : Int)) : Calls Try.prog 40 #[.pointer (some ⟨g, 0, none⟩), .int .i64 v] w fun e w' => ∃ l' sc' st', e = .returned (.int .i64 0) ∧ HS w' (fun k => ok k ∨ w.heap.size ≤ k) g n l' sc' st' ∧ (∀ x, x ∈ l' ↔ x ∈ l) ∧ Rest w w' ok ∧ (∀ q, D.add (gW sc v) st = some q → q ≤ great → sc' = sc.set v.toNat q) := by
  have H := Aside0.mk h
  have HI : Aside0 (decide (0 ≤ v ∧ v < (n : Int)) = true) := ⟨decide_eq_true hv⟩
  have HN := Aside0.mk (And.intro h.len h.cap)
  obtain ⟨hb, gs, gp, vl, pl, h1, h2⟩ := h.ex
  obtain ⟨i0, i1⟩ := hv
  have hvl : v.toNat < sc.length := by rw [h.len]; omega
  have hsv : gW sc v ≤ great := by
    unfold gW
    rw [List.getD_eq_getElem?_getD, List.getElem?_eq_getElem hvl]
    exact h.sc _ (List.getElem_mem hvl)
  obtain ⟨q, hq, hq2, hq3⟩ := bump_words hsv h.st1
  have hq4 := add_up (Nat.lt_of_le_of_lt hsv great_inf) (Nat.lt_of_le_of_lt h.st1 great_inf) hq
  have HQ := Aside0.mk (And.intro hq (And.intro hq2 (And.intro hq3 (Nat.lt_of_le_of_lt hq2 twice_inf))))
  have HQ4 := Aside0.mk hq4
  have HQW : Aside0 (gW (sc.set v.toNat q) ((v.toNat : Nat) : Int) = q) := ⟨gW_set hvl i0⟩
  have HTW : Aside0 (∀ x ∈ sc.set v.toNat q, x ≤ twice) := ⟨fun x hx => by
    rcases List.mem_or_eq_of_mem_set hx with hx | hx
    · exact Nat.le_trans (h.sc x hx) (by decide +kernel)
    · rw [hx]; exact hq2⟩
  have HFN : Aside0 (∀ x ∈ sc.set v.toNat q, x < inf) := ⟨fun x hx => Nat.lt_of_le_of_lt (HTW.out x hx) twice_inf⟩
  have c3 := h1.c 3
  rw [h.len] at c3
  have c5 := h1.c 5
  obtain ⟨s1, s2⟩ := h1.s hvl
  rw [Int.toNat_of_nonneg i0] at s1
  have ra := fun W => run_add hq W
  have sf := run_store_float
  have HX := Aside0.mk (And.intro h1 h2)
  have HVL := Aside0.mk hvl
  clear h h1 h2 hvl hsv hq hq2 hq3 hq4
  go_enter Try.func40, Try.ntmps40
  go_upto_region 3 with (go_at_call 48; refine (hs_is v H.out).mono ?_; rw [HI.out]; rintro e w' ⟨rfl, rfl⟩)
  go_wp2_with fail
  go_region
  have hm3 := HX.out.1.sets v.toNat q
  obtain ⟨w3, hw3⟩ : ∃ w', w' = (w.setCell ⟨gs, v.toNat, none⟩ (.float .f64 q)).drew := ⟨_, rfl⟩
  have HM3 : Aside0 (HM w3 ok g hb gs gp vl l (sc.set v.toNat q) pl st) := ⟨by rw [hw3]; exact hm3.step (fun _ _ _ => rfl)⟩
  have HR3 : Aside0 (Rest w w3 ok) := ⟨by rw [hw3]; exact ((Rest.refl w ok).set (p := ⟨gs, v.toNat, none⟩) (fun _ => HX.out.1.os) _).trans (Rest.of_below (below_drew1 (Below.refl _ _)) ok) (fun _ _ z => z)⟩
  rw [← hw3]
  clear hw3 hm3 c3 c5 s1 s2 ra sf
  by_cases hm : v ∈ l
  · have HHAS : Aside0 (decide (v ∈ l) = true) := ⟨decide_eq_true hm⟩
    obtain ⟨a, ha1, ha2, ha3⟩ := (WF.place (X := fun _ => False) HX.out.2 v i0 (by rw [HN.out.1]; exact i1)).2 hm
    have HUP := Aside0.mk (bump_up H.out.hp HX.out.2 ha2 ha3 rfl HQ4.out)
    have hpl : pl.length = n := by rw [HX.out.2.len, HN.out.1]
    have hps : pl.set (gI l a).toNat (a : Int) = pl := by
      rw [ha3, ← ha1]
      exact set_self (by rw [hpl]; omega)
    have HUW : Aside0 (WF (sc.set v.toNat q).length (fun _ => False) l (pl.set (gI l a).toNat (a : Int))) := ⟨by rw [hps, List.length_set]; exact HX.out.2⟩
    have HAL := Aside0.mk (And.intro ha2 (Nat.le_trans H.out.le HN.out.2))
    have c4 := HM3.out.c 4
    rw [hpl] at c4
    have p1 := (HM3.out.p (i := v.toNat) (by omega)).1
    rw [ha1] at p1
    clear hm ha1 ha2 ha3 hps hpl
    go_upto_region 5 with (go_at_call 26; go_loud (refine (hm_Has (n := n) v HM3.out (by rw [List.length_set]; exact HX.out.2) (by rw [List.length_set]; exact HN.out.1)).mono ?_; rw [HHAS.out]; rintro e w' ⟨rfl, rfl⟩))
    go_still_tail 10, (by kernel_rfl)
    change wpList _ _ _ _ _ w3.drew
    have HM4 : Aside0 (HM w3.drew ok g hb gs gp vl l (sc.set v.toNat q) pl st) := ⟨HM3.out.step (fun _ _ _ => rfl)⟩
    have HR4 : Aside0 (Rest w w3.drew ok) := ⟨HR3.out.trans (Rest.of_below (below_drew1 (Below.refl _ _)) ok) (fun _ _ z => z)⟩
    clear c4 p1
    go_upto_region 6 with (go_at_call 55; go_loud (refine (hp_up (fun _ => False) a HM4.out HAL.out.1 HUW.out HUP.out HFN.out HAL.out.2).mono ?_; rintro e w5 ⟨rfl, l2, pl2, a1, a2, a3, a4, a5, a6⟩; have HT := Aside0.mk (And.intro a1 (And.intro a2 (And.intro a3 (And.intro a4 (HR4.out.trans a6 (fun _ _ z => z)))))); clear a1 a2 a3 a4 a5 a6))
    have c3 := HT.out.1.c 3
    have s1 := (HT.out.1.s (i := v.toNat) (by rw [List.length_set, HN.out.1]; omega)).1
    rw [List.length_set, HN.out.1] at c3
    rw [HQW.out] at s1
    cases hgt : decide (great < q) with
    | true =>
      have rg := great_ord HQ.out.2.2.2
      rw [hgt] at rg
      have HGT := Aside0.mk (of_decide_eq_true hgt)
      clear hgt
      go_wp2_with (go_at_call 56; go_loud (refine (hp_lessen HT.out.1 HT.out.2.1 HTW.out H.out.st1t (HQ.out.2.2.1 HGT.out) (by rw [List.length_set, HN.out.1]; exact HN.out.2)).mono ?_; rintro e w9 ⟨rfl, l9, sc9, st9, a1, a2, a3⟩; have HA := Aside0.mk (And.intro a1 (And.intro a2 a3)); clear a1 a2 a3))
      go_ret
      obtain ⟨a1, a2, a3⟩ := HA.out
      rw [List.length_set, HN.out.1] at a1
      exact ⟨l9, sc9, st9, rfl, a1.mono (fun k z => z.imp id (fun z => Nat.le_trans HT.out.2.2.2.2.size z)), fun x => (a2 x).trans (HT.out.2.2.2.1 x), HT.out.2.2.2.2.trans a3 (fun _ _ z => z), fun q' hq' hg' => absurd HGT.out (by have e := hq'.symm.trans HQ.out.1; injection e with e; omega)⟩
    | false =>
      have rg := great_ord HQ.out.2.2.2
      rw [hgt] at rg
      have HGT := Aside0.mk (of_decide_eq_false hgt)
      clear hgt
      go_wp2_with fail
      go_ret
      obtain ⟨t1, t2, t3, t4, t5⟩ := HT.out
      exact ⟨_, _, _, rfl, ⟨⟨hb, gs, gp, _, _, t1.mono (fun k z => .inl z), t2⟩, t3, by rw [List.length_set]; exact HN.out.1, HN.out.2, fun x hx => by
        rcases List.mem_or_eq_of_mem_set hx with hx | hx
        · exact H.out.sc x hx
        · rw [hx]; have := HGT.out; omega, H.out.st0, H.out.st1⟩, t4, t5, fun q' hq' _ => by have e := hq'.symm.trans HQ.out.1; injection e with e; rw [e]⟩
  · have HHAS : Aside0 (decide (v ∈ l) = false) := ⟨decide_eq_false hm⟩
    obtain ⟨l2, HT⟩ : ∃ l2, Aside0 (HM w3 ok g hb gs gp vl l2 (sc.set v.toNat q) pl st ∧ WF (sc.set v.toNat q).length (fun _ => False) l2 pl ∧ HP (sc.set v.toNat q) l2 ∧ (∀ x, x ∈ l2 ↔ x ∈ l) ∧ Rest w w3 ok) := ⟨l, ⟨HM3.out, by rw [List.length_set]; exact HX.out.2, bump_out H.out.hp HX.out.2 hm i0 HVL.out HQ4.out, fun x => Iff.rfl, HR3.out⟩⟩
    clear hm
    go_upto_region 6 with (go_at_call 26; go_loud (refine (hm_Has (n := n) v HM3.out (by rw [List.length_set]; exact HX.out.2) (by rw [List.length_set]; exact HN.out.1)).mono ?_; rw [HHAS.out]; rintro e w' ⟨rfl, rfl⟩))
    have c3 := HT.out.1.c 3
    have s1 := (HT.out.1.s (i := v.toNat) (by rw [List.length_set, HN.out.1]; omega)).1
    rw [List.length_set, HN.out.1] at c3
    rw [HQW.out] at s1
    cases hgt : decide (great < q) with
    | true =>
      have rg := great_ord HQ.out.2.2.2
      rw [hgt] at rg
      have HGT := Aside0.mk (of_decide_eq_true hgt)
      clear hgt
      go_wp2_with (go_at_call 56; go_loud (refine (hp_lessen HT.out.1 HT.out.2.1 HTW.out H.out.st1t (HQ.out.2.2.1 HGT.out) (by rw [List.length_set, HN.out.1]; exact HN.out.2)).mono ?_; rintro e w9 ⟨rfl, l9, sc9, st9, a1, a2, a3⟩; have HA := Aside0.mk (And.intro a1 (And.intro a2 a3)); clear a1 a2 a3))
      go_ret
      obtain ⟨a1, a2, a3⟩ := HA.out
      rw [List.length_set, HN.out.1] at a1
      exact ⟨l9, sc9, st9, rfl, a1.mono (fun k z => z.imp id (fun z => Nat.le_trans HT.out.2.2.2.2.size z)), fun x => (a2 x).trans (HT.out.2.2.2.1 x), HT.out.2.2.2.2.trans a3 (fun _ _ z => z), fun q' hq' hg' => absurd HGT.out (by have e := hq'.symm.trans HQ.out.1; injection e with e; omega)⟩
    | false =>
      have rg := great_ord HQ.out.2.2.2
      rw [hgt] at rg
      have HGT := Aside0.mk (of_decide_eq_false hgt)
      clear hgt
      go_wp2_with fail
      go_ret
      obtain ⟨t1, t2, t3, t4, t5⟩ := HT.out
      exact ⟨_, _, _, rfl, ⟨⟨hb, gs, gp, _, _, t1.mono (fun k z => .inl z), t2⟩, t3, by rw [List.length_set]; exact HN.out.1, HN.out.2, fun x hx => by
        rcases List.mem_or_eq_of_mem_set hx with hx | hx
        · exact H.out.sc x hx
        · rw [hx]; have := HGT.out; omega, H.out.st0, H.out.st1⟩, t4, t5, fun q' hq' _ => by have e := hq'.symm.trans HQ.out.1; injection e with e; rw [e]⟩
end

end Go.Proofs.Ytocmldppefjbgaa.PHP
