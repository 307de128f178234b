import Derived.Test.YtocmldppefjbgaaHp3
import Derived.BigQuiet
import Derived.Deep.QuietTactic
namespace Go.Proofs.Ytocmldppefjbgaa.PHP
open Go.RowKit Go.Proofs.YtocmldppefjbgaaW.PrintWords Go.Proofs.YtocmldppefjbgaaW.PrintLast Go.Proofs.YtocmldppefjbgaaW.PrintMore Go.Proofs.YtocmldppefjbgaaH
set_option linter.unusedVariables false
set_option linter.unusedSimpArgs false
section
variable {w : World} {ok : Nat → Prop} {g hb gs gp : Nat} {vl : Value} {l : List Int} {sc : List Nat} {pl : List Int} {st : Nat}
theorem best_right {X : Int → Prop} {m q : List Int} {a : Nat} (h : WF sc.length X m q) (h1 : 2 * a + 2 < m.length) (hb : ah sc (gI m (2 * a + 2)) (gI m (2 * a + 1)) = true) : Best sc m a (2 * a + 2) :=
  ⟨by omega, h1, by omega, fun i i0 i1 i2 i3 => by rw [show i = 2 * a + 1 by omega]; exact hb⟩
theorem best_left {X : Int → Prop} {m q : List Int} {a : Nat} (h : WF sc.length X m q) (h1 : 2 * a + 1 < m.length) (hb : 2 * a + 2 < m.length → ah sc (gI m (2 * a + 2)) (gI m (2 * a + 1)) = false) : Best sc m a (2 * a + 1) :=
  ⟨by omega, h1, by omega, fun i i0 i1 i2 i3 => by
    have e : i = 2 * a + 2 := by omega
    subst e
    exact ah_total (h.ne i1 h1 (by omega)) (by rw [hb i1]; decide)⟩
theorem Way.topd {w' : World} {l0 : List Int} {X : Int → Prop} {x : Int} {a : Nat} {l1 pl1 : List Int} (h : Way w w' ok g hb gs gp vl l0 sc st X x a l1 pl1) (hu : HPdn sc (l1.set a x) a) (hd : 2 * a + 1 < l1.length → ∃ k, Best sc (l1.set a x) a k ∧ ¬ ah sc (gI l1 k) x = true) : HP sc (l1.set a x) := by
  have hl := h.lt
  have e : gI (l1.set a x) a = x := by rw [gI_set x hl, if_pos rfl]
  refine hu.done (fun i i0 i1 i2 => ?_)
  obtain ⟨k, hk, hb⟩ := hd (by simp at i1; omega)
  rw [e]
  have hkl : k < l1.length := by have := hk.2.1; simpa using this
  have hka : k ≠ a := by have := hk.2.2.1; have := hk.1; omega
  have e2 : gI (l1.set a x) k = gI l1 k := by rw [gI_set x hl, if_neg (Ne.symm hka)]
  have hxk : ah sc x (gI (l1.set a x) k) = true := by
    rw [e2]
    refine ah_total (fun q => ?_) hb
    refine h.wf.ne (i := k) (j := a) (by simpa using hkl) (by simpa using hl) hka ?_
    rw [e, e2, q]
  by_cases hik : i = k
  · rw [hik]; exact hxk
  · exact ah_trans hxk (hk.2.2.2 i i0 i1 i2 hik)
theorem Way.stepd {w' w'' : World} {l0 : List Int} {X : Int → Prop} {x : Int} {a k : Nat} {l1 pl1 : List Int} (h : Way w w' ok g hb gs gp vl l0 sc st X x a l1 pl1) (hu : HPdn sc (l1.set a x) a) (hk : Best sc (l1.set a x) a k) (hxy : ah sc (gI l1 k) x = true) (hm : HM w'' ok g hb gs gp vl (l1.set a (gI l1 k)) sc (pl1.set (gI l1 k).toNat (a : Int)) st) (hr : Rest w' w'' ok) :
    ∃ l2 pl2, Way w w'' ok g hb gs gp vl l0 sc st X x k l2 pl2 ∧ HPdn sc (l2.set k x) k := by
  have hl := h.lt
  have hkl : k < l1.length := by have := hk.2.1; simpa using this
  have hka : k ≠ a := by have := hk.2.2.1; have := hk.1; omega
  obtain ⟨s1, s2⟩ := h.go hkl hka hm hr
  refine ⟨_, _, s1, ?_⟩
  rw [s2]
  exact hu.step hk (by rw [gI_set x hl, if_pos rfl]) (by rw [gI_set x hl, if_neg (Ne.symm hka)]) hxy
set_option maxRecDepth 100000 in
set_option maxHeartbeats 8000000 in
theorem hp_down (X : Int → Prop) (a : Nat) (h : HM w ok g hb gs gp vl l sc pl st) (ha : a < l.length) (hwf : WF sc.length X l (pl.set (gI l a).toNat (a : Int))) (hup : HPdn sc l a) (hs : ∀ x ∈ sc, x < inf) (hl : l.length ≤ 1048576) :
    Calls Try.prog 60 #[.pointer (some ⟨g, 0, none⟩), .int .i64 (a : Int)] w fun e w' => e = .returned (.tuple #[]) ∧ ∃ l' pl', HM w' ok g hb gs gp vl l' sc pl' st ∧ WF sc.length X l' pl' ∧ HP sc l' ∧ (∀ v, v ∈ l' ↔ v ∈ l) ∧ l'.length = l.length ∧ Rest w w' ok := by
  obtain ⟨x, hx⟩ : ∃ x, x = gI l a := ⟨_, rfl⟩
  have hset : l.set a x = l := by rw [hx]; exact set_self ha
  have HW : Aside0 (Way w w ok g hb gs gp vl l sc st X x a l pl) := ⟨⟨h, by rw [hset, hx]; exact hwf, fun v => by rw [hset], rfl, ha, Rest.refl _ _⟩⟩
  have HUP : Aside0 (HPdn sc (l.set a x) a) := ⟨by rw [hset]; exact hup⟩
  have HS := Aside0.mk hs
  obtain ⟨gl, c, rfl, hq⟩ := h.q (by omega)
  obtain ⟨q1, q2⟩ := hq a ha
  rw [← hx] at q1
  have c0 := h.c 0
  have hi0 : (0 : Int) ≤ (a : Int) := by omega
  have hi1 : (a : Int) < (l.length : Int) := by omega
  clear hq h hwf hup hset hs q2 hx
  go_enter Try.func60, Try.ntmps60
  go_upto_region 1 with fail
  clear c0 q1 hi0 hi1
  go_loopg [1] (l.length - a) (fun kq v1 w' => ∃ a' : Nat, v1 = .int .i64 (a' : Int) ∧ Aside0 (a' + kq = l.length) ∧ ∃ l1 pl1, Aside0 (Way w w' ok g hb gs gp (.slice (some ⟨gl, 0, none⟩) l.length c) l sc st X x a' l1 pl1) ∧ Aside0 (HPdn sc (l1.set a' x) a'))
  case atStart => exact ⟨a, rfl, ⟨by omega⟩, l, pl, HW, HUP⟩
  case round =>
    clear HW HUP ha
    obtain ⟨a, rfl, HAK, l1, pl1, HJ, HD⟩ := hrel
    have HX := Aside0.mk HJ.out.x0
    have hll := HJ.out.len
    have hlt := HJ.out.lt
    obtain ⟨gl', c', e, hq⟩ := HJ.out.hm.q (by omega)
    simp only [Value.slice.injEq, Option.some.injEq, Addr.mk.injEq] at e
    obtain ⟨⟨rfl, -⟩, -, rfl⟩ := e
    have c0 := HJ.out.hm.c 0
    have c1 := HJ.out.hm.c 1
    obtain ⟨d, hd⟩ : ∃ d, d = 2 * a := ⟨_, rfl⟩
    obtain ⟨e, he⟩ : ∃ e, e = 2 * a + 1 := ⟨_, rfl⟩
    obtain ⟨f, hf⟩ : ∃ f, f = 2 * a + 2 := ⟨_, rfl⟩
    have hw1 : IntKind.i64.wrap (2 * (a : Int)) = (d : Int) := by rw [IntWalk.i64_in _ (by omega)]; omega
    have hw2 : wrap64 (2 * (a : Int)) = (d : Int) := by unfold wrap64; omega
    have hw3 : IntKind.i64.wrap ((d : Int) + 1) = (e : Int) := by rw [IntWalk.i64_in _ (by omega)]; omega
    have hw4 : wrap64 ((d : Int) + 1) = (e : Int) := by unfold wrap64; omega
    have hw5 : IntKind.i64.wrap ((e : Int) + 1) = (f : Int) := by rw [IntWalk.i64_in _ (by omega)]; omega
    have hw6 : wrap64 ((e : Int) + 1) = (f : Int) := by unfold wrap64; omega
    have HDEF := Aside0.mk (And.intro hd (And.intro he hf))
    have HLL := Aside0.mk (And.intro hll (And.intro hlt hl))
    clear hd he hf hll hlt
    by_cases h1 : e < l.length
    · have h1i : (e : Int) < (l.length : Int) := by omega
      have h1j : (0 : Int) ≤ (e : Int) := by omega
      have hel : e < l1.length := by have := HLL.out.1; omega
      have HYE1 := Aside0.mk (HJ.out.y0 hel (by have := HDEF.out; omega))
      have qe := (hq e hel).1
      obtain ⟨ye, hye⟩ : ∃ y, y = gI l1 e := ⟨_, rfl⟩
      rw [← hye] at qe HYE1
      have HYEe := Aside0.mk hye
      clear hye hel
      by_cases h2 : f < l.length
      · have h2i : (f : Int) < (l.length : Int) := by omega
        have h2j : (0 : Int) ≤ (f : Int) := by omega
        have hfl : f < l1.length := by have := HLL.out.1; omega
        have HYF1 := Aside0.mk (HJ.out.y0 hfl (by have := HDEF.out; omega))
        have qf := (hq f hfl).1
        obtain ⟨yf, hyf⟩ : ∃ y, y = gI l1 f := ⟨_, rfl⟩
        rw [← hyf] at qf HYF1
        have HYFe := Aside0.mk hyf
        clear hyf hfl
        have hge : gI (l1.set a x) (2 * a + 1) = ye := by rw [gI_set x HLL.out.2.1, if_neg (by omega), ← HDEF.out.2.1, ← HYEe.out]
        have hgf : gI (l1.set a x) (2 * a + 2) = yf := by rw [gI_set x HLL.out.2.1, if_neg (by omega), ← HDEF.out.2.2, ← HYFe.out]
        cases hb2 : ah sc yf ye with
        | true =>
          have HBE : Aside0 (Best sc (l1.set a x) a f) := ⟨by rw [HDEF.out.2.2]; exact best_right HJ.out.wf (by rw [List.length_set, HLL.out.1, ← HDEF.out.2.2]; exact h2) (by rw [hge, hgf]; exact hb2)⟩
          clear hge hgf
          go_wp2_with fail
          go_quiet (first | (go_at_call 47; go_loud (exact hp_aheadr yf ye true HJ.out.hm HYF1.out.1 HYF1.out.2 HYE1.out.1 HYE1.out.2 HS.out hb2 _)))
          clear hb2 qe qf
          have HKL := Aside0.mk (And.intro HBE.out.1 HBE.out.2.1)
          have hkl : f < l1.length := by have := HBE.out.2.1; simpa using this
          have hka : f ≠ a := by have := HBE.out.2.2.1; have := HBE.out.1; omega
          have HY := Aside0.mk (HJ.out.y0 hkl hka)
          have q1 := (hq f hkl).1
          obtain ⟨y, hy⟩ : ∃ y, y = gI l1 f := ⟨_, rfl⟩
          rw [← hy] at q1 HY
          have HYE := Aside0.mk hy
          have hk0 : (0 : Int) ≤ (f : Int) := by omega
          have hk1 : (f : Int) < (l.length : Int) := by have := HLL.out.1; omega
          have HKA := Aside0.mk (And.intro hka hkl)
          clear hy hka hkl HKL hq
          go_wp2_with fail
          cases hb : ah sc y x with
          | false =>
            go_quiet (first | (go_at_call 47; go_loud (exact hp_aheadr2 y x false HJ.out.hm HY.out.1 HY.out.2 HX.out.1 HX.out.2.1 HS.out hb _ _)))
            have HB := Aside0.mk hb
            clear hb q1 c0 c1
            go_wp2_with (first | (go_at_call 66; go_loud (refine (hp_put x a (HJ.out.hm.drawn (by repeat (first | exact Drawn0.refl _ | apply Drawn0.step))) HJ.out.lt HX.out.1 (by rw [HX.out.2.2]; exact HX.out.2.1)).mono ?_; rintro e w2 ⟨rfl, hm2, hr2⟩; have HM2 := Aside0.mk hm2; have HR2 := Aside0.mk hr2; clear hm2 hr2)))
            go_end0
            exact ⟨rfl, HJ.out.done HM2.out ((Rest.refl _ _).drawn (by repeat (first | exact Drawn0.refl _ | apply Drawn0.step)) |>.trans HR2.out (fun _ _ q => q)) (HJ.out.topd HD.out (fun q => ⟨f, HBE.out, by rw [← HYE.out, HB.out]; decide⟩))⟩
          | true =>
            go_quiet (first | (go_at_call 47; go_loud (exact hp_aheadr2 y x true HJ.out.hm HY.out.1 HY.out.2 HX.out.1 HX.out.2.1 HS.out hb _ _)))
            have HB := Aside0.mk hb
            clear hb
            go_wp2_with (first | (go_at_call 66; go_loud (refine (hp_put y a (HJ.out.hm.drawn (by repeat (first | exact Drawn0.refl _ | apply Drawn0.step))) HJ.out.lt HY.out.1 (by rw [HX.out.2.2]; exact HY.out.2)).mono ?_; rintro e w2 ⟨rfl, hm2, hr2⟩; have HM2 := Aside0.mk hm2; have HR2 := Aside0.mk hr2; clear hm2 hr2)))
            have hstep := HJ.out.stepd HD.out HBE.out (by rw [← HYE.out]; exact HB.out) (by rw [← HYE.out]; exact HM2.out) ((Rest.refl _ _).drawn (by repeat (first | exact Drawn0.refl _ | apply Drawn0.step)) |>.trans HR2.out (fun _ _ q => q))
            have HST := Aside0.mk hstep
            clear hstep q1 c0 c1
            go_roundg (l.length - f)
            case measure => have := HBE.out.2.2.1; have := HBE.out.1; have := HAK.out; have := HKA.out; have := HLL.out; omega
            case rel => obtain ⟨l2, pl2, s1, s2⟩ := HST.out; exact ⟨f, rfl, ⟨by have := HKA.out; have := HLL.out; omega⟩, l2, pl2, ⟨s1⟩, ⟨s2⟩⟩
        | false =>
          have HBE : Aside0 (Best sc (l1.set a x) a e) := ⟨by rw [HDEF.out.2.1]; exact best_left HJ.out.wf (by rw [List.length_set, HLL.out.1, ← HDEF.out.2.1]; exact h1) (fun _ => by rw [hge, hgf]; exact hb2)⟩
          clear hge hgf
          go_wp2_with fail
          go_quiet (first | (go_at_call 47; go_loud (exact hp_aheadr yf ye false HJ.out.hm HYF1.out.1 HYF1.out.2 HYE1.out.1 HYE1.out.2 HS.out hb2 _)))
          clear hb2 qe qf
          have HKL := Aside0.mk (And.intro HBE.out.1 HBE.out.2.1)
          have hkl : e < l1.length := by have := HBE.out.2.1; simpa using this
          have hka : e ≠ a := by have := HBE.out.2.2.1; have := HBE.out.1; omega
          have HY := Aside0.mk (HJ.out.y0 hkl hka)
          have q1 := (hq e hkl).1
          obtain ⟨y, hy⟩ : ∃ y, y = gI l1 e := ⟨_, rfl⟩
          rw [← hy] at q1 HY
          have HYE := Aside0.mk hy
          have hk0 : (0 : Int) ≤ (e : Int) := by omega
          have hk1 : (e : Int) < (l.length : Int) := by have := HLL.out.1; omega
          have HKA := Aside0.mk (And.intro hka hkl)
          clear hy hka hkl HKL hq
          go_wp2_with fail
          cases hb : ah sc y x with
          | false =>
            go_quiet (first | (go_at_call 47; go_loud (exact hp_aheadr2 y x false HJ.out.hm HY.out.1 HY.out.2 HX.out.1 HX.out.2.1 HS.out hb _ _)))
            have HB := Aside0.mk hb
            clear hb q1 c0 c1
            go_wp2_with (first | (go_at_call 66; go_loud (refine (hp_put x a (HJ.out.hm.drawn (by repeat (first | exact Drawn0.refl _ | apply Drawn0.step))) HJ.out.lt HX.out.1 (by rw [HX.out.2.2]; exact HX.out.2.1)).mono ?_; rintro e w2 ⟨rfl, hm2, hr2⟩; have HM2 := Aside0.mk hm2; have HR2 := Aside0.mk hr2; clear hm2 hr2)))
            go_end0
            exact ⟨rfl, HJ.out.done HM2.out ((Rest.refl _ _).drawn (by repeat (first | exact Drawn0.refl _ | apply Drawn0.step)) |>.trans HR2.out (fun _ _ q => q)) (HJ.out.topd HD.out (fun q => ⟨e, HBE.out, by rw [← HYE.out, HB.out]; decide⟩))⟩
          | true =>
            go_quiet (first | (go_at_call 47; go_loud (exact hp_aheadr2 y x true HJ.out.hm HY.out.1 HY.out.2 HX.out.1 HX.out.2.1 HS.out hb _ _)))
            have HB := Aside0.mk hb
            clear hb
            go_wp2_with (first | (go_at_call 66; go_loud (refine (hp_put y a (HJ.out.hm.drawn (by repeat (first | exact Drawn0.refl _ | apply Drawn0.step))) HJ.out.lt HY.out.1 (by rw [HX.out.2.2]; exact HY.out.2)).mono ?_; rintro e w2 ⟨rfl, hm2, hr2⟩; have HM2 := Aside0.mk hm2; have HR2 := Aside0.mk hr2; clear hm2 hr2)))
            have hstep := HJ.out.stepd HD.out HBE.out (by rw [← HYE.out]; exact HB.out) (by rw [← HYE.out]; exact HM2.out) ((Rest.refl _ _).drawn (by repeat (first | exact Drawn0.refl _ | apply Drawn0.step)) |>.trans HR2.out (fun _ _ q => q))
            have HST := Aside0.mk hstep
            clear hstep q1 c0 c1
            go_roundg (l.length - e)
            case measure => have := HBE.out.2.2.1; have := HBE.out.1; have := HAK.out; have := HKA.out; have := HLL.out; omega
            case rel => obtain ⟨l2, pl2, s1, s2⟩ := HST.out; exact ⟨e, rfl, ⟨by have := HKA.out; have := HLL.out; omega⟩, l2, pl2, ⟨s1⟩, ⟨s2⟩⟩
      · have h2i : ¬ ((f : Int) < (l.length : Int)) := by omega
        have HBE : Aside0 (Best sc (l1.set a x) a e) := ⟨by rw [HDEF.out.2.1]; exact best_left HJ.out.wf (by rw [List.length_set, HLL.out.1, ← HDEF.out.2.1]; exact h1) (fun q => absurd q (by rw [List.length_set, HLL.out.1, ← HDEF.out.2.2]; exact h2))⟩
        go_wp2_with fail
        go_quiet (fail)
        clear qe
        have HKL := Aside0.mk (And.intro HBE.out.1 HBE.out.2.1)
        have hkl : e < l1.length := by have := HBE.out.2.1; simpa using this
        have hka : e ≠ a := by have := HBE.out.2.2.1; have := HBE.out.1; omega
        have HY := Aside0.mk (HJ.out.y0 hkl hka)
        have q1 := (hq e hkl).1
        obtain ⟨y, hy⟩ : ∃ y, y = gI l1 e := ⟨_, rfl⟩
        rw [← hy] at q1 HY
        have HYE := Aside0.mk hy
        have hk0 : (0 : Int) ≤ (e : Int) := by omega
        have hk1 : (e : Int) < (l.length : Int) := by have := HLL.out.1; omega
        have HKA := Aside0.mk (And.intro hka hkl)
        clear hy hka hkl HKL hq
        go_wp2_with fail
        cases hb : ah sc y x with
        | false =>
          go_quiet (first | (go_at_call 47; go_loud (exact hp_aheadr2 y x false HJ.out.hm HY.out.1 HY.out.2 HX.out.1 HX.out.2.1 HS.out hb _ _)))
          have HB := Aside0.mk hb
          clear hb q1 c0 c1
          go_wp2_with (first | (go_at_call 66; go_loud (refine (hp_put x a (HJ.out.hm.drawn (by repeat (first | exact Drawn0.refl _ | apply Drawn0.step))) HJ.out.lt HX.out.1 (by rw [HX.out.2.2]; exact HX.out.2.1)).mono ?_; rintro e w2 ⟨rfl, hm2, hr2⟩; have HM2 := Aside0.mk hm2; have HR2 := Aside0.mk hr2; clear hm2 hr2)))
          go_end0
          exact ⟨rfl, HJ.out.done HM2.out ((Rest.refl _ _).drawn (by repeat (first | exact Drawn0.refl _ | apply Drawn0.step)) |>.trans HR2.out (fun _ _ q => q)) (HJ.out.topd HD.out (fun q => ⟨e, HBE.out, by rw [← HYE.out, HB.out]; decide⟩))⟩
        | true =>
          go_quiet (first | (go_at_call 47; go_loud (exact hp_aheadr2 y x true HJ.out.hm HY.out.1 HY.out.2 HX.out.1 HX.out.2.1 HS.out hb _ _)))
          have HB := Aside0.mk hb
          clear hb
          go_wp2_with (first | (go_at_call 66; go_loud (refine (hp_put y a (HJ.out.hm.drawn (by repeat (first | exact Drawn0.refl _ | apply Drawn0.step))) HJ.out.lt HY.out.1 (by rw [HX.out.2.2]; exact HY.out.2)).mono ?_; rintro e w2 ⟨rfl, hm2, hr2⟩; have HM2 := Aside0.mk hm2; have HR2 := Aside0.mk hr2; clear hm2 hr2)))
          have hstep := HJ.out.stepd HD.out HBE.out (by rw [← HYE.out]; exact HB.out) (by rw [← HYE.out]; exact HM2.out) ((Rest.refl _ _).drawn (by repeat (first | exact Drawn0.refl _ | apply Drawn0.step)) |>.trans HR2.out (fun _ _ q => q))
          have HST := Aside0.mk hstep
          clear hstep q1 c0 c1
          go_roundg (l.length - e)
          case measure => have := HBE.out.2.2.1; have := HBE.out.1; have := HAK.out; have := HKA.out; have := HLL.out; omega
          case rel => obtain ⟨l2, pl2, s1, s2⟩ := HST.out; exact ⟨e, rfl, ⟨by have := HKA.out; have := HLL.out; omega⟩, l2, pl2, ⟨s1⟩, ⟨s2⟩⟩
    · have h1i : ¬ ((e : Int) < (l.length : Int)) := by omega
      clear hq c1
      go_wp2_with (first | (go_at_call 66; go_loud (refine (hp_put x a (HJ.out.hm.drawn (by repeat (first | exact Drawn0.refl _ | apply Drawn0.step))) HJ.out.lt HX.out.1 (by rw [HX.out.2.2]; exact HX.out.2.1)).mono ?_; rintro e w2 ⟨rfl, hm2, hr2⟩; have HM2 := Aside0.mk hm2; have HR2 := Aside0.mk hr2; clear hm2 hr2)))
      go_end0
      exact ⟨rfl, HJ.out.done HM2.out ((Rest.refl _ _).drawn (by repeat (first | exact Drawn0.refl _ | apply Drawn0.step)) |>.trans HR2.out (fun _ _ q => q)) (HJ.out.topd HD.out (fun q => absurd q (by rw [HLL.out.1, ← HDEF.out.2.1]; exact h1)))⟩
end

end Go.Proofs.Ytocmldppefjbgaa.PHP
