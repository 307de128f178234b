import Derived.Test.YtocmldppefjbgaaHp2
import Derived.BigQuiet
import Derived.Deep.QuietTactic
namespace Go.Proofs.Ytocmldppefjbgaa.PHP
open Go.RowKit Go.Proofs.YtocmldppefjbgaaW.PrintWords Go.Proofs.YtocmldppefjbgaaW.PrintLast Go.Proofs.YtocmldppefjbgaaW.PrintMore Go.Proofs.YtocmldppefjbgaaH
set_option linter.unusedVariables false
set_option linter.unusedSimpArgs false
section
variable {w : World} {ok : Nat → Prop} {g hb gs gp : Nat} {vl : Value} {l : List Int} {sc : List Nat} {pl : List Int} {st : Nat}
/-- the queue while a thing is on its way -/
structure Way (w w' : World) (ok : Nat → Prop) (g hb gs gp : Nat) (vl : Value) (l0 : List Int) (sc : List Nat) (st : Nat) (X : Int → Prop) (x : Int) (a : Nat) (l pl : List Int) : Prop where
  hm : HM w' ok g hb gs gp vl l sc pl st
  wf : WF sc.length X (l.set a x) (pl.set x.toNat (a : Int))
  mem : ∀ v, v ∈ l.set a x ↔ v ∈ l0
  len : l.length = l0.length
  lt : a < l.length
  rest : Rest w w' ok
theorem Way.x0 {w' : World} {l0 : List Int} {X : Int → Prop} {x : Int} {a : Nat} (h : Way w w' ok g hb gs gp vl l0 sc st X x a l pl) : 0 ≤ x ∧ x < (sc.length : Int) ∧ pl.length = sc.length :=
  ⟨(h.wf.rng x (List.mem_of_getElem? (List.getElem?_set_self h.lt))).1, (h.wf.rng x (List.mem_of_getElem? (List.getElem?_set_self h.lt))).2, by have := h.wf.len; rwa [List.length_set] at this⟩
theorem Way.y0 {w' : World} {l0 : List Int} {X : Int → Prop} {x : Int} {a p : Nat} (h : Way w w' ok g hb gs gp vl l0 sc st X x a l pl) (hp : p < l.length) (hpa : p ≠ a) : 0 ≤ gI l p ∧ gI l p < (sc.length : Int) := by
  refine h.wf.rng _ (List.mem_of_getElem? (i := p) ?_)
  rw [List.getElem?_set_ne (Ne.symm hpa), gI_some hp]
/-- one step of the way: the thing at p goes to a, and the hole to p -/
theorem Way.go {w' w'' : World} {l0 : List Int} {X : Int → Prop} {x : Int} {a p : Nat} (h : Way w w' ok g hb gs gp vl l0 sc st X x a l pl) (hp : p < l.length) (hpa : p ≠ a) (hm : HM w'' ok g hb gs gp vl (l.set a (gI l p)) sc (pl.set (gI l p).toNat (a : Int)) st) (hr : Rest w' w'' ok) :
    Way w w'' ok g hb gs gp vl l0 sc st X x p (l.set a (gI l p)) (pl.set (gI l p).toNat (a : Int)) ∧ (l.set a (gI l p)).set p x = ((l.set a x).set a (gI l p)).set p x := by
  have hy : (l.set a x)[p]? = some (gI l p) := by rw [List.getElem?_set_ne (Ne.symm hpa), gI_some hp]
  have hx : (l.set a x)[a]? = some x := List.getElem?_set_self h.lt
  obtain ⟨s1, s2⟩ := h.wf.swap hx hy (Ne.symm hpa)
  have hxy : x.toNat ≠ (gI l p).toNat := by
    intro e
    have h1 := h.x0
    have h2 := h.y0 hp hpa
    exact hpa (h.wf.inj (x := x) (by rw [hy]; congr 1; omega) hx)
  have e1 : ((l.set a x).set a (gI l p)).set p x = (l.set a (gI l p)).set p x := by rw [List.set_set]
  have e2 : (((pl.set x.toNat (a : Int)).set (gI l p).toNat (a : Int)).set x.toNat (p : Int)) = (pl.set (gI l p).toNat (a : Int)).set x.toNat (p : Int) := by
    rw [List.set_comm _ _ hxy, List.set_set]
  rw [e1] at s1 s2
  rw [e2] at s1
  exact ⟨⟨hm, s1, fun v => (s2 v).trans (h.mem v), by rw [List.length_set]; exact h.len, by rw [List.length_set]; exact hp, h.rest.trans hr (fun _ _ q => q)⟩, e1.symm⟩
theorem set_self {l : List Int} {a : Nat} (ha : a < l.length) : l.set a (gI l a) = l := List.ext_getElem? (fun i => by
  rw [List.getElem?_set]
  by_cases e : a = i
  · subst e; rw [if_pos rfl, if_pos ha, gI_some ha]
  · rw [if_neg e])
theorem Way.done {w' w'' : World} {l0 : List Int} {X : Int → Prop} {x : Int} {a : Nat} {l1 pl1 : List Int} (h : Way w w' ok g hb gs gp vl l0 sc st X x a l1 pl1) (hm : HM w'' ok g hb gs gp vl (l1.set a x) sc (pl1.set x.toNat (a : Int)) st) (hr : Rest w' w'' ok) (hp : HP sc (l1.set a x)) :
    ∃ l' pl', HM w'' ok g hb gs gp vl l' sc pl' st ∧ WF sc.length X l' pl' ∧ HP sc l' ∧ (∀ v, v ∈ l' ↔ v ∈ l0) ∧ l'.length = l0.length ∧ Rest w w'' ok :=
  ⟨_, _, hm, h.wf, hp, h.mem, by rw [List.length_set]; exact h.len, h.rest.trans hr (fun _ _ q => q)⟩
theorem Way.top {w' : World} {l0 : List Int} {X : Int → Prop} {x : Int} {a : Nat} {l1 pl1 : List Int} (h : Way w w' ok g hb gs gp vl l0 sc st X x a l1 pl1) (hu : HPup sc (l1.set a x) a) (hd : 0 < a → ¬ ah sc x (gI l1 ((a - 1) / 2)) = true) : HP sc (l1.set a x) := by
  have hl := h.lt
  have e : gI (l1.set a x) a = x := by rw [gI_set x hl, if_pos rfl]
  have e2 : 0 < a → gI (l1.set a x) ((a - 1) / 2) = gI l1 ((a - 1) / 2) := fun q => by rw [gI_set x hl, if_neg (by omega)]
  refine hu.done (by simpa using hl) (fun q => h.wf.ne (by simpa using hl) (by simp; omega) (by omega)) (fun q => ?_)
  rw [e, e2 q]
  exact hd q
theorem Way.step {w' w'' : World} {l0 : List Int} {X : Int → Prop} {x : Int} {a : Nat} {l1 pl1 : List Int} (h : Way w w' ok g hb gs gp vl l0 sc st X x a l1 pl1) (hu : HPup sc (l1.set a x) a) (h0 : 0 < a) (hxy : ah sc x (gI l1 ((a - 1) / 2)) = true) (hm : HM w'' ok g hb gs gp vl (l1.set a (gI l1 ((a - 1) / 2))) sc (pl1.set (gI l1 ((a - 1) / 2)).toNat (a : Int)) st) (hr : Rest w' w'' ok) :
    ∃ l2 pl2, Way w w'' ok g hb gs gp vl l0 sc st X x ((a - 1) / 2) l2 pl2 ∧ HPup sc (l2.set ((a - 1) / 2) x) ((a - 1) / 2) := by
  have hl := h.lt
  obtain ⟨s1, s2⟩ := h.go (p := (a - 1) / 2) (by omega) (by omega) hm hr
  refine ⟨_, _, s1, ?_⟩
  rw [s2]
  exact hu.step (by simpa using hl) h0 (by rw [gI_set x hl, if_pos rfl]) (by rw [gI_set x hl, if_neg (by omega)]) hxy
set_option maxRecDepth 100000 in
set_option maxHeartbeats 4000000 in
theorem hp_up (X : Int → Prop) (a : Nat) (h : HM w ok g hb gs gp vl l sc pl st) (ha : a < l.length) (hwf : WF sc.length X l (pl.set (gI l a).toNat (a : Int))) (hup : HPup sc l a) (hs : ∀ x ∈ sc, x < inf) (hl : l.length ≤ 1048576) :
    Calls Try.prog 55 #[.pointer (some ⟨g, 0, none⟩), .int .i64 (a : Int)] w fun e w' => e = .returned (.tuple #[]) ∧ ∃ l' pl', HM w' ok g hb gs gp vl l' sc pl' st ∧ WF sc.length X l' pl' ∧ HP sc l' ∧ (∀ v, v ∈ l' ↔ v ∈ l) ∧ l'.length = l.length ∧ Rest w w' ok := by
  obtain ⟨x, hx⟩ : ∃ x, x = gI l a := ⟨_, rfl⟩
  have hset : l.set a x = l := by rw [hx]; exact set_self ha
  have HW : Aside0 (Way w w ok g hb gs gp vl l sc st X x a l pl) := ⟨⟨h, by rw [hset, hx]; exact hwf, fun v => by rw [hset], rfl, ha, Rest.refl _ _⟩⟩
  have HUP : Aside0 (HPup sc (l.set a x) a) := ⟨by rw [hset]; exact hup⟩
  have HS := Aside0.mk hs
  obtain ⟨gl, c, rfl, hq⟩ := h.q (by omega)
  obtain ⟨q1, q2⟩ := hq a ha
  rw [← hx] at q1
  have c0 := h.c 0
  have hi0 : (0 : Int) ≤ (a : Int) := by omega
  have hi1 : (a : Int) < (l.length : Int) := by omega
  clear hq h hwf hup hset hs q2 hx
  go_enter Try.func55, Try.ntmps55
  go_upto_region 1 with fail
  clear c0 q1 hi0 hi1
  go_loopg [1] a (fun kq v1 w' => v1 = .int .i64 (kq : Int) ∧ ∃ l1 pl1, Aside0 (Way w w' ok g hb gs gp (.slice (some ⟨gl, 0, none⟩) l.length c) l sc st X x kq l1 pl1) ∧ Aside0 (HPup sc (l1.set kq x) kq))
  case atStart => exact ⟨rfl, l, pl, HW, HUP⟩
  case round =>
    obtain ⟨rfl, l1, pl1, HJ, HU⟩ := hrel
    by_cases h0 : gk = 0
    · subst h0
      have HX := Aside0.mk HJ.out.x0
      go_wp2_with fail
      go_quiet (fail)
      go_wp2_with (first | (go_at_call 66; go_loud (refine (hp_put x 0 (HJ.out.hm.drawn (by repeat (first | exact Drawn0.refl _ | apply Drawn0.step))) HJ.out.lt HX.out.1 (by rw [HX.out.2.2]; exact HX.out.2.1)).mono ?_; rintro e w2 ⟨rfl, hm2, hr2⟩; have HM2 := Aside0.mk hm2; have HR2 := Aside0.mk hr2; clear hm2 hr2)))
      go_end0
      exact ⟨rfl, HJ.out.done HM2.out ((Rest.refl _ _).drawn (by repeat (first | exact Drawn0.refl _ | apply Drawn0.step)) |>.trans HR2.out (fun _ _ q => q)) (HJ.out.top HU.out (fun q => absurd q (Nat.lt_irrefl _)))⟩
    · obtain ⟨k, hk⟩ : ∃ k, k = gk - 1 := ⟨_, rfl⟩
      have HX := Aside0.mk HJ.out.x0
      obtain ⟨p, hp⟩ : ∃ p, p = (gk - 1) / 2 := ⟨_, rfl⟩
      have hll := HJ.out.len
      have hlt := HJ.out.lt
      obtain ⟨gl', c', e, hq⟩ := HJ.out.hm.q (by omega)
      obtain ⟨q1, q2⟩ := hq p (by omega)
      simp only [Value.slice.injEq, Option.some.injEq, Addr.mk.injEq] at e
      obtain ⟨⟨rfl, -⟩, -, rfl⟩ := e
      have c0 := HJ.out.hm.c 0
      have c1 := HJ.out.hm.c 1
      have hpl : p < l1.length := by omega
      have HY := Aside0.mk (HJ.out.y0 hpl (by omega))
      have hi0 : (0 : Int) ≤ (p : Int) := by omega
      have hi1 : (p : Int) < (l.length : Int) := by omega
      have hk0 : (0 : Int) < (gk : Int) := by omega
      have hk1 : decide (0 < gk) = true := decide_eq_true (by omega)
      have hw1 : IntKind.i64.wrap ((gk : Int) - 1) = (k : Int) := by rw [IntWalk.i64_in _ (by omega)]; omega
      have hw : wrap64 ((gk : Int) - 1) = (k : Int) := by unfold wrap64; omega
      have hw2 : (k : Int).tdiv 2 = (p : Int) := by rw [Int.tdiv_eq_ediv_of_nonneg (by omega), hp, hk]; omega
      have hw4 : IntKind.i64.wrap (p : Int) = (p : Int) := IntWalk.i64_in _ (by omega)
      have hw3 : wrap64 (p : Int) = (p : Int) := by unfold wrap64; omega
      obtain ⟨y, hy⟩ : ∃ y, y = gI l1 p := ⟨_, rfl⟩
      rw [← hy] at q1 HY
      have HPK := Aside0.mk (And.intro hp (And.intro hk (And.intro hy h0)))
      have HLL := Aside0.mk (And.intro hll (And.intro hlt hpl))
      clear hp hk hy h0 hll hlt hpl hq q2 ha hl
      go_wp2_with fail
      cases hb : ah sc x y with
      | false =>
        go_quiet (first | (go_at_call 47; go_loud (exact hp_aheadr x y false HJ.out.hm HX.out.1 HX.out.2.1 HY.out.1 HY.out.2 HS.out hb _)))
        have HB := Aside0.mk hb
        clear hb q1 c0 c1 hw hw1 hw2 hw3 hw4 hi0 hi1 hk0 hk1
        go_wp2_with (first | (go_at_call 66; go_loud (refine (hp_put x gk (HJ.out.hm.drawn (by repeat (first | exact Drawn0.refl _ | apply Drawn0.step))) HJ.out.lt HX.out.1 (by rw [HX.out.2.2]; exact HX.out.2.1)).mono ?_; rintro e w2 ⟨rfl, hm2, hr2⟩; have HM2 := Aside0.mk hm2; have HR2 := Aside0.mk hr2; clear hm2 hr2)))
        go_end0
        exact ⟨rfl, HJ.out.done HM2.out ((Rest.refl _ _).drawn (by repeat (first | exact Drawn0.refl _ | apply Drawn0.step)) |>.trans HR2.out (fun _ _ q => q)) (HJ.out.top HU.out (fun _ => by rw [← HPK.out.1, ← HPK.out.2.2.1, HB.out]; decide))⟩
      | true =>
        go_quiet (first | (go_at_call 47; go_loud (exact hp_aheadr x y true HJ.out.hm HX.out.1 HX.out.2.1 HY.out.1 HY.out.2 HS.out hb _)))
        have HB := Aside0.mk hb
        clear hb
        go_wp2_with (first | (go_at_call 66; go_loud (refine (hp_put y gk (HJ.out.hm.drawn (by repeat (first | exact Drawn0.refl _ | apply Drawn0.step))) HJ.out.lt HY.out.1 (by rw [HX.out.2.2]; exact HY.out.2)).mono ?_; rintro e w2 ⟨rfl, hm2, hr2⟩; have HM2 := Aside0.mk hm2; have HR2 := Aside0.mk hr2; clear hm2 hr2 q1 c0 c1)))
        have hstep := HJ.out.step HU.out (by have := HPK.out.2.2.2; omega) (by rw [← HPK.out.1, ← HPK.out.2.2.1]; exact HB.out) (by rw [← HPK.out.1, ← HPK.out.2.2.1]; exact HM2.out) ((Rest.refl _ _).drawn (by repeat (first | exact Drawn0.refl _ | apply Drawn0.step)) |>.trans HR2.out (fun _ _ q => q))
        rw [← HPK.out.1] at hstep
        have HST := Aside0.mk hstep
        clear hstep
        go_roundg p
        case measure => have := HPK.out.1; have := HPK.out.2.2.2; omega
        case rel => obtain ⟨l2, pl2, s1, s2⟩ := HST.out; exact ⟨rfl, l2, pl2, ⟨s1⟩, ⟨s2⟩⟩
end

end Go.Proofs.Ytocmldppefjbgaa.PHP
