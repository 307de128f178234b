import Derived.Test.YtocmldppefjbgaaHp7
import Derived.BigQuiet
import Derived.Deep.QuietTactic
namespace Go.Proofs.Ytocmldppefjbgaa.PHP
open Go.RowKit Go.Proofs.YtocmldppefjbgaaW.PrintWords Go.Proofs.YtocmldppefjbgaaW.PrintLast Go.Proofs.YtocmldppefjbgaaW.PrintMore Go.Proofs.YtocmldppefjbgaaH
set_option linter.unusedVariables false
set_option linter.unusedSimpArgs false
/-! ### lessen, Bump, Decay -/
theorem run_mul {x q : Nat} (h : D.mul x small = some q) (W : World) : (binOp .mul 41 (.float .f64 x) (.float .f64 3110860544497550640)).run Try.prog W = .ok (.float .f64 q) W :=
  run_float_arith W .mul 41 .f64 x 3110860544497550640 q h
theorem run_add {x y q : Nat} (h : D.add x y = some q) (W : World) : (binOp .add 41 (.float .f64 x) (.float .f64 y)).run Try.prog W = .ok (.float .f64 q) W :=
  run_float_arith W .add 41 .f64 x y q h
theorem run_quo {x q : Nat} (h : D.div x fade = some q) (W : World) : (binOp .quo 41 (.float .f64 x) (.float .f64 4606732058837280358)).run Try.prog W = .ok (.float .f64 q) W :=
  run_float_arith W .quo 41 .f64 x 4606732058837280358 q h
theorem run_great {x : Nat} (hx : x < inf) (W : World) : (binOp .gtr 41 (.float .f64 x) (.float .f64 6103021453049119613)).run Try.prog W = .ok (.bool (decide (great < x))) W := run_gtr hx great_inf W
theorem great_ord {x : Nat} (hx : x < inf) : (FloatKind.f64.format.order x 6103021453049119613 == some Ordering.gt) = decide (great < x) := by
  have e : FloatKind.f64.format.order x 6103021453049119613 = some (compareOfLessAndEq x great) := order_words hx great_inf
  rw [e]
  unfold compareOfLessAndEq
  by_cases h1 : x < great
  · have : ¬ great < x := by omega
    simp [h1, this]
  · by_cases h2 : x = great
    · simp [h2]
    · have : great < x := by omega
      simp [h1, h2, this]
theorem run_store_float (a : Addr) (b : Nat) (m : Mode) (W : World) : (store a (.float .f64 b) m).run Try.prog W = stored Try.prog W a (.float .f64 b) m := run_store Try.prog W a _ m rfl
section
variable {w : World} {ok : Nat → Prop} {g hb gs gp : Nat} {vl : Value} {l : List Int} {sc : List Nat} {pl : List Int} {st : Nat}
/-- the queue is left -/
theorem HM.drop (h : HM w ok g hb gs gp vl l sc pl st) : HM (w.setCell ⟨g, 0, none⟩ (.slice none 0 0)) (fun k => ok k ∧ some k ≠ vl.ownBlock) g hb gs gp (.slice none 0 0) [] sc pl st := by
  have h2 := h.setv (w1 := w) (fun _ q => q) (Kd.R_nil (Kd.int .i64) 3 w 0 (fun k => ok k ∧ off g hb gs gp k)) ⟨rfl, rfl, rfl, Nat.le_refl _, fun _ _ _ => rfl⟩
  have hne : ∀ k, ¬ off g hb gs gp k → some k ≠ vl.ownBlock := fun k hk e => hk (h.rl.1 k e.symm).2
  exact ⟨⟨h2.og, hne g (fun q => q.1 rfl)⟩, ⟨h2.ob, hne hb (fun q => q.2.1 rfl)⟩, ⟨h2.os, hne gs (fun q => q.2.2.1 rfl)⟩, ⟨h2.op, hne gp (fun q => q.2.2.2 rfl)⟩, h2.blk, h2.box, h2.bs, h2.bp, Kd.R_nil _ _ _ _ _⟩
theorem WF.start {n : Nat} (h : WF n (fun _ => False) l pl) : WF n (fun v => v ∈ l) [] pl :=
  ⟨h.len, fun x hx => absurd hx List.not_mem_nil, fun i x hi => by simp at hi, fun v hv _ hx => h.out v hv hx (fun q => q)⟩
set_option maxRecDepth 100000 in
set_option maxHeartbeats 4000000 in
theorem hp_lessen (h : HM w ok g hb gs gp vl l sc pl st) (hwf : WF sc.length (fun _ => False) l pl) (hs : ∀ x ∈ sc, x ≤ twice) (h1 : st ≤ twice) (h2 : half ≤ st) (hl : sc.length ≤ 1048576) :
    Calls Try.prog 56 #[.pointer (some ⟨g, 0, none⟩)] w fun e w' => e = .returned (.tuple #[]) ∧ ∃ l' sc' st', HS w' (fun k => ok k ∨ w.heap.size ≤ k) g sc.length l' sc' st' ∧ (∀ v, v ∈ l' ↔ v ∈ l) ∧ Rest w w' ok := by
  obtain ⟨A, c, rfl⟩ := h.sl
  obtain ⟨n, hn⟩ : ∃ n, n = sc.length := ⟨_, rfl⟩
  have H := Aside0.mk h
  have c3 := h.c 3
  rw [← hn] at c3
  have HS0 : Aside0 (sc.length = n ∧ (∀ x ∈ sc, x ≤ twice) ∧ ∀ (j : Nat) (x : Nat), j < 0 → sc[j]? = some x → x ≤ great) := ⟨hn.symm, hs, fun j x hj => absurd hj (Nat.not_lt_zero _)⟩
  have HW := Aside0.mk hwf
  rw [← hn] at HW
  rw [← hn] at hl ⊢
  have HL := Aside0.mk hl
  obtain ⟨st', hst, hst1, hst2⟩ := lessen_words h1
  have HST : Aside0 (st' ≤ great ∧ lo ≤ st') := ⟨hst1, hst2 h2⟩
  have rst := fun W => run_mul hst W
  have HRST := Aside0.mk rst
  clear h hwf hs h1 h2 hl hst hst1 hst2 hn rst
  have sf := run_store_float
  go_enter Try.func56, Try.ntmps56
  go_upto_region 1 with fail
  go_loopg [11, 2] n (fun kq v11 v2 w' => ∃ (i : Nat) (sc1 : List Nat), v11 = .int .i64 (i : Int) ∧ i + kq = n ∧ Aside0 (HM w' ok g hb gs gp (.slice A l.length c) l sc1 pl st) ∧ Aside0 (sc1.length = n ∧ (∀ x ∈ sc1, x ≤ twice) ∧ ∀ (j : Nat) (x : Nat), j < i → sc1[j]? = some x → x ≤ great) ∧ Aside0 (Rest w w' ok))
  case atStart => exact ⟨0, sc, rfl, by omega, H, HS0, ⟨Rest.refl _ _⟩⟩
  case round =>
    obtain ⟨i, sc1, rfl, hik, HJ, HP, HR⟩ := hrel
    clear H HS0 c3
    cases gk with
    | zero =>
      have hi : ¬ ((i : Int) < (n : Int)) := by omega
      have HSC : Aside0 (∀ x ∈ sc1, x ≤ great) := ⟨fun x hx => by
        obtain ⟨j, hj, e⟩ := List.getElem_of_mem hx
        exact HP.out.2.2 j x (by have := HP.out.1; omega) (by rw [List.getElem?_eq_getElem hj, e])⟩
      have HLN := Aside0.mk HP.out.1
      have c5 := HJ.out.c 5
      have f5 := HJ.out.f 5
      have rst := HRST.out
      have HM5 := Aside0.mk (HJ.out.setst st')
      have HR5 := Aside0.mk (HR.out.set (p := ⟨g, 5, none⟩) (fun _ => HJ.out.og) (.float .f64 st'))
      clear hik HP
      go_upto_region 6 with fail
      obtain ⟨w5, hw5⟩ : ∃ w', w' = wr.setCell ⟨g, 5, none⟩ (.float .f64 st') := ⟨_, rfl⟩
      rw [← hw5] at HM5 HR5 ⊢
      clear hw5 c5 f5 rst sf HJ HR HRST
      have c0 := HM5.out.c 0
      have f0 := HM5.out.f 0
      have HM6 := Aside0.mk HM5.out.drop
      have HR6 := Aside0.mk (HR5.out.set (p := ⟨g, 0, none⟩) (fun _ => HM5.out.og) (.slice none 0 0))
      have HQ : Aside0 (∀ j : Nat, j < l.length → ∃ gl, A = some ⟨gl, 0, none⟩ ∧ (w5.setCell ⟨g, 0, none⟩ (.slice none 0 0)).cell? ⟨gl, j, none⟩ = some (.int .i64 (gI l j))) := ⟨fun j hj => by
        obtain ⟨gl, c', e, hq⟩ := HM5.out.q (by omega)
        simp only [Value.slice.injEq] at e
        refine ⟨gl, e.1, ?_⟩
        have hne : gl ≠ g := (HM5.out.rl.1 gl (by rw [e.1]; rfl)).2.1
        exact (World.cell?_of_block (a := ⟨gl, j, none⟩) (Below.heap_setCell w5 ⟨g, 0, none⟩ _ gl hne)).trans (hq j hj).1⟩
      go_upto_region 9 with fail
      obtain ⟨w6, hw6⟩ : ∃ w', w' = w5.setCell ⟨g, 0, none⟩ (.slice none 0 0) := ⟨_, rfl⟩
      rw [← hw6] at HM6 HR6 HQ ⊢
      clear hw6 c0 f0 HM5 HR5
      have HLE : Aside0 (l.length ≤ 1048576) := ⟨Nat.le_trans HW.out.le HL.out⟩
      have HFN : Aside0 (∀ x ∈ sc1, x < inf) := ⟨fun x hx => Nat.lt_of_le_of_lt (HSC.out x hx) great_inf⟩
      go_loopg [42, 5] l.length (fun kq v42 v5 w' => ∃ (i : Nat) (vl' : Value) (l' pl' : List Int), v42 = .int .i64 (i : Int) ∧ i + kq = l.length ∧ Aside0 (HM w' (fun k => (ok k ∧ some k ≠ (Value.slice A l.length c).ownBlock) ∨ w6.heap.size ≤ k) g hb gs gp vl' l' sc1 pl' st') ∧ Aside0 (WF n (fun v => v ∈ l.drop i) l' pl' ∧ HP sc1 l' ∧ ∀ v, v ∈ l' ↔ v ∈ l.take i) ∧ Aside0 (Rest w6 w' (fun k => ok k ∧ some k ≠ (Value.slice A l.length c).ownBlock)))
      case atStart => exact ⟨0, _, [], pl, rfl, by omega, ⟨HM6.out.mono (fun k q => .inl q)⟩, ⟨HW.out.start, fun i _ hi => absurd hi (Nat.not_lt_zero _), fun v => by simp⟩, ⟨Rest.refl _ _⟩⟩
      case round =>
        obtain ⟨i, vl', l', pl', rfl, hik, HJ, HP, HR⟩ := hrel
        cases gk with
        | zero =>
          have hi : ¬ ((i : Int) < (l.length : Int)) := by omega
          have HI : Aside0 (i = l.length) := ⟨by omega⟩
          clear hik
          go_wp2
          go_end0
          have hwf : WF sc1.length (fun _ => False) l' pl' := by
            rw [HLN.out]
            exact HP.out.1.more (fun v hv => by rw [HI.out] at hv; simp at hv)
          refine ⟨rfl, l', ⟨sc1, st', ⟨⟨hb, gs, gp, vl', pl', HJ.out.mono (fun k q => q.imp (fun q => q.1) (fun q => Nat.le_trans HR6.out.size q)), hwf⟩, HP.out.2.1, HLN.out, HL.out, HSC.out, HST.out.2, HST.out.1⟩⟩, fun v => by rw [HP.out.2.2 v, HI.out, List.take_length], HR6.out.trans HR.out (fun k _ q => q.1)⟩
        | succ k2 =>
          have hi : (i : Int) < (l.length : Int) := by omega
          have hi0 : (0 : Int) ≤ (i : Int) := by omega
          have hil : i < l.length := by omega
          obtain ⟨gl, e, hq⟩ := HQ.out i hil
          have hgl := (HR.out.block gl (World.block_lt_of_cell? _ _ hq) (fun q => q.2 (by rw [e]; rfl)))
          have q1 := (World.cell?_of_block (a := ⟨gl, i, none⟩) hgl).trans hq
          obtain ⟨x, hx⟩ : ∃ x, x = gI l i := ⟨_, rfl⟩
          rw [← hx] at q1
          have hxm : x ∈ l := by rw [hx]; exact gI_mem hil
          have HXR := Aside0.mk (HW.out.rng x hxm)
          have hdrop : l.drop i = x :: l.drop (i + 1) := by rw [List.drop_eq_getElem_cons hil, hx]; congr 1; exact (gI_of (List.getElem?_eq_getElem hil)).symm
          have htake : l.take (i + 1) = l.take i ++ [x] := by rw [List.take_succ_eq_append_getElem hil, hx]; congr 2; exact (gI_of (List.getElem?_eq_getElem hil)).symm
          have HNM : Aside0 (x ∉ l') := ⟨fun q => by
            obtain ⟨j, hj, e2⟩ := mem_gI.1 ((HP.out.2.2 x).1 q)
            rw [List.length_take] at hj
            have e3 : gI (l.take i) j = gI l j := by simp [gI, List.getD_eq_getElem?_getD, show j < i by omega]
            exact HW.out.ne (i := j) (j := i) (by omega) hil (by omega) (by rw [← e3, e2, hx])⟩
          have HXX : Aside0 (∀ v, v ∈ l.drop i → v ≠ x → v ∈ l.drop (i + 1)) := ⟨fun v hv hne => by
            rw [hdrop] at hv
            exact (List.mem_cons.1 hv).elim (fun q => absurd q hne) id⟩
          have HTK : Aside0 (∀ v, v ∈ l.take (i + 1) ↔ v ∈ l.take i ∨ v = x) := ⟨fun v => by rw [htake]; simp⟩
          have HWF2 : Aside0 (WF sc1.length (fun v => v ∈ l.drop i) l' pl') := ⟨by rw [HLN.out]; exact HP.out.1⟩
          have HIK := Aside0.mk hik
          have hn : l.length ≤ 1048576 := HLE.out
          subst e
          clear hq hgl hx hxm hdrop htake hik hil
          go_wp2_with (go_at_call 54; go_loud (refine (hp_push (fun v => v ∈ l.drop i) (fun v => v ∈ l.drop (i + 1)) x HJ.out HWF2.out HP.out.2.1 HNM.out HXR.out.1 (by rw [HLN.out]; exact HXR.out.2) HXX.out HFN.out (by rw [HLN.out]; exact HL.out)).mono ?_; rintro e w7 ⟨rfl, vl2, l2, pl2, a1, a2, a3, a4, a5, a6⟩; have HA := Aside0.mk (And.intro a1 (And.intro a2 (And.intro a3 (And.intro a4 (And.intro a5 a6))))); clear a1 a2 a3 a4 a5 a6 q1))
          go_roundg k2
          case measure => omega
          case rel =>
            obtain ⟨a1, a2, a3, a4, a5, a6⟩ := HA.out
            rw [HLN.out] at a2
            exact ⟨i + 1, vl2, l2, pl2, by go_num, by have := HIK.out; omega, ⟨a1.mono (fun k q => q.elim id (fun q => .inr (Nat.le_trans HR.out.size q)))⟩, ⟨a2, a3, fun v => by rw [a4 v, HTK.out v, HP.out.2.2 v]⟩, ⟨HR.out.trans a6 (fun k hk q => q.elim id (fun q => absurd hk (Nat.not_lt.2 q)))⟩⟩
    | succ k2 =>
      have hi : (i : Int) < (n : Int) := by omega
      have hi0 : (0 : Int) ≤ (i : Int) := by omega
      have c3 := HJ.out.c 3
      rw [HP.out.1] at c3
      obtain ⟨s1, s2⟩ := HJ.out.s (i := i) (by rw [HP.out.1]; omega)
      obtain ⟨x, hx⟩ : ∃ x, x = gW sc1 (i : Int) := ⟨_, rfl⟩
      rw [← hx] at s1
      have hxi : sc1[i]? = some x := by rw [hx]; simp [gW, List.getD_eq_getElem?_getD, show i < sc1.length by rw [HP.out.1]; omega]
      obtain ⟨q, hq, hq1, _⟩ := lessen_words (HP.out.2.1 x (List.mem_of_getElem? hxi))
      have rq := fun W => run_mul hq W
      have HJ2 := Aside0.mk (HJ.out.sets i q)
      have HP2 : Aside0 ((sc1.set i q).length = n ∧ (∀ x ∈ sc1.set i q, x ≤ twice) ∧ ∀ (j : Nat) (x : Nat), j < i + 1 → (sc1.set i q)[j]? = some x → x ≤ great) := ⟨by rw [List.length_set]; exact HP.out.1, fun z hz => by
        rcases List.mem_or_eq_of_mem_set hz with hz | hz
        · exact HP.out.2.1 z hz
        · rw [hz]; exact Nat.le_trans hq1 (by decide +kernel), fun j z hj hz => by
        by_cases e : i = j
        · subst e
          rw [List.getElem?_set_self (by rw [HP.out.1]; omega)] at hz
          injection hz with hz
          rw [← hz]; exact hq1
        · rw [List.getElem?_set_ne e] at hz
          exact HP.out.2.2 j z (by omega) hz⟩
      have HR2 := Aside0.mk (HR.out.set (p := ⟨gs, i, none⟩) (fun _ => HJ.out.os) (.float .f64 q))
      have HIK := Aside0.mk (And.intro hik HL.out)
      have hn : n ≤ 1048576 := HL.out
      clear hx hxi hq hq1 hik
      go_wp2
      go_roundg k2
      case measure => omega
      case rel => exact ⟨i + 1, _, by go_num, by have := HIK.out; omega, HJ2, HP2, HR2⟩
end

end Go.Proofs.Ytocmldppefjbgaa.PHP
