import Derived.Test.YtocmldppefjbgaaHp1
import Derived.IntWalk
import Derived.BigQuiet
import Derived.Deep.QuietTactic
namespace Go.Proofs.Ytocmldppefjbgaa.PHP
open Go.RowKit Go.Proofs.YtocmldppefjbgaaW.PrintWords Go.Proofs.YtocmldppefjbgaaW.PrintLast Go.Proofs.YtocmldppefjbgaaW.PrintMore Go.Proofs.YtocmldppefjbgaaH
set_option linter.unusedVariables false
set_option linter.unusedSimpArgs false
/-! ### the functions of the queue -/
theorem quiet_addL {P : Program} {f : FuncId} {args : Array Value} {w : World} {a n : Nat} {v : Value}
    (h : Calls P f args (w.drewN (a + n)) fun e w' => e = .returned v ∧ ∃ m, w' = (w.drewN (a + n)).drewN m) :
    Calls P f args (w.drewN (a + n)) fun e w'' => e = .returned v ∧ ∃ m, w'' = w.drewN (a + m) :=
  h.mono fun _ _ ⟨he, m, hm⟩ => ⟨he, n + m, by rw [hm, World.drewN_drewN, Nat.add_assoc]⟩
theorem quiet_add0 {P : Program} {f : FuncId} {args : Array Value} {w : World} {n : Nat} {v : Value}
    (h : Calls P f args (w.drewN n) fun e w' => e = .returned v ∧ Drawn0 (w.drewN n) w') :
    Calls P f args (w.drewN n) fun e w'' => e = .returned v ∧ ∃ m, w'' = w.drewN m :=
  h.mono fun _ _ ⟨he, ⟨m, hm⟩⟩ => ⟨he, n + m, by rw [hm, World.drewN_drewN]⟩
theorem run_neq {x y : Nat} (hx : x < inf) (hy : y < inf) (W : World) : (binOp .neq 41 (.float .f64 x) (.float .f64 y)).run Try.prog W = .ok (.bool (decide (x ≠ y))) W := by
  have e : FloatKind.f64.format.order x y = some (compareOfLessAndEq x y) := order_words hx hy
  have : (some (compareOfLessAndEq x y) != some Ordering.eq) = decide (x ≠ y) := by
    unfold compareOfLessAndEq
    by_cases h1 : x < y
    · have : x ≠ y := by omega
      simp [h1, this]
    · by_cases h2 : x = y
      · simp [h2]
      · simp [h1, h2]
  simp [binOp, Op.floatCmp, e, this]
theorem run_gtr {x y : Nat} (hx : x < inf) (hy : y < inf) (W : World) : (binOp .gtr 41 (.float .f64 x) (.float .f64 y)).run Try.prog W = .ok (.bool (decide (y < x))) W := by
  have e : FloatKind.f64.format.order x y = some (compareOfLessAndEq x y) := order_words hx hy
  have : (some (compareOfLessAndEq x y) == some Ordering.gt) = decide (y < x) := by
    unfold compareOfLessAndEq
    by_cases h1 : x < y
    · have : ¬ y < x := by omega
      simp [h1, this]
    · by_cases h2 : x = y
      · simp [h2]
      · have : y < x := by omega
        simp [h1, h2, this]
  simp [binOp, Op.floatCmp, e, this]
theorem gW_lt {sc : List Nat} (h : ∀ x ∈ sc, x < inf) (a : Int) : gW sc a < inf := by
  unfold gW
  rw [List.getD_eq_getElem?_getD]
  cases e : sc[a.toNat]? with
  | none => exact (by decide : 0 < inf)
  | some x => exact h x (List.mem_of_getElem? e)
section
variable {w : World} {ok : Nat → Prop} {g hb gs gp : Nat} {vl : Value} {l : List Int} {sc : List Nat} {pl : List Int} {st : Nat}
set_option maxHeartbeats 2000000 in
theorem hp_ahead (a b : Int) (h : HM w ok g hb gs gp vl l sc pl st) (ha0 : 0 ≤ a) (ha1 : a < (sc.length : Int)) (hb0 : 0 ≤ b) (hb1 : b < (sc.length : Int)) (hs : ∀ x ∈ sc, x < inf) :
    Calls Try.prog 47 #[.pointer (some ⟨g, 0, none⟩), .int .i64 a, .int .i64 b] w fun e w' => e = .returned (.bool (ah sc a b)) ∧ Drawn0 w w' := by
  have c3 := h.c 3
  have s1 := (h.s (i := a.toNat) (by omega)).1
  have s2 := (h.s (i := b.toNat) (by omega)).1
  rw [Int.toNat_of_nonneg ha0] at s1
  rw [Int.toNat_of_nonneg hb0] at s2
  have r1 := fun W => run_neq (gW_lt hs a) (gW_lt hs b) W
  have r2 := fun W => run_gtr (gW_lt hs a) (gW_lt hs b) W
  obtain ⟨x, hx⟩ : ∃ x, x = gW sc a := ⟨_, rfl⟩
  obtain ⟨y, hy⟩ : ∃ y, y = gW sc b := ⟨_, rfl⟩
  have hah : ah sc a b = if x = y then decide (a < b) else decide (y < x) := by rw [hx, hy]; rfl
  rw [hah]
  rw [← hx] at s1 r1 r2
  rw [← hy] at s2 r1 r2
  clear h hs hx hy hah
  by_cases hxy : x = y
  · have d : decide (x ≠ y) = false := by simp [hxy]
    rw [if_pos hxy]
    simp only [d] at r1
    clear hxy d r2
    go_enter Try.func47, Try.ntmps47
    go_wp2_with fail
    go_quiet (fail)
    go_wp2_with fail
    go_ret
    exact ⟨rfl, by repeat (first | exact Drawn0.refl _ | apply Drawn0.step)⟩
  · have d : decide (x ≠ y) = true := by simp [hxy]
    rw [if_neg hxy]
    simp only [d] at r1
    clear hxy d
    go_enter Try.func47, Try.ntmps47
    go_wp2_with fail
    go_quiet (fail)
    go_wp2_with fail
    go_quiet (fail)
    go_wp2_with fail
    go_ret
    exact ⟨rfl, by repeat (first | exact Drawn0.refl _ | apply Drawn0.step)⟩
theorem hp_aheadr (a b : Int) (r : Bool) (h : HM w ok g hb gs gp vl l sc pl st) (ha0 : 0 ≤ a) (ha1 : a < (sc.length : Int)) (hb0 : 0 ≤ b) (hb1 : b < (sc.length : Int)) (hs : ∀ x ∈ sc, x < inf) (hr : ah sc a b = r) (n : Nat) :
    Calls Try.prog 47 #[.pointer (some ⟨g, 0, none⟩), .int .i64 a, .int .i64 b] (w.drewN n) fun e w' => e = .returned (.bool r) ∧ ∃ m, w' = w.drewN m := by
  subst hr
  exact quiet_add0 (hp_ahead a b (h.drawn (Drawn0.step (Drawn0.refl w) n)) ha0 ha1 hb0 hb1 hs)
theorem hp_aheadr2 (a b : Int) (r : Bool) (h : HM w ok g hb gs gp vl l sc pl st) (ha0 : 0 ≤ a) (ha1 : a < (sc.length : Int)) (hb0 : 0 ≤ b) (hb1 : b < (sc.length : Int)) (hs : ∀ x ∈ sc, x < inf) (hr : ah sc a b = r) (c n : Nat) :
    Calls Try.prog 47 #[.pointer (some ⟨g, 0, none⟩), .int .i64 a, .int .i64 b] (w.drewN (c + n)) fun e w' => e = .returned (.bool r) ∧ ∃ m, w' = w.drewN (c + m) := by
  subst hr
  refine (hp_ahead a b (h.drawn (Drawn0.step (Drawn0.refl w) (c + n))) ha0 ha1 hb0 hb1 hs).mono ?_
  rintro e w' ⟨he, ⟨m, hm⟩⟩
  exact ⟨he, n + m, by rw [hm, World.drewN_drewN, Nat.add_assoc]⟩
theorem hp_moved (v a : Int) (h : HM w ok g hb gs gp vl l sc pl st) (hv0 : 0 ≤ v) (hv1 : v < (pl.length : Int)) :
    Calls Try.prog 57 #[.int .i64 v, .int .i64 a, .pointer (some ⟨hb, 0, none⟩)] w fun e w' => e = .returned (.tuple #[]) ∧ w' = w.setCell ⟨gp, v.toNat, none⟩ (.int .i64 a) := by
  have b0 := blk_cell h.box 0
  have c4 := h.c 4
  obtain ⟨p1, p2⟩ := h.p (i := v.toNat) (by omega)
  clear h
  go_enter Try.func57, Try.ntmps57
  go_wp2
  go_end0
  exact ⟨rfl, rfl⟩
set_option maxHeartbeats 2000000 in
theorem hp_put (x : Int) (i : Nat) (h : HM w ok g hb gs gp vl l sc pl st) (hi : i < l.length) (hx0 : 0 ≤ x) (hx1 : x < (pl.length : Int)) :
    Calls Try.prog 66 #[.pointer (some ⟨g, 0, none⟩), .int .i64 x, .int .i64 (i : Int)] w fun e w' => e = .returned (.tuple #[]) ∧ HM w' ok g hb gs gp vl (l.set i x) sc (pl.set x.toNat (i : Int)) st ∧ Rest w w' ok := by
  obtain ⟨gl, c, rfl, hq⟩ := h.q (by omega)
  obtain ⟨q1, q2⟩ := hq i hi
  have h2 := h.setl i x
  have c0 := h.c 0
  have c2 := h.c 2
  have c2' := h2.c 2
  have HM2 := Aside0.mk h2
  have HOK := Aside0.mk (h.rl.1 gl rfl).1
  have hi0 : (0 : Int) ≤ (i : Int) := by omega
  have hi1 : (i : Int) < (l.length : Int) := by omega
  have HX := Aside0.mk (And.intro hx0 hx1)
  have HI := Aside0.mk hi
  clear hq h h2
  go_enter Try.func66, Try.ntmps66
  go_wp2_with (first | (go_at_call 57; go_loud (refine (hp_moved x (i : Int) HM2.out HX.out.1 HX.out.2).mono ?_; rintro e w' ⟨rfl, rfl⟩)))
  go_end0
  exact ⟨rfl, HM2.out.setp x.toNat (i : Int), ((Rest.refl w ok).set (p := ⟨gl, i, none⟩) (fun _ => HOK.out) _).set (p := ⟨gp, x.toNat, none⟩) (fun _ => HM2.out.op) _⟩
end

end Go.Proofs.Ytocmldppefjbgaa.PHP
