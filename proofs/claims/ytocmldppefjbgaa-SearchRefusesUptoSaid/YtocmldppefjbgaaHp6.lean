import Derived.Test.YtocmldppefjbgaaHp5
import Derived.BigQuiet
import Derived.Deep.QuietTactic
namespace Go.Proofs.Ytocmldppefjbgaa.PHP
open Go.RowKit Go.Proofs.YtocmldppefjbgaaW.PrintWords Go.Proofs.YtocmldppefjbgaaW.PrintLast Go.Proofs.YtocmldppefjbgaaW.PrintMore Go.Proofs.YtocmldppefjbgaaH
set_option linter.unusedVariables false
set_option linter.unusedSimpArgs false
/-! ### the heap's own functions -/
structure HS (w : World) (ok : Nat → Prop) (g n : Nat) (l : List Int) (sc : List Nat) (st : Nat) : Prop where
  ex : ∃ hb gs gp vl pl, HM w ok g hb gs gp vl l sc pl st ∧ WF sc.length (fun _ => False) l pl
  hp : HP sc l
  len : sc.length = n
  cap : n ≤ 1048576
  sc : ∀ x ∈ sc, x ≤ great
  st0 : lo ≤ st
  st1 : st ≤ great
section
variable {w : World} {ok : Nat → Prop} {g n : Nat} {l : List Int} {sc : List Nat} {st : Nat}
theorem HS.step {w1 : World} (h : HS w ok g n l sc st) (hm : ∀ k, ok k → k < w.heap.size → w1.heap[k]? = w.heap[k]?) : HS w1 ok g n l sc st := by
  obtain ⟨⟨hb, gs, gp, vl, pl, h1, h2⟩, h3, h4, h5, h6, h7, h8⟩ := h
  exact ⟨⟨hb, gs, gp, vl, pl, h1.step hm, h2⟩, h3, h4, h5, h6, h7, h8⟩
theorem HS.mono {ok' : Nat → Prop} (h : HS w ok g n l sc st) (hk : ∀ k, ok k → ok' k) : HS w ok' g n l sc st := by
  obtain ⟨⟨hb, gs, gp, vl, pl, h1, h2⟩, h3, h4, h5, h6, h7, h8⟩ := h
  exact ⟨⟨hb, gs, gp, vl, pl, h1.mono hk, h2⟩, h3, h4, h5, h6, h7, h8⟩
theorem HS.bound (h : HS w ok g n l sc st) : HS w (fun k => ok k ∧ k < w.heap.size) g n l sc st := by
  obtain ⟨⟨hb, gs, gp, vl, pl, h1, h2⟩, h3, h4, h5, h6, h7, h8⟩ := h
  exact ⟨⟨hb, gs, gp, vl, pl, h1.bound, h2⟩, h3, h4, h5, h6, h7, h8⟩
theorem HS.below {w1 : World} (h : HS w ok g n l sc st) (hb : Below w.heap.size w w1) : HS w1 ok g n l sc st := h.step (fun k _ hk => hb.block k hk)
theorem HS.fin (h : HS w ok g n l sc st) : ∀ x ∈ sc, x < inf := fun x hx => Nat.lt_of_le_of_lt (h.sc x hx) great_inf
theorem HS.rng (h : HS w ok g n l sc st) : ∀ x ∈ l, 0 ≤ x ∧ x < (n : Int) := by
  obtain ⟨hb, gs, gp, vl, pl, h1, h2⟩ := h.ex
  intro x hx
  have := h2.rng x hx
  rw [h.len] at this
  exact this
theorem HS.nodup (h : HS w ok g n l sc st) : l.Nodup := by
  obtain ⟨hb, gs, gp, vl, pl, h1, h2⟩ := h.ex
  exact h2.nodup
theorem HS.le (h : HS w ok g n l sc st) : l.length ≤ n := by
  obtain ⟨hb, gs, gp, vl, pl, h1, h2⟩ := h.ex
  have := h2.le
  rw [h.len] at this
  exact this
theorem WF.place {X : Int → Prop} {pl : List Int} (h : WF n (fun _ => False) l pl) (v : Int) (h0 : 0 ≤ v) (h1 : v < (n : Int)) : decide (0 ≤ gI pl v.toNat) = decide (v ∈ l) ∧ (v ∈ l → ∃ i : Nat, gI pl v.toNat = (i : Int) ∧ i < l.length ∧ gI l i = v) := by
  by_cases hv : v ∈ l
  · obtain ⟨i, hi, e⟩ := mem_gI.1 hv
    have h2 := gI_of (h.at_ i v (e ▸ gI_some hi))
    exact ⟨by rw [h2]; simp [hv], fun _ => ⟨i, h2, hi, e⟩⟩
  · have h2 := gI_of (h.out v.toNat (by omega) (by rw [Int.toNat_of_nonneg h0]; exact hv) (fun q => q))
    exact ⟨by rw [h2]; simp [hv], fun q => absurd q hv⟩
theorem hs_Size (h : HS w ok g n l sc st) : Calls Try.prog 17 #[.pointer (some ⟨g, 0, none⟩)] w fun e w' => e = .returned (.int .i64 (n : Int)) ∧ w = w' := by
  obtain ⟨hb, gs, gp, vl, pl, h1, h2⟩ := h.ex
  have c3 := h1.c 3
  rw [h.len] at c3
  clear h h1 h2
  go_enter Try.func17, Try.ntmps17
  go_wp2
  go_ret
  exact ⟨rfl, rfl⟩
theorem hs_Len (h : HS w ok g n l sc st) : Calls Try.prog 18 #[.pointer (some ⟨g, 0, none⟩)] w fun e w' => e = .returned (.int .i64 (l.length : Int)) ∧ w = w' := by
  obtain ⟨hb, gs, gp, vl, pl, h1, h2⟩ := h.ex
  obtain ⟨A, c, rfl⟩ := h1.sl
  have c0 := h1.c 0
  clear h h1 h2
  go_enter Try.func18, Try.ntmps18
  go_wp2
  go_ret
  exact ⟨rfl, rfl⟩
theorem hs_Step (h : HS w ok g n l sc st) : Calls Try.prog 23 #[.pointer (some ⟨g, 0, none⟩)] w fun e w' => e = .returned (.float .f64 st) ∧ w = w' := by
  obtain ⟨hb, gs, gp, vl, pl, h1, h2⟩ := h.ex
  have c5 := h1.c 5
  clear h h1 h2
  go_enter Try.func23, Try.ntmps23
  go_wp2
  go_ret
  exact ⟨rfl, rfl⟩
theorem hs_is (v : Int) (h : HS w ok g n l sc st) : Calls Try.prog 48 #[.pointer (some ⟨g, 0, none⟩), .int .i64 v] w fun e w' => e = .returned (.bool (decide (0 ≤ v ∧ v < (n : Int)))) ∧ w = w' := by
  obtain ⟨hb, gs, gp, vl, pl, h1, h2⟩ := h.ex
  have c3 := h1.c 3
  rw [h.len] at c3
  clear h h1 h2
  by_cases q0 : 0 ≤ v
  · have d0 : decide (0 ≤ v) = true := decide_eq_true q0
    have e : decide (0 ≤ v ∧ v < (n : Int)) = decide (v < (n : Int)) := by simp [q0]
    rw [e]
    clear e
    go_enter Try.func48, Try.ntmps48
    go_wp2
    go_ret
    exact ⟨rfl, rfl⟩
  · have d0 : decide (0 ≤ v) = false := decide_eq_false q0
    have e : decide (0 ≤ v ∧ v < (n : Int)) = false := by simp [q0]
    rw [e]
    clear e
    go_enter Try.func48, Try.ntmps48
    go_wp2
    go_ret
    exact ⟨rfl, rfl⟩
theorem hs_Has (v : Int) (h : HS w ok g n l sc st) : Calls Try.prog 26 #[.pointer (some ⟨g, 0, none⟩), .int .i64 v] w fun e w' => e = .returned (.bool (decide (v ∈ l))) ∧ w = w' := by
  have H := Aside0.mk h
  by_cases hv : 0 ≤ v ∧ v < (n : Int)
  · have HI : Aside0 (decide (0 ≤ v ∧ v < (n : Int)) = true) := ⟨decide_eq_true hv⟩
    obtain ⟨hb, gs, gp, vl, pl, h1, h2⟩ := h.ex
    have c4 := h1.c 4
    have hpl : pl.length = n := by rw [h2.len, h.len]
    rw [hpl] at c4
    have hx := (WF.place (X := fun _ => False) h2 v hv.1 (by rw [h.len]; exact hv.2)).1
    have p1 := (h1.p (i := v.toNat) (by omega)).1
    obtain ⟨y, hy⟩ : ∃ y, y = gI pl v.toNat := ⟨_, rfl⟩
    rw [← hy] at hx p1
    rw [← hx]
    have i0 := hv.1
    have i1 := hv.2
    clear h h1 h2 hpl hx hy hv
    go_enter Try.func26, Try.ntmps26
    go_wp2_with (go_at_call 48; refine (hs_is v H.out).mono ?_; rw [HI.out]; rintro e w' ⟨rfl, rfl⟩)
    go_ret
    exact ⟨rfl, rfl⟩
  · have HI : Aside0 (decide (0 ≤ v ∧ v < (n : Int)) = false) := ⟨decide_eq_false hv⟩
    have hn : decide (v ∈ l) = false := decide_eq_false (fun q => hv (h.rng v q))
    rw [hn]
    clear h hv hn
    go_enter Try.func26, Try.ntmps26
    go_wp2_with (go_at_call 48; refine (hs_is v H.out).mono ?_; rw [HI.out]; rintro e w' ⟨rfl, rfl⟩)
    go_ret
    exact ⟨rfl, rfl⟩
theorem hs_Top_no (h : HS w ok g n [] sc st) : Calls Try.prog 24 #[.pointer (some ⟨g, 0, none⟩)] w fun e w' => e = .returned (.tuple #[.int .i64 0, .int .i64 190]) ∧ w = w' := by
  have H := Aside0.mk h
  clear h
  go_enter Try.func24, Try.ntmps24
  go_wp2_with (go_at_call 18; refine (hs_Len H.out).mono ?_; rintro e w' ⟨rfl, rfl⟩)
  go_ret2
  exact ⟨rfl, rfl⟩
theorem hs_Top (h : HS w ok g n l sc st) (hl : 0 < l.length) : Calls Try.prog 24 #[.pointer (some ⟨g, 0, none⟩)] w fun e w' => e = .returned (.tuple #[.int .i64 (gI l 0), .int .i64 0]) ∧ w = w' := by
  have H := Aside0.mk h
  obtain ⟨hb, gs, gp, vl, pl, h1, h2⟩ := h.ex
  obtain ⟨gl, c, rfl, hq⟩ := h1.q hl
  have c0 := h1.c 0
  have q0 := (hq 0 hl).1
  obtain ⟨x, hx⟩ : ∃ x, x = gI l 0 := ⟨_, rfl⟩
  rw [← hx] at q0 ⊢
  have i0 : (0 : Int) < (l.length : Int) := by omega
  have i1 : (0 < l.length) = True := by simp [hl]
  have i2 : ¬ (l.length : Int) = 0 := by omega
  have i4 : (l = []) = False := by simp; intro e; subst e; simp at hl
  have i3 : (l.length = 0) = False := by simp [i4]
  clear h h1 h2 hq hx
  go_enter Try.func24, Try.ntmps24
  go_wp2_with (go_at_call 18; refine (hs_Len H.out).mono ?_; rintro e w' ⟨rfl, rfl⟩)
  go_ret2
  exact ⟨rfl, rfl⟩
theorem hs_Score (v : Int) (h : HS w ok g n l sc st) (h0 : 0 ≤ v) (h1 : v < (n : Int)) : Calls Try.prog 22 #[.pointer (some ⟨g, 0, none⟩), .int .i64 v] w fun e w' => e = .returned (.tuple #[.float .f64 (gW sc v), .int .i64 0]) ∧ w = w' := by
  have H := Aside0.mk h
  have HI : Aside0 (decide (0 ≤ v ∧ v < (n : Int)) = true) := ⟨decide_eq_true ⟨h0, h1⟩⟩
  obtain ⟨hb, gs, gp, vl, pl, h1, h2⟩ := h.ex
  have c3 := h1.c 3
  have s1 := (h1.s (i := v.toNat) (by rw [h.len]; omega)).1
  rw [Int.toNat_of_nonneg h0] at s1
  rw [h.len] at c3
  clear h h1 h2
  go_enter Try.func22, Try.ntmps22
  go_wp2_with (go_at_call 48; refine (hs_is v H.out).mono ?_; rw [HI.out]; rintro e w' ⟨rfl, rfl⟩)
  go_ret2
  exact ⟨rfl, rfl⟩
set_option maxRecDepth 100000 in
set_option maxHeartbeats 2000000 in
theorem hs_Push (v : Int) (h : HS w ok g n l sc st) : Calls Try.prog 39 #[.pointer (some ⟨g, 0, none⟩), .int .i64 v] w fun e w' => ∃ l', e = .returned (.int .i64 (if 0 ≤ v ∧ v < (n : Int) then (if v ∈ l then 190 else 0) else 61)) ∧ HS w' (fun k => ok k ∨ w.heap.size ≤ k) g n l' sc st ∧ (∀ x, x ∈ l' ↔ x ∈ l ∨ (0 ≤ v ∧ v < (n : Int) ∧ x = v)) ∧ Rest w w' ok := by
  have H := Aside0.mk h
  by_cases hv : 0 ≤ v ∧ v < (n : Int)
  · have HI : Aside0 (decide (0 ≤ v ∧ v < (n : Int)) = true) := ⟨decide_eq_true hv⟩
    rw [if_pos hv]
    by_cases hm : v ∈ l
    · have HM : Aside0 (decide (v ∈ l) = true) := ⟨decide_eq_true hm⟩
      rw [if_pos hm]
      have HV := Aside0.mk (And.intro hv hm)
      clear h hv hm
      go_enter Try.func39, Try.ntmps39
      go_wp2_with (first | (go_at_call 48; refine (hs_is v H.out).mono ?_; rw [HI.out]; rintro e w' ⟨rfl, rfl⟩) | (go_at_call 26; refine (hs_Has v H.out).mono ?_; rw [HM.out]; rintro e w' ⟨rfl, rfl⟩))
      go_ret
      exact ⟨l, rfl, H.out.mono (fun k q => .inl q), fun x => ⟨.inl, fun q => q.elim id (fun q => by rw [q.2.2]; exact HV.out.2)⟩, Rest.refl _ _⟩
    · have HM : Aside0 (decide (v ∈ l) = false) := ⟨decide_eq_false hm⟩
      rw [if_neg hm]
      have HV := Aside0.mk (And.intro hv hm)
      clear h hv hm
      obtain ⟨hb, gs, gp, vl, pl, h1, h2⟩ := H.out.ex
      have HX := Aside0.mk (And.intro h1 h2)
      clear h1 h2
      go_enter Try.func39, Try.ntmps39
      go_wp2_with (first | (go_at_call 48; refine (hs_is v H.out).mono ?_; rw [HI.out]; rintro e w' ⟨rfl, rfl⟩) | (go_at_call 26; refine (hs_Has v H.out).mono ?_; rw [HM.out]; rintro e w' ⟨rfl, rfl⟩) | (go_at_call 54; go_loud (refine (hp_push (fun _ => False) (fun _ => False) v HX.out.1 HX.out.2 H.out.hp HV.out.2 HV.out.1.1 (by rw [H.out.len]; exact HV.out.1.2) (fun _ q _ => q) H.out.fin (by rw [H.out.len]; exact H.out.cap)).mono ?_; rintro e w2 ⟨rfl, vl', l', pl', a1, a2, a3, a4, a5, a6⟩; have HA := Aside0.mk (And.intro a1 (And.intro a2 (And.intro a3 (And.intro a4 (And.intro a5 a6))))); clear a1 a2 a3 a4 a5 a6)))
      go_ret
      obtain ⟨a1, a2, a3, a4, a5, a6⟩ := HA.out
      exact ⟨l', rfl, ⟨⟨_, _, _, _, _, a1, a2⟩, a3, H.out.len, H.out.cap, H.out.sc, H.out.st0, H.out.st1⟩, fun x => (a4 x).trans ⟨fun q => q.imp id (fun q => ⟨HV.out.1.1, HV.out.1.2, q⟩), fun q => q.imp id (fun q => q.2.2)⟩, a6⟩
  · have HI : Aside0 (decide (0 ≤ v ∧ v < (n : Int)) = false) := ⟨decide_eq_false hv⟩
    rw [if_neg hv]
    have HV := Aside0.mk hv
    clear h hv
    go_enter Try.func39, Try.ntmps39
    go_wp2_with (first | (go_at_call 48; refine (hs_is v H.out).mono ?_; rw [HI.out]; rintro e w' ⟨rfl, rfl⟩))
    go_ret
    exact ⟨l, rfl, H.out.mono (fun k q => .inl q), fun x => ⟨.inl, fun q => q.elim id (fun q => absurd ⟨q.1, q.2.1⟩ HV.out)⟩, Rest.refl _ _⟩
theorem hs_Pop_no (h : HS w ok g n [] sc st) : Calls Try.prog 25 #[.pointer (some ⟨g, 0, none⟩)] w fun e w' => e = .returned (.tuple #[.int .i64 0, .int .i64 190]) ∧ w = w' := by
  have H := Aside0.mk h
  clear h
  go_enter Try.func25, Try.ntmps25
  go_wp2_with (go_at_call 18; refine (hs_Len H.out).mono ?_; rintro e w' ⟨rfl, rfl⟩)
  go_ret2
  exact ⟨rfl, rfl⟩
theorem hs_Pop (h : HS w ok g n l sc st) (hl : 0 < l.length) : Calls Try.prog 25 #[.pointer (some ⟨g, 0, none⟩)] w fun e w' => ∃ l', e = .returned (.tuple #[.int .i64 (gI l 0), .int .i64 0]) ∧ HS w' ok g n l' sc st ∧ (∀ v, v ∈ l' ↔ v ∈ l ∧ v ≠ gI l 0) ∧ l'.length + 1 = l.length ∧ Rest w w' ok := by
  have H := Aside0.mk h
  obtain ⟨hb, gs, gp, vl, pl, h1, h2⟩ := h.ex
  have HX := Aside0.mk (And.intro h1 h2)
  have i0 : (0 : Int) < (l.length : Int) := by omega
  have i1 : (0 < l.length) = True := by simp [hl]
  have i2 : ¬ (l.length : Int) = 0 := by omega
  have i4 : (l = []) = False := by simp; intro e; subst e; simp at hl
  have i3 : (l.length = 0) = False := by simp [i4]
  have HL := Aside0.mk hl
  clear h h1 h2
  go_enter Try.func25, Try.ntmps25
  go_wp2_with (first | (go_at_call 18; refine (hs_Len H.out).mono ?_; rintro e w' ⟨rfl, rfl⟩) | (go_at_call 49; go_loud (refine (hp_pop (fun _ => False) HX.out.1 HX.out.2 H.out.hp HL.out H.out.fin (by rw [H.out.len]; exact H.out.cap)).mono ?_; rintro e w2 ⟨rfl, vl', l', pl', a1, a2, a3, a4, a5, a6⟩; have HA := Aside0.mk (And.intro a1 (And.intro a2 (And.intro a3 (And.intro a4 (And.intro a5 a6))))); clear a1 a2 a3 a4 a5 a6)))
  go_ret2
  obtain ⟨a1, a2, a3, a4, a5, a6⟩ := HA.out
  exact ⟨l', rfl, ⟨⟨_, _, _, _, _, a1, a2⟩, a3, H.out.len, H.out.cap, H.out.sc, H.out.st0, H.out.st1⟩, a4, a5, a6⟩
end

end Go.Proofs.Ytocmldppefjbgaa.PHP
