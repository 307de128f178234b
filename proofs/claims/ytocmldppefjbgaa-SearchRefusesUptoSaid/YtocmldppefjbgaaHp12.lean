import Derived.Test.YtocmldppefjbgaaHp11
import Derived.Test.YtocmldppefjbgaaPHPx6
import Derived.BigQuiet
import Derived.Deep.QuietTactic
namespace Go.Proofs.Ytocmldppefjbgaa.PHP
open Go.RowKit Go.Proofs.YtocmldppefjbgaaW.PrintWords Go.Proofs.YtocmldppefjbgaaW.PrintLast Go.Proofs.YtocmldppefjbgaaW.PrintMore Go.Proofs.YtocmldppefjbgaaH
set_option linter.unusedVariables false
set_option linter.unusedSimpArgs false
/-! ### the laws' helpers -/
theorem HS.go2 {w w1 w2 : World} {g n : Nat} {l : List Int} {sc : List Nat} {st : Nat} (h : HS w2 (fun k => w.heap.size ≤ k ∨ w1.heap.size ≤ k) g n l sc st) (hb : Below w.heap.size w w1) (hr : Rest w1 w2 (fun k => w.heap.size ≤ k)) : HS w2 (fun k => w.heap.size ≤ k) g n l sc st ∧ Below w.heap.size w w2 :=
  ⟨h.mono (fun k q => q.elim (fun z => z) (fun z => Nat.le_trans hb.size z)), hr.below hb (fun _ q => q)⟩
theorem lives_o {o l1 l2 l3 : List Int} {sc3 : List Nat} (hq : sc3 = (List.replicate 2 0).set (1 : Int).toNat one) (hpw : o.Pairwise (fun x y => ah sc3 x y = true)) (h5 : ∀ x, x ∈ o ↔ x ∈ l3) (h4 : ∀ x, x ∈ l3 ↔ x ∈ l2) (h3 : ∀ x, x ∈ l2 ↔ x ∈ l1 ∨ (0 ≤ (1 : Int) ∧ (1 : Int) < ((2 : Nat) : Int) ∧ x = 1)) (h2 : ∀ x, x ∈ l1 ↔ x ∈ ([] : List Int) ∨ (0 ≤ (0 : Int) ∧ (0 : Int) < ((2 : Nat) : Int) ∧ x = 0)) : o = [1, 0] := by
  subst hq
  refine sorted_same hpw (by decide +kernel) (fun v => ?_)
  rw [h5 v, h4 v, h3 v, h2 v]
  simp
  omega
theorem ints_ev (l : List Int) (hn : l.length ≤ 4611686018427387904) : ∀ d i : Nat, i + d = l.length → Ev (fun k => fulcrumlaw19_ints.l0 k l l (i : Int)) true := by
  intro d
  induction d with
  | zero =>
    intro i hi
    refine Ev.step (f := fun _ => some true) (fun k => ?_) (Ev.now true)
    simp only [fulcrumlaw19_ints.l0]
    rw [if_neg (by omega)]
  | succ d ih =>
    intro i hi
    refine Ev.step (f := fun k => fulcrumlaw19_ints.l0 k l l ((i + 1 : Nat) : Int)) (fun k => ?_) (ih (i + 1) (by omega))
    have hw : wrap64 ((i : Int) + 1) = ((i + 1 : Nat) : Int) := by unfold wrap64; omega
    simp only [fulcrumlaw19_ints.l0]
    rw [if_pos (by omega)]
    simp [hw]
    omega
theorem ints_same (l : List Int) (hn : l.length ≤ 4611686018427387904) : ∃ k, fulcrumlaw19_ints.f k l l = some true := by
  obtain ⟨k, hk⟩ := (ints_ev l hn l.length 0 (by omega)).rounds
  exact ⟨k, by unfold fulcrumlaw19_ints.f; rw [if_pos rfl]; exact hk⟩
theorem lit_C (W : World) (xs : List Int) (hn : xs.length ≤ 1048576) : Kd.C (Kd.int .i64) (W.alloc (.cells (il xs) 3)) (some ⟨W.heap.size, 0, none⟩) xs.length xs := by
  have h := World.ownsRow_lit (base := 0) (e := 3) (size := 1) W (il xs) xs.length (Nat.zero_le _) (by simp only [maxLen]; omega) (by simp [il])
  have hl : (il xs).toList = encs (Value.int .i64) xs := by simp [il, encs]
  rw [hl] at h
  exact (Kd.R_reads' (Kd.R_of_own (ok := fun _ => True) h (fun _ _ => trivial))).2.2
set_option maxRecDepth 100000 in
set_option maxHeartbeats 4000000 in
theorem hl_lives (w : World) : Calls Try.prog 14 #[] w fun e w' => e = .returned (.bool true) ∧ Below w.heap.size w w' := by
  obtain ⟨kk, hints⟩ := ints_same [1, 0] (by decide)
  have HI := Aside0.mk hints
  clear hints
  go_enter Try.func14, Try.ntmps14
  go_upto_region 2 with (go_at_call 15; go_loud (refine (hs_New 2 w (by omega)).mono ?_; rintro e w1 ⟨g, rfl, hst, hb⟩; have H1 := Aside0.mk (And.intro hst hb); clear hst hb))
  go_upto_region 5 with (go_at_call 39; go_loud (refine (hs_Push 0 H1.out.1).mono ?_; rintro e w2 ⟨l1, rfl, hs, hm, hr⟩; have H2 := Aside0.mk (And.intro (hs.go2 H1.out.2 hr) hm); clear hs hm hr))
  go_upto_region 6 with (go_at_call 39; go_loud (refine (hs_Push 1 H2.out.1.1).mono ?_; rintro e w3 ⟨l2, rfl, hs, hm, hr⟩; have H3 := Aside0.mk (And.intro (hs.go2 H2.out.1.2 hr) hm); clear hs hm hr))
  go_upto_region 7 with (go_at_call 40; go_loud (refine (hs_Bump_in 1 H3.out.1.1 (by decide)).mono ?_; rintro e w4 ⟨l3, sc3, st3, rfl, hs, hm, hr, hq⟩; have H4 := Aside0.mk (And.intro (hs.go2 H3.out.1.2 hr) (And.intro hm (hq one (by decide +kernel) (by decide +kernel)))); clear hs hm hr hq))
  go_wp2_with (first | (go_at_call 20; go_loud (refine (hs_Order H4.out.1.1).mono ?_; rintro e w5 ⟨A5, c5, o, rfl, ho, hpw, hmm, hb5⟩; have H5 := Aside0.mk (And.intro ho (And.intro hpw (And.intro hmm (below_step H4.out.1.2 hb5)))); have hoe := lives_o H4.out.2.2 hpw hmm H4.out.2.1 H3.out.2 H2.out.2; subst hoe; clear ho hpw hmm hb5)) | (go_at_call 21; go_loud (refine (fulcrumlaw19_ints.calls kk A5 c5 [1, 0] (some ⟨w5.heap.size, 0, none⟩) 2 [1, 0] true _ (Kd.C_alloc (Kd.R_reads' H5.out.1).2.2 _) (Kd.R_reads' H5.out.1).2.1 (lit_C w5 [1, 0] (by decide)) (by decide) HI.out).mono ?_; rintro e w6 ⟨rfl, hd⟩; have H6 := Aside0.mk hd; clear hd)))
  all_goals
    go_ret
    exact ⟨rfl, below_step (below_alloc H5.out.2.2.2 _) H6.out.below⟩
theorem info_bool : (Try.prog.info? 4).map (fun i => (i.zero, i.size, i.bytes)) = some (some (.bool false), 1, 1) := by kernel_rfl
theorem al3 (w : World) (a b c : Obj) : (((w.alloc a).alloc b).alloc c).drew.heap[w.heap.size]? = some a := by
  show (World.alloc _ _).heap[_]? = _
  rw [al_old _ _ (by simp; try omega), al_old _ _ (by simp)]
  exact heap_alloc_new w _
theorem ref_res : Try.f16.results = #[.cell 2 43, .tmp 3] := by kernel_rfl
theorem ref_ret {w : World} {tmps : Array Value} {b : Nat} {A B : Option Addr} {m k s e : Nat} (h2 : tmps[2]? = some (.pointer (some ⟨b, 0, none⟩))) (h3 : tmps[3]? = some (.int .i64 e)) (hb : w.heap[b]? = some (.cells #[.slice A m m, .slice B k k, .float .f64 s] 43 (0, 0))) :
    (results Try.f16 tmps).run Try.prog w = .ok (.tuple #[.agg #[.slice A m m, .slice B k k, .float .f64 s], .int .i64 e]) w := by
  have c0 := blk_cell hb 0
  have c1 := blk_cell hb 1
  have c2 := blk_cell hb 2
  simp only [results, ref_res]
  go_simp
set_option maxRecDepth 100000 in
set_option maxHeartbeats 4000000 in
theorem hl_ref_low (n : Int) (w : World) (h0 : n < 0) : Calls Try.prog 16 #[.int .i64 n] w fun e w' => (∃ (A B : Option Addr) (a b : Nat) (s : Nat), e = .returned (.tuple #[.agg #[.slice A a a, .slice B b b, .float .f64 s], .int .i64 1])) ∧ Below w.heap.size w w' := by
  have sf := run_store_float
  go_enter Try.func16, Try.ntmps16
  go_wp2
  exact bodyPost_ret (ref_ret (b := w.heap.size) (A := none) (B := none) (m := 0) (k := 0) (s := 0) (e := 1) rfl rfl (heap_alloc_new w _)) rfl ⟨⟨_, _, _, _, _, rfl⟩, below_alloc (Below.refl _ _) _⟩
theorem hl_ref_high (n : Int) (w : World) (h0 : 1048576 < n) : Calls Try.prog 16 #[.int .i64 n] w fun e w' => (∃ (A B : Option Addr) (a b : Nat) (s : Nat), e = .returned (.tuple #[.agg #[.slice A a a, .slice B b b, .float .f64 s], .int .i64 2])) ∧ Below w.heap.size w w' := by
  have sf := run_store_float
  have d0 : decide (n < 0) = false := decide_eq_false (by omega)
  go_enter Try.func16, Try.ntmps16
  go_wp2
  exact bodyPost_ret (ref_ret (b := w.heap.size) (A := none) (B := none) (m := 0) (k := 0) (s := 0) (e := 2) rfl rfl (heap_alloc_new w _)) rfl ⟨⟨_, _, _, _, _, rfl⟩, below_alloc (Below.refl _ _) _⟩
set_option maxRecDepth 100000 in
set_option maxHeartbeats 4000000 in
theorem hl_ref (n : Nat) (w : World) (h0 : n ≤ 1048576) : Calls Try.prog 16 #[.int .i64 (n : Int)] w fun e w' => (∃ (A B : Option Addr) (a b : Nat) (s : Nat), e = .returned (.tuple #[.agg #[.slice A a a, .slice B b b, .float .f64 s], .int .i64 0])) ∧ Below w.heap.size w w' := by
  have m1 := print_make_of (P := Try.prog) 39 41 (.float .f64 0) 8 Try.underlying39 info_float rfl (by decide) n (by omega)
  have m2 := print_make_of (P := Try.prog) 40 4 (.bool false) 1 Try.underlying40 info_bool rfl (by decide) n (by omega)
  have sf := run_store_float
  have d0 : ¬ ((n : Int) < 0) := by omega
  have d1 : ¬ (1048576 < n) := by omega
  have d2 : ¬ (1048576 < (n : Int)) := by omega
  go_enter Try.func16, Try.ntmps16
  go_wp2_with fail
  go_region
  all_goals
    go_wp2_with fail
    exact bodyPost_ret (ref_ret (b := w.heap.size) (e := 0) rfl rfl (al3 w _ _ _)) rfl ⟨⟨_, _, _, _, _, rfl⟩, below_drew1 (below_alloc (below_alloc (below_alloc (Below.refl _ _) _) _) _)⟩
set_option maxRecDepth 100000 in
set_option maxHeartbeats 4000000 in
theorem hl_consts (n : Int) (w : World) : Calls Try.prog 4 #[.int .i64 n] w fun e w' => e = .returned (.bool true) ∧ Below w.heap.size w w' := by
  have sf := run_store_float
  by_cases h0 : n < 0
  · go_enter Try.func4, Try.ntmps4
    go_wp2_with (first
      | (go_at_call 14; go_loud (refine (hl_lives w).mono ?_; rintro e w1 ⟨rfl, hb⟩; have H1 := Aside0.mk hb; clear hb))
      | (go_at_call 15; go_loud (refine (hs_New_low n w1 h0).mono ?_; rintro e w2 ⟨rfl, rfl⟩))
      | (go_at_call 16; go_loud (refine (hl_ref_low n w1 h0).mono ?_; rintro e w3 ⟨⟨A, B, a, b, s, rfl⟩, hb⟩; have H3 := Aside0.mk (below_step H1.out hb); clear hb)))
    go_ret
    exact ⟨rfl, below_alloc H3.out _⟩
  by_cases h1 : 1048576 < n
  · go_enter Try.func4, Try.ntmps4
    go_wp2_with (first
      | (go_at_call 14; go_loud (refine (hl_lives w).mono ?_; rintro e w1 ⟨rfl, hb⟩; have H1 := Aside0.mk hb; clear hb))
      | (go_at_call 15; go_loud (refine (hs_New_high n w1 h1).mono ?_; rintro e w2 ⟨rfl, rfl⟩))
      | (go_at_call 16; go_loud (refine (hl_ref_high n w1 h1).mono ?_; rintro e w3 ⟨⟨A, B, a, b, s, rfl⟩, hb⟩; have H3 := Aside0.mk (below_step H1.out hb); clear hb)))
    go_ret
    exact ⟨rfl, below_alloc H3.out _⟩
  obtain ⟨m, rfl⟩ := Int.eq_ofNat_of_zero_le (show 0 ≤ n by omega)
  have hm : m ≤ 1048576 := by omega
  have HM := Aside0.mk hm
  clear h0 h1 hm
  go_enter Try.func4, Try.ntmps4
  go_wp2_with (first
      | (go_at_call 14; go_loud (refine (hl_lives w).mono ?_; rintro e w1 ⟨rfl, hb⟩; have H1 := Aside0.mk hb; clear hb))
      | (go_at_call 15; go_loud (refine (hs_New m w1 HM.out).mono ?_; rintro e w2 ⟨g, rfl, hs, hb⟩; have H2 := Aside0.mk (And.intro hs (below_step H1.out hb)); clear hb hs))
      | (go_at_call 16; go_loud (refine (hl_ref m w2 HM.out).mono ?_; rintro e w3 ⟨⟨A, B, a, b, s, rfl⟩, hb⟩; have H3 := Aside0.mk (And.intro (H2.out.1.below hb) (below_step H2.out.2 hb)); clear hb))
      | (go_at_call 17; go_loud (refine (hs_Size (H3.out.1.below (below_alloc (Below.refl _ _) _))).mono ?_; rintro e w4 ⟨rfl, rfl⟩))
      | (go_at_call 18; go_loud (refine (hs_Len (H3.out.1.below (below_alloc (Below.refl _ _) _))).mono ?_; rintro e w4 ⟨rfl, rfl⟩)))
  go_ret
  exact ⟨rfl, below_alloc H3.out.2 _⟩

end Go.Proofs.Ytocmldppefjbgaa.PHP
