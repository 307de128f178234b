import Derived.Test.YtegaaobiedfjcaaSt1
import Derived.IntWalk
import Derived.Deep.RegionLaw
namespace Go.Proofs.Ytegaaobiedfjcaa.PU
open Go.RowKit Go.Proofs.YtegaaobiedfjcaaW.PrintWords Go.Proofs.YtegaaobiedfjcaaW.PrintLast Go.Proofs.YtegaaobiedfjcaaW.PrintMore Go.Proofs.YtegaaobiedfjcaaH
set_option linter.unusedVariables false
set_option linter.unusedSimpArgs false
/-! ### slices.Clone -/
theorem R_made_nil {α : Type} (d : Kd α) (e : Nat) (w : World) : d.R e (w.alloc (.cells #[] e)) w.heap.size (fun _ => True) (.slice (some ⟨w.heap.size, 0, none⟩) 0 0) [] := by
  refine ⟨fun _ _ => trivial, [], ?_, by simp, fun j p hj => by simp at hj⟩
  have h := World.ownsRow_lit (base := w.heap.size) (e := e) (size := d.sz) w #[] 0 (Nat.le_refl _) (by unfold maxLen; omega) (by simp)
  simpa using h
set_option maxHeartbeats 2000000 in
theorem clone_ints (A0 : Option Addr) (c0 : Nat) (l0 : List Int) (w : World) (hr0 : Kd.C (Kd.int .i64) w A0 l0.length l0) (hm : l0.length ≤ 4194304) :
    Calls Try.prog 39 #[.slice A0 l0.length c0] w fun e w' => ∃ v0_ : Value, e = .returned (v0_) ∧ Kd.R (Kd.int .i64) 3 w' w.heap.size (fun _ => True) v0_ l0 ∧ Below w.heap.size w w' := by
  have HR := Aside0.mk hr0
  have he := fun (W : World) (c : Nat) => Lib.run_eql_slice_nil (P := Try.prog) W 34 3 A0 l0.length c 0 0 Try.underlying34
  cases A0 with
  | none =>
    have hl : l0 = [] := by
      rcases l0 with _ | ⟨x, xs⟩
      · rfl
      · obtain ⟨ad, h, _⟩ := hr0.2.2 (by simp)
        cases h
    subst hl
    clear hr0 hm he
    have he0 : ∀ W : World, (binOp .eql 34 (.slice none 0 c0) (.slice none 0 0)).run Try.prog W = .ok (.bool true) W := fun W => Lib.run_eql_slice_nil W _ _ none 0 c0 0 0 Try.underlying34
    go_enter Try.func39, Try.ntmps39
    go_wp2
    go_ret
    exact ⟨_, rfl, Kd.R_nil _ _ _ _ _, Below.refl _ _⟩
  | some ad =>
    clear hr0
    have HN := Aside0.mk (R_made_nil (Kd.int .i64) 3 w)
    go_enter Try.func39, Try.ntmps39
    go_wp2_with (first | (at_builtin; refine Kd.R_append_rows (Kd.int .i64) (Rr := (Kd.int .i64).K w) (w0 := w) w.heap.size rfl (.tmp 5) (.tmp 6) 34 3 (.int .i64 0) 8 rfl Try.underlying34 info_int rfl (by decide) (by omega) (.slice (some ⟨w.heap.size, 0, none⟩) 0 0) ([] : List Int) l0 (some ad) l0.length c0 (fun _ => True) (fun _ => False) rfl rfl HN.out ?aR (fun _ _ h => h) (fun _ h => h.elim) (fun _ _ => trivial) (below_alloc (Below.refl _ _) _) (by simp) (by simp; omega) ?_; (case aR => exact Kd.C_alloc HR.out _); intro v1 w1 ho hb hg hat; obtain ⟨A1, cc1, rfl⟩ := Kd.R_slice ho; have HO := Aside0.mk ho; have HB := Aside0.mk hb; clear ho hb hg hat))
    go_ret
    exact ⟨_, rfl, by simpa using HO.out, HB.out⟩
theorem info_mark : (Try.prog.info? 48).map (fun i => (i.zero, i.size, i.bytes)) = some (some (.agg #[(.int .i64 0), (.int .i64 0), (.int .i64 0)]), 3, 24) := by kernel_rfl
set_option maxHeartbeats 2000000 in
theorem clone_marks (A0 : Option Addr) (c0 : Nat) (l0 : List S48) (w : World) (hr0 : Kd.C k48 w A0 l0.length l0) (hm : l0.length ≤ 4194304) :
    Calls Try.prog 40 #[.slice A0 l0.length c0] w fun e w' => ∃ v0_ : Value, e = .returned (v0_) ∧ Kd.R k48 48 w' w.heap.size (fun _ => True) v0_ l0 ∧ Below w.heap.size w w' := by
  have HR := Aside0.mk hr0
  have he := fun (W : World) (c : Nat) => Lib.run_eql_slice_nil (P := Try.prog) W 38 48 A0 l0.length c 0 0 Try.underlying38
  cases A0 with
  | none =>
    have hl : l0 = [] := by
      rcases l0 with _ | ⟨x, xs⟩
      · rfl
      · obtain ⟨ad, h, _⟩ := hr0.2.2 (by simp)
        cases h
    subst hl
    clear hr0 hm he
    have he0 : ∀ W : World, (binOp .eql 38 (.slice none 0 c0) (.slice none 0 0)).run Try.prog W = .ok (.bool true) W := fun W => Lib.run_eql_slice_nil W _ _ none 0 c0 0 0 Try.underlying38
    go_enter Try.func40, Try.ntmps40
    go_wp2
    go_ret
    exact ⟨_, rfl, Kd.R_nil _ _ _ _ _, Below.refl _ _⟩
  | some ad =>
    clear hr0
    have HN := Aside0.mk (R_made_nil k48 48 w)
    go_enter Try.func40, Try.ntmps40
    go_wp2_with (first | (at_builtin; refine Kd.R_append_rows k48 (Rr := k48.K w) (w0 := w) w.heap.size rfl (.tmp 5) (.tmp 6) 38 48 (.agg #[(.int .i64 0), (.int .i64 0), (.int .i64 0)]) 24 rfl Try.underlying38 info_mark rfl (by decide) (by omega) (.slice (some ⟨w.heap.size, 0, none⟩) 0 0) ([] : List S48) l0 (some ad) l0.length c0 (fun _ => True) (fun _ => False) rfl rfl HN.out ?aR (fun _ _ h => h) (fun _ h => h.elim) (fun _ _ => trivial) (below_alloc (Below.refl _ _) _) (by simp) (by simp; omega) ?_; (case aR => exact Kd.C_alloc HR.out _); intro v1 w1 ho hb hg hat; obtain ⟨A1, cc1, rfl⟩ := Kd.R_slice ho; have HO := Aside0.mk ho; have HB := Aside0.mk hb; clear ho hb hg hat))
    go_ret
    exact ⟨_, rfl, by simpa using HO.out, HB.out⟩

/-! ### walks that only read, on a store that lies so -/
def valL (vals : List Int) (l : Int) : Int := if l < 0 then -(rd vals (-l)) else rd vals l
structure Vals (vals : List Int) : Prop where
  pos : 1 ≤ vals.length
  max : vals.length ≤ 262145
  rng : ∀ x ∈ vals, -1 ≤ x ∧ x ≤ 1
theorem Vals.rd {vals : List Int} (h : Vals vals) (i : Int) : -1 ≤ rd vals i ∧ rd vals i ≤ 1 := by
  unfold Go.Proofs.YtegaaobiedfjcaaW.PrintWords.rd
  rw [List.getD_eq_getElem?_getD]
  rcases Nat.lt_or_ge i.toNat vals.length with h1 | h1
  · rw [List.getElem?_eq_getElem h1]
    exact h.rng _ (List.getElem_mem h1)
  · rw [List.getElem?_eq_none h1]
    simp
theorem Vals.val {vals : List Int} (h : Vals vals) (l : Int) : -1 ≤ valL vals l ∧ valL vals l ≤ 1 := by
  unfold valL
  split
  · have := h.rd (-l); omega
  · exact h.rd l
set_option maxHeartbeats 1000000 in
theorem st_value (ok : Nat → Prop) (g : Nat) (vals : List Int) (cls : List (List Int × Int × Int)) (marks : List S48) (l : Int) (w : World) (h : St w ok g vals cls marks) (hv : Vals vals) (h1 : -(vals.length : Int) < l) (h2 : l < (vals.length : Int)) :
    Calls Try.prog 48 #[.pointer (some ⟨g, 0, none⟩), .int .i64 l] w fun e w' => e = .returned (.int .i64 (valL vals l)) ∧ w = w' := by
  obtain ⟨vv, vc, vm, h⟩ := h
  obtain ⟨A, c, rfl, hl, hC⟩ := Kd.R_reads h.rv
  have c0 := h.c0
  have c1 := h.c1
  have hm := hv.max
  by_cases h0 : l < 0
  · obtain ⟨ad, rfl, hx⟩ := Kd.at_int hC (-l) (by omega) (by omega)
    have hr := hv.rd (-l)
    have hfin : valL vals l = -(rd vals (-l)) := if_pos h0
    have HFIN := Aside0.mk hfin
    clear h hC hv hfin
    obtain ⟨x, hxe⟩ : ∃ x, x = rd vals (-l) := ⟨_, rfl⟩
    rw [← hxe] at hx hr HFIN
    clear hxe
    obtain ⟨r1, r2⟩ := hr
    rw [HFIN.out]
    go_enter Try.func48, Try.ntmps48
    go_wp2
    go_ret
    exact ⟨rfl, rfl⟩
  · obtain ⟨ad, rfl, hx⟩ := Kd.at_int hC l (by omega) (by omega)
    have hfin : valL vals l = rd vals l := if_neg h0
    have HFIN := Aside0.mk hfin
    clear h hC hv hfin
    rw [HFIN.out]
    go_enter Try.func48, Try.ntmps48
    go_wp2
    go_ret
    exact ⟨rfl, rfl⟩
def litB (n l : Int) : Bool := decide (l ≠ 0 ∧ l ≤ n ∧ -n ≤ l)
set_option maxHeartbeats 1000000 in
theorem st_literal (ok : Nat → Prop) (g : Nat) (vals : List Int) (cls : List (List Int × Int × Int)) (marks : List S48) (l : Int) (w : World) (h : St w ok g vals cls marks) (hv : Vals vals) :
    Calls Try.prog 47 #[.pointer (some ⟨g, 0, none⟩), .int .i64 l] w fun e w' => e = .returned (.bool (litB ((vals.length : Int) - 1) l)) ∧ w = w' := by
  have H := Aside0.mk h
  have hm := hv.max
  have hp := hv.pos
  clear h hv
  obtain ⟨n, hn⟩ : ∃ n : Int, n = (vals.length : Int) - 1 := ⟨_, rfl⟩
  have hn0 : 0 ≤ n := by omega
  have hn1 : n ≤ 262144 := by omega
  have HN := Aside0.mk hn
  rw [← hn]
  clear hn hm hp
  have fin : ∀ b, litB n l = b → Aside0 (litB n l = b) := fun _ h => ⟨h⟩
  by_cases h0 : l = 0
  · have HF := fin false (by simp [litB, h0])
    rw [HF.out]
    have hb : (l != 0) = false := by simp [h0]
    clear h0 fin
    go_enter Try.func47, Try.ntmps47
    go_wp2
    go_ret
    exact ⟨rfl, rfl⟩
  · have hb : (l != 0) = true := by rw [bne_iff_ne]; exact h0
    by_cases h1 : l ≤ n
    · by_cases h2 : -n ≤ l
      · have HF := fin true (by simp [litB, h0, h1, h2])
        rw [HF.out]
        clear fin h0
        have hb1 : decide (l ≤ n) = true := decide_eq_true h1
        have hb2 : decide (-n ≤ l) = true := decide_eq_true h2
        go_enter Try.func47, Try.ntmps47
        go_wp2_with (first | (go_at_call 13; refine (st_Atoms ok g vals cls marks _ H.out).mono ?_; rw [← HN.out]; rintro e w' ⟨rfl, rfl⟩))
        go_ret
        exact ⟨rfl, rfl⟩
      · have HF := fin false (by simp [litB, h2])
        rw [HF.out]
        clear fin h0
        have hb1 : decide (l ≤ n) = true := decide_eq_true h1
        have hb2 : decide (-n ≤ l) = false := decide_eq_false h2
        go_enter Try.func47, Try.ntmps47
        go_wp2_with (first | (go_at_call 13; refine (st_Atoms ok g vals cls marks _ H.out).mono ?_; rw [← HN.out]; rintro e w' ⟨rfl, rfl⟩))
        go_ret
        exact ⟨rfl, rfl⟩
    · have HF := fin false (by simp [litB, h1])
      rw [HF.out]
      clear fin h0
      have hb1 : decide (l ≤ n) = false := decide_eq_false h1
      go_enter Try.func47, Try.ntmps47
      go_wp2_with (first | (go_at_call 13; refine (st_Atoms ok g vals cls marks _ H.out).mono ?_; rw [← HN.out]; rintro e w' ⟨rfl, rfl⟩))
      go_ret
      exact ⟨rfl, rfl⟩
set_option maxHeartbeats 1000000 in
theorem st_Level (ok : Nat → Prop) (g : Nat) (vals : List Int) (cls : List (List Int × Int × Int)) (marks : List S48) (w : World) (h : St w ok g vals cls marks) : Calls Try.prog 14 #[.pointer (some ⟨g, 0, none⟩)] w fun e w' => e = .returned (.int .i64 (lvl marks)) ∧ Drawn0 w w' := by
  by_cases hm : marks = []
  · subst hm
    exact (st_Level0 ok g vals cls w h).mono (fun e w' ⟨h1, h2⟩ => ⟨h1, h2 ▸ Drawn0.refl _⟩)
  · have hfin : lvl marks = (rd_T48 marks ((marks.length : Int) - 1)).f1 := if_neg hm
    have hp : 1 ≤ marks.length := by rcases marks with _ | ⟨x, xs⟩; exact absurd rfl hm; simp
    obtain ⟨vv, vc, vm, h⟩ := h
    obtain ⟨A, c, rfl, hl, hC⟩ := Kd.R_reads h.rm
    have hmax := Kd.C_max hC
    obtain ⟨ad, rfl, k0, k1, k2⟩ := at_T48 hC ((marks.length : Int) - 1) (by omega) (by omega)
    rw [show ((marks.length : Int) - 1).toNat = marks.length - 1 from by omega] at k1
    have c0 := Aside0.mk h.c0
    have c3 := h.c3
    have HFIN := Aside0.mk hfin
    have hne : ((marks.length : Int) == 0) = false := by rw [beq_eq_false_iff_ne]; omega
    have hq1 : (0 : Int) ≤ (marks.length : Int) - 1 := by omega
    have hq2 : (marks.length : Int) - 1 < (marks.length : Int) := by omega
    have hw : IntKind.i64.wrap ((marks.length : Int) - 1) = (marks.length : Int) - 1 := IntWalk.i64_in _ (by omega)
    clear h hC hfin hm k0 k2
    rw [HFIN.out]
    go_enter Try.func14, Try.ntmps14
    go_wp2_with (first | (go_at_call 35; refine (st_is g _ c0.out).mono ?_; rintro e w' ⟨rfl, rfl⟩))
    go_quiet (fail)
    go_wp2
    go_ret
    exact ⟨rfl, by repeat (first | exact Drawn0.refl _ | apply Drawn0.step)⟩

end Go.Proofs.Ytegaaobiedfjcaa.PU
