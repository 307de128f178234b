-- written by hprint.py (the session's wrapper round the kit's print), hooks by hand
import Derived.Test.YtlbjhpbmmdboeaaPCx0
import Derived.Test.YtlbjhpbmmdboeaaPCx1
import Derived.Test.YtlbjhpbmmdboeaaHMap
namespace Go.Proofs.Ytlbjhpbmmdboeaa.PC
open Go.RowKit Go.Proofs.YtlbjhpbmmdboeaaW.PrintWords Go.Proofs.YtlbjhpbmmdboeaaW.PrintLast Go.Proofs.YtlbjhpbmmdboeaaW.PrintMore
attribute [local go_sem] max2_int min2_int max_two min_two max_three min_three max_four min_four   -- for this text's walks alone
set_option linter.unusedVariables false
set_option linter.unusedSimpArgs false

-- HOOK checker_Units
open Go.Proofs.YtlbjhpbmmdboeaaH
/-! ### checker_Units: function 7 -/
/-- What a clause's literals are, of those that are true: one that is open, and how many (2: more, or one is true). -/
def lookL (yes : List Int) : List Int → Int → Int → Int × Int
  | [], lit, op => (lit, if 2 < op then 2 else op)
  | x :: xs, lit, op => if x ∈ yes then (0, 2) else if (-x) ∈ yes ∨ (0 < op ∧ x = lit) then lookL yes xs lit op else lookL yes xs x (op + 1)
def okInt (x : Int) : Prop := -9223372036854775808 < x ∧ x ≤ 9223372036854775807
theorem okInt.wf {x : Int} (h : okInt x) : (Lit.int .i64 x).wf = true := by
  unfold okInt at h
  simp only [Lit.wf, IntKind.min, IntKind.max, IntKind.signed, IntKind.bits]
  simp
  omega
theorem okInt.wfn {x : Int} (h : okInt x) : (Lit.int .i64 (-x)).wf = true := by
  unfold okInt at h
  simp only [Lit.wf, IntKind.min, IntKind.max, IntKind.signed, IntKind.bits]
  simp
  omega
theorem zero3 (w : World) : (zeroValue 3).run Try.prog w = .ok (.int .i64 0) w := by kernel_rfl
theorem rd_drop {l : List Int} {i : Nat} (h : i < l.length) : l.drop i = rd l (i : Int) :: l.drop (i + 1) := by
  rw [List.drop_eq_getElem_cons h]
  simp [rd, List.getD_eq_getElem?_getD, List.getElem?_eq_getElem h]
theorem rd_mem {l : List Int} {i : Nat} (h : i < l.length) : rd l (i : Int) ∈ l := by
  simp [rd, List.getD_eq_getElem?_getD, List.getElem?_eq_getElem h]
theorem lookL_at {s l : List Int} {i : Nat} (h : i < l.length) (lit op : Int) : lookL s (l.drop i) lit op = if rd l (i : Int) ∈ s then (0, 2) else if (-(rd l (i : Int))) ∈ s ∨ (0 < op ∧ rd l (i : Int) = lit) then lookL s (l.drop (i + 1)) lit op else lookL s (l.drop (i + 1)) (rd l (i : Int)) (op + 1) := by
  rw [rd_drop h, lookL]
attribute [local go_sem] max2_int min2_int max_two min_two
set_option maxHeartbeats 1000000 in
set_option maxRecDepth 100000 in
theorem look_calls (A0 : Option Addr) (c0 : Nat) (l0 : List Int) (b : Nat) (s : List Int) (w : World) (hr0 : Kd.C (Kd.int .i64) w A0 l0.length l0) (hs : IsSet Try.prog 3 w b s) (hok : ∀ x ∈ l0, okInt x) :
    Calls Try.prog 13 #[.slice A0 l0.length c0, .map (some b)] w fun e w' => e = .returned (.tuple #[.int .i64 (lookL s l0 0 0).1, .int .i64 (lookL s l0 0 0).2]) ∧ w' = w := by
  have HR0 := Aside0.mk hr0
  have HS := Aside0.mk hs
  have HOK := Aside0.mk hok
  have hmax := Kd.C_max hr0
  clear hr0 hs hok
  obtain ⟨r1, r2, hr⟩ : ∃ r1 r2, lookL s l0 0 0 = (r1, r2) := ⟨_, _, rfl⟩
  rw [hr]
  have H' := Aside0.mk hr
  clear hr
  go_enter Try.func13, Try.ntmps13
  go_wp2
  go_loop [6, 7, 12] (fun v6 v7 v12 => ∃ (lit op : Int) (i : Nat), v6 = .int .i64 lit ∧ v7 = .int .i64 op ∧ v12 = .int .i64 i ∧ i ≤ l0.length ∧ 0 ≤ op ∧ op ≤ i ∧ Aside0 (lookL s (l0.drop i) lit op = (r1, r2))) (fun _ _ v12 => l0.length - (intOf v12).toNat)
  case atStart => exact ⟨0, 0, 0, rfl, rfl, rfl, by omega, by omega, by omega, H'⟩
  case round =>
    clear H'
    obtain ⟨lit, op, i, rfl, rfl, rfl, hi, ho0, ho1, H⟩ := hrel
    by_cases hlt : i < l0.length
    · obtain ⟨ad, rfl, hx⟩ := Kd.at_int HR0.out (i : Int) (by omega) (by omega)
      have hok := HOK.out _ (rd_mem hlt)
      have hwf := hok.wf
      have hwfn := hok.wfn
      have H1 := H.out
      rw [lookL_at hlt] at H1
      clear H
      obtain ⟨x, hxe⟩ : ∃ x, x = rd l0 (i : Int) := ⟨_, rfl⟩
      rw [← hxe] at hx hok hwf hwfn H1
      clear hxe
      rw [Int.toNat_natCast] at hx
      have hb1 : -9223372036854775808 < x := hok.1
      have hb2 : x ≤ 9223372036854775807 := hok.2
      clear hok
      by_cases h1 : x ∈ s
      · rw [if_pos h1] at H1
        injection H1 with H2 H3
        subst H2 H3
        have hv : (if x ∈ s then (1 : Int) else 0) = 1 := if_pos h1
        have HV := Aside0.mk hv
        clear hv h1
        go_wp2_with (first | (at_lookup; refine wpList_look_set _ rfl _ _ _ rfl 3 Try.underlying33 Try.underlying3 zero3 b s rfl HS.out x rfl hwf 1 HV.out ?_))
        go_ret2
        exact ⟨rfl, rfl⟩
      · rw [if_neg h1] at H1
        have hv : (if x ∈ s then (1 : Int) else 0) = 0 := if_neg h1
        have HV := Aside0.mk hv
        clear hv h1
        by_cases h2 : (-x) ∈ s
        · rw [if_pos (Or.inl h2)] at H1
          have H := Aside0.mk H1
          clear H1
          have hv : (if (-x) ∈ s then (1 : Int) else 0) = 1 := if_pos h2
          have HV2 := Aside0.mk hv
          clear hv h2
          go_wp2_with (first | (at_lookup; refine wpList_look_set _ rfl _ _ _ rfl 3 Try.underlying33 Try.underlying3 zero3 b s rfl HS.out x rfl hwf 0 HV.out ?_) | (at_lookup; refine wpList_look_set _ rfl _ _ _ rfl 3 Try.underlying33 Try.underlying3 zero3 b s rfl HS.out (-x) rfl hwfn 1 HV2.out ?_))
          go_round
          case rel => exact ⟨lit, op, i + 1, rfl, rfl, by go_num, by omega, by omega, by omega, H⟩
          case measure => simp [intOf]; omega
        · have hv : (if (-x) ∈ s then (1 : Int) else 0) = 0 := if_neg h2
          have HV2 := Aside0.mk hv
          clear hv
          by_cases h3 : 0 < op ∧ x = lit
          · rw [if_pos (Or.inr h3)] at H1
            have H := Aside0.mk H1
            clear H1 h2
            obtain ⟨h3, rfl⟩ := h3
            go_wp2_with (first | (at_lookup; refine wpList_look_set _ rfl _ _ _ rfl 3 Try.underlying33 Try.underlying3 zero3 b s rfl HS.out x rfl hwf 0 HV.out ?_) | (at_lookup; refine wpList_look_set _ rfl _ _ _ rfl 3 Try.underlying33 Try.underlying3 zero3 b s rfl HS.out (-x) rfl hwfn 0 HV2.out ?_))
            go_round
            case rel => exact ⟨x, op, i + 1, rfl, rfl, by go_num, by omega, by omega, by omega, H⟩
            case measure => simp [intOf]; omega
          · rw [if_neg (by rintro (h | h); exact h2 h; exact h3 h)] at H1
            have H := Aside0.mk H1
            clear H1 h2
            by_cases h4 : 0 < op
            · have h5 : (x == lit) = false := by
                rw [beq_eq_false_iff_ne]; exact fun e => h3 ⟨h4, e⟩
              clear h3
              go_wp2_with (first | (at_lookup; refine wpList_look_set _ rfl _ _ _ rfl 3 Try.underlying33 Try.underlying3 zero3 b s rfl HS.out x rfl hwf 0 HV.out ?_) | (at_lookup; refine wpList_look_set _ rfl _ _ _ rfl 3 Try.underlying33 Try.underlying3 zero3 b s rfl HS.out (-x) rfl hwfn 0 HV2.out ?_))
              go_round
              case rel => exact ⟨x, op + 1, i + 1, rfl, by go_num, by go_num, by omega, by omega, by omega, H⟩
              case measure => simp [intOf]; omega
            · clear h3
              go_wp2_with (first | (at_lookup; refine wpList_look_set _ rfl _ _ _ rfl 3 Try.underlying33 Try.underlying3 zero3 b s rfl HS.out x rfl hwf 0 HV.out ?_) | (at_lookup; refine wpList_look_set _ rfl _ _ _ rfl 3 Try.underlying33 Try.underlying3 zero3 b s rfl HS.out (-x) rfl hwfn 0 HV2.out ?_))
              go_round
              case rel => exact ⟨x, op + 1, i + 1, rfl, by go_num, by go_num, by omega, by omega, by omega, H⟩
              case measure => simp [intOf]; omega
    · have H1 := H.out
      clear H
      rw [List.drop_eq_nil_of_le (by omega), lookL] at H1
      injection H1 with H2 H3
      subst H2
      by_cases h4 : 2 < op
      · rw [if_pos h4] at H3
        subst H3
        go_wp2
        go_ret2
        exact ⟨rfl, rfl⟩
      · rw [if_neg h4] at H3
        subst H3
        go_wp2
        go_ret2
        exact ⟨rfl, rfl⟩

theorem index_any (l : List Int) (a : Int) (hm : l.length ≤ 9223372036854775807) : ∀ (d k i : Nat), i ≤ l.length → l.length - i = d → d < k → ∃ r, api_Clause_int_20.l0 k l a (l.length : Int) (i : Int) = some r ∧ (decide (r ≥ 0)) = decide (a ∈ l.drop i) := by
  intro d
  induction d with
  | zero =>
    intro k i hi hd hk
    obtain ⟨k, rfl⟩ : ∃ m, k = m + 1 := ⟨k - 1, by omega⟩
    refine ⟨-1, ?_, ?_⟩
    · simp only [api_Clause_int_20.l0]; rw [if_neg (by omega)]
    · rw [List.drop_eq_nil_of_le (by omega)]; simp
  | succ d ih =>
    intro k i hi hd hk
    obtain ⟨k, rfl⟩ : ∃ m, k = m + 1 := ⟨k - 1, by omega⟩
    have hlt : i < l.length := by omega
    simp only [api_Clause_int_20.l0]
    rw [if_pos (by omega), if_pos (by omega), if_pos (by omega), rd_drop hlt]
    by_cases he : a = rd l (i : Int)
    · rw [if_pos he]
      exact ⟨(i : Int), rfl, by simp [he]⟩
    · rw [if_neg he]
      obtain ⟨r, h1, h2⟩ := ih k (i + 1) (by omega) (by omega) (by omega)
      refine ⟨r, ?_, ?_⟩
      · rw [show wrap64 ((i : Int) + 1) = ((i + 1 : Nat) : Int) by unfold wrap64; omega]; exact h1
      · rw [h2]; simp [he]
/-- A clause that has nothing but literals. -/
def litsB (l : List Int) : Bool := !decide ((0 : Int) ∈ l) && !decide ((-9223372036854775808 : Int) ∈ l)
theorem contains_some (l : List Int) (a : Int) (hm : l.length ≤ 9223372036854775807) : api_Clause_int_16.f (l.length + 1) l a = some (decide (a ∈ l)) := by
  obtain ⟨r, h1, h2⟩ := index_any l a hm l.length (l.length + 1) 0 (by omega) (by omega) (by omega)
  unfold api_Clause_int_16.f api_Clause_int_20.f
  rw [List.drop_zero] at h2
  rw [show ((0 : Nat) : Int) = 0 from rfl] at h1
  simp only [h1, Option.bind_some, h2]
theorem literals_some (l : List Int) (hm : l.length ≤ 9223372036854775807) : checker_literals.f (l.length + 1) l = some (litsB l) := by
  unfold checker_literals.f litsB
  rw [contains_some l 0 hm]
  simp only [Option.bind_some]
  by_cases h : (0 : Int) ∈ l
  · simp [h]
  · rw [contains_some l _ hm]
    simp [h]
theorem literals_calls (A0 : Option Addr) (c0 : Nat) (l0 : List Int) (w : World) (hr0 : Kd.C (Kd.int .i64) w A0 l0.length l0) (hc0 : l0.length ≤ c0) :
    Calls Try.prog 12 #[.slice A0 l0.length c0] w fun e w' => e = .returned (.bool (litsB l0)) ∧ Drawn0 w w' :=
  checker_literals.calls (l0.length + 1) A0 c0 l0 _ w hr0 hc0 (literals_some l0 (Kd.C_max hr0))

/-- One pass over the clauses: none: one of them is broken; else what is true behind it, and whether something new is. -/
def passL : List (List Int) → List Int → Bool → Option (List Int × Bool)
  | [], yes, moved => some (yes, moved)
  | d :: ds, yes, moved => if litsB d = true then (if (lookL yes d 0 0).2 = 0 then none else if (lookL yes d 0 0).2 = 1 then passL ds ((lookL yes d 0 0).1 :: yes) true else passL ds yes moved) else passL ds yes moved
def roundsL : Nat → List (List Int) → List Int → Option Bool
  | 0, _, _ => none
  | k + 1, l, yes => if yes.length + l.length < 9223372036854775807 then (match passL l yes false with | none => some true | some (y, true) => roundsL k l y | some (_, false) => some false) else none
def startL (c : List Int) : List Int := (c.map fun x => -x).reverse
def anyL (c yes : List Int) : Bool := c.any fun x => decide (x ∈ yes)
def wfL (c : List Int) : Bool := c.all fun x => (Lit.int .i64 x).wf
def checker_Units.f (k : Nat) (l0 : List (List Int)) (l1 : List Int) : Option (Bool) :=
  if wfL l1 = true ∧ l0.all wfL = true then (if litsB l1 = true then (if anyL l1 (startL l1) = true then some true else roundsL k l0 (startL l1)) else some false) else none
theorem roundsL.mono : ∀ k l yes, LeO (roundsL k l yes) (roundsL (k + 1) l yes)
  | 0, l, yes => fun r h => by simp [roundsL] at h
  | k + 1, l, yes => by
    rw [roundsL, roundsL]
    refine LeO.ite ?_ (LeO.refl _)
    cases passL l yes false with
    | none => exact LeO.refl _
    | some p =>
      obtain ⟨y, m⟩ := p
      cases m with
      | false => exact LeO.refl _
      | true => exact roundsL.mono k l y
theorem checker_Units.mono : ∀ a0 a1 k, LeO (checker_Units.f k a0 a1) (checker_Units.f (k + 1) a0 a1) := by
  intro a0 a1 k
  unfold checker_Units.f
  repeat' first
      | exact LeO.refl _
      | exact roundsL.mono _ _ _
      | refine LeO.ite ?_ ?_
theorem okInt_of {l : List Int} (hw : wfL l = true) (hl : litsB l = true) : ∀ x ∈ l, okInt x := by
  intro x hx
  unfold wfL at hw
  have h1 := List.all_eq_true.1 hw x hx
  simp only [Lit.wf, IntKind.min, IntKind.max, IntKind.signed, IntKind.bits] at h1
  simp at h1
  unfold litsB at hl
  simp at hl
  unfold okInt
  have h2 : x ≠ -9223372036854775808 := by rintro rfl; exact hl.2 hx
  omega
theorem lookL_mem (s : List Int) : ∀ (l : List Int) (lit op a : Int), 0 ≤ op → lookL s l lit op = (a, 1) → (a = lit ∧ op = 1) ∨ a ∈ l := by
  intro l
  induction l with
  | nil =>
    intro lit op a h0 h
    rw [lookL] at h
    injection h with h1 h2
    split at h2
    · omega
    · exact .inl ⟨h1.symm, h2⟩
  | cons x xs ih =>
    intro lit op a h0 h
    rw [lookL] at h
    split at h
    · injection h with h1 h2
      omega
    · split at h
      · rcases ih _ _ _ h0 h with h3 | h3
        · exact .inl h3
        · exact .inr (List.mem_cons_of_mem _ h3)
      · rcases ih _ _ _ (by omega) h with h3 | h3
        · exact .inr (by rw [h3.1]; exact List.mem_cons_self)
        · exact .inr (List.mem_cons_of_mem _ h3)
theorem startL_length (c : List Int) : (startL c).length = c.length := by simp [startL]
theorem passL_length : ∀ (l : List (List Int)) (yes : List Int) (m : Bool) (y : List Int) (m' : Bool), passL l yes m = some (y, m') → y.length ≤ yes.length + l.length := by
  intro l
  induction l with
  | nil =>
    intro yes m y m' h
    simp [passL] at h
    rw [h.1]
    simp
  | cons d ds ih =>
    intro yes m y m' h
    rw [passL] at h
    split at h
    · split at h
      · cases h
      · split at h
        · have := ih _ _ _ _ h
          simp at this ⊢
          omega
        · have := ih _ _ _ _ h
          simp at this ⊢
          omega
    · have := ih _ _ _ _ h
      simp at this ⊢
      omega
set_option maxHeartbeats 2000000 in
set_option maxRecDepth 100000 in
theorem checker_Units.calls (k : Nat) (A0 : Option Addr) (c0 : Nat) (l0 : List (List Int)) (A1 : Option Addr) (c1 : Nat) (l1 : List Int) (r : Bool) (w : World) (hr0 : Kd.C (Kd.slice 3 (Kd.int .i64)) w A0 l0.length l0) (hc0 : l0.length ≤ c0) (hr1 : Kd.C (Kd.int .i64) w A1 l1.length l1) (hc1 : l1.length ≤ c1) (h : checker_Units.f k l0 l1 = some r) :
    Calls Try.prog 7 #[.slice A0 l0.length c0, .slice A1 l1.length c1] w fun e w' => e = .returned (.bool r) ∧ Below w.heap.size w w' := by
  unfold checker_Units.f at h
  by_cases hwf : wfL l1 = true ∧ l0.all wfL = true
  rotate_left
  · rw [if_neg hwf] at h; exact absurd h (by simp)
  rw [if_pos hwf] at h
  have HR0 := Aside0.mk hr0
  have HC0 := Aside0.mk hc0
  have HR1 := Aside0.mk hr1
  have HC1 := Aside0.mk hc1
  have HW := Aside0.mk hwf
  have hm1 := Kd.C_max hr1
  have hm0 := Kd.C_max hr0
  clear hr0 hc0 hr1 hc1 hwf
  have hmm := @run_makeMap Try.prog
  by_cases hl : litsB l1 = true
  rotate_left
  · rw [if_neg hl] at h
    replace hl := Bool.eq_false_iff.mpr hl
    obtain rfl := Option.some.inj h
    go_enter Try.func7, Try.ntmps7
    go_wp2_with (first | (go_at_call 12; refine (literals_calls _ _ l1 _ HR1.out HC1.out).mono ?_; rw [hl]; rintro e w' ⟨rfl, ⟨nd, rfl⟩⟩))
    go_ret
    exact ⟨rfl, pw_below_drewN (Below.refl _ _) _⟩
  rw [if_pos hl] at h
  have HOK := Aside0.mk (okInt_of HW.out.1 hl)
  go_enter Try.func7, Try.ntmps7
  go_wp2_with (first | (go_at_call 12; refine (literals_calls _ _ l1 _ HR1.out HC1.out).mono ?_; rw [hl]; rintro e w' ⟨rfl, ⟨nd, rfl⟩⟩))
  have HS0 := Aside0.mk (isSet_made Try.prog 3 (w.drewN nd))
  have HB0 := Aside0.mk (below_alloc (pw_below_drewN (Below.refl w.heap.size w) nd) (.map #[] 0))
  have e0 : (w.drewN nd).heap.size = w.heap.size := rfl
  have H := Aside0.mk h
  clear h
  go_loopg [21] l1.length (fun kq v21 w' => ∃ i : Nat, v21 = .int .i64 i ∧ i + kq = l1.length ∧ Aside0 (IsSet Try.prog 3 w' w.heap.size (startL (l1.take i))) ∧ Aside0 (Below w.heap.size w w'))
  case atStart => exact ⟨0, rfl, by omega, ⟨HS0.out⟩, ⟨HB0.out⟩⟩
  case round =>
    clear HS0 HB0
    obtain ⟨i, rfl, hik, HS, HB⟩ := hrel
    cases gk with
    | succ k1 =>
      have hlt : i < l1.length := by omega
      obtain ⟨ad, rfl, hx⟩ := Kd.at_int HR1.out (i : Int) (by omega) (by omega)
      replace hx := (HB.out.cell (World.block_lt_of_cell? w _ hx)).trans hx
      have hok := HOK.out _ (rd_mem hlt)
      have hwfn := hok.wfn
      have hst : startL (l1.take (i + 1)) = (-(rd l1 (i : Int))) :: startL (l1.take i) := by
        unfold startL
        rw [List.take_succ_eq_append_getElem hlt, List.map_append, List.reverse_append]
        simp [rd, List.getD_eq_getElem?_getD, List.getElem?_eq_getElem hlt, -List.map_take]
      have HST := Aside0.mk hst
      clear hst
      obtain ⟨x, hxe⟩ : ∃ x, x = rd l1 (i : Int) := ⟨_, rfl⟩
      rw [← hxe] at hx hok hwfn HST
      clear hxe
      rw [Int.toNat_natCast] at hx
      have hb1 : -9223372036854775808 < x := hok.1
      have hb2 : x ≤ 9223372036854775807 := hok.2
      clear hok
      have hln : (startL (l1.take i)).length < maxLen := by
        rw [startL_length, List.length_take]; unfold maxLen; omega
      have HLN := Aside0.mk hln
      clear hln
      go_wp2_with (first | (at_mapUpdate; refine wpList_put_set _ rfl _ _ _ _ rfl 3 Try.underlying33 Try.underlying3 w.heap.size _ rfl HS.out HLN.out (-x) rfl rfl hwfn ?_; intro w1 hs1 hg1; have HS1 := Aside0.mk hs1; have HG1 := Aside0.mk hg1; clear hs1 hg1))
      go_roundg k1
      case measure => omega
      case rel => exact ⟨i + 1, by go_num, by omega, ⟨by rw [HST.out]; exact HS1.out⟩, ⟨HB.out.grown HG1.out HB.out.size (fun j hj => by cases hj; exact Nat.le_refl _)⟩⟩
    | zero =>
      have hie : i = l1.length := by omega
      subst hie
      rw [List.take_length] at HS
      go_wp2
      have H1 := H.out
      clear H
      go_loopg [31] l1.length (fun kq v31 w' => ∃ i : Nat, v31 = .int .i64 i ∧ i + kq = l1.length ∧ Aside0 (anyL (l1.take i) (startL l1) = false) ∧ w' = wr)
      case atStart => exact ⟨0, rfl, by omega, ⟨by simp [anyL]⟩, rfl⟩
      case round =>
        obtain ⟨i, rfl, hik, HN, rfl⟩ := hrel
        have HNN : ∀ hlt : i < l1.length, anyL (l1.take (i + 1)) (startL l1) = (anyL (l1.take i) (startL l1) || decide (rd l1 (i : Int) ∈ startL l1)) := by
          intro hlt
          unfold anyL
          rw [List.take_succ_eq_append_getElem hlt, List.any_append]
          simp [rd, List.getD_eq_getElem?_getD, List.getElem?_eq_getElem hlt]
        cases gk with
        | succ k1 =>
          have hlt : i < l1.length := by omega
          have HNX := Aside0.mk (HNN hlt)
          have HT := Aside0.mk (List.take_append_drop (i + 1) l1)
          clear HNN
          obtain ⟨ad, rfl, hx⟩ := Kd.at_int HR1.out (i : Int) (by omega) (by omega)
          replace hx := (HB.out.cell (World.block_lt_of_cell? w _ hx)).trans hx
          have hok := HOK.out _ (rd_mem hlt)
          have hwf := hok.wf
          clear hok
          obtain ⟨x, hxe⟩ : ∃ x, x = rd l1 (i : Int) := ⟨_, rfl⟩
          rw [← hxe] at hx hwf HNX
          clear hxe
          rw [Int.toNat_natCast] at hx
          by_cases hin : x ∈ startL l1
          · have hv : (if x ∈ startL l1 then (1 : Int) else 0) = 1 := if_pos hin
            have HV := Aside0.mk hv
            have hany : anyL l1 (startL l1) = true := by
              rw [← HT.out, HT.out]
              have h5 := HNX.out
              rw [decide_eq_true hin, Bool.or_true] at h5
              unfold anyL at h5 ⊢
              rw [← List.take_append_drop (i + 1) l1, List.any_append, HT.out, h5, Bool.true_or]
            rw [if_pos hany] at H1
            obtain rfl := Option.some.inj H1
            clear hv hin hany H1
            go_wp2_with (first | (at_lookup; refine wpList_look_set _ rfl _ _ _ rfl 3 Try.underlying33 Try.underlying3 zero3 _ _ rfl HS.out x rfl hwf 1 HV.out ?_))
            go_ret
            exact ⟨rfl, HB.out⟩
          · have hv : (if x ∈ startL l1 then (1 : Int) else 0) = 0 := if_neg hin
            have HV := Aside0.mk hv
            have h6 := HNX.out
            rw [HN.out, decide_eq_false hin, Bool.or_false] at h6
            have HN1 := Aside0.mk h6
            clear hv hin h6
            go_wp2_with (first | (at_lookup; refine wpList_look_set _ rfl _ _ _ rfl 3 Try.underlying33 Try.underlying3 zero3 _ _ rfl HS.out x rfl hwf 0 HV.out ?_))
            go_roundg k1
            case measure => omega
            case rel => exact ⟨i + 1, by go_num, by omega, HN1, rfl⟩
        | zero =>
          have hie : i = l1.length := by omega
          subst hie
          clear HNN
          rw [List.take_length] at HN
          rw [if_neg (by rw [HN.out]; simp)] at H1
          have H := Aside0.mk H1
          clear H1 HN
          go_wp2
          go_loopg [10] (k + 1) (fun kq v10 w' => ∃ (yes : List Int) (m : Bool), v10 = .bool m ∧ Aside0 ((m = true ∧ ∃ k', k' + 1 = kq ∧ roundsL k' l0 yes = some r) ∨ (m = false ∧ r = false)) ∧ Aside0 (IsSet Try.prog 3 w' w.heap.size yes) ∧ Aside0 (Below w.heap.size w w'))
          case atStart => exact ⟨startL l1, true, rfl, ⟨.inl ⟨rfl, k, rfl, H.out⟩⟩, HS, HB⟩
          case round =>
            clear H HS HB
            obtain ⟨yes, m, rfl, H, HS, HB⟩ := hrel
            rcases H.out with ⟨rfl, k2, hk2, hrd⟩ | ⟨rfl, rfl⟩
            rotate_left
            · go_wp2
              go_ret
              exact ⟨rfl, HB.out⟩
            clear H
            cases k2 with
            | zero => exact absurd hrd (by simp [roundsL])
            | succ k3 =>
            rw [roundsL] at hrd
            by_cases hlen : yes.length + l0.length < 9223372036854775807
            rotate_left
            · rw [if_neg hlen] at hrd; exact absurd hrd (by simp)
            rw [if_pos hlen] at hrd
            obtain ⟨pr, hpr⟩ : ∃ pr, pr = passL l0 yes false := ⟨_, rfl⟩
            rw [← hpr] at hrd
            have HPR := Aside0.mk hpr.symm
            have HRD := Aside0.mk hrd
            have HLEN := Aside0.mk hlen
            have HK2 := Aside0.mk hk2
            clear hpr hrd hlen hk2
            obtain ⟨wo, rfl⟩ : ∃ wo : World, wo = wr := ⟨_, rfl⟩
            go_wp2
            go_loopg [10, 43] l0.length (fun kq v10 v43 w' => ∃ (i : Nat) (ys : List Int) (m : Bool), v10 = .bool m ∧ v43 = .int .i64 i ∧ i + kq = l0.length ∧ Aside0 (passL (l0.drop i) ys m = pr) ∧ Aside0 (ys.length ≤ yes.length + i) ∧ Aside0 (IsSet Try.prog 3 w' w.heap.size ys) ∧ Aside0 (Below w.heap.size w w'))
            case atStart => exact ⟨0, yes, false, rfl, rfl, by omega, HPR, ⟨by omega⟩, HS, HB⟩
            case round =>
              clear HPR HS HB
              obtain ⟨i, ys, m, rfl, rfl, hik, HPR, HYL, HS, HB⟩ := hrel
              cases gk with
              | succ k1 =>
                have hlt : i < l0.length := by omega
                obtain ⟨ad, A2, c2, rfl, hx, hc2, hC2⟩ := at_L1 HR0.out (i : Int) (by omega) (by omega)
                replace hx := (HB.out.cell (World.block_lt_of_cell? w _ hx)).trans hx
                rw [Int.toNat_natCast] at hx
                have hC3 := Kd.C_below hC2 (below_then (Below.refl w.heap.size w) (Nat.le_refl _) HB.out)
                have HC2 := Aside0.mk hC3
                have HCC2 := Aside0.mk hc2
                have hwfd : wfL (rd_L1 l0 (i : Int)) = true := by
                  refine List.all_eq_true.1 HW.out.2 _ ?_
                  simp [rd_L1, List.getD_eq_getElem?_getD, List.getElem?_eq_getElem hlt]
                have hdr : l0.drop i = rd_L1 l0 (i : Int) :: l0.drop (i + 1) := by
                  rw [List.drop_eq_getElem_cons hlt]
                  simp [rd_L1, List.getD_eq_getElem?_getD, List.getElem?_eq_getElem hlt]
                have hp := HPR.out
                rw [hdr, passL] at hp
                clear hC2 hC3 hc2 HPR hdr
                obtain ⟨d, hd⟩ : ∃ d, d = rd_L1 l0 (i : Int) := ⟨_, rfl⟩
                rw [← hd] at hx hp HC2 HCC2 hwfd
                clear hd
                by_cases hld : litsB d = true
                rotate_left
                · rw [if_neg hld] at hp
                  replace hld := Bool.eq_false_iff.mpr hld
                  have HLD := Aside0.mk hld
                  have HP := Aside0.mk hp
                  have HWD := Aside0.mk hwfd
                  clear hld hp hwfd
                  go_wp2_with (first | (go_at_call 12; refine (literals_calls _ _ d _ HC2.out HCC2.out).mono ?_; rw [HLD.out]; rintro e w' ⟨rfl, ⟨nd3, rfl⟩⟩))
                  go_roundg k1
                  case measure => omega
                  case rel => exact ⟨i + 1, ys, m, rfl, by go_num, by omega, HP, ⟨by have := HYL.out; omega⟩, ⟨HS.out.drewN _⟩, ⟨pw_below_drewN HB.out _⟩⟩
                rw [if_pos hld] at hp
                have HOD := Aside0.mk (okInt_of hwfd hld)
                have HLD := Aside0.mk hld
                obtain ⟨lit, op, hlk⟩ : ∃ lit op, lookL ys d 0 0 = (lit, op) := ⟨_, _, rfl⟩
                have hmem : op = 1 → lit ∈ d := fun e => (lookL_mem ys d 0 0 lit (by omega) (by rw [hlk, e])).elim (fun h => by omega) id
                have HLK := Aside0.mk hlk
                rw [hlk] at hp
                clear hlk hld hwfd
                by_cases h0 : op = 0
                · subst h0
                  rw [if_pos rfl] at hp
                  subst hp
                  have hr := HRD.out
                  obtain rfl := Option.some.inj hr
                  clear hr hmem
                  go_wp2_with (first | (go_at_call 12; refine (literals_calls _ _ d _ HC2.out HCC2.out).mono ?_; rw [HLD.out]; rintro e w' ⟨rfl, ⟨nd3, rfl⟩⟩) | (go_at_call 13; refine (look_calls _ _ d w.heap.size ys _ (Kd.C_drewN HC2.out _) (HS.out.drewN _) HOD.out).mono ?_; rw [HLK.out]; rintro e w' ⟨rfl, rfl⟩))
                  go_ret
                  exact ⟨rfl, pw_below_drewN HB.out _⟩
                · rw [if_neg h0] at hp
                  have hn0 : (op == 0) = false := beq_eq_false_iff_ne.2 h0
                  by_cases h1 : op = 1
                  · subst h1
                    rw [if_pos rfl] at hp
                    have HP := Aside0.mk hp
                    have hwfl := (HOD.out _ (hmem rfl)).wf
                    have HLY : Aside0 (ys.length < maxLen) := ⟨by have h7 := HYL.out; have h8 := HLEN.out; unfold maxLen; omega⟩
                    clear hp hmem h0
                    go_wp2_with (first | (go_at_call 12; refine (literals_calls _ _ d _ HC2.out HCC2.out).mono ?_; rw [HLD.out]; rintro e w' ⟨rfl, ⟨nd3, rfl⟩⟩) | (go_at_call 13; refine (look_calls _ _ d w.heap.size ys _ (Kd.C_drewN HC2.out _) (HS.out.drewN _) HOD.out).mono ?_; rw [HLK.out]; rintro e w' ⟨rfl, rfl⟩) | (at_mapUpdate; refine wpList_put_set _ rfl _ _ _ _ rfl 3 Try.underlying33 Try.underlying3 w.heap.size ys rfl (HS.out.drewN _) HLY.out lit rfl rfl hwfl ?_; intro w1 hs1 hg1; have HS1 := Aside0.mk hs1; have HG1 := Aside0.mk hg1; clear hs1 hg1))
                    go_roundg k1
                    case measure => omega
                    case rel => exact ⟨i + 1, lit :: ys, true, rfl, by go_num, by omega, HP, ⟨by have := HYL.out; simp; omega⟩, HS1, ⟨(pw_below_drewN HB.out _).grown HG1.out HB.out.size (fun j hj => by cases hj; exact Nat.le_refl _)⟩⟩
                  · rw [if_neg h1] at hp
                    have HP := Aside0.mk hp
                    have hn1 : (op == 1) = false := beq_eq_false_iff_ne.2 h1
                    clear hp hmem h0 h1
                    go_wp2_with (first | (go_at_call 12; refine (literals_calls _ _ d _ HC2.out HCC2.out).mono ?_; rw [HLD.out]; rintro e w' ⟨rfl, ⟨nd3, rfl⟩⟩) | (go_at_call 13; refine (look_calls _ _ d w.heap.size ys _ (Kd.C_drewN HC2.out _) (HS.out.drewN _) HOD.out).mono ?_; rw [HLK.out]; rintro e w' ⟨rfl, rfl⟩))
                    go_roundg k1
                    case measure => omega
                    case rel => exact ⟨i + 1, ys, m, rfl, by go_num, by omega, HP, ⟨by have := HYL.out; omega⟩, ⟨HS.out.drewN _⟩, ⟨pw_below_drewN HB.out _⟩⟩
              | zero =>
                have hie : i = l0.length := by omega
                subst hie
                have hp := HPR.out
                rw [List.drop_length, passL] at hp
                subst hp
                have hr := HRD.out
                clear HPR HRD
                cases m with
                | true =>
                  have HR := Aside0.mk hr
                  clear hr
                  go_wp2
                  go_roundg (k3 + 1)
                  case measure => have := HK2.out; omega
                  case rel => exact ⟨ys, true, rfl, ⟨.inl ⟨rfl, k3, rfl, HR.out⟩⟩, HS, HB⟩
                | false =>
                  obtain rfl := Option.some.inj hr
                  clear hr
                  go_wp2
                  go_roundg (k3 + 1)
                  case measure => have := HK2.out; omega
                  case rel => exact ⟨ys, false, rfl, ⟨by simp⟩, HS, HB⟩

end Go.Proofs.Ytlbjhpbmmdboeaa.PC
