import Derived.Test.YtocmldppefjbgaaUk6
import Derived.Test.YtocmldppefjbgaaPHPx6
import Derived.Test.YtocmldppefjbgaaPHPx8
import Derived.StillTailTactics
import Derived.IntWalk
import Derived.Deep.RegionLaw
import Derived.Deep.QuietTactic
import Derived.BigQuiet
import Derived.Deep.RegionHeld3
namespace Go.Proofs.Ytocmldppefjbgaa.PHU
open Go.RowKit Go.Proofs.YtocmldppefjbgaaW.PrintWords Go.Proofs.YtocmldppefjbgaaW.PrintLast Go.Proofs.YtocmldppefjbgaaW.PrintMore Go.Proofs.YtocmldppefjbgaaH
set_option linter.unusedVariables false
set_option linter.unusedSimpArgs false
open Go.Proofs.Ytocmldppefjbgaa.PHP (S92 k92 z92 rd_T92 fulcrumref20_Lit.f fulcrumref20_Clause.l0 fulcrumref20_Clause.f fulcrumref20_Clause.calls fulcrumref20_Load.f fulcrumref20_Load.calls)
/-! ### SearchRefuses -/
theorem rf_Lit (l n : Int) (h0 : 0 ≤ n) (h1 : n ≤ 4611686018427387904) : fulcrumref20_Lit.f l n = some (litB n l) := by
  unfold fulcrumref20_Lit.f
  have e : wrap64 (-n) = -n := by unfold wrap64; omega
  rw [e]
  by_cases a : l = 0
  · rw [if_pos a]; simp [litB, a]
  · rw [if_neg a]
    by_cases b : l ≥ -n
    · rw [if_pos b]
      congr 1
      have : -n ≤ l := b
      simp [litB, a, this]
    · rw [if_neg b]
      congr 1
      have : ¬ -n ≤ l := b
      simp [litB, this]
theorem rf_Clause_ev (c : List Int) (n : Int) (h0 : 0 ≤ n) (h1 : n ≤ 4194304) (hc : c.length ≤ 4194304) : ∀ d i : Nat, i + d = c.length → Ev (fun k => fulcrumref20_Clause.l0 k c n (i : Int)) ((c.drop i).all (litB n)) := by
  intro d
  induction d with
  | zero =>
    intro i h
    refine Ev.step (f := fun _ => some true) (fun k => ?_) ?_
    · simp only [fulcrumref20_Clause.l0]; rw [if_neg (by omega)]
    · rw [List.drop_eq_nil_of_le (by omega)]; exact Ev.now _
  | succ d ih =>
    intro i h
    have hlt : i < c.length := by omega
    have ed : c.drop i = rd c (i : Int) :: c.drop (i + 1) := by
      rw [List.drop_eq_getElem_cons hlt]
      congr 1
      simp [rd, List.getD_eq_getElem?_getD, List.getElem?_eq_getElem hlt]
    have ew : wrap64 ((i : Int) + 1) = ((i + 1 : Nat) : Int) := by unfold wrap64; omega
    rw [ed, List.all_cons]
    by_cases hb : litB n (rd c (i : Int)) = true
    · refine Ev.step (f := fun k => fulcrumref20_Clause.l0 k c n ((i + 1 : Nat) : Int)) (fun k => ?_) ?_
      · simp only [fulcrumref20_Clause.l0]
        rw [if_pos (by omega), if_pos (by omega), rf_Lit _ n h0 (by omega), ew]
        simp only [Option.bind_some, hb, if_true]
      · rw [hb, Bool.true_and]; exact ih (i + 1) (by omega)
    · have hb' : litB n (rd c (i : Int)) = false := by simpa using hb
      refine Ev.step (f := fun _ => some false) (fun k => ?_) ?_
      · simp only [fulcrumref20_Clause.l0]
        rw [if_pos (by omega), if_pos (by omega), rf_Lit _ n h0 (by omega)]
        simp only [Option.bind_some, hb', Bool.false_eq_true, if_false]
      · rw [hb', Bool.false_and]; exact Ev.now _
theorem rf_Clause {n : Int} {vals : List Int} (h : (vals.length : Int) = n + 1) (h0 : 0 ≤ n) (h1 : n ≤ 4194304) (c : List Int) (hc : c.length ≤ 4194304) : ∃ k, fulcrumref20_Clause.f k c n = some (litsOk vals c) := by
  have := rf_Clause_ev c n h0 h1 hc c.length 0 (by omega)
  have el : litsOk vals c = c.all (litB n) := by
    unfold litsOk
    have e : (vals.length : Int) - 1 = n := by omega
    rw [e, ← List.not_all_eq_any_not, Bool.not_not]
  rw [List.drop_zero, ← el] at this
  obtain ⟨k, hk⟩ := this.rounds
  exact ⟨k, by simpa [fulcrumref20_Clause.f] using hk⟩
theorem rf_Load (n : Int) : ∃ k, fulcrumref20_Load.f k n [] [] = some (if n < 0 then 1 else if n > 262144 then 2 else 0) := by
  refine ⟨8, ?_⟩
  unfold fulcrumref20_Load.f
  by_cases h0 : n < 0
  · rw [if_pos h0, if_pos h0]
  · rw [if_neg h0, if_neg h0]
    by_cases h1 : n > 262144
    · rw [if_pos h1, if_pos h1]; rfl
    · rw [if_neg h1, if_neg h1]
      rfl
theorem sr_Load (n : Int) (w : World) : Calls Try.prog 9 #[.int .i64 n, .slice none 0 0, .slice none 0 0] w fun e w' => e = .returned (.int .i64 (if n < 0 then 1 else if n > 262144 then 2 else 0)) ∧ Below w.heap.size w w' := by
  obtain ⟨k, hk⟩ := rf_Load n
  exact fulcrumref20_Load.calls k n none 0 [] none 0 [] _ w (Kd.C_nil _ _) (Nat.le_refl _) (Kd.C_nil _ _) (Nat.le_refl _) hk
theorem sv_New_low (n : Int) (w : World) (h0 : n < 0) : Calls Try.prog 8 #[.int .i64 n, .nilIface] w fun e w' => e = .returned (.tuple #[.pointer none, .int .i64 1]) ∧ w = w' := by
  have H := Aside0.mk h0
  clear h0
  go_enter Try.func8, Try.ntmps8
  go_wp2_with (go_at_call 27; go_loud (refine (st_New_low n w H.out).mono ?_; rintro e w2 ⟨rfl, rfl⟩))
  go_ret2
  exact ⟨rfl, rfl⟩
theorem sv_New_high (n : Int) (w : World) (h0 : 262144 < n) : Calls Try.prog 8 #[.int .i64 n, .nilIface] w fun e w' => e = .returned (.tuple #[.pointer none, .int .i64 2]) ∧ w = w' := by
  have H := Aside0.mk h0
  clear h0
  go_enter Try.func8, Try.ntmps8
  go_wp2_with (go_at_call 27; go_loud (refine (st_New_high n w H.out).mono ?_; rintro e w2 ⟨rfl, rfl⟩))
  go_ret2
  exact ⟨rfl, rfl⟩
theorem lit1 (x : Int) (w : World) : Kd.R (Kd.int .i64) 3 (w.alloc (.cells #[.int .i64 x] 3)) 0 (fun j => j = w.heap.size) (.slice (some ⟨w.heap.size, 0, none⟩) 1 1) [x] := by
  have h := World.ownsRow_lit (base := 0) (e := 3) (size := 1) w #[.int .i64 x] 1 (Nat.zero_le _) (by simp only [maxLen]; omega) (by simp)
  exact Kd.R_of_own (ok := fun j => j = w.heap.size) h (fun k hk => by injection hk with hk; exact hk.symm)
section
variable {w : World} {ok : Nat → Prop} {c : Nat → Nat} {s gs : Nat} {vals : List Int} {cls : List (List Int × Int × Int)} {ph pl : List Int} {sp : List (List Value)} {added : Int} {v3 vph vst vpl v7 v9 v10 : Value}
/-- Any clause is added or refused. -/
theorem sv_AddAny (A0 : Option Addr) (c0 : Nat) (l0 : List Int) (hr0 : ∀ w1, Rest w w1 ok → Kd.C (Kd.int .i64) w1 A0 l0.length l0) (h : SV w ok c s gs vals cls ph pl sp added v3 vph vst vpl v7 v9 v10) (hv : Vals vals) (hn : cls.length < 1048576) (hl0 : l0.length ≤ 4194304) (hpl : pl.length ≤ 4194304) (hsp : sp.length ≤ 4194304) (ha : added < 1048576) (ha0 : 0 ≤ added) :
    Calls Try.prog 11 #[.pointer (some ⟨s, 0, none⟩), .slice A0 l0.length c0] w fun e w' => e = .returned (.int .i64 (if litsOk vals l0 = true then 0 else 180)) ∧ (∃ c' cls' pl' sp' added' vst' vpl', SV w' (fun k => ok k ∨ w.heap.size ≤ k) c' s gs vals cls' ph pl' sp' added' v3 vph vst' vpl' v7 v9 v10 ∧ cls'.length ≤ cls.length + 1 ∧ pl'.length ≤ pl.length + 1 ∧ sp'.length ≤ sp.length + 1 ∧ added' ≤ added + 1 ∧ 0 ≤ added') ∧ Rest w w' ok := by
  by_cases hb : litsOk vals l0 = true
  · rw [if_pos hb]
    refine (sv_Add A0 c0 l0 hr0 h hv hb hn hl0 hpl hsp ha ha0).mono ?_
    rintro e w' ⟨rfl, ⟨c', pl', sp', vst', vpl', h1, h2, h3⟩, h4⟩
    exact ⟨rfl, ⟨c', _, pl', sp', _, vst', vpl', h1, by simp, by omega, by omega, by omega, by omega⟩, h4⟩
  · rw [if_neg hb]
    refine (sv_Add_bad A0 c0 l0 (hr0 w (Rest.refl _ _)) h hv (by simpa using hb)).mono ?_
    rintro e w' ⟨rfl, hb⟩
    exact ⟨rfl, ⟨c, cls, pl, sp, added, vst, vpl, (h.below hb).mono (fun k q => .inl q), by omega, by omega, by omega, by omega, ha0⟩, Rest.of_below hb ok⟩
end

theorem vals_rep (m : Nat) (hm : m ≤ 262144) : Vals (List.replicate (m + 1) 0) := ⟨by simp, by simp; omega, fun x hx => by rw [List.eq_of_mem_replicate hx]; omega⟩
theorem vals_rep1 (m : Nat) (hm : m < 262144) : Vals (List.replicate (m + 1) 0 ++ [0]) := ⟨by simp, by simp; omega, fun x hx => by
  rcases List.mem_append.1 hx with q | q
  · rw [List.eq_of_mem_replicate q]; omega
  · rw [List.mem_singleton.1 q]; omega⟩
theorem litsOk_one (vals : List Int) (x : Int) : litsOk vals [x] = litB ((vals.length : Int) - 1) x := by simp [litsOk]
theorem lit1_rest {w w1 : World} {x : Int} {ok : Nat → Prop} (hn : ¬ ok w.heap.size) (h : Rest (w.alloc (.cells #[.int .i64 x] 3)) w1 ok) : Kd.C (Kd.int .i64) w1 (some ⟨w.heap.size, 0, none⟩) [x].length [x] :=
  (Kd.R_reads' (Kd.R_step (lit1 x w) (fun k q hk => h.block k hk (fun z => hn (q ▸ z))))).2.2
set_option maxRecDepth 100000 in
set_option maxHeartbeats 8000000 in
theorem hl_refuses (n : Int) (A : Option Addr) (c : Nat) (l : List Int) (w : World) (hC : Kd.C (Kd.int .i64) w A l.length l) (hc : l.length ≤ c) (hl : l.length ≤ 4194304) : Calls Try.prog 3 #[.int .i64 n, .slice A l.length c] w fun e w' => e = .returned (.bool true) ∧ Below w.heap.size w w' := by
  by_cases h0 : n < 0
  · have HL := Aside0.mk (fun w => sr_Load n w)
    rw [if_pos h0] at HL
    have H0 := Aside0.mk h0
    clear hC h0
    go_enter Try.func3, Try.ntmps3
    go_wp2_with (first
      | (go_at_call 8; go_loud (refine (sv_New_low n w H0.out).mono ?_; rintro e w1 ⟨rfl, rfl⟩))
      | (go_at_call 9; go_loud (refine (HL.out w).mono ?_; rintro e w1 ⟨rfl, hb⟩; have H1 := Aside0.mk hb; clear hb)))
    go_ret
    exact ⟨rfl, H1.out⟩
  by_cases h1 : n > 262144
  · have HL := Aside0.mk (fun w => sr_Load n w)
    rw [if_neg h0, if_pos h1] at HL
    have H0 := Aside0.mk h1
    clear hC h0 h1
    go_enter Try.func3, Try.ntmps3
    go_wp2_with (first
      | (go_at_call 8; go_loud (refine (sv_New_high n w H0.out).mono ?_; rintro e w1 ⟨rfl, rfl⟩))
      | (go_at_call 9; go_loud (refine (HL.out w).mono ?_; rintro e w1 ⟨rfl, hb⟩; have H1 := Aside0.mk hb; clear hb)))
    go_ret
    exact ⟨rfl, H1.out⟩
  have HL := Aside0.mk (fun w => sr_Load n w)
  rw [if_neg h0, if_neg h1] at HL
  obtain ⟨m, rfl⟩ := Int.eq_ofNat_of_zero_le (show 0 ≤ n by omega)
  have hm : m ≤ 262144 := by omega
  have HM := Aside0.mk hm
  have HC := Aside0.mk (And.intro hC (And.intro hc hl))
  obtain ⟨b, hb⟩ : ∃ b, b = litsOk (List.replicate (m + 1) 0) l := ⟨_, rfl⟩
  have HCL := Aside0.mk (rf_Clause (n := (m : Int)) (vals := List.replicate (m + 1) 0) (by simp) (by omega) (by omega) l hl)
  rw [← hb] at HCL
  have HB := Aside0.mk hb
  have hat : ((List.replicate (m + 1) (0 : Int)).length : Int) - 1 = (m : Int) := by simp
  have HAT := Aside0.mk hat
  clear hC hc hl h0 h1 hm hb hat
  go_enter Try.func3, Try.ntmps3
  go_upto_region 9 with (first
    | (go_at_call 8; go_loud (refine (sv_New m w HM.out).mono ?_; rintro e w1 ⟨s, rfl, ⟨c1, gs, vph, vst, vpl, v3, v7, v9, v10, hs⟩, hb⟩; have H1 := Aside0.mk (And.intro hs hb); clear hs hb))
    | (go_at_call 9; go_loud (refine (HL.out w1).mono ?_; rintro e w2 ⟨rfl, hb⟩; have H2 := Aside0.mk (And.intro (H1.out.1.below hb) (below_step H1.out.2 hb)); clear hb))
    | (go_at_call 10; go_loud (refine (sv_Atoms s _ w2 H2.out.1.svx).mono ?_; rw [HAT.out]; rintro e w' ⟨rfl, rfl⟩)))
  go_upto_region 11 with (first
    | (go_at_call 11; go_loud (refine (sv_AddAny A c l (fun w' hr => Kd.C_below HC.out.1 (Rest.below H2.out.2 hr (fun k q => q))) H2.out.1 (vals_rep m HM.out) (by simp) HC.out.2.2 (by simp) (by simp) (by omega) (by omega)).mono ?_; rw [← HB.out]; rintro e w3 ⟨rfl, ⟨c3, cls3, pl3, sp3, ad3, vst3, vpl3, hs, a1, a2, a3, a4, a5⟩, hr⟩; have H3 := Aside0.mk (And.intro (hs.mono (ok' := fun k => w.heap.size ≤ k) (fun k q => q.elim id (fun q => Nat.le_trans H2.out.2.size q))) (And.intro (Rest.below H2.out.2 hr (fun k q => q)) (And.intro a1 (And.intro a2 (And.intro a3 (And.intro a4 a5)))))); clear hs hr a1 a2 a3 a4 a5))
    | (go_at_call 12; go_loud (obtain ⟨k0, hk0⟩ := HCL.out; refine (fulcrumref20_Clause.calls k0 A c l m b w3 (Kd.C_below HC.out.1 H3.out.2.1) HC.out.2.1 hk0).mono ?_; rintro e w4 ⟨rfl, hd⟩; have H4 := Aside0.mk (And.intro (H3.out.1.below hd.below) (And.intro (below_step H3.out.2.1 hd.below) H3.out.2.2)); clear hk0 hd)))
  go_cut [8, 52] (fun s8 s52 w5 => s52 = .bool false ∧ Aside0 (w5 = w4))
  case first =>
    cases b
    · go_wp2_with fail
      go_meet
      exact ⟨rfl, ⟨rfl⟩⟩
    · go_wp2_with fail
      go_meet
      exact ⟨rfl, ⟨rfl⟩⟩
  case rest =>
    obtain ⟨rfl, HE⟩ := hcut
    obtain rfl := HE.out
    clear HE
    by_cases hm : m = 262144
    · have hme : ((m : Int) == 262144) = true := by rw [hm]; rfl
      have HF : Aside0 (((List.replicate (m + 1) (0 : Int)).length : Int) - 1 = 262144) := ⟨by rw [HAT.out, hm]; rfl⟩
      clear hm
      go_wp2_with (first
        | (go_at_call 13; go_loud (refine (sv_Grow_full H4.out.1 HF.out).mono ?_; rintro e w' ⟨rfl, rfl⟩))
        | (go_at_call 10; go_loud (refine (sv_Atoms s _ wc H4.out.1.svx).mono ?_; rw [HAT.out]; rintro e w' ⟨rfl, rfl⟩)))
      go_ret
      exact ⟨rfl, H4.out.2.1⟩
    · have hme : ((m : Int) == 262144) = false := by rw [beq_eq_false_iff_ne]; omega
      have hlt : m < 262144 := by have := HM.out; omega
      have HLT := Aside0.mk hlt
      have hln : ((List.replicate (m + 1) (0 : Int)).length : Int) = (m : Int) + 1 := by simp
      have HLN := Aside0.mk hln
      clear hm hlt hln
      go_upto_region 14 with (first
        | (go_at_call 13; go_loud (refine (sv_Grow m H4.out.1 (by simp) HLT.out (by have := HLT.out; simp; omega)).mono ?_; rw [HLN.out]; rintro e w5 ⟨rfl, ⟨c5, v35, vph5, hs⟩, hr⟩; have H5 := Aside0.mk (And.intro (hs.mono (ok' := fun k => w.heap.size ≤ k) (fun k q => q.elim id (fun q => Nat.le_trans H4.out.2.1.size q))) (And.intro (Rest.below H4.out.2.1 hr (fun k q => q)) H4.out.2.2)); clear hs hr)))
      go_upto_region 16 with fail
      have hat5 : ((List.replicate (m + 1) (0 : Int) ++ [0]).length : Int) - 1 = (m : Int) + 1 := by simp
      have hw1 : wrap64 ((m : Int) + 1) = (m : Int) + 1 := by unfold wrap64; have := HLT.out; omega
      have hw2 : wrap64 ((m : Int) + 1 + 1) = (m : Int) + 1 + 1 := by unfold wrap64; have := HLT.out; omega
      have HAT5 := Aside0.mk hat5
      have HOK : Aside0 (litsOk (List.replicate (m + 1) (0 : Int) ++ [0]) [(m : Int) + 1] = true) := ⟨by rw [litsOk_one, hat5]; have := HLT.out; simp [litB]; omega⟩
      have HBAD : Aside0 (litsOk (List.replicate (m + 1) (0 : Int) ++ [0]) [(m : Int) + 1 + 1] = false) := ⟨by rw [litsOk_one, hat5]; have := HLT.out; simp [litB]; omega⟩
      clear hat5
      have HS := Aside0.mk (H5.out.1.bound.below (below_alloc (Below.refl _ _) (.cells #[.int .i64 ((m : Int) + 1)] 3)))
      have HR1 := Aside0.mk (fun w' (hr : Rest (w5.alloc (.cells #[.int .i64 ((m : Int) + 1)] 3)) w' (fun k => w.heap.size ≤ k ∧ k < w5.heap.size)) => lit1_rest (fun q => Nat.lt_irrefl _ q.2) hr)
      have HN : Aside0 (cls3.length ≤ 1 ∧ pl3.length ≤ 1 ∧ sp3.length ≤ 1 ∧ ad3 ≤ 1 ∧ 0 ≤ ad3) := ⟨by
        obtain ⟨n1, n2, n3, n4, n5⟩ := H5.out.2.2
        simp only [List.length_nil] at n1 n2 n3
        exact ⟨n1, n2, n3, n4, n5⟩⟩
      have HADD := Aside0.mk (sv_Add (some ⟨w5.heap.size, 0, none⟩) 1 [(m : Int) + 1] HR1.out HS.out (vals_rep1 m HLT.out) HOK.out (Nat.lt_of_le_of_lt HN.out.1 (by decide)) (by simp) (Nat.le_trans HN.out.2.1 (by decide)) (Nat.le_trans HN.out.2.2.1 (by decide)) (Int.lt_of_le_of_lt HN.out.2.2.2.1 (by decide)) HN.out.2.2.2.2)
      go_wp2_with (first
        | (go_at_call 10; go_loud (refine (sv_Atoms s _ w5 H5.out.1.svx).mono ?_; rw [HAT5.out]; rintro e w' ⟨rfl, rfl⟩))
        | (go_at_call 11; refine (HADD.out).mono ?_; clear HADD; rintro e w7 ⟨rfl, ⟨c7, pl7, sp7, vst7, vpl7, hs, a2, a3⟩, hr⟩; have H7 := Aside0.mk (And.intro hs hr); clear hs hr a2 a3)
        | (go_at_call 11; go_loud (refine (sv_Add_bad (some ⟨w7.heap.size, 0, none⟩) 1 [(m : Int) + 1 + 1] (lit1_rest (ok := fun _ => False) (fun q => q) (Rest.refl _ _)) (H7.out.1.below (below_alloc (Below.refl _ _) (.cells #[.int .i64 ((m : Int) + 1 + 1)] 3))) (vals_rep1 m HLT.out) HBAD.out).mono ?_; rintro e w9 ⟨rfl, hb⟩; have H9 := Aside0.mk hb; clear hb)))
      go_ret
      refine ⟨rfl, ?_⟩
      have h7 : Below w.heap.size w w7 := Rest.below (below_alloc H5.out.2.1 _) H7.out.2 (fun k q => q.1)
      exact below_step (below_alloc h7 _) H9.out

end Go.Proofs.Ytocmldppefjbgaa.PHU
