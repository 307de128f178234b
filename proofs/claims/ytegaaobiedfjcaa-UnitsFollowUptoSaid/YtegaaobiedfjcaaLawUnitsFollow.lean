/-
  The law UnitsFollow is true of every input of bulk at most 1048576: it returns true, and what came in reads as it did.
-/
import Derived.Test.YtegaaobiedfjcaaRows
import Derived.Test.YtegaaobiedfjcaaStC
import Derived.Test.YtegaaobiedfjcaaHStruct
import Derived.WalkKit
import Derived.ProofKit
import Derived.OpenShut
import Derived.ShutString
import Derived.ChangeOld
import Derived.Below
import Derived.JoinedCond
import Derived.SizedLaws
namespace Go.Proofs.Ytegaaobiedfjcaa.unitsFollow
open Go.ChangeShapes Go.WideShapes Go.ChangeAt Go.RowKit Go.Proofs.YtegaaobiedfjcaaW.PrintWords
open Go.ChangeMaps (open_string shut_string)
set_option linter.unusedVariables false
set_option linter.unusedSimpArgs false
theorem own : ownKnob Try.prog.godebug = none := by kernel_rfl
theorem laidOut : laidOutB Try.prog = true := by kernel_rfl
theorem opens3 : HRow.Opens Try.prog 3 (Kd.int .i64) (fun _ => 1) (fun x => (Lit.int .i64 x).wf = true) := HRow.opens_int Try.underlying3 (by kernel_rfl)
theorem opens32 : HRow.Opens Try.prog 32 (Kd.slice 3 (Kd.int .i64)) (fun l => (l.map (fun _ => 1)).sum + 1) (fun l => ∀ x ∈ l, (fun x => (Lit.int .i64 x).wf = true) x) := HRow.opens_slice Try.underlying32 (by kernel_rfl) opens3
theorem opens4 : HRow.Opens Try.prog 4 Kd.bool (fun _ => 1) (fun _ => True) := HRow.opens_bool Try.underlying4 (by kernel_rfl)
theorem opens43 : HRow.Opens Try.prog 43 (Kd.slice 4 Kd.bool) (fun l => (l.map (fun _ => 1)).sum + 1) (fun l => ∀ x ∈ l, (fun _ => True) x) := HRow.opens_slice Try.underlying43 (by kernel_rfl) opens4
theorem opens45 : HRow.Opens Try.prog 45 (Kd.pair (Kd.int .i64) (Kd.pair (Kd.slice 3 (Kd.int .i64)) (Kd.slice 4 Kd.bool))) (fun x => (fun x => (fun _ => 1) x.1 + (fun x => (fun l => (l.map (fun _ => 1)).sum + 1) x.1 + (fun l => (l.map (fun _ => 1)).sum + 1) x.2) x.2) x + 1) (fun x => (fun x => (Lit.int .i64 x).wf = true) x.1 ∧ (fun x => (fun l => ∀ x ∈ l, (fun x => (Lit.int .i64 x).wf = true) x) x.1 ∧ (fun l => ∀ x ∈ l, (fun _ => True) x) x.2) x.2) := by
  refine HRow.opens_struct Try.underlying45 (by kernel_rfl) ?_
  refine HRow.opensF_cons (o := 1) (o0 := 0) (d := (Kd.int .i64)) (sz := (fun _ => 1)) (wf := (fun x => (Lit.int .i64 x).wf = true)) ?_ ?_ ?_ (HRow.opensF_cons (o := 2) (o0 := 1) (d := (Kd.slice 3 (Kd.int .i64))) (sz := (fun l => (l.map (fun _ => 1)).sum + 1)) (wf := (fun l => ∀ x ∈ l, (fun x => (Lit.int .i64 x).wf = true) x)) ?_ ?_ ?_ (HRow.opensF_last (o := 2) (d := (Kd.slice 4 Kd.bool)) (sz := (fun l => (l.map (fun _ => 1)).sum + 1)) (wf := (fun l => ∀ x ∈ l, (fun _ => True) x)) ?_ ?_))
  all_goals first | rfl | exact opens3 | exact opens32 | exact opens43

theorem opens34 : HRow.Opens Try.prog 34 (Kd.slice 3 (Kd.int .i64)) (fun l => (l.map (fun _ => 1)).sum + 1) (fun l => ∀ x ∈ l, (fun x => (Lit.int .i64 x).wf = true) x) := HRow.opens_slice Try.underlying34 (by kernel_rfl) opens3
theorem opens31 : HRow.Opens Try.prog 31 (Kd.slice 34 (Kd.slice 3 (Kd.int .i64))) (fun l => (l.map (fun l => (l.map (fun _ => 1)).sum + 1)).sum + 1) (fun l => ∀ x ∈ l, (fun l => ∀ x ∈ l, (fun x => (Lit.int .i64 x).wf = true) x) x) := HRow.opens_slice Try.underlying31 (by kernel_rfl) opens34
theorem contract (H : Type) (enc : TypeId × Value → H) (W : World) (base : Nat) (args : Array Value) (ds gs : List (DataW H)) (before : List MemPlace)
    (hval : ∀ (j : Nat) t v, Try.f5.params[j]? = some t → args[j]? = some v → Value.okWide Try.prog W .any base t v)
    (hW : DataW.Whole enc Try.prog Try.f5.params.toList Rows.unitsFollowSpec.vars false W args.toList ds gs before) (hk : Rows.uptoSmall H (ds ++ gs) = true) :
    Calls Try.prog 5 args W fun e W' => ∃ v, e = .returned v ∧ Rows.unitsFollowSpec.post enc Try.prog Try.f5 false true false false W args v W' := by
  have hW' := hW
  obtain ⟨p, q, hA0, hV, rfl, hfz, hnd⟩ := hW
  have hA : DataW.TrodAll enc Try.prog W 0 (fun _ => true) true Try.f5.params.toList args.toList ds p := hA0
  rw [Try.params5] at hA hval
  obtain ⟨v0, vs0, d0, ds0, p0, q0, hargs, rfl, rfl, h0, r0⟩ := trodAll_cons hA
  obtain ⟨v1, vs1, d1, ds1, p1, q1, rfl, rfl, rfl, h1, r1⟩ := trodAll_cons r0
  obtain ⟨rfl, rfl, rfl⟩ := trodAll_nil r1
  obtain rfl : args = #[v0, v1] := by cases args; simp_all
  obtain ⟨rfl, rfl⟩ := trodVars_none hV
  have k0 := h0
  have lt0 : ∀ x ∈ p0, x.block < W.heap.size := by obtain ⟨m, hm⟩ := k0; exact DataW.trod_lt m _ _ _ hm
  obtain ⟨cs0, y0, rfl, hK0, hs0, hw0⟩ := HRow.arg_struct Try.underlying45 opens45 (hval 0 45 v0 rfl rfl) h0
  have k1 := h1
  have lt1 : ∀ x ∈ p1, x.block < W.heap.size := by obtain ⟨m, hm⟩ := k1; exact DataW.trod_lt m _ _ _ hm
  obtain ⟨A1, c1, l1, rfl, hc1, hr1, hs1, hw1⟩ := HRow.arg_slice Try.underlying31 (by kernel_rfl) opens34 (hval 1 31 v1 rfl rfl) h1
  clear hA0
  simp only [List.append_nil] at hW' hk
  have hb : ((fun x => (fun x => (fun _ => 1) x.1 + (fun x => (fun l => (l.map (fun _ => 1)).sum + 1) x.1 + (fun l => (l.map (fun _ => 1)).sum + 1) x.2) x.2) x + 1) y0) + ((l1.map (fun l => (l.map (fun _ => 1)).sum + 1)).sum + 1) ≤ 1048576 := by
    have h := of_decide_eq_true hk
    simp only [List.cons_append, List.nil_append, Rows.uptoBulkAll, Rows.uptoBulk] at h
    dsimp only at hs0 hs1 ⊢
    omega
  obtain ⟨n, ld, lt⟩ := y0
  obtain ⟨_, _, rfl, rfl, _, _, rfl, ⟨Ad, cd, rfl, hcd, hrd⟩, ⟨At, ct, rfl, hct, hrt⟩⟩ := hK0
  have g1 : ∀ c ∈ l1, c.length + 1 ≤ _ := fun c hc => by
    have h1 := HRow.le_sum (f := fun l : List Int => (l.map (fun _ => 1)).sum + 1) hc
    rwa [HRow.ones_sum] at h1
  have g2 := HRow.len_sum (f := fun l : List Int => (l.map (fun _ => 1)).sum + 1) (fun l => by omega) l1
  have g3 := HRow.ones_sum ld
  have hl1 : ∀ c ∈ l1, c.length ≤ 4194304 := fun c hc => by have := g1 c hc; dsimp only at hb; omega
  have hl0 : l1.length < 1048576 := by dsimp only at hb; omega
  have hl2 : ld.length ≤ 1048576 := by dsimp only at hb; omega
  refine (PU.follow_walk n Ad cd ld At ct lt A1 c1 l1 W hr1 hrd hrt hct hl0 hl1 hl2).mono fun e W' ⟨he, bel0⟩ => ?_
  subst he
  have bel : Below W.heap.size W W' := by first | exact bel0 | exact bel0.below
  exact ⟨_, rfl, _, _, _, [], _, [], hW', trodAll_mk1 (shut_bool Try.underlying4 _), (trodAll_cons_mk (Below.trod laidOut (by kernel_rfl) (of_decide_eq_true (by kernel_rfl)) k0 bel lt0) (trodAll_cons_mk (Below.trod laidOut (by kernel_rfl) (of_decide_eq_true (by kernel_rfl)) k1 bel lt1) trodAll_mk0)), rfl, bel.frame _, fun h => by cases h⟩
set_option maxRecDepth 100000 in
theorem lifted (os : Os) (started : os.Started) (H : Type) (enc : TypeId × Value → H) (F : Stop.Interp) :
    ReturnsInHanded {} Try.checked os 5 .any ((Rows.OpenSpec.upto Rows.unitsFollowSpec).pre6 enc Try.prog Try.f5 Rows.unitsFollowUptoRow.domain false) (((Rows.OpenSpec.upto Rows.unitsFollowSpec).at F).post enc Try.prog Try.f5 false true false false) := by
  refine returnsInHanded_of_cond (C := Try.checked) (s := Rows.OpenSpec.upto Rows.unitsFollowSpec) (k := Rows.uptoSmall) rfl own started (by kernel_rfl) Try.func5
    (OpenSpec.witness (enc := enc) (C := Try.checked) (s := Rows.OpenSpec.upto Rows.unitsFollowSpec) (k := Rows.uptoSmall) rfl false ⟨#[], #[.agg #[.int .i64 0, .slice none 0 0, .slice none 0 0], .slice none 0 0], []⟩ 8 (by kernel_rfl) (by kernel_rfl) (by kernel_rfl)
      (x := ([.agg [.lit (.int .i64 0), .nil, .nil], .nil], [], [])) (by kernel_rfl) rfl (by kernel_rfl)) ?_
  intro W base args ds gs before hval hW _ hk _
  exact contract H enc W base args ds gs before hval hW hk
theorem proved : Rows.UnitsFollowUptoSaid :=
  OpenClaim.holds_of_cond 5 Try.f5 rfl rfl rfl rfl rfl rfl rfl ⟨rfl, rfl, rfl, rfl, rfl⟩ rfl rfl rfl rfl rfl (by kernel_rfl) Try.func5 (by kernel_rfl)
    (of_decide_eq_true (by kernel_rfl)) (by unfold Func.isWrapper; first | (rw [if_pos (by decide +kernel)]; kernel_rfl) | (rw [if_neg (by decide +kernel)]; exact ⟨rfl, rfl⟩))
    (fun os started H enc _ F => lifted os started H enc F)
#print axioms proved
end Go.Proofs.Ytegaaobiedfjcaa.unitsFollow
namespace Go.Proofs.Ytegaaobiedfjcaa
theorem unitsFollow_holds : Rows.UnitsFollowUptoSaid := unitsFollow.proved
end Go.Proofs.Ytegaaobiedfjcaa
