/-
  The law UnitsOwn is true of every input of bulk at most 1048576: it returns true, and what came in reads as it did.
-/
import Derived.Test.YtegaaobiedfjcaaRows
import Derived.Test.YtegaaobiedfjcaaStZ
import Derived.Test.YtegaaobiedfjcaaHStruct
import Derived.WalkKit
import Derived.ProofKit
import Derived.OpenShut
import Derived.ShutString
import Derived.ChangeOld
import Derived.Below
import Derived.JoinedCond
import Derived.SizedLaws
namespace Go.Proofs.Ytegaaobiedfjcaa.unitsOwn
open Go.ChangeShapes Go.WideShapes Go.ChangeAt Go.RowKit Go.Proofs.YtegaaobiedfjcaaW.PrintWords
open Go.ChangeMaps (open_string shut_string)
set_option linter.unusedVariables false
set_option linter.unusedSimpArgs false
set_option maxRecDepth 100000
theorem own : ownKnob Try.prog.godebug = none := by kernel_rfl
theorem laidOut : laidOutB Try.prog = true := by kernel_rfl
theorem opens3 : HRow.Opens Try.prog 3 (Kd.int .i64) (fun _ => 1) (fun x => (Lit.int .i64 x).wf = true) := HRow.opens_int Try.underlying3 (by kernel_rfl)
theorem opens34 : HRow.Opens Try.prog 34 (Kd.slice 3 (Kd.int .i64)) (fun l => (l.map (fun _ => 1)).sum + 1) (fun l => ∀ x ∈ l, (fun x => (Lit.int .i64 x).wf = true) x) := HRow.opens_slice Try.underlying34 (by kernel_rfl) opens3
theorem opens52 : HRow.Opens Try.prog 52 (Kd.pair (Kd.int .i64) (Kd.pair (Kd.slice 3 (Kd.int .i64)) (Kd.pair (Kd.int .i64) (Kd.int .i64)))) (fun x => (fun x => (fun _ => 1) x.1 + (fun x => (fun l => (l.map (fun _ => 1)).sum + 1) x.1 + (fun x => (fun _ => 1) x.1 + (fun _ => 1) x.2) x.2) x.2) x + 1) (fun x => (fun x => (Lit.int .i64 x).wf = true) x.1 ∧ (fun x => (fun l => ∀ x ∈ l, (fun x => (Lit.int .i64 x).wf = true) x) x.1 ∧ (fun x => (fun x => (Lit.int .i64 x).wf = true) x.1 ∧ (fun x => (Lit.int .i64 x).wf = true) x.2) x.2) x.2) := by
  refine HRow.opens_struct Try.underlying52 (by kernel_rfl) ?_
  refine HRow.opensF_cons (o := 1) (o0 := 0) (d := (Kd.int .i64)) (sz := (fun _ => 1)) (wf := (fun x => (Lit.int .i64 x).wf = true)) ?_ ?_ ?_ (HRow.opensF_cons (o := 2) (o0 := 1) (d := (Kd.slice 3 (Kd.int .i64))) (sz := (fun l => (l.map (fun _ => 1)).sum + 1)) (wf := (fun l => ∀ x ∈ l, (fun x => (Lit.int .i64 x).wf = true) x)) ?_ ?_ ?_ (HRow.opensF_cons (o := 3) (o0 := 2) (d := (Kd.int .i64)) (sz := (fun _ => 1)) (wf := (fun x => (Lit.int .i64 x).wf = true)) ?_ ?_ ?_ (HRow.opensF_last (o := 3) (d := (Kd.int .i64)) (sz := (fun _ => 1)) (wf := (fun x => (Lit.int .i64 x).wf = true)) ?_ ?_)))
  all_goals first | rfl | exact opens3 | exact opens34

theorem opens61 : HRow.Opens Try.prog 61 (Kd.slice 52 (Kd.pair (Kd.int .i64) (Kd.pair (Kd.slice 3 (Kd.int .i64)) (Kd.pair (Kd.int .i64) (Kd.int .i64))))) (fun l => (l.map (fun x => (fun x => (fun _ => 1) x.1 + (fun x => (fun l => (l.map (fun _ => 1)).sum + 1) x.1 + (fun x => (fun _ => 1) x.1 + (fun _ => 1) x.2) x.2) x.2) x + 1)).sum + 1) (fun l => ∀ x ∈ l, (fun x => (fun x => (Lit.int .i64 x).wf = true) x.1 ∧ (fun x => (fun l => ∀ x ∈ l, (fun x => (Lit.int .i64 x).wf = true) x) x.1 ∧ (fun x => (fun x => (Lit.int .i64 x).wf = true) x.1 ∧ (fun x => (Lit.int .i64 x).wf = true) x.2) x.2) x.2) x) := HRow.opens_slice Try.underlying61 (by kernel_rfl) opens52
theorem opens63 : HRow.Opens Try.prog 63 (Kd.pair (Kd.int .i64) (Kd.slice 52 (Kd.pair (Kd.int .i64) (Kd.pair (Kd.slice 3 (Kd.int .i64)) (Kd.pair (Kd.int .i64) (Kd.int .i64)))))) (fun x => (fun x => (fun _ => 1) x.1 + (fun l => (l.map (fun x => (fun x => (fun _ => 1) x.1 + (fun x => (fun l => (l.map (fun _ => 1)).sum + 1) x.1 + (fun x => (fun _ => 1) x.1 + (fun _ => 1) x.2) x.2) x.2) x + 1)).sum + 1) x.2) x + 1) (fun x => (fun x => (Lit.int .i64 x).wf = true) x.1 ∧ (fun l => ∀ x ∈ l, (fun x => (fun x => (Lit.int .i64 x).wf = true) x.1 ∧ (fun x => (fun l => ∀ x ∈ l, (fun x => (Lit.int .i64 x).wf = true) x) x.1 ∧ (fun x => (fun x => (Lit.int .i64 x).wf = true) x.1 ∧ (fun x => (Lit.int .i64 x).wf = true) x.2) x.2) x.2) x) x.2) := by
  refine HRow.opens_struct Try.underlying63 (by kernel_rfl) ?_
  refine HRow.opensF_cons (o := 1) (o0 := 0) (d := (Kd.int .i64)) (sz := (fun _ => 1)) (wf := (fun x => (Lit.int .i64 x).wf = true)) ?_ ?_ ?_ (HRow.opensF_last (o := 1) (d := (Kd.slice 52 (Kd.pair (Kd.int .i64) (Kd.pair (Kd.slice 3 (Kd.int .i64)) (Kd.pair (Kd.int .i64) (Kd.int .i64)))))) (sz := (fun l => (l.map (fun x => (fun x => (fun _ => 1) x.1 + (fun x => (fun l => (l.map (fun _ => 1)).sum + 1) x.1 + (fun x => (fun _ => 1) x.1 + (fun _ => 1) x.2) x.2) x.2) x + 1)).sum + 1)) (wf := (fun l => ∀ x ∈ l, (fun x => (fun x => (Lit.int .i64 x).wf = true) x.1 ∧ (fun x => (fun l => ∀ x ∈ l, (fun x => (Lit.int .i64 x).wf = true) x) x.1 ∧ (fun x => (fun x => (Lit.int .i64 x).wf = true) x.1 ∧ (fun x => (Lit.int .i64 x).wf = true) x.2) x.2) x.2) x)) ?_ ?_)
  all_goals first | rfl | exact opens3 | exact opens61

theorem contract (H : Type) (enc : TypeId × Value → H) (W : World) (base : Nat) (args : Array Value) (ds gs : List (DataW H)) (before : List MemPlace)
    (hval : ∀ (j : Nat) t v, Try.f8.params[j]? = some t → args[j]? = some v → Value.okWide Try.prog W .any base t v)
    (hW : DataW.Whole enc Try.prog Try.f8.params.toList Rows.unitsOwnSpec.vars false W args.toList ds gs before) (hk : Rows.uptoSmall H (ds ++ gs) = true) :
    Calls Try.prog 8 args W fun e W' => ∃ v, e = .returned v ∧ Rows.unitsOwnSpec.post enc Try.prog Try.f8 false true false false W args v W' := by
  have hW' := hW
  obtain ⟨p, q, hA0, hV, rfl, hfz, hnd⟩ := hW
  have hA : DataW.TrodAll enc Try.prog W 0 (fun _ => true) true Try.f8.params.toList args.toList ds p := hA0
  rw [Try.params8] at hA hval
  obtain ⟨v0, vs0, d0, ds0, p0, q0, hargs, rfl, rfl, h0, r0⟩ := trodAll_cons hA
  obtain ⟨rfl, rfl, rfl⟩ := trodAll_nil r0
  obtain rfl : args = #[v0] := by cases args; simp_all
  obtain ⟨rfl, rfl⟩ := trodVars_none hV
  have k0 := h0
  have lt0 : ∀ x ∈ p0, x.block < W.heap.size := by obtain ⟨m, hm⟩ := k0; exact DataW.trod_lt m _ _ _ hm
  obtain ⟨cs0, y0, rfl, hK0, hs0, hw0⟩ := HRow.arg_struct Try.underlying63 opens63 (hval 0 63 v0 rfl rfl) h0
  clear hA0
  simp only [List.append_nil] at hW' hk
  have hb : ((fun x => (fun x => (fun _ => 1) x.1 + (fun l => (l.map (fun x => (fun x => (fun _ => 1) x.1 + (fun x => (fun l => (l.map (fun _ => 1)).sum + 1) x.1 + (fun x => (fun _ => 1) x.1 + (fun _ => 1) x.2) x.2) x.2) x + 1)).sum + 1) x.2) x + 1) y0) ≤ 1048576 := by
    have h := of_decide_eq_true hk
    simp only [List.cons_append, List.nil_append, Rows.uptoBulkAll, Rows.uptoBulk] at h
    (try dsimp only at hs0 ⊢)
    omega
  obtain ⟨n, ops⟩ := y0
  obtain ⟨_, _, rfl, rfl, ⟨Ao, co, rfl, hco, hro⟩⟩ := hK0
  have g1 : ∀ o ∈ ops, o.2.1.length ≤ 4194304 := fun o ho => by
    have h1 := HRow.le_sum (f := (fun x : Int × List Int × Int × Int => (fun x : Int × List Int × Int × Int => (fun _ => 1) x.1 + (fun x : List Int × Int × Int => (fun l : List Int => (l.map (fun _ => 1)).sum + 1) x.1 + (fun x : Int × Int => (fun _ => 1) x.1 + (fun _ => 1) x.2) x.2) x.2) x + 1)) ho
    have h2 := HRow.ones_sum o.2.1
    (try dsimp only at hb h1); omega
  have g2 := HRow.len_sum (f := (fun x : Int × List Int × Int × Int => (fun x : Int × List Int × Int × Int => (fun _ => 1) x.1 + (fun x : List Int × Int × Int => (fun l : List Int => (l.map (fun _ => 1)).sum + 1) x.1 + (fun x : Int × Int => (fun _ => 1) x.1 + (fun _ => 1) x.2) x.2) x.2) x + 1)) (fun x => by (try dsimp only); omega) ops
  have hl0 : ops.length < 1048576 := by (try dsimp only at hb g2); omega
  refine (PU.uown_walk n Ao co ops W hro hl0 g1).mono fun e W' ⟨he, bel0⟩ => ?_
  subst he
  have bel : Below W.heap.size W W' := by first | exact bel0 | exact bel0.below
  exact ⟨_, rfl, _, _, _, [], _, [], hW', trodAll_mk1 (shut_bool Try.underlying4 _), (trodAll_cons_mk (Below.trod laidOut (by kernel_rfl) (of_decide_eq_true (by kernel_rfl)) k0 bel lt0) trodAll_mk0), rfl, bel.frame _, fun h => by cases h⟩
set_option maxRecDepth 100000 in
theorem lifted (os : Os) (started : os.Started) (H : Type) (enc : TypeId × Value → H) (F : Stop.Interp) :
    ReturnsInHanded {} Try.checked os 8 .any ((Rows.OpenSpec.upto Rows.unitsOwnSpec).pre6 enc Try.prog Try.f8 Rows.unitsOwnUptoRow.domain false) (((Rows.OpenSpec.upto Rows.unitsOwnSpec).at F).post enc Try.prog Try.f8 false true false false) := by
  refine returnsInHanded_of_cond (C := Try.checked) (s := Rows.OpenSpec.upto Rows.unitsOwnSpec) (k := Rows.uptoSmall) rfl own started (by kernel_rfl) Try.func8
    (OpenSpec.witness (enc := enc) (C := Try.checked) (s := Rows.OpenSpec.upto Rows.unitsOwnSpec) (k := Rows.uptoSmall) rfl false ⟨#[], #[.agg #[.int .i64 0, .slice none 0 0]], []⟩ 8 (by kernel_rfl) (by kernel_rfl) (by kernel_rfl)
      (x := ([.agg [.lit (.int .i64 0), .nil]], [], [])) (by kernel_rfl) rfl (by kernel_rfl)) ?_
  intro W base args ds gs before hval hW _ hk _
  exact contract H enc W base args ds gs before hval hW hk
theorem proved : Rows.UnitsOwnUptoSaid :=
  OpenClaim.holds_of_cond 8 Try.f8 rfl rfl rfl rfl rfl rfl rfl ⟨rfl, rfl, rfl, rfl, rfl⟩ rfl rfl rfl rfl rfl (by kernel_rfl) Try.func8 (by kernel_rfl)
    (of_decide_eq_true (by kernel_rfl)) (by unfold Func.isWrapper; first | (rw [if_pos (by decide +kernel)]; kernel_rfl) | (rw [if_neg (by decide +kernel)]; exact ⟨rfl, rfl⟩))
    (fun os started H enc _ F => lifted os started H enc F)
#print axioms proved
end Go.Proofs.Ytegaaobiedfjcaa.unitsOwn
namespace Go.Proofs.Ytegaaobiedfjcaa
theorem unitsOwn_holds : Rows.UnitsOwnUptoSaid := unitsOwn.proved
end Go.Proofs.Ytegaaobiedfjcaa
