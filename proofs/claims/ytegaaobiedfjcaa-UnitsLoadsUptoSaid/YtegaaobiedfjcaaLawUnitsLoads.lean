/-
  The law UnitsLoads is true of every input of bulk at most 1048576: it returns true, and what came in reads as it did.
-/
import Derived.Test.YtegaaobiedfjcaaRows
import Derived.Test.YtegaaobiedfjcaaStY
import Derived.Test.YtegaaobiedfjcaaHStruct
import Derived.WalkKit
import Derived.ProofKit
import Derived.OpenShut
import Derived.ShutString
import Derived.ChangeOld
import Derived.Below
import Derived.JoinedCond
import Derived.SizedLaws
namespace Go.Proofs.Ytegaaobiedfjcaa.unitsLoads
open Go.ChangeShapes Go.WideShapes Go.ChangeAt Go.RowKit Go.Proofs.YtegaaobiedfjcaaW.PrintWords
open Go.ChangeMaps (open_string shut_string)
set_option linter.unusedVariables false
set_option linter.unusedSimpArgs false
theorem own : ownKnob Try.prog.godebug = none := by kernel_rfl
theorem laidOut : laidOutB Try.prog = true := by kernel_rfl
theorem opens3 : HRow.Opens Try.prog 3 (Kd.int .i64) (fun _ => 1) (fun x => (Lit.int .i64 x).wf = true) := HRow.opens_int Try.underlying3 (by kernel_rfl)
theorem opens34 : HRow.Opens Try.prog 34 (Kd.slice 3 (Kd.int .i64)) (fun l => (l.map (fun _ => 1)).sum + 1) (fun l => ∀ x ∈ l, (fun x => (Lit.int .i64 x).wf = true) x) := HRow.opens_slice Try.underlying34 (by kernel_rfl) opens3
theorem opens52 : HRow.Opens Try.prog 52 (Kd.pair (Kd.int .i64) (Kd.pair (Kd.slice 3 (Kd.int .i64)) (Kd.pair (Kd.int .i64) (Kd.int .i64)))) (fun x => (fun x => (fun _ => 1) x.1 + (fun x => (fun l => (l.map (fun _ => 1)).sum + 1) x.1 + (fun x => (fun _ => 1) x.1 + (fun _ => 1) x.2) x.2) x.2) x + 1) (fun x => (fun x => (Lit.int .i64 x).wf = true) x.1 ∧ (fun x => (fun l => ∀ x ∈ l, (fun x => (Lit.int .i64 x).wf = true) x) x.1 ∧ (fun x => (fun x => (Lit.int .i64 x).wf = true) x.1 ∧ (fun x => (Lit.int .i64 x).wf = true) x.2) x.2) x.2) := by
  refine HRow.opens_struct Try.underlying52 (by kernel_rfl) ?_
  refine HRow.opensF_cons (o := 1) (o0 := 0) (d := (Kd.int .i64)) (sz := (fun _ => 1)) (wf := (fun x => (Lit.int .i64 x).wf = true)) ?_ ?_ ?_ (HRow.opensF_cons (o := 2) (o0 := 1) (d := (Kd.slice 3 (Kd.int .i64))) (sz := (fun l => (l.map (fun _ => 1)).sum + 1)) (wf := (fun l => ∀ x ∈ l, (fun x => (Lit.int .i64 x).wf = true) x)) ?_ ?_ ?_ (HRow.opensF_cons (o := 3) (o0 := 2) (d := (Kd.int .i64)) (sz := (fun _ => 1)) (wf := (fun x => (Lit.int .i64 x).wf = true)) ?_ ?_ ?_ (HRow.opensF_last (o := 3) (d := (Kd.int .i64)) (sz := (fun _ => 1)) (wf := (fun x => (Lit.int .i64 x).wf = true)) ?_ ?_)))
  all_goals first | rfl | exact opens3 | exact opens34

theorem opens61 : HRow.Opens Try.prog 61 (Kd.slice 52 (Kd.pair (Kd.int .i64) (Kd.pair (Kd.slice 3 (Kd.int .i64)) (Kd.pair (Kd.int .i64) (Kd.int .i64))))) (fun l => (l.map (fun x => (fun x => (fun _ => 1) x.1 + (fun x => (fun l => (l.map (fun _ => 1)).sum + 1) x.1 + (fun x => (fun _ => 1) x.1 + (fun _ => 1) x.2) x.2) x.2) x + 1)).sum + 1) (fun l => ∀ x ∈ l, (fun x => (fun x => (Lit.int .i64 x).wf = true) x.1 ∧ (fun x => (fun l => ∀ x ∈ l, (fun x => (Lit.int .i64 x).wf = true) x) x.1 ∧ (fun x => (fun x => (Lit.int .i64 x).wf = true) x.1 ∧ (fun x => (Lit.int .i64 x).wf = true) x.2) x.2) x.2) x) := HRow.opens_slice Try.underlying61 (by kernel_rfl) opens52
theorem opens63 : HRow.Opens Try.prog 63 (Kd.pair (Kd.int .i64) (Kd.slice 52 (Kd.pair (Kd.int .i64) (Kd.pair (Kd.slice 3 (Kd.int .i64)) (Kd.pair (Kd.int .i64) (Kd.int .i64)))))) (fun x => (fun x => (fun _ => 1) x.1 + (fun l => (l.map (fun x => (fun x => (fun _ => 1) x.1 + (fun x => (fun l => (l.map (fun _ => 1)).sum + 1) x.1 + (fun x => (fun _ => 1) x.1 + (fun _ => 1) x.2) x.2) x.2) x + 1)).sum + 1) x.2) x + 1) (fun x => (fun x => (Lit.int .i64 x).wf = true) x.1 ∧ (fun l => ∀ x ∈ l, (fun x => (fun x => (Lit.int .i64 x).wf = true) x.1 ∧ (fun x => (fun l => ∀ x ∈ l, (fun x => (Lit.int .i64 x).wf = true) x) x.1 ∧ (fun x => (fun x => (Lit.int .i64 x).wf = true) x.1 ∧ (fun x => (Lit.int .i64 x).wf = true) x.2) x.2) x.2) x) x.2) := by
  refine HRow.opens_struct Try.underlying63 (by kernel_rfl) ?_
  refine HRow.opensF_cons (o := 1) (o0 := 0) (d := (Kd.int .i64)) (sz := (fun _ => 1)) (wf := (fun x => (Lit.int .i64 x).wf = true)) ?_ ?_ ?_ (HRow.opensF_last (o := 1) (d := (Kd.slice 52 (Kd.pair (Kd.int .i64) (Kd.pair (Kd.slice 3 (Kd.int .i64)) (Kd.pair (Kd.int .i64) (Kd.int .i64)))))) (sz := (fun l => (l.map (fun x => (fun x => (fun _ => 1) x.1 + (fun x => (fun l => (l.map (fun _ => 1)).sum + 1) x.1 + (fun x => (fun _ => 1) x.1 + (fun _ => 1) x.2) x.2) x.2) x + 1)).sum + 1)) (wf := (fun l => ∀ x ∈ l, (fun x => (fun x => (Lit.int .i64 x).wf = true) x.1 ∧ (fun x => (fun l => ∀ x ∈ l, (fun x => (Lit.int .i64 x).wf = true) x) x.1 ∧ (fun x => (fun x => (Lit.int .i64 x).wf = true) x.1 ∧ (fun x => (Lit.int .i64 x).wf = true) x.2) x.2) x.2) x)) ?_ ?_)
  all_goals first | rfl | exact opens3 | exact opens61

theorem opens31 : HRow.Opens Try.prog 31 (Kd.slice 34 (Kd.slice 3 (Kd.int .i64))) (fun l => (l.map (fun l => (l.map (fun _ => 1)).sum + 1)).sum + 1) (fun l => ∀ x ∈ l, (fun l => ∀ x ∈ l, (fun x => (Lit.int .i64 x).wf = true) x) x) := HRow.opens_slice Try.underlying31 (by kernel_rfl) opens34
theorem opens48 : HRow.Opens Try.prog 48 PU.k48 (fun x => (fun x => (fun x => (fun _ => 1) x.1 + (fun x => (fun _ => 1) x.1 + (fun _ => 1) x.2) x.2) x + 1) ((fun x : PU.S48 => (x.f0, x.f1, x.f2)) x)) (fun x => (fun x => (fun x => (Lit.int .i64 x).wf = true) x.1 ∧ (fun x => (fun x => (Lit.int .i64 x).wf = true) x.1 ∧ (fun x => (Lit.int .i64 x).wf = true) x.2) x.2) ((fun x : PU.S48 => (x.f0, x.f1, x.f2)) x)) := HRow.opens_iso (d := (Kd.pair (Kd.int .i64) (Kd.pair (Kd.int .i64) (Kd.int .i64)))) (sz := (fun x => (fun x => (fun _ => 1) x.1 + (fun x => (fun _ => 1) x.1 + (fun _ => 1) x.2) x.2) x + 1)) (wf := (fun x => (fun x => (Lit.int .i64 x).wf = true) x.1 ∧ (fun x => (fun x => (Lit.int .i64 x).wf = true) x.1 ∧ (fun x => (Lit.int .i64 x).wf = true) x.2) x.2)) (fun x : PU.S48 => (x.f0, x.f1, x.f2)) (fun p : Int × Int × Int => (⟨p.1, p.2.1, p.2.2⟩ : PU.S48)) (fun _ => rfl) (by
    refine HRow.opens_struct Try.underlying48 (by kernel_rfl) ?_
    refine HRow.opensF_cons (o := 1) (o0 := 0) (d := (Kd.int .i64)) (sz := (fun _ => 1)) (wf := (fun x => (Lit.int .i64 x).wf = true)) ?_ ?_ ?_ (HRow.opensF_cons (o := 2) (o0 := 1) (d := (Kd.int .i64)) (sz := (fun _ => 1)) (wf := (fun x => (Lit.int .i64 x).wf = true)) ?_ ?_ ?_ (HRow.opensF_last (o := 2) (d := (Kd.int .i64)) (sz := (fun _ => 1)) (wf := (fun x => (Lit.int .i64 x).wf = true)) ?_ ?_))
    all_goals first | rfl | exact opens3
  )
theorem opens38 : HRow.Opens Try.prog 38 (Kd.slice 48 PU.k48) (fun l => (l.map (fun x => (fun x => (fun x => (fun _ => 1) x.1 + (fun x => (fun _ => 1) x.1 + (fun _ => 1) x.2) x.2) x + 1) ((fun x : PU.S48 => (x.f0, x.f1, x.f2)) x))).sum + 1) (fun l => ∀ x ∈ l, (fun x => (fun x => (fun x => (Lit.int .i64 x).wf = true) x.1 ∧ (fun x => (fun x => (Lit.int .i64 x).wf = true) x.1 ∧ (fun x => (Lit.int .i64 x).wf = true) x.2) x.2) ((fun x : PU.S48 => (x.f0, x.f1, x.f2)) x)) x) := HRow.opens_slice Try.underlying38 (by kernel_rfl) opens48
theorem contract (H : Type) (enc : TypeId × Value → H) (W : World) (base : Nat) (args : Array Value) (ds gs : List (DataW H)) (before : List MemPlace)
    (hval : ∀ (j : Nat) t v, Try.f9.params[j]? = some t → args[j]? = some v → Value.okWide Try.prog W .any base t v)
    (hW : DataW.Whole enc Try.prog Try.f9.params.toList Rows.unitsLoadsSpec.vars false W args.toList ds gs before) (hk : Rows.uptoSmall H (ds ++ gs) = true) :
    Calls Try.prog 9 args W fun e W' => ∃ v, e = .returned v ∧ Rows.unitsLoadsSpec.post enc Try.prog Try.f9 false true false false W args v W' := by
  have hW' := hW
  obtain ⟨p, q, hA0, hV, rfl, hfz, hnd⟩ := hW
  have hA : DataW.TrodAll enc Try.prog W 0 (fun _ => true) true Try.f9.params.toList args.toList ds p := hA0
  rw [Try.params9] at hA hval
  obtain ⟨v0, vs0, d0, ds0, p0, q0, hargs, rfl, rfl, h0, r0⟩ := trodAll_cons hA
  obtain ⟨v1, vs1, d1, ds1, p1, q1, rfl, rfl, rfl, h1, r1⟩ := trodAll_cons r0
  obtain ⟨v2, vs2, d2, ds2, p2, q2, rfl, rfl, rfl, h2, r2⟩ := trodAll_cons r1
  obtain ⟨rfl, rfl, rfl⟩ := trodAll_nil r2
  obtain rfl : args = #[v0, v1, v2] := by cases args; simp_all
  obtain ⟨rfl, rfl⟩ := trodVars_none hV
  have k0 := h0
  have lt0 : ∀ x ∈ p0, x.block < W.heap.size := by obtain ⟨m, hm⟩ := k0; exact DataW.trod_lt m _ _ _ hm
  obtain ⟨cs0, y0, rfl, hK0, hs0, hw0⟩ := HRow.arg_struct Try.underlying63 opens63 (hval 0 63 v0 rfl rfl) h0
  have k1 := h1
  have lt1 : ∀ x ∈ p1, x.block < W.heap.size := by obtain ⟨m, hm⟩ := k1; exact DataW.trod_lt m _ _ _ hm
  obtain ⟨A1, c1, l1, rfl, hc1, hr1, hs1, hw1⟩ := HRow.arg_slice Try.underlying31 (by kernel_rfl) opens34 (hval 1 31 v1 rfl rfl) h1
  have k2 := h2
  have lt2 : ∀ x ∈ p2, x.block < W.heap.size := by obtain ⟨m, hm⟩ := k2; exact DataW.trod_lt m _ _ _ hm
  obtain ⟨A2, c2, l2, rfl, hc2, hr2, hs2, hw2⟩ := HRow.arg_slice Try.underlying38 (by kernel_rfl) opens48 (hval 2 38 v2 rfl rfl) h2
  clear hA0
  simp only [List.append_nil] at hW' hk
  have hb : ((fun x => (fun x => (fun _ => 1) x.1 + (fun l => (l.map (fun x => (fun x => (fun _ => 1) x.1 + (fun x => (fun l => (l.map (fun _ => 1)).sum + 1) x.1 + (fun x => (fun _ => 1) x.1 + (fun _ => 1) x.2) x.2) x.2) x + 1)).sum + 1) x.2) x + 1) y0) + ((l1.map (fun l => (l.map (fun _ => 1)).sum + 1)).sum + 1) + ((l2.map (fun x => (fun x => (fun x => (fun _ => 1) x.1 + (fun x => (fun _ => 1) x.1 + (fun _ => 1) x.2) x.2) x + 1) ((fun x : PU.S48 => (x.f0, x.f1, x.f2)) x))).sum + 1) ≤ 1048576 := by
    have h := of_decide_eq_true hk
    simp only [List.cons_append, List.nil_append, Rows.uptoBulkAll, Rows.uptoBulk] at h
    (try dsimp only at hs0 hs1 hs2 ⊢)
    omega
  obtain ⟨n, ops⟩ := y0
  obtain ⟨_, _, rfl, rfl, ⟨Ao, co, rfl, hco, hro⟩⟩ := hK0
  have g1 : ∀ o ∈ ops, o.2.1.length + 1 ≤ _ := fun o ho => by
    have h1 := HRow.le_sum (f := (fun x : Int × List Int × Int × Int => (fun x : Int × List Int × Int × Int => (fun _ => 1) x.1 + (fun x : List Int × Int × Int => (fun l : List Int => (l.map (fun _ => 1)).sum + 1) x.1 + (fun x : Int × Int => (fun _ => 1) x.1 + (fun _ => 1) x.2) x.2) x.2) x + 1)) ho
    have h2 := HRow.ones_sum o.2.1
    exact Nat.le_trans (by (try dsimp only); omega) h1
  have g2 := HRow.len_sum (f := (fun x : Int × List Int × Int × Int => (fun x : Int × List Int × Int × Int => (fun _ => 1) x.1 + (fun x : List Int × Int × Int => (fun l : List Int => (l.map (fun _ => 1)).sum + 1) x.1 + (fun x : Int × Int => (fun _ => 1) x.1 + (fun _ => 1) x.2) x.2) x.2) x + 1)) (fun x => by (try dsimp only); omega) ops
  have g3 : ∀ c ∈ l1, c.length + 1 ≤ _ := fun c hc => by
    have h1 := HRow.le_sum (f := fun l : List Int => (l.map (fun _ => 1)).sum + 1) hc
    rwa [HRow.ones_sum] at h1
  have g4 := HRow.len_sum (f := fun l : List Int => (l.map (fun _ => 1)).sum + 1) (fun l => by omega) l1
  have g5' := HRow.len_sum (f := (fun x : PU.S48 => (fun x : Int × Int × Int => (fun x : Int × Int × Int => (fun _ => 1) x.1 + (fun x : Int × Int => (fun _ => 1) x.1 + (fun _ => 1) x.2) x.2) x + 1) ((fun x : PU.S48 => (x.f0, x.f1, x.f2)) x))) (fun x => by (try dsimp only); omega) l2
  have g5 : l2.length ≤ 1048576 := by (try dsimp only at hb g5'); omega
  have e1 : ∀ o ∈ ops, o.2.1.length ≤ 4194304 := fun o ho => by have := g1 o ho; (try dsimp only at hb this); omega
  have e2 : ∀ c ∈ l1, c.length ≤ 4194304 := fun c hc => by have := g3 c hc; (try dsimp only at hb); omega
  have e3 : ops.length + l1.length < 1048576 := by (try dsimp only at hb g2); omega
  refine (PU.loads_walk n Ao co ops A1 c1 l1 A2 c2 l2 W hro hr1 hc1 hr2 hc2 e3 e1 e2 g5).mono fun e W' ⟨he, bel0⟩ => ?_
  subst he
  have bel : Below W.heap.size W W' := by first | exact bel0 | exact bel0.below
  exact ⟨_, rfl, _, _, _, [], _, [], hW', trodAll_mk1 (shut_bool Try.underlying4 _), (trodAll_cons_mk (Below.trod laidOut (by kernel_rfl) (of_decide_eq_true (by kernel_rfl)) k0 bel lt0) (trodAll_cons_mk (Below.trod laidOut (by kernel_rfl) (of_decide_eq_true (by kernel_rfl)) k1 bel lt1) (trodAll_cons_mk (Below.trod laidOut (by kernel_rfl) (of_decide_eq_true (by kernel_rfl)) k2 bel lt2) trodAll_mk0))), rfl, bel.frame _, fun h => by cases h⟩
set_option maxRecDepth 100000 in
theorem lifted (os : Os) (started : os.Started) (H : Type) (enc : TypeId × Value → H) (F : Stop.Interp) :
    ReturnsInHanded {} Try.checked os 9 .any ((Rows.OpenSpec.upto Rows.unitsLoadsSpec).pre6 enc Try.prog Try.f9 Rows.unitsLoadsUptoRow.domain false) (((Rows.OpenSpec.upto Rows.unitsLoadsSpec).at F).post enc Try.prog Try.f9 false true false false) := by
  refine returnsInHanded_of_cond (C := Try.checked) (s := Rows.OpenSpec.upto Rows.unitsLoadsSpec) (k := Rows.uptoSmall) rfl own started (by kernel_rfl) Try.func9
    (OpenSpec.witness (enc := enc) (C := Try.checked) (s := Rows.OpenSpec.upto Rows.unitsLoadsSpec) (k := Rows.uptoSmall) rfl false ⟨#[], #[.agg #[.int .i64 0, .slice none 0 0], .slice none 0 0, .slice none 0 0], []⟩ 8 (by kernel_rfl) (by kernel_rfl) (by kernel_rfl)
      (x := ([.agg [.lit (.int .i64 0), .nil], .nil, .nil], [], [])) (by kernel_rfl) rfl (by kernel_rfl)) ?_
  intro W base args ds gs before hval hW _ hk _
  exact contract H enc W base args ds gs before hval hW hk
theorem proved : Rows.UnitsLoadsUptoSaid :=
  OpenClaim.holds_of_cond 9 Try.f9 rfl rfl rfl rfl rfl rfl rfl ⟨rfl, rfl, rfl, rfl, rfl⟩ rfl rfl rfl rfl rfl (by kernel_rfl) Try.func9 (by kernel_rfl)
    (of_decide_eq_true (by kernel_rfl)) (by unfold Func.isWrapper; first | (rw [if_pos (by decide +kernel)]; kernel_rfl) | (rw [if_neg (by decide +kernel)]; exact ⟨rfl, rfl⟩))
    (fun os started H enc _ F => lifted os started H enc F)
#print axioms proved
end Go.Proofs.Ytegaaobiedfjcaa.unitsLoads
namespace Go.Proofs.Ytegaaobiedfjcaa
theorem unitsLoads_holds : Rows.UnitsLoadsUptoSaid := unitsLoads.proved
end Go.Proofs.Ytegaaobiedfjcaa
