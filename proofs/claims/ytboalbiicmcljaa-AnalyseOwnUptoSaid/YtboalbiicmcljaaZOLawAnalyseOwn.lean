/-
  The law AnalyseOwn is true of every input of bulk at most 1048576: it returns true, and what came in reads as it did.
-/
import Derived.Test.YtboalbiicmcljaaRows
import Derived.Test.YtboalbiicmcljaaZOAnOw
import Derived.Test.YtboalbiicmcljaaZOHStruct
import Derived.WalkKit
import Derived.ProofKit
import Derived.OpenShut
import Derived.ShutString
import Derived.ChangeOld
import Derived.Below
import Derived.JoinedCond
import Derived.SizedLaws
namespace Go.Proofs.Ytboalbiicmcljaa.analyseOwn
open Go.ChangeShapes Go.WideShapes Go.ChangeAt Go.RowKit Go.Proofs.YtboalbiicmcljaaW.PrintWords
open Go.ChangeMaps (open_string shut_string)
set_option linter.unusedVariables false
set_option linter.unusedSimpArgs false
set_option maxRecDepth 100000
theorem own : ownKnob Try.prog.godebug = none := by kernel_rfl
theorem laidOut : laidOutB Try.prog = true := by kernel_rfl
theorem opens3 : HRow.Opens Try.prog 3 (Kd.int .i64) (fun _ => 1) (fun x => (Lit.int .i64 x).wf = true) := HRow.opens_int Try.underlying3 (by kernel_rfl)
theorem opens28 : HRow.Opens Try.prog 28 (Kd.slice 3 (Kd.int .i64)) (fun l => (l.map (fun _ => 1)).sum + 1) (fun l => ∀ x ∈ l, (fun x => (Lit.int .i64 x).wf = true) x) := HRow.opens_slice Try.underlying28 (by kernel_rfl) opens3
theorem opens23 : HRow.Opens Try.prog 23 (Kd.slice 28 (Kd.slice 3 (Kd.int .i64))) (fun l => (l.map (fun l => (l.map (fun _ => 1)).sum + 1)).sum + 1) (fun l => ∀ x ∈ l, (fun l => ∀ x ∈ l, (fun x => (Lit.int .i64 x).wf = true) x) x) := HRow.opens_slice Try.underlying23 (by kernel_rfl) opens28
theorem opens49 : HRow.Opens Try.prog 49 PAN.k49 (fun x => (fun x => (fun x => (fun _ => 1) x.1 + (fun x => (fun _ => 1) x.1 + (fun _ => 1) x.2) x.2) x + 1) ((fun x : PAN.S49 => (x.f0, x.f1, x.f2)) x)) (fun x => (fun x => (fun x => (Lit.int .i64 x).wf = true) x.1 ∧ (fun x => (fun x => (Lit.int .i64 x).wf = true) x.1 ∧ (fun x => (Lit.int .i64 x).wf = true) x.2) x.2) ((fun x : PAN.S49 => (x.f0, x.f1, x.f2)) x)) := HRow.opens_iso (d := (Kd.pair (Kd.int .i64) (Kd.pair (Kd.int .i64) (Kd.int .i64)))) (sz := (fun x => (fun x => (fun _ => 1) x.1 + (fun x => (fun _ => 1) x.1 + (fun _ => 1) x.2) x.2) x + 1)) (wf := (fun x => (fun x => (Lit.int .i64 x).wf = true) x.1 ∧ (fun x => (fun x => (Lit.int .i64 x).wf = true) x.1 ∧ (fun x => (Lit.int .i64 x).wf = true) x.2) x.2)) (fun x : PAN.S49 => (x.f0, x.f1, x.f2)) (fun p : Int × Int × Int => (⟨p.1, p.2.1, p.2.2⟩ : PAN.S49)) (fun _ => rfl) (by
    refine HRow.opens_struct Try.underlying49 (by kernel_rfl) ?_
    refine HRow.opensF_cons (o := 1) (o0 := 0) (d := (Kd.int .i64)) (sz := (fun _ => 1)) (wf := (fun x => (Lit.int .i64 x).wf = true)) ?_ ?_ ?_ (HRow.opensF_cons (o := 2) (o0 := 1) (d := (Kd.int .i64)) (sz := (fun _ => 1)) (wf := (fun x => (Lit.int .i64 x).wf = true)) ?_ ?_ ?_ (HRow.opensF_last (o := 2) (d := (Kd.int .i64)) (sz := (fun _ => 1)) (wf := (fun x => (Lit.int .i64 x).wf = true)) ?_ ?_))
    all_goals first | rfl | exact opens3
  )
theorem opens24 : HRow.Opens Try.prog 24 (Kd.slice 49 PAN.k49) (fun l => (l.map (fun x => (fun x => (fun x => (fun _ => 1) x.1 + (fun x => (fun _ => 1) x.1 + (fun _ => 1) x.2) x.2) x + 1) ((fun x : PAN.S49 => (x.f0, x.f1, x.f2)) x))).sum + 1) (fun l => ∀ x ∈ l, (fun x => (fun x => (fun x => (Lit.int .i64 x).wf = true) x.1 ∧ (fun x => (fun x => (Lit.int .i64 x).wf = true) x.1 ∧ (fun x => (Lit.int .i64 x).wf = true) x.2) x.2) ((fun x : PAN.S49 => (x.f0, x.f1, x.f2)) x)) x) := HRow.opens_slice Try.underlying24 (by kernel_rfl) opens49
theorem opens26 : HRow.Opens Try.prog 26 (Kd.pair (Kd.slice 28 (Kd.slice 3 (Kd.int .i64))) (Kd.slice 49 PAN.k49)) (fun x => (fun x => (fun l => (l.map (fun l => (l.map (fun _ => 1)).sum + 1)).sum + 1) x.1 + (fun l => (l.map (fun x => (fun x => (fun x => (fun _ => 1) x.1 + (fun x => (fun _ => 1) x.1 + (fun _ => 1) x.2) x.2) x + 1) ((fun x : PAN.S49 => (x.f0, x.f1, x.f2)) x))).sum + 1) x.2) x + 1) (fun x => (fun l => ∀ x ∈ l, (fun l => ∀ x ∈ l, (fun x => (Lit.int .i64 x).wf = true) x) x) x.1 ∧ (fun l => ∀ x ∈ l, (fun x => (fun x => (fun x => (Lit.int .i64 x).wf = true) x.1 ∧ (fun x => (fun x => (Lit.int .i64 x).wf = true) x.1 ∧ (fun x => (Lit.int .i64 x).wf = true) x.2) x.2) ((fun x : PAN.S49 => (x.f0, x.f1, x.f2)) x)) x) x.2) := by
  refine HRow.opens_struct Try.underlying26 (by kernel_rfl) ?_
  refine HRow.opensF_cons (o := 1) (o0 := 0) (d := (Kd.slice 28 (Kd.slice 3 (Kd.int .i64)))) (sz := (fun l => (l.map (fun l => (l.map (fun _ => 1)).sum + 1)).sum + 1)) (wf := (fun l => ∀ x ∈ l, (fun l => ∀ x ∈ l, (fun x => (Lit.int .i64 x).wf = true) x) x)) ?_ ?_ ?_ (HRow.opensF_last (o := 1) (d := (Kd.slice 49 PAN.k49)) (sz := (fun l => (l.map (fun x => (fun x => (fun x => (fun _ => 1) x.1 + (fun x => (fun _ => 1) x.1 + (fun _ => 1) x.2) x.2) x + 1) ((fun x : PAN.S49 => (x.f0, x.f1, x.f2)) x))).sum + 1)) (wf := (fun l => ∀ x ∈ l, (fun x => (fun x => (fun x => (Lit.int .i64 x).wf = true) x.1 ∧ (fun x => (fun x => (Lit.int .i64 x).wf = true) x.1 ∧ (fun x => (Lit.int .i64 x).wf = true) x.2) x.2) ((fun x : PAN.S49 => (x.f0, x.f1, x.f2)) x)) x)) ?_ ?_)
  all_goals first | rfl | exact opens23 | exact opens24
theorem contract (H : Type) (enc : TypeId × Value → H) (W : World) (base : Nat) (args : Array Value) (ds gs : List (DataW H)) (before : List MemPlace)
    (hval : ∀ (j : Nat) t v, Try.f11.params[j]? = some t → args[j]? = some v → Value.okWide Try.prog W .any base t v)
    (hW : DataW.Whole enc Try.prog Try.f11.params.toList Rows.analyseOwnSpec.vars false W args.toList ds gs before) (hk : Rows.uptoSmall H (ds ++ gs) = true) :
    Calls Try.prog 11 args W fun e W' => ∃ v, e = .returned v ∧ Rows.analyseOwnSpec.post enc Try.prog Try.f11 false true false false W args v W' := by
  have hW' := hW
  obtain ⟨p, q, hA0, hV, rfl, hfz, hnd⟩ := hW
  have hA : DataW.TrodAll enc Try.prog W 0 (fun _ => true) true Try.f11.params.toList args.toList ds p := hA0
  rw [Try.params11] at hA hval
  obtain ⟨v0, vs0, d0, ds0, p0, q0, hargs, rfl, rfl, h0, r0⟩ := trodAll_cons hA
  obtain ⟨v1, vs1, d1, ds1, p1, q1, rfl, rfl, rfl, h1, r1⟩ := trodAll_cons r0
  obtain ⟨rfl, rfl, rfl⟩ := trodAll_nil r1
  obtain rfl : args = #[v0, v1] := by cases args; simp_all
  obtain ⟨rfl, rfl⟩ := trodVars_none hV
  have k0 := h0
  have lt0 : ∀ x ∈ p0, x.block < W.heap.size := by obtain ⟨m, hm⟩ := k0; exact DataW.trod_lt m _ _ _ hm
  obtain ⟨cs0, y0, rfl, hK0, hs0, hw0⟩ := HRow.arg_struct Try.underlying26 opens26 (hval 0 26 v0 rfl rfl) h0
  obtain ⟨a1, rfl, rfl, rfl, w1⟩ := open_int Try.underlying3 (hval 1 3 v1 rfl rfl) h1
  clear hA0
  simp only [List.append_nil] at hW' hk
  have hb : ((fun x => (fun x => (fun l => (l.map (fun l => (l.map (fun _ => 1)).sum + 1)).sum + 1) x.1 + (fun l => (l.map (fun x => (fun x => (fun x => (fun _ => 1) x.1 + (fun x => (fun _ => 1) x.1 + (fun _ => 1) x.2) x.2) x + 1) ((fun x : PAN.S49 => (x.f0, x.f1, x.f2)) x))).sum + 1) x.2) x + 1) y0) ≤ 1048576 := by
    have h := of_decide_eq_true hk
    simp only [List.cons_append, List.nil_append, Rows.uptoBulkAll, Rows.uptoBulk] at h
    (try dsimp only at hs0 ⊢)
    omega
  obtain ⟨lc, lm⟩ := y0
  obtain ⟨_, _, rfl, ⟨A1, c1, rfl, hc1, hr1⟩, ⟨B2, e2, rfl, gc2, gr2⟩⟩ := hK0
  have g1 : ∀ c ∈ lc, c.length + 1 ≤ _ := fun c hc => by
    have h1 := HRow.le_sum (f := fun l : List Int => (l.map (fun _ => 1)).sum + 1) hc
    rwa [HRow.ones_sum] at h1
  have g2 := HRow.len_sum (f := fun l : List Int => (l.map (fun _ => 1)).sum + 1) (fun l => by omega) lc
  have g5 : (lm.map (fun x : PAN.S49 => (fun x : Int × Int × Int => (fun x : Int × Int × Int => (fun _ => 1) x.1 + (fun x : Int × Int => (fun _ => 1) x.1 + (fun _ => 1) x.2) x.2) x + 1) ((fun x : PAN.S49 => (x.f0, x.f1, x.f2)) x))).sum = lm.length * 4 := PAN.sum_const lm 4
  have hlm4 : lm.length * 4 ≤ 1048576 := by (try dsimp only at hb g5); omega
  have hW : PAN.Wf lc lm := ⟨fun c hc x hx => hw0.1 c hc x hx, fun m hm => hw0.2 m hm, by omega, by (try dsimp only at hb); omega, fun c hc => by have := g1 c hc; (try dsimp only at hb); omega⟩
  refine (PAN.own_walk A1 c1 lc B2 e2 lm a1 W hr1 hc1 gr2 gc2 hW (by omega)).mono fun e W' ⟨he, bel0⟩ => ?_
  subst he
  have bel : Below W.heap.size W W' := by first | exact bel0 | exact bel0.below
  exact ⟨_, rfl, _, _, _, [], _, [], hW', trodAll_mk1 (shut_bool Try.underlying4 _), (trodAll_cons_mk (Below.trod laidOut (by kernel_rfl) (of_decide_eq_true (by kernel_rfl)) k0 bel lt0) (trodAll_cons_mk (shut_int Try.underlying3 w1) trodAll_mk0)), rfl, bel.frame _, fun h => by cases h⟩
set_option maxRecDepth 100000 in
theorem lifted (os : Os) (started : os.Started) (H : Type) (enc : TypeId × Value → H) (F : Stop.Interp) :
    ReturnsInHanded {} Try.checked os 11 .any ((Rows.OpenSpec.upto Rows.analyseOwnSpec).pre6 enc Try.prog Try.f11 Rows.analyseOwnUptoRow.domain false) (((Rows.OpenSpec.upto Rows.analyseOwnSpec).at F).post enc Try.prog Try.f11 false true false false) := by
  refine returnsInHanded_of_cond (C := Try.checked) (s := Rows.OpenSpec.upto Rows.analyseOwnSpec) (k := Rows.uptoSmall) rfl own started (by kernel_rfl) Try.func11
    (OpenSpec.witness (enc := enc) (C := Try.checked) (s := Rows.OpenSpec.upto Rows.analyseOwnSpec) (k := Rows.uptoSmall) rfl false ⟨#[], #[.agg #[.slice none 0 0, .slice none 0 0], .int .i64 0], []⟩ 8 (by kernel_rfl) (by kernel_rfl) (by kernel_rfl)
      (x := ([.agg [.nil, .nil], .lit (.int .i64 0)], [], [])) (by kernel_rfl) rfl (by kernel_rfl)) ?_
  intro W base args ds gs before hval hW _ hk _
  exact contract H enc W base args ds gs before hval hW hk
theorem proved : Rows.AnalyseOwnUptoSaid :=
  OpenClaim.holds_of_cond 11 Try.f11 rfl rfl rfl rfl rfl rfl rfl ⟨rfl, rfl, rfl, rfl, rfl⟩ rfl rfl rfl rfl rfl (by kernel_rfl) Try.func11 (by kernel_rfl)
    (of_decide_eq_true (by kernel_rfl)) (by unfold Func.isWrapper; first | (rw [if_pos (by decide +kernel)]; kernel_rfl) | (rw [if_neg (by decide +kernel)]; exact ⟨rfl, rfl⟩))
    (fun os started H enc _ F => lifted os started H enc F)
#print axioms proved
end Go.Proofs.Ytboalbiicmcljaa.analyseOwn
namespace Go.Proofs.Ytboalbiicmcljaa
theorem analyseOwn_holds : Rows.AnalyseOwnUptoSaid := analyseOwn.proved
end Go.Proofs.Ytboalbiicmcljaa
