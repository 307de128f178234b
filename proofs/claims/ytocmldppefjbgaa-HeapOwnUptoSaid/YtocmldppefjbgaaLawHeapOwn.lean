/-
  The law HeapOwn is true of every input of bulk at most 1048576: it returns true, and what came in reads as it did.
-/
import Derived.Test.YtocmldppefjbgaaRows
import Derived.Test.YtocmldppefjbgaaHp16
import Derived.Test.YtocmldppefjbgaaHStruct
import Derived.WalkKit
import Derived.ProofKit
import Derived.OpenShut
import Derived.ShutString
import Derived.ChangeOld
import Derived.Below
import Derived.JoinedCond
import Derived.SizedLaws
namespace Go.Proofs.Ytocmldppefjbgaa.heapOwn
open Go.ChangeShapes Go.WideShapes Go.ChangeAt Go.RowKit Go.Proofs.YtocmldppefjbgaaW.PrintWords
open Go.ChangeMaps (open_string shut_string)
set_option linter.unusedVariables false
set_option linter.unusedSimpArgs false
set_option maxRecDepth 100000
theorem own : ownKnob Try.prog.godebug = none := by kernel_rfl
theorem laidOut : laidOutB Try.prog = true := by kernel_rfl
theorem opens3 : HRow.Opens Try.prog 3 (Kd.int .i64) (fun _ => 1) (fun x => (Lit.int .i64 x).wf = true) := HRow.opens_int Try.underlying3 (by kernel_rfl)
theorem opens82 : HRow.Opens Try.prog 82 (Kd.pair (Kd.int .i64) (Kd.pair (Kd.int .i64) (Kd.int .i64))) (fun x => (fun x => (fun _ => 1) x.1 + (fun x => (fun _ => 1) x.1 + (fun _ => 1) x.2) x.2) x + 1) (fun x => (fun x => (Lit.int .i64 x).wf = true) x.1 ∧ (fun x => (fun x => (Lit.int .i64 x).wf = true) x.1 ∧ (fun x => (Lit.int .i64 x).wf = true) x.2) x.2) := by
  refine HRow.opens_struct Try.underlying82 (by kernel_rfl) ?_
  refine HRow.opensF_cons (o := 1) (o0 := 0) (d := (Kd.int .i64)) (sz := (fun _ => 1)) (wf := (fun x => (Lit.int .i64 x).wf = true)) ?_ ?_ ?_ (HRow.opensF_cons (o := 2) (o0 := 1) (d := (Kd.int .i64)) (sz := (fun _ => 1)) (wf := (fun x => (Lit.int .i64 x).wf = true)) ?_ ?_ ?_ (HRow.opensF_last (o := 2) (d := (Kd.int .i64)) (sz := (fun _ => 1)) (wf := (fun x => (Lit.int .i64 x).wf = true)) ?_ ?_))
  all_goals first | rfl | exact opens3

theorem opens47 : HRow.Opens Try.prog 47 (Kd.slice 82 (Kd.pair (Kd.int .i64) (Kd.pair (Kd.int .i64) (Kd.int .i64)))) (fun l => (l.map (fun x => (fun x => (fun _ => 1) x.1 + (fun x => (fun _ => 1) x.1 + (fun _ => 1) x.2) x.2) x + 1)).sum + 1) (fun l => ∀ x ∈ l, (fun x => (fun x => (Lit.int .i64 x).wf = true) x.1 ∧ (fun x => (fun x => (Lit.int .i64 x).wf = true) x.1 ∧ (fun x => (Lit.int .i64 x).wf = true) x.2) x.2) x) := HRow.opens_slice Try.underlying47 (by kernel_rfl) opens82
theorem contract (H : Type) (enc : TypeId × Value → H) (W : World) (base : Nat) (args : Array Value) (ds gs : List (DataW H)) (before : List MemPlace)
    (hval : ∀ (j : Nat) t v, Try.f5.params[j]? = some t → args[j]? = some v → Value.okWide Try.prog W .any base t v)
    (hW : DataW.Whole enc Try.prog Try.f5.params.toList Rows.heapOwnSpec.vars false W args.toList ds gs before) (hk : Rows.uptoSmall H (ds ++ gs) = true) :
    Calls Try.prog 5 args W fun e W' => ∃ v, e = .returned v ∧ Rows.heapOwnSpec.post enc Try.prog Try.f5 false true false false W args v W' := by
  have hW' := hW
  obtain ⟨p, q, hA0, hV, rfl, hfz, hnd⟩ := hW
  have hA : DataW.TrodAll enc Try.prog W 0 (fun _ => true) true Try.f5.params.toList args.toList ds p := hA0
  rw [Try.params5] at hA hval
  obtain ⟨v0, vs0, d0, ds0, p0, q0, hargs, rfl, rfl, h0, r0⟩ := trodAll_cons hA
  obtain ⟨v1, vs1, d1, ds1, p1, q1, rfl, rfl, rfl, h1, r1⟩ := trodAll_cons r0
  obtain ⟨rfl, rfl, rfl⟩ := trodAll_nil r1
  obtain rfl : args = #[v0, v1] := by cases args; simp_all
  obtain ⟨rfl, rfl⟩ := trodVars_none hV
  obtain ⟨a0, rfl, rfl, rfl, w0⟩ := open_int Try.underlying3 (hval 0 3 v0 rfl rfl) h0
  have k1 := h1
  have lt1 : ∀ x ∈ p1, x.block < W.heap.size := by obtain ⟨m, hm⟩ := k1; exact DataW.trod_lt m _ _ _ hm
  obtain ⟨A1, c1, l1, rfl, hc1, hr1, hs1, hw1⟩ := HRow.arg_slice Try.underlying47 (by kernel_rfl) opens82 (hval 1 47 v1 rfl rfl) h1
  clear hA0
  simp only [List.append_nil] at hW' hk
  have hb : ((l1.map (fun x => (fun x => (fun _ => 1) x.1 + (fun x => (fun _ => 1) x.1 + (fun _ => 1) x.2) x.2) x + 1)).sum + 1) ≤ 1048576 := by
    have h := of_decide_eq_true hk
    simp only [List.cons_append, List.nil_append, Rows.uptoBulkAll, Rows.uptoBulk] at h
    (try dsimp only at hs1 ⊢)
    omega
  have g2 := HRow.len_sum (f := (fun x : Int × Int × Int => (fun x : Int × Int × Int => (fun _ => 1) x.1 + (fun x : Int × Int => (fun _ => 1) x.1 + (fun _ => 1) x.2) x.2) x + 1)) (fun x => by (try dsimp only); omega) l1
  have hl0 : l1.length ≤ 4194304 := by (try dsimp only at hb g2); omega
  refine (PHP.hl_own a0 A1 c1 l1 W hr1 hl0).mono fun e W' ⟨he, bel0⟩ => ?_
  subst he
  have bel : Below W.heap.size W W' := by first | exact bel0 | exact bel0.below
  exact ⟨_, rfl, _, _, _, [], _, [], hW', trodAll_mk1 (shut_bool Try.underlying4 _), (trodAll_cons_mk (shut_int Try.underlying3 w0) (trodAll_cons_mk (Below.trod laidOut (by kernel_rfl) (of_decide_eq_true (by kernel_rfl)) k1 bel lt1) trodAll_mk0)), rfl, bel.frame _, fun h => by cases h⟩
set_option maxRecDepth 100000 in
theorem lifted (os : Os) (started : os.Started) (H : Type) (enc : TypeId × Value → H) (F : Stop.Interp) :
    ReturnsInHanded {} Try.checked os 5 .any ((Rows.OpenSpec.upto Rows.heapOwnSpec).pre6 enc Try.prog Try.f5 Rows.heapOwnUptoRow.domain false) (((Rows.OpenSpec.upto Rows.heapOwnSpec).at F).post enc Try.prog Try.f5 false true false false) := by
  refine returnsInHanded_of_cond (C := Try.checked) (s := Rows.OpenSpec.upto Rows.heapOwnSpec) (k := Rows.uptoSmall) rfl own started (by kernel_rfl) Try.func5
    (OpenSpec.witness (enc := enc) (C := Try.checked) (s := Rows.OpenSpec.upto Rows.heapOwnSpec) (k := Rows.uptoSmall) rfl false ⟨#[], #[.int .i64 0, .slice none 0 0], []⟩ 8 (by kernel_rfl) (by kernel_rfl) (by kernel_rfl)
      (x := ([.lit (.int .i64 0), .nil], [], [])) (by kernel_rfl) rfl (by kernel_rfl)) ?_
  intro W base args ds gs before hval hW _ hk _
  exact contract H enc W base args ds gs before hval hW hk
theorem proved : Rows.HeapOwnUptoSaid :=
  OpenClaim.holds_of_cond 5 Try.f5 rfl rfl rfl rfl rfl rfl rfl ⟨rfl, rfl, rfl, rfl, rfl⟩ rfl rfl rfl rfl rfl (by kernel_rfl) Try.func5 (by kernel_rfl)
    (of_decide_eq_true (by kernel_rfl)) (by unfold Func.isWrapper; first | (rw [if_pos (by decide +kernel)]; kernel_rfl) | (rw [if_neg (by decide +kernel)]; exact ⟨rfl, rfl⟩))
    (fun os started H enc _ F => lifted os started H enc F)
#print axioms proved
end Go.Proofs.Ytocmldppefjbgaa.heapOwn
namespace Go.Proofs.Ytocmldppefjbgaa
theorem heapOwn_holds : Rows.HeapOwnUptoSaid := heapOwn.proved
end Go.Proofs.Ytocmldppefjbgaa
