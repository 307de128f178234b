/-
  No cell of these rows narrows 'for every input' (looked for: loops, veiled, ifaces, maps, wideKeys, modest, calm, conditions, laid).
  DERIVED. THE GIVEN ROWS OF THIS SEAT. 3 by the template 'for every input the law returns true; each argument reads behind the call as it read before'; 0 by the template 'total and deterministic' (their statements: YtlbjhpbmmdboeaaTotals.lean).
  GIVEN WITH THE SEED: the statements are not yours to turn. If you find one false, say at which input.
  Laid BY PROGRAM, IN A SANDBOX (cutbox-rows.mjs): the forced cells as the released guide's own fill.sh prints them over the translation 5f59dc697a9aaf02… (all of the seat's roots in one cut). By AI agents, Wed Nov 11 2026. No macro, syntax, notation, axiom, sorry.
-/
import Derived.Test.YtlbjhpbmmdboeaaChecked
import GoSem.Claim
import GoSem.ClaimJoined
import GoSem.ClaimMapViews
import Derived.JoinedTies
import Derived.KernelRfl
namespace Go.Proofs.Ytlbjhpbmmdboeaa
/- THE CELL 'sum', in the pinned program and in every row, IS THE sha256 OF THE DUMP (.gsa) THAT YtlbjhpbmmdboeaaProg.lean LOADS. Nothing in Lean hashes anything: it is a label: what it is worth is what the hold of that sum in a sandbox is worth. -/
noncomputable def Try.pinned : Pinned := { name := "ytlbjhpbmmdboeaa", sum := "5f59dc697a9aaf02528e212c4ab7d43c72207ab573d3395500cfd1fd68fb0295", checked := Try.checked }
namespace Rows
def none {H : Type} : Left H := { results := [], args := [] }

/-- 'fulcrumlaw25.CheckerUnits': WHATEVER THE INPUT: true; the input reads as it did. -/
def checkerUnitsSpec : ChangeSpec := { name := "checkerUnits", fn := fun _ => fun
  | [d1, d2] => { results := [.lit (.bool true)], args := [d1, d2] }
  | _ => none }
def checkerUnitsRow : OpenClaim := { program := "ytlbjhpbmmdboeaa", sum := "5f59dc697a9aaf02528e212c4ab7d43c72207ab573d3395500cfd1fd68fb0295", func := "fulcrum/fulcrumlaw25.CheckerUnits", spec := "checkerUnits", apart := false }
def CheckerUnitsSaid : Prop := checkerUnitsRow.holds Try.pinned (OpenSpec.ofChange checkerUnitsSpec)

/-- ITS FALSE NEIGHBOUR: 'it returns false'. Refute it at one input. -/
def checkerUnitsWrong : ChangeSpec := { name := "checkerUnits", fn := fun _ => fun
  | [d1, d2] => { results := [.lit (.bool false)], args := [d1, d2] }
  | _ => none }
def CheckerUnitsWrongFalsely : Prop := checkerUnitsRow.holds Try.pinned (OpenSpec.ofChange checkerUnitsWrong)

/-- 'fulcrumlaw25.CheckerFollows': WHATEVER THE INPUT: true; the input reads as it did. -/
def checkerFollowsSpec : ChangeSpec := { name := "checkerFollows", fn := fun _ => fun
  | [d1, d2, d3] => { results := [.lit (.bool true)], args := [d1, d2, d3] }
  | _ => none }
def checkerFollowsRow : OpenClaim := { program := "ytlbjhpbmmdboeaa", sum := "5f59dc697a9aaf02528e212c4ab7d43c72207ab573d3395500cfd1fd68fb0295", func := "fulcrum/fulcrumlaw25.CheckerFollows", spec := "checkerFollows", apart := false }
def CheckerFollowsSaid : Prop := checkerFollowsRow.holds Try.pinned (OpenSpec.ofChange checkerFollowsSpec)

/-- ITS FALSE NEIGHBOUR: 'it returns false'. Refute it at one input. -/
def checkerFollowsWrong : ChangeSpec := { name := "checkerFollows", fn := fun _ => fun
  | [d1, d2, d3] => { results := [.lit (.bool false)], args := [d1, d2, d3] }
  | _ => none }
def CheckerFollowsWrongFalsely : Prop := checkerFollowsRow.holds Try.pinned (OpenSpec.ofChange checkerFollowsWrong)

/-- 'fulcrumlaw25.CheckerMore': WHATEVER THE INPUT: true; the input reads as it did. -/
def checkerMoreSpec : ChangeSpec := { name := "checkerMore", fn := fun _ => fun
  | [d1, d2, d3] => { results := [.lit (.bool true)], args := [d1, d2, d3] }
  | _ => none }
def checkerMoreRow : OpenClaim := { program := "ytlbjhpbmmdboeaa", sum := "5f59dc697a9aaf02528e212c4ab7d43c72207ab573d3395500cfd1fd68fb0295", func := "fulcrum/fulcrumlaw25.CheckerMore", spec := "checkerMore", apart := false }
def CheckerMoreSaid : Prop := checkerMoreRow.holds Try.pinned (OpenSpec.ofChange checkerMoreSpec)

/-- ITS FALSE NEIGHBOUR: 'it returns false'. Refute it at one input. -/
def checkerMoreWrong : ChangeSpec := { name := "checkerMore", fn := fun _ => fun
  | [d1, d2, d3] => { results := [.lit (.bool false)], args := [d1, d2, d3] }
  | _ => none }
def CheckerMoreWrongFalsely : Prop := checkerMoreRow.holds Try.pinned (OpenSpec.ofChange checkerMoreWrong)

/- THE SECOND FORM. 'bulk': how many values and letters a reading holds, each counted each time it is reached (what is shared counts as often as it is met; a slice's spare places count too). A statement '..UptoSaid' is the law's where the arguments, and the package variables that the reading takes, are together of bulk at most 1048576: NARROWER than '..Said'. Prove '..Said' where nothing that the law and all that it calls make is longer than what came in: it says more and counts as full. Else prove '..UptoSaid'. A law counts once. -/
mutual
def uptoBulk {H : Type} : DataW H → Nat
  | .lit (.string bytes) => bytes.length + 1
  | .lit _ => 1
  | .nil => 1
  | .ptr d => uptoBulk d + 1
  | .slice elems spare => uptoBulkAll elems + uptoBulkAll spare + 1
  | .agg parts => uptoBulkAll parts + 1
  | .iface _ d => uptoBulk d + 1
  | .map entries => uptoBulkEntries entries + 1
  | .held _ => 1
def uptoBulkAll {H : Type} : List (DataW H) → Nat
  | [] => 0
  | d :: r => uptoBulk d + uptoBulkAll r
def uptoBulkEntries {H : Type} : List (Lit × DataW H) → Nat
  | [] => 0
  | x :: r => uptoBulkEntry x + uptoBulkEntries r
def uptoBulkEntry {H : Type} : Lit × DataW H → Nat
  | (.string bytes, d) => bytes.length + uptoBulk d + 1
  | (_, d) => uptoBulk d + 1
 end
def uptoSmall : (H : Type) → List (DataW H) → Bool := fun _ ds => decide (uptoBulkAll ds ≤ 1048576)
def OpenSpec.upto (s : _root_.Go.ChangeSpec) : _root_.Go.OpenSpec := { _root_.Go.OpenSpec.ofChange s with cond := some uptoSmall }

/-- 'fulcrumlaw25.CheckerUnits', WHERE WHAT IT READS IS OF BULK AT MOST 1048576: true; the input reads as it did. -/
def checkerUnitsUptoRow : OpenClaim := { program := "ytlbjhpbmmdboeaa", sum := "5f59dc697a9aaf02528e212c4ab7d43c72207ab573d3395500cfd1fd68fb0295", func := "fulcrum/fulcrumlaw25.CheckerUnits", spec := "checkerUnits", apart := false, narrowed := true }
def CheckerUnitsUptoSaid : Prop := checkerUnitsUptoRow.holds Try.pinned (OpenSpec.upto checkerUnitsSpec)

/-- 'fulcrumlaw25.CheckerFollows', WHERE WHAT IT READS IS OF BULK AT MOST 1048576: true; the input reads as it did. -/
def checkerFollowsUptoRow : OpenClaim := { program := "ytlbjhpbmmdboeaa", sum := "5f59dc697a9aaf02528e212c4ab7d43c72207ab573d3395500cfd1fd68fb0295", func := "fulcrum/fulcrumlaw25.CheckerFollows", spec := "checkerFollows", apart := false, narrowed := true }
def CheckerFollowsUptoSaid : Prop := checkerFollowsUptoRow.holds Try.pinned (OpenSpec.upto checkerFollowsSpec)

/-- 'fulcrumlaw25.CheckerMore', WHERE WHAT IT READS IS OF BULK AT MOST 1048576: true; the input reads as it did. -/
def checkerMoreUptoRow : OpenClaim := { program := "ytlbjhpbmmdboeaa", sum := "5f59dc697a9aaf02528e212c4ab7d43c72207ab573d3395500cfd1fd68fb0295", func := "fulcrum/fulcrumlaw25.CheckerMore", spec := "checkerMore", apart := false, narrowed := true }
def CheckerMoreUptoSaid : Prop := checkerMoreUptoRow.holds Try.pinned (OpenSpec.upto checkerMoreSpec)

end Rows
end Go.Proofs.Ytlbjhpbmmdboeaa
