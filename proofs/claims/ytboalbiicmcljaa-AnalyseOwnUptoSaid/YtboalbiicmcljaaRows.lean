/-
  No cell of these rows narrows 'for every input' (looked for: loops, veiled, ifaces, maps, wideKeys, modest, calm, conditions, laid).
  DERIVED. THE GIVEN ROWS OF THIS SEAT. 11 by the template 'for every input the law returns true; each argument reads behind the call as it read before'; 0 by the template 'total and deterministic' (their statements: YtboalbiicmcljaaTotals.lean).
  GIVEN WITH THE SEED: the statements are not yours to turn. If you find one false, say at which input.
  Laid BY PROGRAM, IN A SANDBOX (cutbox-rows.mjs): the forced cells as the released guide's own fill.sh prints them over the translation 379c57520ea052f0… (all of the seat's roots in one cut). By AI agents, Wed Nov 11 2026. No macro, syntax, notation, axiom, sorry.
-/
import Derived.Test.YtboalbiicmcljaaChecked
import GoSem.Claim
import GoSem.ClaimJoined
import GoSem.ClaimMapViews
import Derived.JoinedTies
import Derived.KernelRfl
namespace Go.Proofs.Ytboalbiicmcljaa
/- THE CELL 'sum', in the pinned program and in every row, IS THE sha256 OF THE DUMP (.gsa) THAT YtboalbiicmcljaaProg.lean LOADS. Nothing in Lean hashes anything: it is a label: what it is worth is what the hold of that sum in a sandbox is worth. -/
noncomputable def Try.pinned : Pinned := { name := "ytboalbiicmcljaa", sum := "379c57520ea052f0803b43ff9cb11ddeda618221c6a012e966dd3ad6492dc989", checked := Try.checked }
namespace Rows
def none {H : Type} : Left H := { results := [], args := [] }

/-- 'fulcrumlaw21.AnalyseConsts': WHATEVER THE INPUT: true; the input reads as it did. -/
def analyseConstsSpec : ChangeSpec := { name := "analyseConsts", fn := fun _ => fun
  | [] => { results := [.lit (.bool true)], args := [] }
  | _ => none }
def analyseConstsRow : OpenClaim := { program := "ytboalbiicmcljaa", sum := "379c57520ea052f0803b43ff9cb11ddeda618221c6a012e966dd3ad6492dc989", func := "fulcrum/fulcrumlaw21.AnalyseConsts", spec := "analyseConsts", unfollowed := true, recurses := true, apart := false }
def AnalyseConstsSaid : Prop := analyseConstsRow.holds Try.pinned (OpenSpec.ofChange analyseConstsSpec)

/-- ITS FALSE NEIGHBOUR: 'it returns false'. Refute it at one input. -/
def analyseConstsWrong : ChangeSpec := { name := "analyseConsts", fn := fun _ => fun
  | [] => { results := [.lit (.bool false)], args := [] }
  | _ => none }
def AnalyseConstsWrongFalsely : Prop := analyseConstsRow.holds Try.pinned (OpenSpec.ofChange analyseConstsWrong)

/-- 'fulcrumlaw21.AnalyseFirsts': WHATEVER THE INPUT: true; the input reads as it did. -/
def analyseFirstsSpec : ChangeSpec := { name := "analyseFirsts", fn := fun _ => fun
  | [d1, d2] => { results := [.lit (.bool true)], args := [d1, d2] }
  | _ => none }
def analyseFirstsRow : OpenClaim := { program := "ytboalbiicmcljaa", sum := "379c57520ea052f0803b43ff9cb11ddeda618221c6a012e966dd3ad6492dc989", func := "fulcrum/fulcrumlaw21.AnalyseFirsts", spec := "analyseFirsts", unfollowed := true, recurses := true, apart := false }
def AnalyseFirstsSaid : Prop := analyseFirstsRow.holds Try.pinned (OpenSpec.ofChange analyseFirstsSpec)

/-- ITS FALSE NEIGHBOUR: 'it returns false'. Refute it at one input. -/
def analyseFirstsWrong : ChangeSpec := { name := "analyseFirsts", fn := fun _ => fun
  | [d1, d2] => { results := [.lit (.bool false)], args := [d1, d2] }
  | _ => none }
def AnalyseFirstsWrongFalsely : Prop := analyseFirstsRow.holds Try.pinned (OpenSpec.ofChange analyseFirstsWrong)

/-- 'fulcrumlaw21.AnalyseChecks': WHATEVER THE INPUT: true; the input reads as it did. -/
def analyseChecksSpec : ChangeSpec := { name := "analyseChecks", fn := fun _ => fun
  | [d] => { results := [.lit (.bool true)], args := [d] }
  | _ => none }
def analyseChecksRow : OpenClaim := { program := "ytboalbiicmcljaa", sum := "379c57520ea052f0803b43ff9cb11ddeda618221c6a012e966dd3ad6492dc989", func := "fulcrum/fulcrumlaw21.AnalyseChecks", spec := "analyseChecks", unfollowed := true, recurses := true, apart := false }
def AnalyseChecksSaid : Prop := analyseChecksRow.holds Try.pinned (OpenSpec.ofChange analyseChecksSpec)

/-- ITS FALSE NEIGHBOUR: 'it returns false'. Refute it at one input. -/
def analyseChecksWrong : ChangeSpec := { name := "analyseChecks", fn := fun _ => fun
  | [d] => { results := [.lit (.bool false)], args := [d] }
  | _ => none }
def AnalyseChecksWrongFalsely : Prop := analyseChecksRow.holds Try.pinned (OpenSpec.ofChange analyseChecksWrong)

/-- 'fulcrumlaw21.AnalyseGlues': WHATEVER THE INPUT: true; the input reads as it did. -/
def analyseGluesSpec : ChangeSpec := { name := "analyseGlues", fn := fun _ => fun
  | [d1, d2] => { results := [.lit (.bool true)], args := [d1, d2] }
  | _ => none }
def analyseGluesRow : OpenClaim := { program := "ytboalbiicmcljaa", sum := "379c57520ea052f0803b43ff9cb11ddeda618221c6a012e966dd3ad6492dc989", func := "fulcrum/fulcrumlaw21.AnalyseGlues", spec := "analyseGlues", unfollowed := true, recurses := true, apart := false }
def AnalyseGluesSaid : Prop := analyseGluesRow.holds Try.pinned (OpenSpec.ofChange analyseGluesSpec)

/-- ITS FALSE NEIGHBOUR: 'it returns false'. Refute it at one input. -/
def analyseGluesWrong : ChangeSpec := { name := "analyseGlues", fn := fun _ => fun
  | [d1, d2] => { results := [.lit (.bool false)], args := [d1, d2] }
  | _ => none }
def AnalyseGluesWrongFalsely : Prop := analyseGluesRow.holds Try.pinned (OpenSpec.ofChange analyseGluesWrong)

/-- 'fulcrumlaw21.AnalyseFinals': WHATEVER THE INPUT: true; the input reads as it did. -/
def analyseFinalsSpec : ChangeSpec := { name := "analyseFinals", fn := fun _ => fun
  | [d1, d2] => { results := [.lit (.bool true)], args := [d1, d2] }
  | _ => none }
def analyseFinalsRow : OpenClaim := { program := "ytboalbiicmcljaa", sum := "379c57520ea052f0803b43ff9cb11ddeda618221c6a012e966dd3ad6492dc989", func := "fulcrum/fulcrumlaw21.AnalyseFinals", spec := "analyseFinals", unfollowed := true, recurses := true, apart := false }
def AnalyseFinalsSaid : Prop := analyseFinalsRow.holds Try.pinned (OpenSpec.ofChange analyseFinalsSpec)

/-- ITS FALSE NEIGHBOUR: 'it returns false'. Refute it at one input. -/
def analyseFinalsWrong : ChangeSpec := { name := "analyseFinals", fn := fun _ => fun
  | [d1, d2] => { results := [.lit (.bool false)], args := [d1, d2] }
  | _ => none }
def AnalyseFinalsWrongFalsely : Prop := analyseFinalsRow.holds Try.pinned (OpenSpec.ofChange analyseFinalsWrong)

/-- 'fulcrumlaw21.AnalyseLeans': WHATEVER THE INPUT: true; the input reads as it did. -/
def analyseLeansSpec : ChangeSpec := { name := "analyseLeans", fn := fun _ => fun
  | [d1, d2, d3] => { results := [.lit (.bool true)], args := [d1, d2, d3] }
  | _ => none }
def analyseLeansRow : OpenClaim := { program := "ytboalbiicmcljaa", sum := "379c57520ea052f0803b43ff9cb11ddeda618221c6a012e966dd3ad6492dc989", func := "fulcrum/fulcrumlaw21.AnalyseLeans", spec := "analyseLeans", unfollowed := true, recurses := true, apart := false }
def AnalyseLeansSaid : Prop := analyseLeansRow.holds Try.pinned (OpenSpec.ofChange analyseLeansSpec)

/-- ITS FALSE NEIGHBOUR: 'it returns false'. Refute it at one input. -/
def analyseLeansWrong : ChangeSpec := { name := "analyseLeans", fn := fun _ => fun
  | [d1, d2, d3] => { results := [.lit (.bool false)], args := [d1, d2, d3] }
  | _ => none }
def AnalyseLeansWrongFalsely : Prop := analyseLeansRow.holds Try.pinned (OpenSpec.ofChange analyseLeansWrong)

/-- 'fulcrumlaw21.AnalyseLesses': WHATEVER THE INPUT: true; the input reads as it did. -/
def analyseLessesSpec : ChangeSpec := { name := "analyseLesses", fn := fun _ => fun
  | [d1, d2] => { results := [.lit (.bool true)], args := [d1, d2] }
  | _ => none }
def analyseLessesRow : OpenClaim := { program := "ytboalbiicmcljaa", sum := "379c57520ea052f0803b43ff9cb11ddeda618221c6a012e966dd3ad6492dc989", func := "fulcrum/fulcrumlaw21.AnalyseLesses", spec := "analyseLesses", unfollowed := true, recurses := true, apart := false }
def AnalyseLessesSaid : Prop := analyseLessesRow.holds Try.pinned (OpenSpec.ofChange analyseLessesSpec)

/-- ITS FALSE NEIGHBOUR: 'it returns false'. Refute it at one input. -/
def analyseLessesWrong : ChangeSpec := { name := "analyseLesses", fn := fun _ => fun
  | [d1, d2] => { results := [.lit (.bool false)], args := [d1, d2] }
  | _ => none }
def AnalyseLessesWrongFalsely : Prop := analyseLessesRow.holds Try.pinned (OpenSpec.ofChange analyseLessesWrong)

/-- 'fulcrumlaw21.AnalyseImplies': WHATEVER THE INPUT: true; the input reads as it did. -/
def analyseImpliesSpec : ChangeSpec := { name := "analyseImplies", fn := fun _ => fun
  | [d1, d2, d3] => { results := [.lit (.bool true)], args := [d1, d2, d3] }
  | _ => none }
def analyseImpliesRow : OpenClaim := { program := "ytboalbiicmcljaa", sum := "379c57520ea052f0803b43ff9cb11ddeda618221c6a012e966dd3ad6492dc989", func := "fulcrum/fulcrumlaw21.AnalyseImplies", spec := "analyseImplies", unfollowed := true, recurses := true, apart := false }
def AnalyseImpliesSaid : Prop := analyseImpliesRow.holds Try.pinned (OpenSpec.ofChange analyseImpliesSpec)

/-- ITS FALSE NEIGHBOUR: 'it returns false'. Refute it at one input. -/
def analyseImpliesWrong : ChangeSpec := { name := "analyseImplies", fn := fun _ => fun
  | [d1, d2, d3] => { results := [.lit (.bool false)], args := [d1, d2, d3] }
  | _ => none }
def AnalyseImpliesWrongFalsely : Prop := analyseImpliesRow.holds Try.pinned (OpenSpec.ofChange analyseImpliesWrong)

/-- 'fulcrumlaw21.AnalyseOwn': WHATEVER THE INPUT: true; the input reads as it did. -/
def analyseOwnSpec : ChangeSpec := { name := "analyseOwn", fn := fun _ => fun
  | [d1, d2] => { results := [.lit (.bool true)], args := [d1, d2] }
  | _ => none }
def analyseOwnRow : OpenClaim := { program := "ytboalbiicmcljaa", sum := "379c57520ea052f0803b43ff9cb11ddeda618221c6a012e966dd3ad6492dc989", func := "fulcrum/fulcrumlaw21.AnalyseOwn", spec := "analyseOwn", unfollowed := true, recurses := true, apart := false }
def AnalyseOwnSaid : Prop := analyseOwnRow.holds Try.pinned (OpenSpec.ofChange analyseOwnSpec)

/-- ITS FALSE NEIGHBOUR: 'it returns false'. Refute it at one input. -/
def analyseOwnWrong : ChangeSpec := { name := "analyseOwn", fn := fun _ => fun
  | [d1, d2] => { results := [.lit (.bool false)], args := [d1, d2] }
  | _ => none }
def AnalyseOwnWrongFalsely : Prop := analyseOwnRow.holds Try.pinned (OpenSpec.ofChange analyseOwnWrong)

/-- 'fulcrumlaw21.AnalyseReplays': WHATEVER THE INPUT: true; the input reads as it did. -/
def analyseReplaysSpec : ChangeSpec := { name := "analyseReplays", fn := fun _ => fun
  | [d1, d2] => { results := [.lit (.bool true)], args := [d1, d2] }
  | _ => none }
def analyseReplaysRow : OpenClaim := { program := "ytboalbiicmcljaa", sum := "379c57520ea052f0803b43ff9cb11ddeda618221c6a012e966dd3ad6492dc989", func := "fulcrum/fulcrumlaw21.AnalyseReplays", spec := "analyseReplays", unfollowed := true, recurses := true, apart := false }
def AnalyseReplaysSaid : Prop := analyseReplaysRow.holds Try.pinned (OpenSpec.ofChange analyseReplaysSpec)

/-- ITS FALSE NEIGHBOUR: 'it returns false'. Refute it at one input. -/
def analyseReplaysWrong : ChangeSpec := { name := "analyseReplays", fn := fun _ => fun
  | [d1, d2] => { results := [.lit (.bool false)], args := [d1, d2] }
  | _ => none }
def AnalyseReplaysWrongFalsely : Prop := analyseReplaysRow.holds Try.pinned (OpenSpec.ofChange analyseReplaysWrong)

/-- 'fulcrumlaw21.AnalyseTeaches': WHATEVER THE INPUT: true; the input reads as it did. -/
def analyseTeachesSpec : ChangeSpec := { name := "analyseTeaches", fn := fun _ => fun
  | [d1, d2] => { results := [.lit (.bool true)], args := [d1, d2] }
  | _ => none }
def analyseTeachesRow : OpenClaim := { program := "ytboalbiicmcljaa", sum := "379c57520ea052f0803b43ff9cb11ddeda618221c6a012e966dd3ad6492dc989", func := "fulcrum/fulcrumlaw21.AnalyseTeaches", spec := "analyseTeaches", unfollowed := true, recurses := true, apart := false }
def AnalyseTeachesSaid : Prop := analyseTeachesRow.holds Try.pinned (OpenSpec.ofChange analyseTeachesSpec)

/-- ITS FALSE NEIGHBOUR: 'it returns false'. Refute it at one input. -/
def analyseTeachesWrong : ChangeSpec := { name := "analyseTeaches", fn := fun _ => fun
  | [d1, d2] => { results := [.lit (.bool false)], args := [d1, d2] }
  | _ => none }
def AnalyseTeachesWrongFalsely : Prop := analyseTeachesRow.holds Try.pinned (OpenSpec.ofChange analyseTeachesWrong)

/- THE SECOND FORM. 'bulk': how many values and letters a reading holds, each counted each time it is reached (what is shared counts as often as it is met; a slice's spare places count too). A statement '..UptoSaid' is the law's where the arguments, and the package variables that the reading takes, are together of bulk at most 1048576: NARROWER than '..Said'. Prove '..Said' where nothing that the law and all that it calls make is longer than what came in: it says more and counts as full. Else prove '..UptoSaid'. A law counts once. -/
mutual
def uptoBulk {H : Type} : DataW H → Nat
  | .lit (.string bytes) => bytes.length + 1
  | .lit _ => 1
  | .nil => 1
  | .ptr d => uptoBulk d + 1
  | .slice elems spare => uptoBulkAll elems + uptoBulkAll spare + 1
  | .agg parts => uptoBulkAll parts + 1
  | .iface _ d => uptoBulk d + 1
  | .map entries => uptoBulkEntries entries + 1
  | .held _ => 1
def uptoBulkAll {H : Type} : List (DataW H) → Nat
  | [] => 0
  | d :: r => uptoBulk d + uptoBulkAll r
def uptoBulkEntries {H : Type} : List (Lit × DataW H) → Nat
  | [] => 0
  | x :: r => uptoBulkEntry x + uptoBulkEntries r
def uptoBulkEntry {H : Type} : Lit × DataW H → Nat
  | (.string bytes, d) => bytes.length + uptoBulk d + 1
  | (_, d) => uptoBulk d + 1
 end
def uptoSmall : (H : Type) → List (DataW H) → Bool := fun _ ds => decide (uptoBulkAll ds ≤ 1048576)
def OpenSpec.upto (s : _root_.Go.ChangeSpec) : _root_.Go.OpenSpec := { _root_.Go.OpenSpec.ofChange s with cond := some uptoSmall }

/-- 'fulcrumlaw21.AnalyseConsts', WHERE WHAT IT READS IS OF BULK AT MOST 1048576: true; the input reads as it did. -/
def analyseConstsUptoRow : OpenClaim := { program := "ytboalbiicmcljaa", sum := "379c57520ea052f0803b43ff9cb11ddeda618221c6a012e966dd3ad6492dc989", func := "fulcrum/fulcrumlaw21.AnalyseConsts", spec := "analyseConsts", unfollowed := true, recurses := true, apart := false, narrowed := true }
def AnalyseConstsUptoSaid : Prop := analyseConstsUptoRow.holds Try.pinned (OpenSpec.upto analyseConstsSpec)

/-- 'fulcrumlaw21.AnalyseFirsts', WHERE WHAT IT READS IS OF BULK AT MOST 1048576: true; the input reads as it did. -/
def analyseFirstsUptoRow : OpenClaim := { program := "ytboalbiicmcljaa", sum := "379c57520ea052f0803b43ff9cb11ddeda618221c6a012e966dd3ad6492dc989", func := "fulcrum/fulcrumlaw21.AnalyseFirsts", spec := "analyseFirsts", unfollowed := true, recurses := true, apart := false, narrowed := true }
def AnalyseFirstsUptoSaid : Prop := analyseFirstsUptoRow.holds Try.pinned (OpenSpec.upto analyseFirstsSpec)

/-- 'fulcrumlaw21.AnalyseChecks', WHERE WHAT IT READS IS OF BULK AT MOST 1048576: true; the input reads as it did. -/
def analyseChecksUptoRow : OpenClaim := { program := "ytboalbiicmcljaa", sum := "379c57520ea052f0803b43ff9cb11ddeda618221c6a012e966dd3ad6492dc989", func := "fulcrum/fulcrumlaw21.AnalyseChecks", spec := "analyseChecks", unfollowed := true, recurses := true, apart := false, narrowed := true }
def AnalyseChecksUptoSaid : Prop := analyseChecksUptoRow.holds Try.pinned (OpenSpec.upto analyseChecksSpec)

/-- 'fulcrumlaw21.AnalyseGlues', WHERE WHAT IT READS IS OF BULK AT MOST 1048576: true; the input reads as it did. -/
def analyseGluesUptoRow : OpenClaim := { program := "ytboalbiicmcljaa", sum := "379c57520ea052f0803b43ff9cb11ddeda618221c6a012e966dd3ad6492dc989", func := "fulcrum/fulcrumlaw21.AnalyseGlues", spec := "analyseGlues", unfollowed := true, recurses := true, apart := false, narrowed := true }
def AnalyseGluesUptoSaid : Prop := analyseGluesUptoRow.holds Try.pinned (OpenSpec.upto analyseGluesSpec)

/-- 'fulcrumlaw21.AnalyseFinals', WHERE WHAT IT READS IS OF BULK AT MOST 1048576: true; the input reads as it did. -/
def analyseFinalsUptoRow : OpenClaim := { program := "ytboalbiicmcljaa", sum := "379c57520ea052f0803b43ff9cb11ddeda618221c6a012e966dd3ad6492dc989", func := "fulcrum/fulcrumlaw21.AnalyseFinals", spec := "analyseFinals", unfollowed := true, recurses := true, apart := false, narrowed := true }
def AnalyseFinalsUptoSaid : Prop := analyseFinalsUptoRow.holds Try.pinned (OpenSpec.upto analyseFinalsSpec)

/-- 'fulcrumlaw21.AnalyseLeans', WHERE WHAT IT READS IS OF BULK AT MOST 1048576: true; the input reads as it did. -/
def analyseLeansUptoRow : OpenClaim := { program := "ytboalbiicmcljaa", sum := "379c57520ea052f0803b43ff9cb11ddeda618221c6a012e966dd3ad6492dc989", func := "fulcrum/fulcrumlaw21.AnalyseLeans", spec := "analyseLeans", unfollowed := true, recurses := true, apart := false, narrowed := true }
def AnalyseLeansUptoSaid : Prop := analyseLeansUptoRow.holds Try.pinned (OpenSpec.upto analyseLeansSpec)

/-- 'fulcrumlaw21.AnalyseLesses', WHERE WHAT IT READS IS OF BULK AT MOST 1048576: true; the input reads as it did. -/
def analyseLessesUptoRow : OpenClaim := { program := "ytboalbiicmcljaa", sum := "379c57520ea052f0803b43ff9cb11ddeda618221c6a012e966dd3ad6492dc989", func := "fulcrum/fulcrumlaw21.AnalyseLesses", spec := "analyseLesses", unfollowed := true, recurses := true, apart := false, narrowed := true }
def AnalyseLessesUptoSaid : Prop := analyseLessesUptoRow.holds Try.pinned (OpenSpec.upto analyseLessesSpec)

/-- 'fulcrumlaw21.AnalyseImplies', WHERE WHAT IT READS IS OF BULK AT MOST 1048576: true; the input reads as it did. -/
def analyseImpliesUptoRow : OpenClaim := { program := "ytboalbiicmcljaa", sum := "379c57520ea052f0803b43ff9cb11ddeda618221c6a012e966dd3ad6492dc989", func := "fulcrum/fulcrumlaw21.AnalyseImplies", spec := "analyseImplies", unfollowed := true, recurses := true, apart := false, narrowed := true }
def AnalyseImpliesUptoSaid : Prop := analyseImpliesUptoRow.holds Try.pinned (OpenSpec.upto analyseImpliesSpec)

/-- 'fulcrumlaw21.AnalyseOwn', WHERE WHAT IT READS IS OF BULK AT MOST 1048576: true; the input reads as it did. -/
def analyseOwnUptoRow : OpenClaim := { program := "ytboalbiicmcljaa", sum := "379c57520ea052f0803b43ff9cb11ddeda618221c6a012e966dd3ad6492dc989", func := "fulcrum/fulcrumlaw21.AnalyseOwn", spec := "analyseOwn", unfollowed := true, recurses := true, apart := false, narrowed := true }
def AnalyseOwnUptoSaid : Prop := analyseOwnUptoRow.holds Try.pinned (OpenSpec.upto analyseOwnSpec)

/-- 'fulcrumlaw21.AnalyseReplays', WHERE WHAT IT READS IS OF BULK AT MOST 1048576: true; the input reads as it did. -/
def analyseReplaysUptoRow : OpenClaim := { program := "ytboalbiicmcljaa", sum := "379c57520ea052f0803b43ff9cb11ddeda618221c6a012e966dd3ad6492dc989", func := "fulcrum/fulcrumlaw21.AnalyseReplays", spec := "analyseReplays", unfollowed := true, recurses := true, apart := false, narrowed := true }
def AnalyseReplaysUptoSaid : Prop := analyseReplaysUptoRow.holds Try.pinned (OpenSpec.upto analyseReplaysSpec)

/-- 'fulcrumlaw21.AnalyseTeaches', WHERE WHAT IT READS IS OF BULK AT MOST 1048576: true; the input reads as it did. -/
def analyseTeachesUptoRow : OpenClaim := { program := "ytboalbiicmcljaa", sum := "379c57520ea052f0803b43ff9cb11ddeda618221c6a012e966dd3ad6492dc989", func := "fulcrum/fulcrumlaw21.AnalyseTeaches", spec := "analyseTeaches", unfollowed := true, recurses := true, apart := false, narrowed := true }
def AnalyseTeachesUptoSaid : Prop := analyseTeachesUptoRow.holds Try.pinned (OpenSpec.upto analyseTeachesSpec)

end Rows
end Go.Proofs.Ytboalbiicmcljaa
