/-
  No cell of these rows narrows 'for every input' (looked for: loops, veiled, ifaces, maps, wideKeys, modest, calm, conditions, laid).
  DERIVED. THE GIVEN ROWS OF THIS SEAT. 7 by the template 'for every input the law returns true; each argument reads behind the call as it read before'; 0 by the template 'total and deterministic' (their statements: YtegaaobiedfjcaaTotals.lean).
  GIVEN WITH THE SEED: the statements are not yours to turn. If you find one false, say at which input.
  Laid BY PROGRAM, IN A SANDBOX (cutbox-rows.mjs): the forced cells as the released guide's own fill.sh prints them over the translation 5b399f7be6255ef4… (all of the seat's roots in one cut). By AI agents, Wed Nov 11 2026. No macro, syntax, notation, axiom, sorry.
-/
import Derived.Test.YtegaaobiedfjcaaChecked
import GoSem.Claim
import GoSem.ClaimJoined
import GoSem.ClaimMapViews
import Derived.JoinedTies
import Derived.KernelRfl
namespace Go.Proofs.Ytegaaobiedfjcaa
/- THE CELL 'sum', in the pinned program and in every row, IS THE sha256 OF THE DUMP (.gsa) THAT YtegaaobiedfjcaaProg.lean LOADS. Nothing in Lean hashes anything: it is a label: what it is worth is what the hold of that sum in a sandbox is worth. -/
noncomputable def Try.pinned : Pinned := { name := "ytegaaobiedfjcaa", sum := "5b399f7be6255ef493db013dcd8076e5fc41ceb674083ac720bbbea17a0679af", checked := Try.checked }
namespace Rows
def none {H : Type} : Left H := { results := [], args := [] }

/-- 'fulcrumlaw20.UnitsMakes': WHATEVER THE INPUT: true; the input reads as it did. -/
def unitsMakesSpec : ChangeSpec := { name := "unitsMakes", fn := fun _ => fun
  | [d] => { results := [.lit (.bool true)], args := [d] }
  | _ => none }
def unitsMakesRow : OpenClaim := { program := "ytegaaobiedfjcaa", sum := "5b399f7be6255ef493db013dcd8076e5fc41ceb674083ac720bbbea17a0679af", func := "fulcrum/fulcrumlaw20.UnitsMakes", spec := "unitsMakes", apart := false }
def UnitsMakesSaid : Prop := unitsMakesRow.holds Try.pinned (OpenSpec.ofChange unitsMakesSpec)

/-- ITS FALSE NEIGHBOUR: 'it returns false'. Refute it at one input. -/
def unitsMakesWrong : ChangeSpec := { name := "unitsMakes", fn := fun _ => fun
  | [d] => { results := [.lit (.bool false)], args := [d] }
  | _ => none }
def UnitsMakesWrongFalsely : Prop := unitsMakesRow.holds Try.pinned (OpenSpec.ofChange unitsMakesWrong)

/-- 'fulcrumlaw20.UnitsFixpoint': WHATEVER THE INPUT: true; the input reads as it did. -/
def unitsFixpointSpec : ChangeSpec := { name := "unitsFixpoint", fn := fun _ => fun
  | [d1, d2, d3] => { results := [.lit (.bool true)], args := [d1, d2, d3] }
  | _ => none }
def unitsFixpointRow : OpenClaim := { program := "ytegaaobiedfjcaa", sum := "5b399f7be6255ef493db013dcd8076e5fc41ceb674083ac720bbbea17a0679af", func := "fulcrum/fulcrumlaw20.UnitsFixpoint", spec := "unitsFixpoint", unfollowed := true, recurses := true, apart := false }
def UnitsFixpointSaid : Prop := unitsFixpointRow.holds Try.pinned (OpenSpec.ofChange unitsFixpointSpec)

/-- ITS FALSE NEIGHBOUR: 'it returns false'. Refute it at one input. -/
def unitsFixpointWrong : ChangeSpec := { name := "unitsFixpoint", fn := fun _ => fun
  | [d1, d2, d3] => { results := [.lit (.bool false)], args := [d1, d2, d3] }
  | _ => none }
def UnitsFixpointWrongFalsely : Prop := unitsFixpointRow.holds Try.pinned (OpenSpec.ofChange unitsFixpointWrong)

/-- 'fulcrumlaw20.UnitsFollow': WHATEVER THE INPUT: true; the input reads as it did. -/
def unitsFollowSpec : ChangeSpec := { name := "unitsFollow", fn := fun _ => fun
  | [d1, d2] => { results := [.lit (.bool true)], args := [d1, d2] }
  | _ => none }
def unitsFollowRow : OpenClaim := { program := "ytegaaobiedfjcaa", sum := "5b399f7be6255ef493db013dcd8076e5fc41ceb674083ac720bbbea17a0679af", func := "fulcrum/fulcrumlaw20.UnitsFollow", spec := "unitsFollow", unfollowed := true, recurses := true, apart := false }
def UnitsFollowSaid : Prop := unitsFollowRow.holds Try.pinned (OpenSpec.ofChange unitsFollowSpec)

/-- ITS FALSE NEIGHBOUR: 'it returns false'. Refute it at one input. -/
def unitsFollowWrong : ChangeSpec := { name := "unitsFollow", fn := fun _ => fun
  | [d1, d2] => { results := [.lit (.bool false)], args := [d1, d2] }
  | _ => none }
def UnitsFollowWrongFalsely : Prop := unitsFollowRow.holds Try.pinned (OpenSpec.ofChange unitsFollowWrong)

/-- 'fulcrumlaw20.UnitsNobody': WHATEVER THE INPUT: true; the input reads as it did. -/
def unitsNobodySpec : ChangeSpec := { name := "unitsNobody", fn := fun _ => fun
  | [d] => { results := [.lit (.bool true)], args := [d] }
  | _ => none }
def unitsNobodyRow : OpenClaim := { program := "ytegaaobiedfjcaa", sum := "5b399f7be6255ef493db013dcd8076e5fc41ceb674083ac720bbbea17a0679af", func := "fulcrum/fulcrumlaw20.UnitsNobody", spec := "unitsNobody", unfollowed := true, recurses := true, apart := false }
def UnitsNobodySaid : Prop := unitsNobodyRow.holds Try.pinned (OpenSpec.ofChange unitsNobodySpec)

/-- ITS FALSE NEIGHBOUR: 'it returns false'. Refute it at one input. -/
def unitsNobodyWrong : ChangeSpec := { name := "unitsNobody", fn := fun _ => fun
  | [d] => { results := [.lit (.bool false)], args := [d] }
  | _ => none }
def UnitsNobodyWrongFalsely : Prop := unitsNobodyRow.holds Try.pinned (OpenSpec.ofChange unitsNobodyWrong)

/-- 'fulcrumlaw20.UnitsPlays': WHATEVER THE INPUT: true; the input reads as it did. -/
def unitsPlaysSpec : ChangeSpec := { name := "unitsPlays", fn := fun _ => fun
  | [d] => { results := [.lit (.bool true)], args := [d] }
  | _ => none }
def unitsPlaysRow : OpenClaim := { program := "ytegaaobiedfjcaa", sum := "5b399f7be6255ef493db013dcd8076e5fc41ceb674083ac720bbbea17a0679af", func := "fulcrum/fulcrumlaw20.UnitsPlays", spec := "unitsPlays", unfollowed := true, recurses := true, apart := false }
def UnitsPlaysSaid : Prop := unitsPlaysRow.holds Try.pinned (OpenSpec.ofChange unitsPlaysSpec)

/-- ITS FALSE NEIGHBOUR: 'it returns false'. Refute it at one input. -/
def unitsPlaysWrong : ChangeSpec := { name := "unitsPlays", fn := fun _ => fun
  | [d] => { results := [.lit (.bool false)], args := [d] }
  | _ => none }
def UnitsPlaysWrongFalsely : Prop := unitsPlaysRow.holds Try.pinned (OpenSpec.ofChange unitsPlaysWrong)

/-- 'fulcrumlaw20.UnitsOwn': WHATEVER THE INPUT: true; the input reads as it did. -/
def unitsOwnSpec : ChangeSpec := { name := "unitsOwn", fn := fun _ => fun
  | [d] => { results := [.lit (.bool true)], args := [d] }
  | _ => none }
def unitsOwnRow : OpenClaim := { program := "ytegaaobiedfjcaa", sum := "5b399f7be6255ef493db013dcd8076e5fc41ceb674083ac720bbbea17a0679af", func := "fulcrum/fulcrumlaw20.UnitsOwn", spec := "unitsOwn", unfollowed := true, recurses := true, apart := false }
def UnitsOwnSaid : Prop := unitsOwnRow.holds Try.pinned (OpenSpec.ofChange unitsOwnSpec)

/-- ITS FALSE NEIGHBOUR: 'it returns false'. Refute it at one input. -/
def unitsOwnWrong : ChangeSpec := { name := "unitsOwn", fn := fun _ => fun
  | [d] => { results := [.lit (.bool false)], args := [d] }
  | _ => none }
def UnitsOwnWrongFalsely : Prop := unitsOwnRow.holds Try.pinned (OpenSpec.ofChange unitsOwnWrong)

/-- 'fulcrumlaw20.UnitsLoads': WHATEVER THE INPUT: true; the input reads as it did. -/
def unitsLoadsSpec : ChangeSpec := { name := "unitsLoads", fn := fun _ => fun
  | [d1, d2, d3] => { results := [.lit (.bool true)], args := [d1, d2, d3] }
  | _ => none }
def unitsLoadsRow : OpenClaim := { program := "ytegaaobiedfjcaa", sum := "5b399f7be6255ef493db013dcd8076e5fc41ceb674083ac720bbbea17a0679af", func := "fulcrum/fulcrumlaw20.UnitsLoads", spec := "unitsLoads", unfollowed := true, recurses := true, apart := false }
def UnitsLoadsSaid : Prop := unitsLoadsRow.holds Try.pinned (OpenSpec.ofChange unitsLoadsSpec)

/-- ITS FALSE NEIGHBOUR: 'it returns false'. Refute it at one input. -/
def unitsLoadsWrong : ChangeSpec := { name := "unitsLoads", fn := fun _ => fun
  | [d1, d2, d3] => { results := [.lit (.bool false)], args := [d1, d2, d3] }
  | _ => none }
def UnitsLoadsWrongFalsely : Prop := unitsLoadsRow.holds Try.pinned (OpenSpec.ofChange unitsLoadsWrong)

/- THE SECOND FORM. 'bulk': how many values and letters a reading holds, each counted each time it is reached (what is shared counts as often as it is met; a slice's spare places count too). A statement '..UptoSaid' is the law's where the arguments, and the package variables that the reading takes, are together of bulk at most 1048576: NARROWER than '..Said'. Prove '..Said' where nothing that the law and all that it calls make is longer than what came in: it says more and counts as full. Else prove '..UptoSaid'. A law counts once. -/
mutual
def uptoBulk {H : Type} : DataW H → Nat
  | .lit (.string bytes) => bytes.length + 1
  | .lit _ => 1
  | .nil => 1
  | .ptr d => uptoBulk d + 1
  | .slice elems spare => uptoBulkAll elems + uptoBulkAll spare + 1
  | .agg parts => uptoBulkAll parts + 1
  | .iface _ d => uptoBulk d + 1
  | .map entries => uptoBulkEntries entries + 1
  | .held _ => 1
def uptoBulkAll {H : Type} : List (DataW H) → Nat
  | [] => 0
  | d :: r => uptoBulk d + uptoBulkAll r
def uptoBulkEntries {H : Type} : List (Lit × DataW H) → Nat
  | [] => 0
  | x :: r => uptoBulkEntry x + uptoBulkEntries r
def uptoBulkEntry {H : Type} : Lit × DataW H → Nat
  | (.string bytes, d) => bytes.length + uptoBulk d + 1
  | (_, d) => uptoBulk d + 1
 end
def uptoSmall : (H : Type) → List (DataW H) → Bool := fun _ ds => decide (uptoBulkAll ds ≤ 1048576)
def OpenSpec.upto (s : _root_.Go.ChangeSpec) : _root_.Go.OpenSpec := { _root_.Go.OpenSpec.ofChange s with cond := some uptoSmall }

/-- 'fulcrumlaw20.UnitsMakes', WHERE WHAT IT READS IS OF BULK AT MOST 1048576: true; the input reads as it did. -/
def unitsMakesUptoRow : OpenClaim := { program := "ytegaaobiedfjcaa", sum := "5b399f7be6255ef493db013dcd8076e5fc41ceb674083ac720bbbea17a0679af", func := "fulcrum/fulcrumlaw20.UnitsMakes", spec := "unitsMakes", apart := false, narrowed := true }
def UnitsMakesUptoSaid : Prop := unitsMakesUptoRow.holds Try.pinned (OpenSpec.upto unitsMakesSpec)

/-- 'fulcrumlaw20.UnitsFixpoint', WHERE WHAT IT READS IS OF BULK AT MOST 1048576: true; the input reads as it did. -/
def unitsFixpointUptoRow : OpenClaim := { program := "ytegaaobiedfjcaa", sum := "5b399f7be6255ef493db013dcd8076e5fc41ceb674083ac720bbbea17a0679af", func := "fulcrum/fulcrumlaw20.UnitsFixpoint", spec := "unitsFixpoint", unfollowed := true, recurses := true, apart := false, narrowed := true }
def UnitsFixpointUptoSaid : Prop := unitsFixpointUptoRow.holds Try.pinned (OpenSpec.upto unitsFixpointSpec)

/-- 'fulcrumlaw20.UnitsFollow', WHERE WHAT IT READS IS OF BULK AT MOST 1048576: true; the input reads as it did. -/
def unitsFollowUptoRow : OpenClaim := { program := "ytegaaobiedfjcaa", sum := "5b399f7be6255ef493db013dcd8076e5fc41ceb674083ac720bbbea17a0679af", func := "fulcrum/fulcrumlaw20.UnitsFollow", spec := "unitsFollow", unfollowed := true, recurses := true, apart := false, narrowed := true }
def UnitsFollowUptoSaid : Prop := unitsFollowUptoRow.holds Try.pinned (OpenSpec.upto unitsFollowSpec)

/-- 'fulcrumlaw20.UnitsNobody', WHERE WHAT IT READS IS OF BULK AT MOST 1048576: true; the input reads as it did. -/
def unitsNobodyUptoRow : OpenClaim := { program := "ytegaaobiedfjcaa", sum := "5b399f7be6255ef493db013dcd8076e5fc41ceb674083ac720bbbea17a0679af", func := "fulcrum/fulcrumlaw20.UnitsNobody", spec := "unitsNobody", unfollowed := true, recurses := true, apart := false, narrowed := true }
def UnitsNobodyUptoSaid : Prop := unitsNobodyUptoRow.holds Try.pinned (OpenSpec.upto unitsNobodySpec)

/-- 'fulcrumlaw20.UnitsPlays', WHERE WHAT IT READS IS OF BULK AT MOST 1048576: true; the input reads as it did. -/
def unitsPlaysUptoRow : OpenClaim := { program := "ytegaaobiedfjcaa", sum := "5b399f7be6255ef493db013dcd8076e5fc41ceb674083ac720bbbea17a0679af", func := "fulcrum/fulcrumlaw20.UnitsPlays", spec := "unitsPlays", unfollowed := true, recurses := true, apart := false, narrowed := true }
def UnitsPlaysUptoSaid : Prop := unitsPlaysUptoRow.holds Try.pinned (OpenSpec.upto unitsPlaysSpec)

/-- 'fulcrumlaw20.UnitsOwn', WHERE WHAT IT READS IS OF BULK AT MOST 1048576: true; the input reads as it did. -/
def unitsOwnUptoRow : OpenClaim := { program := "ytegaaobiedfjcaa", sum := "5b399f7be6255ef493db013dcd8076e5fc41ceb674083ac720bbbea17a0679af", func := "fulcrum/fulcrumlaw20.UnitsOwn", spec := "unitsOwn", unfollowed := true, recurses := true, apart := false, narrowed := true }
def UnitsOwnUptoSaid : Prop := unitsOwnUptoRow.holds Try.pinned (OpenSpec.upto unitsOwnSpec)

/-- 'fulcrumlaw20.UnitsLoads', WHERE WHAT IT READS IS OF BULK AT MOST 1048576: true; the input reads as it did. -/
def unitsLoadsUptoRow : OpenClaim := { program := "ytegaaobiedfjcaa", sum := "5b399f7be6255ef493db013dcd8076e5fc41ceb674083ac720bbbea17a0679af", func := "fulcrum/fulcrumlaw20.UnitsLoads", spec := "unitsLoads", unfollowed := true, recurses := true, apart := false, narrowed := true }
def UnitsLoadsUptoSaid : Prop := unitsLoadsUptoRow.holds Try.pinned (OpenSpec.upto unitsLoadsSpec)

end Rows
end Go.Proofs.Ytegaaobiedfjcaa
