import Derived.Test.YtboalbiicmcljaaZOPANx0
import Derived.Test.YtboalbiicmcljaaZOPANx10
import Derived.Test.YtboalbiicmcljaaZOPANx12
import Derived.Test.YtboalbiicmcljaaZOAnH
import Derived.Test.YtboalbiicmcljaaZOPANx8
import Derived.Test.YtboalbiicmcljaaZOPANx9
section --
namespace Go.Proofs.Ytboalbiicmcljaa.PAN
open Go.Proofs.YtboalbiicmcljaaH
open Go.RowKit Go.Proofs.YtboalbiicmcljaaW.PrintWords Go.Proofs.YtboalbiicmcljaaW.PrintLast Go.Proofs.YtboalbiicmcljaaW.PrintMore
attribute [local go_sem] max2_int min2_int max_two min_two max_three min_three max_four min_four   -- for this text's walks alone
set_option linter.unusedVariables false
set_option linter.unusedSimpArgs false
mutual
def fulcrumref21_Final.l0 : Nat → List (List Int) → List (S49) → List Int → List Int → Int → Option (List Int × Int)
 | 0, _, _, _, _, _ => none
 | k + 1, x0, x1, x9, x10, x11 => if x11 ≥ 0 then (if 0 ≤ x11 then (if x11 < (x1.length : Int) then ((fulcrumref21_has.f k x9 ((rd_T49 x1 x11).f0)).bind fun t404 => (if t404 = true then (if ((rd_T49 x1 x11).f2) < 0 then (if x10.length < 17592186044416 then (fulcrumref21_Final.l0 k x0 x1 x9 (x10 ++ [(rd_T49 x1 x11).f0]) (wrap64 (x11 - 1))) else (none)) else (if 0 ≤ ((rd_T49 x1 x11).f2) then (if ((rd_T49 x1 x11).f2) < (x0.length : Int) then (fulcrumref21_Final.l1 k x0 x1 x9 x10 x11 (rd_L1 x0 ((rd_T49 x1 x11).f2)) 0) else (none)) else (none))) else (fulcrumref21_Final.l0 k x0 x1 x9 x10 (wrap64 (x11 - 1))))) else (none)) else (none)) else (fulcrumref21_Final.l2 k x10 (([] : List Int)) (wrap64 ((x10.length : Int) - 1)))
def fulcrumref21_Final.l1 : Nat → List (List Int) → List (S49) → List Int → List Int → Int → List Int → Int → Option (List Int × Int)
 | 0, _, _, _, _, _, _, _ => none
 | k + 1, x0, x1, x9, x10, x11, x12, x13 => if x13 < (x12.length : Int) then (if 0 ≤ x13 then (if 0 ≤ x11 then (if x11 < (x1.length : Int) then (if (rd x12 x13) = ((rd_T49 x1 x11).f0) then (fulcrumref21_Final.l1 k x0 x1 x9 x10 x11 x12 (wrap64 (x13 + 1))) else (if x9.length < 17592186044416 then (fulcrumref21_Final.l1 k x0 x1 (x9 ++ [wrap64 (-(rd x12 x13))]) x10 x11 x12 (wrap64 (x13 + 1))) else (none))) else (none)) else (none)) else (none)) else (fulcrumref21_Final.l0 k x0 x1 x9 x10 (wrap64 (x11 - 1)))
def fulcrumref21_Final.l2 : Nat → List Int → List Int → Int → Option (List Int × Int)
 | 0, _, _, _ => none
 | k + 1, x10, x14, x15 => if x15 ≥ 0 then (if 0 ≤ x15 then (if x15 < (x10.length : Int) then (if x14.length < 17592186044416 then (fulcrumref21_Final.l2 k x10 (x14 ++ [rd x10 x15]) (wrap64 (x15 - 1))) else (none)) else (none)) else (none)) else (some (x14, 0))
end
end Go.Proofs.Ytboalbiicmcljaa.PAN
end
section --
namespace Go.Proofs.Ytboalbiicmcljaa.PAN
open Go.Proofs.YtboalbiicmcljaaH
open Go.RowKit Go.Proofs.YtboalbiicmcljaaW.PrintWords Go.Proofs.YtboalbiicmcljaaW.PrintLast Go.Proofs.YtboalbiicmcljaaW.PrintMore
attribute [local go_sem] max2_int min2_int max_two min_two max_three min_three max_four min_four   -- for this text's walks alone
set_option linter.unusedVariables false
set_option linter.unusedSimpArgs false
open Go.Proofs.YtboalbiicmcljaaH
end Go.Proofs.Ytboalbiicmcljaa.PAN
end
section --
namespace Go.Proofs.Ytboalbiicmcljaa.PAN
open Go.Proofs.YtboalbiicmcljaaH
open Go.RowKit Go.Proofs.YtboalbiicmcljaaW.PrintWords Go.Proofs.YtboalbiicmcljaaW.PrintLast Go.Proofs.YtboalbiicmcljaaW.PrintMore
attribute [local go_sem] max2_int min2_int max_two min_two max_three min_three max_four min_four   -- for this text's walks alone
set_option linter.unusedVariables false
set_option linter.unusedSimpArgs false
mutual
def fulcrumlaw21_truth.j0 : Nat → List Int → Int → Int → Option (Bool)
 | 0, _, _, _ => none
 | k + 1, x0, x1, x5 => if x5 ≤ 0 then (some false) else (fulcrumlaw21_truth.l0 k x0 x1 x5 false 0)
def fulcrumlaw21_truth.l0 : Nat → List Int → Int → Int → Bool → Int → Option (Bool)
 | 0, _, _, _, _, _ => none
 | k + 1, x0, x1, x5, x6, x7 => if x7 < (x0.length : Int) then (if x6 = true then (fulcrumlaw21_truth.l0 k x0 x1 x5 true (wrap64 (x7 + 1))) else (if 0 ≤ x7 then (fulcrumlaw21_truth.l0 k x0 x1 x5 ((rd x0 x7) == x5) (wrap64 (x7 + 1))) else (none))) else (some (x6 == (decide (x1 > 0))))
end
def fulcrumlaw21_truth.f (k : Nat) (l0 : List Int) (a1 : Int) : Option (Bool) := if a1 < 0 then (fulcrumlaw21_truth.j0 k l0 a1 (wrap64 (-a1))) else (fulcrumlaw21_truth.j0 k l0 a1 a1)
end Go.Proofs.Ytboalbiicmcljaa.PAN
end
section --
namespace Go.Proofs.Ytboalbiicmcljaa.PAN
open Go.Proofs.YtboalbiicmcljaaH
open Go.RowKit Go.Proofs.YtboalbiicmcljaaW.PrintWords Go.Proofs.YtboalbiicmcljaaW.PrintLast Go.Proofs.YtboalbiicmcljaaW.PrintMore
attribute [local go_sem] max2_int min2_int max_two min_two max_three min_three max_four min_four   -- for this text's walks alone
set_option linter.unusedVariables false
set_option linter.unusedSimpArgs false
def fulcrumlaw21_clause.l0 : Nat → List Int → List Int → Int → Option (Bool)
 | 0, _, _, _ => none
 | k + 1, x0, x1, x5 => if x5 < (x1.length : Int) then (if 0 ≤ x5 then ((fulcrumlaw21_truth.f k x0 (rd x1 x5)).bind fun t444 => (if t444 = true then (some true) else (fulcrumlaw21_clause.l0 k x0 x1 (wrap64 (x5 + 1))))) else (none)) else (some false)
end Go.Proofs.Ytboalbiicmcljaa.PAN
end
