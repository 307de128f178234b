import Derived.Test.YtboalbiicmcljaaPANx8
import Derived.Test.YtboalbiicmcljaaAnA
namespace Go.Proofs.Ytboalbiicmcljaa.Pure
open Go.RowKit Go.Proofs.Ytboalbiicmcljaa.PAN Go.Proofs.YtboalbiicmcljaaW.PrintWords Go.Proofs.YtboalbiicmcljaaW.PrintLast
/-- The errors' numbers: it tells true. -/
theorem AnalyseConsts : fulcrumlaw21_AnalyseConsts.Pure := PAN.consts_all.rounds
end Go.Proofs.Ytboalbiicmcljaa.Pure
