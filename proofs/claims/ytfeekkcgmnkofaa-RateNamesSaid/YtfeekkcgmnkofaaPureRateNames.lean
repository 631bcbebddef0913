/- Errors and limits have their numbers; the examples of the chapter; bounds. -/
import Derived.Test.YtfeekkcgmnkofaaXRateNamesx5
import Derived.OpenShut
namespace Go.Proofs.Ytfeekkcgmnkofaa.Pure
open Go.RowKit Go.Proofs.Ytfeekkcgmnkofaa.XRateNames Go.Proofs.YtfeekkcgmnkofaaW.PrintWords Go.Proofs.YtfeekkcgmnkofaaW.PrintLast Go.Proofs.YtfeekkcgmnkofaaW.PrintMore
set_option linter.unusedVariables false
set_option linter.unusedSimpArgs false
namespace LRateNames
theorem proved : vesperslaw06_RateNames.Pure := ⟨4, by decide +kernel⟩
end LRateNames
end Go.Proofs.Ytfeekkcgmnkofaa.Pure
