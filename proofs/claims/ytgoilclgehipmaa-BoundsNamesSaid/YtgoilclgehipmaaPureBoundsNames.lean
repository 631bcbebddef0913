/- The error and numbers have their numbers; the examples of the chapter; what is refused. (Closed.) -/
import Derived.Test.YtgoilclgehipmaaS3
namespace Go.Proofs.Ytgoilclgehipmaa.Pure
open Go Go.RowKit Go.Proofs.Ytgoilclgehipmaa.S
set_option linter.unusedVariables false
set_option linter.unusedSimpArgs false
namespace LBoundsNames
theorem proved : vesperslaw29_BoundsNames.Pure := rfl
end LBoundsNames
end Go.Proofs.Ytgoilclgehipmaa.Pure
