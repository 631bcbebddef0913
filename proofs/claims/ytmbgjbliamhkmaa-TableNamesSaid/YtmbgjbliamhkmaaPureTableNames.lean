/- The error and the limit have their numbers; the chapter's examples; bounds; a plan that may not be: all as the law asks. It is closed. -/
import Derived.Test.YtmbgjbliamhkmaaS3
namespace Go.Proofs.Ytmbgjbliamhkmaa.Pure
open Go Go.RowKit Go.Proofs.Ytmbgjbliamhkmaa.S
set_option linter.unusedVariables false
set_option linter.unusedSimpArgs false
namespace LTableNames
theorem proved : vesperslaw09_TableNames.Pure := rfl
end LTableNames
end Go.Proofs.Ytmbgjbliamhkmaa.Pure
