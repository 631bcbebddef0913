/- The error and numbers; the examples of the chapter; bounds; what is refused. -/
import Derived.Test.YtlekjgjhbanimaaS3
namespace Go.Proofs.Ytlekjgjhbanimaa.Pure
open Go Go.RowKit Go.Proofs.Ytlekjgjhbanimaa.S
open Go.Proofs.Ytlekjgjhbanimaa.SX (guardEq_self rounds rounds_next rounds_end)
set_option linter.unusedVariables false
set_option linter.unusedSimpArgs false
namespace LWindowNames
theorem proved : vesperslaw16_WindowNames.Pure := rfl
end LWindowNames
end Go.Proofs.Ytlekjgjhbanimaa.Pure
