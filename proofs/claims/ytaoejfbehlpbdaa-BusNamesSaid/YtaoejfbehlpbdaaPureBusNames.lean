/- The error has its number; the examples of the chapter; the guardian; who sends is deaf; fates; what is refused; calls on none. -/
import Derived.Test.YtaoejfbehlpbdaaSN
namespace Go.Proofs.Ytaoejfbehlpbdaa.Pure
open Go Go.RowKit Go.Proofs.Ytaoejfbehlpbdaa.S
open Go.Proofs.Ytaoejfbehlpbdaa.SX (guardEq_self rounds rounds_next rounds_end)
set_option linter.unusedVariables false
set_option linter.unusedSimpArgs false
namespace LBusNames
theorem proved : vesperslaw12_BusNames.Pure := rfl
end LBusNames
end Go.Proofs.Ytaoejfbehlpbdaa.Pure
