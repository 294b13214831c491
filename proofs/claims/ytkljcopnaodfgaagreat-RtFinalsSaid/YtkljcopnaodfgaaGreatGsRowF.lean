/- A fact of the program: liftsFinal. -/
import Derived.Test.YtkljcopnaodfgaaGreatRows
import Derived.JoinedOf
import Derived.KernelRfl
set_option linter.unusedSimpArgs false
set_option linter.unusedVariables false
namespace Go.Proofs.YtkljcopnaodfgaaGreat
open Go
theorem row_lifts : Tryz.pinned.checked.prog.liftsFinal = false := by kernel_rfl
end Go.Proofs.YtkljcopnaodfgaaGreat
