/- A fact of the program: make. -/
import Derived.Test.YtkljcopnaodfgaaGreatRows
import Derived.JoinedOf
import Derived.KernelRfl
set_option linter.unusedSimpArgs false
set_option linter.unusedVariables false
namespace Go.Proofs.YtkljcopnaodfgaaGreat
open Go
theorem row_make : Tryz.pinned.checked.prog.make = (some .cut) := by kernel_rfl
end Go.Proofs.YtkljcopnaodfgaaGreat
