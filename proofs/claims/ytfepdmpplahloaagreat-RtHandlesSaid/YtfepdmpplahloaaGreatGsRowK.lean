/- A fact of the program: mayEnter. -/
import Derived.Test.YtfepdmpplahloaaGreatRows
import Derived.JoinedOf
import Derived.KernelRfl
set_option linter.unusedSimpArgs false
set_option linter.unusedVariables false
namespace Go.Proofs.YtfepdmpplahloaaGreat
open Go
theorem row_may:Tryz.pinned.checked.prog.mayEnter=true:=by kernel_rfl
end Go.Proofs.YtfepdmpplahloaaGreat
namespace Go.Proofs.YtfepdmpplahloaaGreat
open Go
theorem row_lifts:Tryz.pinned.checked.prog.liftsFinal=false:=by kernel_rfl
end Go.Proofs.YtfepdmpplahloaaGreat
namespace Go.Proofs.YtfepdmpplahloaaGreat
open Go
theorem row_make:Tryz.pinned.checked.prog.make=(some .cut):=by kernel_rfl
end Go.Proofs.YtfepdmpplahloaaGreat
