import Derived.Test.YtjginndmmlkjiaaGreatRows
import Derived.JoinedOf
set_option linter.unusedSimpArgs false
set_option linter.unusedVariables false
namespace Go.Proofs.YtjginndmmlkjiaaGreat
open Go
theorem E2:Tryz.pinned.checked.prog.make=(some .cut):=by kernel_rfl
end Go.Proofs.YtjginndmmlkjiaaGreat
