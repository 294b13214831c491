import Derived.Test.YtfepdmpplahloaaGreatGsT
namespace Go.Proofs.YtfepdmpplahloaaGreat
open Go Go.Gl
set_option maxRecDepth 100000
set_option linter.unusedVariables false
variable{Q:Value→World→Prop}{w:World}
def F.fK.Whole(p0:Option Addr):Tree:=
 br (!(Option.isNone p0))
 (nn p0 fun a1=>
 ld (.l .ptr) (fa a1 0) fun(x2:Option Addr)=>
 call Tryz.prog 22 [.pointer x2] (.one (.l .bool)) fun(r3:Bool)=>
 ret (.bool r3))
 (ret (.bool false))
theorem F.fK.Whole.calls(p0:Option Addr)(h:F.fK.Whole p0 Q w):Calls Tryz.prog 15 #[.pointer p0] w (aC Q):=
 Tryz.cd az.z Tryz.func15 (by kernel_rfl) (es:=[.va (.pointer p0)]) rfl (by kernel_rfl) h
end Go.Proofs.YtfepdmpplahloaaGreat
