import Derived.Test.YtfepdmpplahloaaGreatGsT
namespace Go.Proofs.YtfepdmpplahloaaGreat
open Go Go.Gl
set_option maxRecDepth 100000
set_option linter.unusedVariables false
variable{Q:Value→World→Prop}{w:World}
def F.gloaminglaw1.Err(p0:Int):Tree:=
 ret (.int .i64 p0)
theorem F.gloaminglaw1.Err.calls(p0:Int)(h:F.gloaminglaw1.Err p0 Q w):Calls Tryz.prog 10 #[.int .i64 p0] w (RetQ Q):=
 Tryz.cd Tabs.z Tryz.func10 (by kernel_rfl) (es:=[.va (.int .i64 p0)]) rfl (by kernel_rfl) h
end Go.Proofs.YtfepdmpplahloaaGreat
