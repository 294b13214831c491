/- joined -/
import Derived.Test.YtfepdmpplahloaaGreatGsT
namespace Go.Proofs.YtfepdmpplahloaaGreat
open Go Go.Gl
set_option maxRecDepth 100000
set_option linter.unusedVariables false
variable{Q:Value→World→Prop}{w:World}
def F.gk.E6(p0:Int):Tree:=
 ret (.int .i64 p0)
theorem F.gk.E6.calls(p0:Int)(h:F.gk.E6 p0 Q w):Calls Tryz.prog 10 #[.int .i64 p0] w (aC Q):=
 Tryz.cd az.z Tryz.func10 (by kernel_rfl) (es:=[.va (.int .i64 p0)]) rfl (by kernel_rfl) h
end Go.Proofs.YtfepdmpplahloaaGreat
namespace Go.Proofs.YtfepdmpplahloaaGreat
open Go Go.Gl
set_option maxRecDepth 100000
variable{Q:Value→World→Prop}{w:World}
def F.dM.In.T:az:=⟨(fun
 |2=>[(5,.int .i64)]
 |_=>[]),
 fun _=>none,
 fun _=> .quiet⟩
def F.dM.In(p0:ay)(p1:Int):Tree:=
 lp [.int .i64] (fun X1 u2=>
 br (decide ((u2.1:Int)<(p0.n:Nat)))
 (ix p0.a p0.n u2.1 1 fun a3=>
 ld (.l (.int .i64)) a3 fun(x4:Int)=>
 br ((x4:Int)==p1)
 (ret (.bool true))
 (X1 (IntKind.wrap .i64 (u2.1+1),())))
 (ret (.bool false))) (0,())
theorem F.dM.In.calls(p0:ay)(p1:Int)(h:F.dM.In p0 p1 Q w):Calls Tryz.prog 19 #[.slice p0.a p0.n p0.c,.int .i64 p1] w (aC Q):=
 Tryz.cd F.dM.In.T Tryz.func19 (by kernel_rfl) (es:=[.va (.slice p0.a p0.n p0.c),.va (.int .i64 p1)]) rfl (by kernel_rfl) h
end Go.Proofs.YtfepdmpplahloaaGreat
