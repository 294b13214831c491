import Derived.Test.YtfepdmpplahloaaGreatGsT
namespace Go.Proofs.YtfepdmpplahloaaGreat
open Go Go.Gl
set_option maxRecDepth 100000
set_option linter.unusedVariables false
variable{Q:Value→World→Prop}{w:World}
def F.gloaminglaw20.Whole(p0:Option Addr):Tree:=
 br (!(Option.isNone p0))
 (nn p0 fun a1=>
 ld (.l .ptr) (fa a1 0) fun(x2:Option Addr)=>
 br (!(Option.isNone x2))
 (nn p0 fun a3=>
 ld (.l .ptr) (fa a3 0) fun(x4:Option Addr)=>
 nn x4 fun a5=>
 ld (.l .ptr) (fa a5 0) fun(x6:Option Addr)=>
 br (!(Option.isNone x6))
 (nn p0 fun a7=>
 ld (.l .ptr) (fa a7 0) fun(x8:Option Addr)=>
 nn x8 fun a9=>
 ld (.l .ptr) (fa a9 0) fun(x10:Option Addr)=>
 nn x10 fun a11=>
 ld (.l .ptr) (fa a11 0) fun(x12:Option Addr)=>
 br (!(Option.isNone x12))
 (nn p0 fun a13=>
 ld (.l .ptr) (fa a13 1) fun(x14:Option Addr)=>
 br (!(Option.isNone x14))
 (nn p0 fun a15=>
 ld (.l .ptr) (fa a15 2) fun(x16:Option Addr)=>
 br (!(Option.isNone x16))
 (nn p0 fun a17=>
 ld (.l .ptr) (fa a17 3) fun(x18:Option Addr)=>
 br (!(Option.isNone x18))
 (nn p0 fun a19=>
 ld (.l .ptr) (fa a19 3) fun(x20:Option Addr)=>
 nn x20 fun a21=>
 ld (.l .ptr) (fa a21 0) fun(x22:Option Addr)=>
 br (!(Option.isNone x22))
 (nn p0 fun a23=>
 ld (.l .ptr) (fa a23 3) fun(x24:Option Addr)=>
 nn x24 fun a25=>
 ld (.l .ptr) (fa a25 0) fun(x26:Option Addr)=>
 nn x26 fun a27=>
 ld (.l .ptr) (fa a27 0) fun(x28:Option Addr)=>
 br (!(Option.isNone x28))
 (nn p0 fun a29=>
 ld (.l .ptr) (fa a29 3) fun(x30:Option Addr)=>
 nn x30 fun a31=>
 ld (.l .ptr) (fa a31 0) fun(x32:Option Addr)=>
 nn x32 fun a33=>
 ld (.l .ptr) (fa a33 1) fun(x34:Option Addr)=>
 ret (.bool (!(Option.isNone x34))))
 (ret (.bool false)))
 (ret (.bool false)))
 (ret (.bool false)))
 (ret (.bool false)))
 (ret (.bool false)))
 (ret (.bool false)))
 (ret (.bool false)))
 (ret (.bool false)))
 (ret (.bool false))
theorem F.gloaminglaw20.Whole.calls(p0:Option Addr)(h:F.gloaminglaw20.Whole p0 Q w):Calls Tryz.prog 22 #[.pointer p0] w (RetQ Q):=
 Tryz.cd Tabs.z Tryz.func22 (by kernel_rfl) (es:=[.va (.pointer p0)]) rfl (by kernel_rfl) h
end Go.Proofs.YtfepdmpplahloaaGreat
