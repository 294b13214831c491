import Derived.Test.YtpefngbfgjfcgaaGreatGsT
namespace Go.Proofs.YtpefngbfgjfcgaaGreat
open Go Go.Gl
set_option maxRecDepth 100000
set_option linter.unusedVariables false
variable {Q : Value → World → Prop} {w : World}
def F.gloaminglaw9.Whole (p0 : Option Addr) : Tree :=
 br (!(Option.isNone p0))
 (nn p0 fun a1 =>
 ld (.l .ptr) (fa a1 0) fun (x2 : Option Addr) =>
 br (!(Option.isNone x2))
 (nn p0 fun a3 =>
 ld (.l .ptr) (fa a3 1) fun (x4 : Option Addr) =>
 br (!(Option.isNone x4))
 (nn p0 fun a5 =>
 ld (.l .ptr) (fa a5 0) fun (x6 : Option Addr) =>
 nn x6 fun a7 =>
 ld (.l .ptr) (fa a7 0) fun (x8 : Option Addr) =>
 br (!(Option.isNone x8))
 (nn p0 fun a9 =>
 ld (.l .ptr) (fa a9 0) fun (x10 : Option Addr) =>
 nn x10 fun a11 =>
 ld (.l .ptr) (fa a11 1) fun (x12 : Option Addr) =>
 ret (.bool (!(Option.isNone x12))))
 (ret (.bool false)))
 (ret (.bool false)))
 (ret (.bool false)))
 (ret (.bool false))
theorem F.gloaminglaw9.Whole.calls (p0 : Option Addr) (h : F.gloaminglaw9.Whole p0 Q w) : Calls Tryz.prog 33 #[.pointer p0] w (RetQ Q) :=
 Tryz.cd Tabs.z Tryz.func33 (by kernel_rfl) (es := [.va (.pointer p0)]) rfl (by kernel_rfl) h
end Go.Proofs.YtpefngbfgjfcgaaGreat
