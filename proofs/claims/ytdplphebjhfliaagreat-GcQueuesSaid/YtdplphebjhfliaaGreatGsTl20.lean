import Derived.Test.YtdplphebjhfliaaGreatGsT
namespace Go.Proofs.YtdplphebjhfliaaGreat
open Go Go.Gl
set_option maxRecDepth 100000
set_option linter.unusedVariables false
variable {Q : Value → World → Prop} {w : World}
def F.gloaminglaw20.awake  : Tree :=
 call Tryz.prog 12 [.agg #[.int .i64 2, .int .i64 1, .int .i64 1]] (.many [.l .ptr, .l (.int .i64)]) fun (r1 : KTs _) =>
 call Tryz.prog 16 [.pointer r1.1] (.one (.l .bool)) fun (r2 : Bool) =>
 br (!r2)
 (ret (.bool false))
 (call Tryz.prog 14 [.int .i64 r1.2.1] (.one (.l (.int .i64))) fun (r3 : Int) =>
 br ((r3 : Int) != 0)
 (ret (.bool false))
 (call Tryz.prog 19 [.pointer r1.1, .bool false] (.many [.g [.slice, .slice, .slice, .slice], .l (.int .i64)]) fun (r4 : KTs _) =>
 nw 43 (zc Tryz.prog 43) fun b5 =>
 st (⟨b5, 0, none⟩) [.slice r4.1.1.a r4.1.1.n r4.1.1.c, .slice r4.1.2.1.a r4.1.2.1.n r4.1.2.1.c, .slice r4.1.2.2.1.a r4.1.2.2.1.n r4.1.2.2.1.c, .slice r4.1.2.2.2.1.a r4.1.2.2.2.1.n r4.1.2.2.2.1.c] <|
 call Tryz.prog 17 [.pointer r1.1] (.one (.g [.slice, .slice, .slice, .slice, .slice, .slice, .int .i64, .int .i64, .int .i64, .int .i64])) fun (r6 : LTs _) =>
 nw 37 (zc Tryz.prog 37) fun b7 =>
 st (⟨b7, 0, none⟩) [.slice r6.1.a r6.1.n r6.1.c, .slice r6.2.1.a r6.2.1.n r6.2.1.c, .slice r6.2.2.1.a r6.2.2.1.n r6.2.2.1.c, .slice r6.2.2.2.1.a r6.2.2.2.1.n r6.2.2.2.1.c, .slice r6.2.2.2.2.1.a r6.2.2.2.2.1.n r6.2.2.2.2.1.c, .slice r6.2.2.2.2.2.1.a r6.2.2.2.2.2.1.n r6.2.2.2.2.2.1.c, .int .i64 r6.2.2.2.2.2.2.1, .int .i64 r6.2.2.2.2.2.2.2.1, .int .i64 r6.2.2.2.2.2.2.2.2.1, .int .i64 r6.2.2.2.2.2.2.2.2.2.1] <|
 call Tryz.prog 14 [.int .i64 r4.2.1] (.one (.l (.int .i64))) fun (r8 : Int) =>
 br ((r8 : Int) == 0)
 (ld (.l .slice) (fa (⟨b5, 0, none⟩) 3) fun (x9 : Slc) =>
 ld (.l .slice) (fa (⟨b5, 0, none⟩) 0) fun (x10 : Slc) =>
 br ((IntKind.wrap .i64 ((x9.n : Nat) + (x10.n : Nat)) : Int) == 0)
 (ld (.l (.int .i64)) (fa (⟨b7, 0, none⟩) 9) fun (x11 : Int) =>
 br ((x11 : Int) == 1)
 (call Tryz.prog 22 [.pointer r1.1] (.one (.l (.int .i64))) fun (r12 : Int) =>
 br ((r12 : Int) == 1)
 (ld (.l .slice) (fa (⟨b7, 0, none⟩) 2) fun (x13 : Slc) =>
 ret (.bool (((x13.n : Nat) : Int) == 16)))
 (ret (.bool false)))
 (ret (.bool false)))
 (ret (.bool false)))
 (ret (.bool false))))
theorem F.gloaminglaw20.awake.calls  (h : F.gloaminglaw20.awake Q w) : Calls Tryz.prog 15 #[] w (RetQ Q) :=
 Tryz.cd Tabs.z Tryz.func15 (by kernel_rfl) (es := []) rfl (by kernel_rfl) h
def F.gloaminglaw20.Whole (p0 : Option Addr) : Tree :=
 br (!(Option.isNone p0))
 (nn p0 fun a1 =>
 ld (.l .ptr) (fa a1 0) fun (x2 : Option Addr) =>
 br (!(Option.isNone x2))
 (nn p0 fun a3 =>
 ld (.l .ptr) (fa a3 0) fun (x4 : Option Addr) =>
 nn x4 fun a5 =>
 ld (.l .ptr) (fa a5 0) fun (x6 : Option Addr) =>
 br (!(Option.isNone x6))
 (nn p0 fun a7 =>
 ld (.l .ptr) (fa a7 0) fun (x8 : Option Addr) =>
 nn x8 fun a9 =>
 ld (.l .ptr) (fa a9 0) fun (x10 : Option Addr) =>
 nn x10 fun a11 =>
 ld (.l .ptr) (fa a11 0) fun (x12 : Option Addr) =>
 br (!(Option.isNone x12))
 (nn p0 fun a13 =>
 ld (.l .ptr) (fa a13 1) fun (x14 : Option Addr) =>
 br (!(Option.isNone x14))
 (nn p0 fun a15 =>
 ld (.l .ptr) (fa a15 2) fun (x16 : Option Addr) =>
 br (!(Option.isNone x16))
 (nn p0 fun a17 =>
 ld (.l .ptr) (fa a17 3) fun (x18 : Option Addr) =>
 br (!(Option.isNone x18))
 (nn p0 fun a19 =>
 ld (.l .ptr) (fa a19 3) fun (x20 : Option Addr) =>
 nn x20 fun a21 =>
 ld (.l .ptr) (fa a21 0) fun (x22 : Option Addr) =>
 br (!(Option.isNone x22))
 (nn p0 fun a23 =>
 ld (.l .ptr) (fa a23 3) fun (x24 : Option Addr) =>
 nn x24 fun a25 =>
 ld (.l .ptr) (fa a25 0) fun (x26 : Option Addr) =>
 nn x26 fun a27 =>
 ld (.l .ptr) (fa a27 0) fun (x28 : Option Addr) =>
 br (!(Option.isNone x28))
 (nn p0 fun a29 =>
 ld (.l .ptr) (fa a29 3) fun (x30 : Option Addr) =>
 nn x30 fun a31 =>
 ld (.l .ptr) (fa a31 0) fun (x32 : Option Addr) =>
 nn x32 fun a33 =>
 ld (.l .ptr) (fa a33 1) fun (x34 : Option Addr) =>
 ret (.bool (!(Option.isNone x34))))
 (ret (.bool false)))
 (ret (.bool false)))
 (ret (.bool false)))
 (ret (.bool false)))
 (ret (.bool false)))
 (ret (.bool false)))
 (ret (.bool false)))
 (ret (.bool false)))
 (ret (.bool false))
theorem F.gloaminglaw20.Whole.calls (p0 : Option Addr) (h : F.gloaminglaw20.Whole p0 Q w) : Calls Tryz.prog 16 #[.pointer p0] w (RetQ Q) :=
 Tryz.cd Tabs.z Tryz.func16 (by kernel_rfl) (es := [.va (.pointer p0)]) rfl (by kernel_rfl) h
def F.gloaminglaw20.made.T : Tabs := ⟨(fun
 | 5 => [(7, .int .i64)]
 | _ => []),
 fun _ => none,
 fun _ => .quiet⟩
def F.gloaminglaw20.made (p0 : Int) (p1 : Int) : Tree :=
 call Tryz.prog 12 [.agg #[.int .i64 60, .int .i64 p0, .int .i64 2]] (.many [.l .ptr, .l (.int .i64)]) fun (r1 : KTs _) =>
 call Tryz.prog 16 [.pointer r1.1] (.one (.l .bool)) fun (r2 : Bool) =>
 br (!r2)
 (ret (.pointer none))
 (call Tryz.prog 14 [.int .i64 r1.2.1] (.one (.l (.int .i64))) fun (r3 : Int) =>
 br ((r3 : Int) != 0)
 (ret (.pointer none))
 (lp [.int .i64] (fun X4 u5 =>
 br (decide ((u5.1 : Int) < p1))
 (nn r1.1 fun a6 =>
 ld (.l .ptr) (fa a6 0) fun (x7 : Option Addr) =>
 nn x7 fun a8 =>
 ld (.l .ptr) (fa a8 0) fun (x9 : Option Addr) =>
 call Tryz.prog 66 [.pointer x9] (.many [.l (.int .i64), .l (.int .i64)]) fun (r10 : KTs _) =>
 X4 (IntKind.wrap .i64 (u5.1 + 1), ()))
 (ret (.pointer r1.1))) (0, ())))
theorem F.gloaminglaw20.made.calls (p0 : Int) (p1 : Int) (h : F.gloaminglaw20.made p0 p1 Q w) : Calls Tryz.prog 23 #[.int .i64 p0, .int .i64 p1] w (RetQ Q) :=
 Tryz.cd F.gloaminglaw20.made.T Tryz.func23 (by kernel_rfl) (es := [.va (.int .i64 p0), .va (.int .i64 p1)]) rfl (by kernel_rfl) h
def F.gloaminglaw20.box (p0 : Option Addr) (p1 : Int) : Tree :=
 nn p0 fun a1 =>
 ld (.l .ptr) (fa a1 3) fun (x2 : Option Addr) =>
 nn x2 fun a3 =>
 ld (.l .ptr) (fa a3 0) fun (x4 : Option Addr) =>
 call Tryz.prog 30 [.pointer x4, .agg #[.int .i64 2, .int .i64 0, .int .i64 p1, .bool false]] (.many [.l (.int .i64), .l (.int .i64)]) fun (r5 : KTs _) =>
 nn p0 fun a6 =>
 ld (.l .ptr) (fa a6 1) fun (x7 : Option Addr) =>
 call Tryz.prog 37 [.pointer x7, .int .i64 r5.1] (.many [.l (.int .i64), .l (.int .i64)]) fun (r8 : KTs _) =>
 call Tryz.prog 14 [.int .i64 r5.2.1] (.one (.l (.int .i64))) fun (r9 : Int) =>
 call Tryz.prog 14 [.int .i64 r8.2.1] (.one (.l (.int .i64))) fun (r10 : Int) =>
 br ((IntKind.wrap .i64 (r9 + r10) : Int) != 0)
 (ret (.tuple #[.int .i64 0, .int .i64 0]))
 (ret (.tuple #[.int .i64 r5.1, .int .i64 r8.1]))
theorem F.gloaminglaw20.box.calls (p0 : Option Addr) (p1 : Int) (h : F.gloaminglaw20.box p0 p1 Q w) : Calls Tryz.prog 24 #[.pointer p0, .int .i64 p1] w (RetQ Q) :=
 Tryz.cd Tabs.z Tryz.func24 (by kernel_rfl) (es := [.va (.pointer p0), .va (.int .i64 p1)]) rfl (by kernel_rfl) h
end Go.Proofs.YtdplphebjhfliaaGreat
