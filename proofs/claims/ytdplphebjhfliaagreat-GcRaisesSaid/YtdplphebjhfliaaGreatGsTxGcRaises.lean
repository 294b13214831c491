import Derived.Test.YtdplphebjhfliaaGreatGsT
namespace Go.Proofs.YtdplphebjhfliaaGreat
open Go Go.Gl
set_option maxRecDepth 100000
set_option linter.unusedVariables false
variable {Q : Value → World → Prop} {w : World}
def F.gloaminglaw20.GcRaises (p0 : Int) (p1 : Int) : Tree :=
 call Tryz.prog 23 [.int .i64 0, .int .i64 1] (.one (.l .ptr)) fun (r1 : Option Addr) =>
 br (Option.isNone r1)
 (ret (.bool false))
 (nn r1 fun a2 =>
 ld (.l .ptr) (fa a2 3) fun (x3 : Option Addr) =>
 nn x3 fun a4 =>
 ld (.l .ptr) (fa a4 0) fun (x5 : Option Addr) =>
 need ((40 : Int) ≠ 0) <|
 call Tryz.prog 30 [.pointer x5, .agg #[.int .i64 3, .int .i64 0, .int .i64 (IntKind.wrap .i64 (1 + (Int.tmod (IntKind.wrap .i64 p0) 40))), .bool false]] (.many [.l (.int .i64), .l (.int .i64)]) fun (r6 : KTs _) =>
 nn r1 fun a7 =>
 ld (.l .ptr) (fa a7 3) fun (x8 : Option Addr) =>
 nn x8 fun a9 =>
 ld (.l .ptr) (fa a9 0) fun (x10 : Option Addr) =>
 call Tryz.prog 25 [.pointer x10, .int .i64 r6.1, .int .i64 0, .int .i64 p1] (.one (.l (.int .i64))) fun (r11 : Int) =>
 nn r1 fun a12 =>
 ld (.l .ptr) (fa a12 0) fun (x13 : Option Addr) =>
 call Tryz.prog 31 [.pointer x13, .int .i64 2, .int .i64 r6.1, .int .i64 0, .int .i64 0] (.many [.l (.int .i64), .l (.int .i64)]) fun (r14 : KTs _) =>
 nn r1 fun a15 =>
 ld (.l .ptr) (fa a15 0) fun (x16 : Option Addr) =>
 call Tryz.prog 31 [.pointer x16, .int .i64 3, .int .i64 r6.1, .int .i64 0, .int .i64 0] (.many [.l (.int .i64), .l (.int .i64)]) fun (r17 : KTs _) =>
 nn r1 fun a18 =>
 ld (.l .ptr) (fa a18 3) fun (x19 : Option Addr) =>
 call Tryz.prog 28 [.pointer x19, .int .i64 r6.1] (.one (.l (.int .i64))) fun (r20 : Int) =>
 nn r1 fun a21 =>
 ld (.l .ptr) (fa a21 2) fun (x22 : Option Addr) =>
 call Tryz.prog 27 [.pointer x22, .int .i64 0, .int .i64 r14.1] (.one (.l (.int .i64))) fun (r23 : Int) =>
 nn r1 fun a24 =>
 ld (.l .ptr) (fa a24 2) fun (x25 : Option Addr) =>
 call Tryz.prog 27 [.pointer x25, .int .i64 1, .int .i64 r17.1] (.one (.l (.int .i64))) fun (r26 : Int) =>
 call Tryz.prog 19 [.pointer r1, .bool false] (.many [.g [.slice, .slice, .slice, .slice], .l (.int .i64)]) fun (r27 : KTs _) =>
 nn r1 fun a28 =>
 ld (.l .ptr) (fa a28 3) fun (x29 : Option Addr) =>
 call Tryz.prog 29 [.pointer x29, .int .i64 0] (.many [.l (.int .i64), .l (.int .i64)]) fun (r30 : KTs _) =>
 nn r1 fun a31 =>
 ld (.l .ptr) (fa a31 2) fun (x32 : Option Addr) =>
 call Tryz.prog 27 [.pointer x32, .int .i64 2, .int .i64 r30.1] (.one (.l (.int .i64))) fun (r33 : Int) =>
 call Tryz.prog 19 [.pointer r1, .bool false] (.many [.g [.slice, .slice, .slice, .slice], .l (.int .i64)]) fun (r34 : KTs _) =>
 call Tryz.prog 17 [.pointer r1] (.one (.g [.slice, .slice, .slice, .slice, .slice, .slice, .int .i64, .int .i64, .int .i64, .int .i64])) fun (r35 : LTs _) =>
 nw 37 (zc Tryz.prog 37) fun b36 =>
 st (⟨b36, 0, none⟩) [.slice r35.1.a r35.1.n r35.1.c, .slice r35.2.1.a r35.2.1.n r35.2.1.c, .slice r35.2.2.1.a r35.2.2.1.n r35.2.2.1.c, .slice r35.2.2.2.1.a r35.2.2.2.1.n r35.2.2.2.1.c, .slice r35.2.2.2.2.1.a r35.2.2.2.2.1.n r35.2.2.2.2.1.c, .slice r35.2.2.2.2.2.1.a r35.2.2.2.2.2.1.n r35.2.2.2.2.2.1.c, .int .i64 r35.2.2.2.2.2.2.1, .int .i64 r35.2.2.2.2.2.2.2.1, .int .i64 r35.2.2.2.2.2.2.2.2.1, .int .i64 r35.2.2.2.2.2.2.2.2.2.1] <|
 nn r1 fun a37 =>
 ld (.l .ptr) (fa a37 0) fun (x38 : Option Addr) =>
 call Tryz.prog 32 [.pointer x38, .int .i64 r14.1, .int .i64 0] (.many [.l (.int .i64), .l (.int .i64)]) fun (r39 : KTs _) =>
 nn r1 fun a40 =>
 ld (.l .ptr) (fa a40 3) fun (x41 : Option Addr) =>
 nn x41 fun a42 =>
 ld (.l .ptr) (fa a42 0) fun (x43 : Option Addr) =>
 call Tryz.prog 33 [.pointer x43, .int .i64 r6.1, .int .i64 0] (.many [.l (.int .i64), .l (.int .i64)]) fun (r44 : KTs _) =>
 nn r1 fun a45 =>
 ld (.l .ptr) (fa a45 0) fun (x46 : Option Addr) =>
 nn x46 fun a47 =>
 ld (.l .ptr) (fa a47 0) fun (x48 : Option Addr) =>
 call Tryz.prog 34 [.pointer x48, .int .i64 0] (.many [.l .slice, .l (.int .i64)]) fun (r49 : KTs _) =>
 nn r1 fun a50 =>
 ld (.l .ptr) (fa a50 2) fun (x51 : Option Addr) =>
 call Tryz.prog 27 [.pointer x51, .int .i64 2, .int .i64 0] (.one (.l (.int .i64))) fun (r52 : Int) =>
 call Tryz.prog 19 [.pointer r1, .bool false] (.many [.g [.slice, .slice, .slice, .slice], .l (.int .i64)]) fun (r53 : KTs _) =>
 nw 43 (zc Tryz.prog 43) fun b54 =>
 st (⟨b54, 0, none⟩) [.slice r53.1.1.a r53.1.1.n r53.1.1.c, .slice r53.1.2.1.a r53.1.2.1.n r53.1.2.1.c, .slice r53.1.2.2.1.a r53.1.2.2.1.n r53.1.2.2.1.c, .slice r53.1.2.2.2.1.a r53.1.2.2.2.1.n r53.1.2.2.2.1.c] <|
 nn r1 fun a55 =>
 ld (.l .ptr) (fa a55 0) fun (x56 : Option Addr) =>
 nn x56 fun a57 =>
 ld (.l .ptr) (fa a57 0) fun (x58 : Option Addr) =>
 call Tryz.prog 34 [.pointer x58, .int .i64 0] (.many [.l .slice, .l (.int .i64)]) fun (r59 : KTs _) =>
 call Tryz.prog 14 [.int .i64 r6.2.1] (.one (.l (.int .i64))) fun (r60 : Int) =>
 call Tryz.prog 14 [.int .i64 r11] (.one (.l (.int .i64))) fun (r61 : Int) =>
 call Tryz.prog 14 [.int .i64 r14.2.1] (.one (.l (.int .i64))) fun (r62 : Int) =>
 call Tryz.prog 14 [.int .i64 r17.2.1] (.one (.l (.int .i64))) fun (r63 : Int) =>
 call Tryz.prog 14 [.int .i64 r20] (.one (.l (.int .i64))) fun (r64 : Int) =>
 call Tryz.prog 14 [.int .i64 r30.2.1] (.one (.l (.int .i64))) fun (r65 : Int) =>
 call Tryz.prog 14 [.int .i64 r39.2.1] (.one (.l (.int .i64))) fun (r66 : Int) =>
 call Tryz.prog 14 [.int .i64 r44.2.1] (.one (.l (.int .i64))) fun (r67 : Int) =>
 call Tryz.prog 14 [.int .i64 r49.2.1] (.one (.l (.int .i64))) fun (r68 : Int) =>
 call Tryz.prog 14 [.int .i64 r53.2.1] (.one (.l (.int .i64))) fun (r69 : Int) =>
 call Tryz.prog 14 [.int .i64 r59.2.1] (.one (.l (.int .i64))) fun (r70 : Int) =>
 br ((IntKind.wrap .i64 ((IntKind.wrap .i64 ((IntKind.wrap .i64 ((IntKind.wrap .i64 ((IntKind.wrap .i64 ((IntKind.wrap .i64 ((IntKind.wrap .i64 ((IntKind.wrap .i64 ((IntKind.wrap .i64 ((IntKind.wrap .i64 (r60 + r61)) + r62)) + r63)) + r64)) + r65)) + r66)) + r67)) + r68)) + r69)) + r70) : Int) == 0)
 (br ((r30.1 : Int) == r6.1)
 (br ((r39.1 : Int) == 0)
 (br ((r44.1 : Int) == p1)
 (ld (.l .slice) (fa (⟨b36, 0, none⟩) 5) fun (x71 : Slc) =>
 ld (.l .slice) (fa (⟨b36, 0, none⟩) 4) fun (x72 : Slc) =>
 br ((IntKind.wrap .i64 ((x71.n : Nat) + (x72.n : Nat)) : Int) == 0)
 (nw 3 [.int .i64 r14.1] fun b73 =>
 call Tryz.prog 35 [.slice r49.1.a r49.1.n r49.1.c, .slice (some ⟨b73, 0, none⟩) 1 1] (.one (.l .bool)) fun (r74 : Bool) =>
 br r74
 (ld (.l .slice) (fa (⟨b54, 0, none⟩) 3) fun (x75 : Slc) =>
 call Tryz.prog 36 [.slice x75.a x75.n x75.c, .int .i64 r6.1] (.one (.l .bool)) fun (r76 : Bool) =>
 br (!r76)
 (nw 3 [.int .i64 r14.1, .int .i64 r17.1] fun b77 =>
 call Tryz.prog 35 [.slice r59.1.a r59.1.n r59.1.c, .slice (some ⟨b77, 0, none⟩) 2 2] (.one (.l .bool)) fun (r78 : Bool) =>
 br r78
 (call Tryz.prog 15 [] (.one (.l .bool)) fun (r79 : Bool) =>
 ret (.bool r79))
 (ret (.bool false)))
 (ret (.bool false)))
 (ret (.bool false)))
 (ret (.bool false)))
 (ret (.bool false)))
 (ret (.bool false)))
 (ret (.bool false)))
 (ret (.bool false)))
theorem F.gloaminglaw20.GcRaises.calls (p0 : Int) (p1 : Int) (h : F.gloaminglaw20.GcRaises p0 p1 Q w) : Calls Tryz.prog 6 #[.int .u8 p0, .int .i64 p1] w (RetQ Q) :=
 Tryz.cd Tabs.z Tryz.func6 (by kernel_rfl) (es := [.va (.int .u8 p0), .va (.int .i64 p1)]) rfl (by kernel_rfl) h
end Go.Proofs.YtdplphebjhfliaaGreat
