import Derived.Test.YtpefngbfgjfcgaaGreatGsT
namespace Go.Proofs.YtpefngbfgjfcgaaGreat
open Go Go.Gl
set_option maxRecDepth 100000
set_option linter.unusedVariables false
variable {Q : Value → World → Prop} {w : World}
def F.gloaminglaw18.ProcSame (p0 : Slc) (p1 : Slc) (p2 : Slc) (p3 : Int) (p4 : Int) (p5 : Int) (p6 : Bool) (p7 : Int) (p8 : Int) : Tree :=
 call Tryz.prog 13 [.slice p0.a p0.n p0.c] (.many [.l .ptr, .l .slice]) fun (r1 : KTs _) =>
 br (Option.isNone r1.1)
 (ret (.bool false))
 (call Tryz.prog 15 [.slice r1.2.1.a r1.2.1.n r1.2.1.c, .slice p1.a p1.n p1.c, .slice p2.a p2.n p2.c, .int .u8 p3, .int .u8 p4, .int .u8 p5, .bool p6, .int .u8 0] (.one (.g [.slice, .slice, .int .i64, .int .i64, .int .i64, .bool, .int .i64])) fun (r2 : LTs _) =>
 nw 31 (zc Tryz.prog 31) fun b3 =>
 st (⟨b3, 0, none⟩) [.slice r2.1.a r2.1.n r2.1.c, .slice r2.2.1.a r2.2.1.n r2.2.1.c, .int .i64 r2.2.2.1, .int .i64 r2.2.2.2.1, .int .i64 r2.2.2.2.2.1, .bool r2.2.2.2.2.2.1, .int .i64 r2.2.2.2.2.2.2.1] <|
 need ((7 : Int) ≠ 0) <|
 st (fa (⟨b3, 0, none⟩) 6) [.int .i64 (IntKind.wrap .i64 (1 + (Int.tmod (IntKind.wrap .i64 p7) 7)))] <|
 ld (.g [.slice, .slice, .int .i64, .int .i64, .int .i64, .bool, .int .i64]) (⟨b3, 0, none⟩) fun (x4 : LTs _) =>
 call Tryz.prog 16 [.pointer r1.1, .agg #[.slice x4.1.a x4.1.n x4.1.c, .slice x4.2.1.a x4.2.1.n x4.2.1.c, .int .i64 x4.2.2.1, .int .i64 x4.2.2.2.1, .int .i64 x4.2.2.2.2.1, .bool x4.2.2.2.2.2.1, .int .i64 x4.2.2.2.2.2.2.1]] (.many [.g [.slice, .slice, .slice, .slice], .l (.int .i64)]) fun (r5 : KTs _) =>
 nw 34 (zc Tryz.prog 34) fun b6 =>
 st (⟨b6, 0, none⟩) [.slice r5.1.1.a r5.1.1.n r5.1.1.c, .slice r5.1.2.1.a r5.1.2.1.n r5.1.2.1.c, .slice r5.1.2.2.1.a r5.1.2.2.1.n r5.1.2.2.1.c, .slice r5.1.2.2.2.1.a r5.1.2.2.2.1.n r5.1.2.2.2.1.c] <|
 st (fa (⟨b3, 0, none⟩) 6) [.int .i64 (IntKind.wrap .i64 (4096 - (IntKind.wrap .i64 p8)))] <|
 ld (.g [.slice, .slice, .int .i64, .int .i64, .int .i64, .bool, .int .i64]) (⟨b3, 0, none⟩) fun (x7 : LTs _) =>
 call Tryz.prog 16 [.pointer r1.1, .agg #[.slice x7.1.a x7.1.n x7.1.c, .slice x7.2.1.a x7.2.1.n x7.2.1.c, .int .i64 x7.2.2.1, .int .i64 x7.2.2.2.1, .int .i64 x7.2.2.2.2.1, .bool x7.2.2.2.2.2.1, .int .i64 x7.2.2.2.2.2.2.1]] (.many [.g [.slice, .slice, .slice, .slice], .l (.int .i64)]) fun (r8 : KTs _) =>
 nw 34 (zc Tryz.prog 34) fun b9 =>
 st (⟨b9, 0, none⟩) [.slice r8.1.1.a r8.1.1.n r8.1.1.c, .slice r8.1.2.1.a r8.1.2.1.n r8.1.2.1.c, .slice r8.1.2.2.1.a r8.1.2.2.1.n r8.1.2.2.1.c, .slice r8.1.2.2.2.1.a r8.1.2.2.2.1.n r8.1.2.2.2.1.c] <|
 call Tryz.prog 17 [.int .i64 r5.2.1] (.one (.l (.int .i64))) fun (r10 : Int) =>
 call Tryz.prog 17 [.int .i64 r8.2.1] (.one (.l (.int .i64))) fun (r11 : Int) =>
 br ((IntKind.wrap .i64 (r10 + r11) : Int) == 0)
 (ld (.l .slice) (fa (⟨b6, 0, none⟩) 0) fun (x12 : Slc) =>
 ld (.l .slice) (fa (⟨b9, 0, none⟩) 0) fun (x13 : Slc) =>
 call Tryz.prog 30 [.slice x12.a x12.n x12.c, .slice x13.a x13.n x13.c] (.one (.l .bool)) fun (r14 : Bool) =>
 br r14
 (ld (.l .slice) (fa (⟨b6, 0, none⟩) 1) fun (x15 : Slc) =>
 ld (.l .slice) (fa (⟨b9, 0, none⟩) 1) fun (x16 : Slc) =>
 call Tryz.prog 30 [.slice x15.a x15.n x15.c, .slice x16.a x16.n x16.c] (.one (.l .bool)) fun (r17 : Bool) =>
 br r17
 (ld (.l .slice) (fa (⟨b6, 0, none⟩) 2) fun (x18 : Slc) =>
 ld (.l .slice) (fa (⟨b9, 0, none⟩) 2) fun (x19 : Slc) =>
 call Tryz.prog 30 [.slice x18.a x18.n x18.c, .slice x19.a x19.n x19.c] (.one (.l .bool)) fun (r20 : Bool) =>
 br r20
 (ld (.l .slice) (fa (⟨b6, 0, none⟩) 3) fun (x21 : Slc) =>
 ld (.l .slice) (fa (⟨b9, 0, none⟩) 3) fun (x22 : Slc) =>
 call Tryz.prog 30 [.slice x21.a x21.n x21.c, .slice x22.a x22.n x22.c] (.one (.l .bool)) fun (r23 : Bool) =>
 br r23
 (call Tryz.prog 23 [] (.one (.l .bool)) fun (r24 : Bool) =>
 ret (.bool r24))
 (ret (.bool false)))
 (ret (.bool false)))
 (ret (.bool false)))
 (ret (.bool false)))
 (ret (.bool false)))
theorem F.gloaminglaw18.ProcSame.calls (p0 : Slc) (p1 : Slc) (p2 : Slc) (p3 : Int) (p4 : Int) (p5 : Int) (p6 : Bool) (p7 : Int) (p8 : Int) (h : F.gloaminglaw18.ProcSame p0 p1 p2 p3 p4 p5 p6 p7 p8 Q w) : Calls Tryz.prog 11 #[.slice p0.a p0.n p0.c, .slice p1.a p1.n p1.c, .slice p2.a p2.n p2.c, .int .u8 p3, .int .u8 p4, .int .u8 p5, .bool p6, .int .u8 p7, .int .u8 p8] w (RetQ Q) :=
 Tryz.cd Tabs.z Tryz.func11 (by kernel_rfl) (es := [.va (.slice p0.a p0.n p0.c), .va (.slice p1.a p1.n p1.c), .va (.slice p2.a p2.n p2.c), .va (.int .u8 p3), .va (.int .u8 p4), .va (.int .u8 p5), .va (.bool p6), .va (.int .u8 p7), .va (.int .u8 p8)]) rfl (by kernel_rfl) h
end Go.Proofs.YtpefngbfgjfcgaaGreat
