import Derived.Test.YtpefngbfgjfcgaaGreatGsT
namespace Go.Proofs.YtpefngbfgjfcgaaGreat
open Go Go.Gl
set_option maxRecDepth 100000
set_option linter.unusedVariables false
variable {Q : Value → World → Prop} {w : World}
def F.gloaminglaw18.ProcGraph.T : Tabs := ⟨fun _ => [],
 fun _ => none,
 (fun
 | 7 => .held (some 8) (.go 0 false (.go 1 false (.cut (.go 2 false (.go 3 false (.go 4 false (.go 5 false (.go 6 false (.go 7 false (.go 8 true (.go 9 false (.go 10 false (.go 11 false (.go 13 false (.go 12 false (.go 14 false (.go 15 false (.go 16 false (.go 17 false (.go 18 false (.go 19 false (.go 20 false .nil))))))))))))))))))))))
 | _ => .quiet)⟩
def F.gloaminglaw18.ProcGraph (p0 : Slc) (p1 : Slc) (p2 : Slc) (p3 : Int) (p4 : Int) (p5 : Int) (p6 : Bool) (p7 : Int) : Tree :=
 call Tryz.prog 13 [.slice p0.a p0.n p0.c] (.many [.l .ptr, .l .slice]) fun (r1 : KTs _) =>
 call Tryz.prog 14 [.slice p0.a p0.n p0.c] (.many [.l .ptr, .l .slice]) fun (r2 : KTs _) =>
 br (Option.isNone r1.1)
 (ret (.bool false))
 (call Tryz.prog 15 [.slice r1.2.1.a r1.2.1.n r1.2.1.c, .slice p1.a p1.n p1.c, .slice p2.a p2.n p2.c, .int .u8 p3, .int .u8 p4, .int .u8 p5, .bool p6, .int .u8 p7] (.one (.g [.slice, .slice, .int .i64, .int .i64, .int .i64, .bool, .int .i64])) fun (r3 : LTs _) =>
 nw 31 (zc Tryz.prog 31) fun b4 =>
 st (⟨b4, 0, none⟩) [.slice r3.1.a r3.1.n r3.1.c, .slice r3.2.1.a r3.2.1.n r3.2.1.c, .int .i64 r3.2.2.1, .int .i64 r3.2.2.2.1, .int .i64 r3.2.2.2.2.1, .bool r3.2.2.2.2.2.1, .int .i64 r3.2.2.2.2.2.2.1] <|
 ld (.g [.slice, .slice, .int .i64, .int .i64, .int .i64, .bool, .int .i64]) (⟨b4, 0, none⟩) fun (x5 : LTs _) =>
 call Tryz.prog 16 [.pointer r1.1, .agg #[.slice x5.1.a x5.1.n x5.1.c, .slice x5.2.1.a x5.2.1.n x5.2.1.c, .int .i64 x5.2.2.1, .int .i64 x5.2.2.2.1, .int .i64 x5.2.2.2.2.1, .bool x5.2.2.2.2.2.1, .int .i64 x5.2.2.2.2.2.2.1]] (.many [.g [.slice, .slice, .slice, .slice], .l (.int .i64)]) fun (r6 : KTs _) =>
 nw 34 (zc Tryz.prog 34) fun b7 =>
 st (⟨b7, 0, none⟩) [.slice r6.1.1.a r6.1.1.n r6.1.1.c, .slice r6.1.2.1.a r6.1.2.1.n r6.1.2.1.c, .slice r6.1.2.2.1.a r6.1.2.2.1.n r6.1.2.2.1.c, .slice r6.1.2.2.2.1.a r6.1.2.2.2.1.n r6.1.2.2.2.1.c] <|
 drw <| held fun S8 =>
 call Tryz.prog 17 [.int .i64 r6.2.1] (.one (.l (.int .i64))) fun (r9 : Int) =>
 chk S8 <|
 narrow S8 fun S10 =>
 br ((r9 : Int) == 0)
 (ldS S10 (.g [.slice, .slice, .slice, .slice]) (⟨b7, 0, none⟩) fun (x11 : LTs _) =>
 ldS S10 (.g [.slice, .slice, .int .i64, .int .i64, .int .i64, .bool, .int .i64]) (⟨b4, 0, none⟩) fun (x12 : LTs _) =>
 call Tryz.prog 19 [.pointer r2.1, .agg #[.slice x12.1.a x12.1.n x12.1.c, .slice x12.2.1.a x12.2.1.n x12.2.1.c, .int .i64 x12.2.2.1, .int .i64 x12.2.2.2.1, .int .i64 x12.2.2.2.2.1, .bool x12.2.2.2.2.2.1, .int .i64 x12.2.2.2.2.2.2.1]] (.one (.g [.slice, .slice, .slice, .slice])) fun (r13 : LTs _) =>
 chk S10 <|
 call Tryz.prog 18 [.agg #[.slice x11.1.a x11.1.n x11.1.c, .slice x11.2.1.a x11.2.1.n x11.2.1.c, .slice x11.2.2.1.a x11.2.2.1.n x11.2.2.1.c, .slice x11.2.2.2.1.a x11.2.2.2.1.n x11.2.2.2.1.c], .agg #[.slice r13.1.a r13.1.n r13.1.c, .slice r13.2.1.a r13.2.1.n r13.2.1.c, .slice r13.2.2.1.a r13.2.2.1.n r13.2.2.1.c, .slice r13.2.2.2.1.a r13.2.2.2.1.n r13.2.2.2.1.c]] (.one (.l .bool)) fun (r14 : Bool) =>
 br r14
 (call Tryz.prog 21 [.pointer r1.1] (.one (.l .slice)) fun (r15 : Slc) =>
 call Tryz.prog 22 [.pointer r2.1] (.one (.l .slice)) fun (r16 : Slc) =>
 call Tryz.prog 20 [.slice r15.a r15.n r15.c, .slice r16.a r16.n r16.c] (.one (.l .bool)) fun (r17 : Bool) =>
 br r17
 (call Tryz.prog 23 [] (.one (.l .bool)) fun (r18 : Bool) =>
 ret (.bool r18))
 (ret (.bool false)))
 (ret (.bool false)))
 (ret (.bool false)))
theorem F.gloaminglaw18.ProcGraph.calls (p0 : Slc) (p1 : Slc) (p2 : Slc) (p3 : Int) (p4 : Int) (p5 : Int) (p6 : Bool) (p7 : Int) (h : F.gloaminglaw18.ProcGraph p0 p1 p2 p3 p4 p5 p6 p7 Q w) : Calls Tryz.prog 3 #[.slice p0.a p0.n p0.c, .slice p1.a p1.n p1.c, .slice p2.a p2.n p2.c, .int .u8 p3, .int .u8 p4, .int .u8 p5, .bool p6, .int .u8 p7] w (RetQ Q) :=
 Tryz.cd F.gloaminglaw18.ProcGraph.T Tryz.func3 (by kernel_rfl) (es := [.va (.slice p0.a p0.n p0.c), .va (.slice p1.a p1.n p1.c), .va (.slice p2.a p2.n p2.c), .va (.int .u8 p3), .va (.int .u8 p4), .va (.int .u8 p5), .va (.bool p6), .va (.int .u8 p7)]) rfl (by kernel_rfl) h
end Go.Proofs.YtpefngbfgjfcgaaGreat
