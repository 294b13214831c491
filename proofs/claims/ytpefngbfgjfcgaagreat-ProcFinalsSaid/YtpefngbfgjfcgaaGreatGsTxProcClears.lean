import Derived.Test.YtpefngbfgjfcgaaGreatGsT
namespace Go.Proofs.YtpefngbfgjfcgaaGreat
open Go Go.Gl
set_option maxRecDepth 100000
set_option linter.unusedVariables false
variable {Q : Value → World → Prop} {w : World}
def F.gloaminglaw18.ProcClears.T : Tabs := ⟨(fun
 | 10 => [(21, .int .i64)]
 | 20 => [(26, .int .i64)]
 | _ => []),
 fun _ => none,
 (fun
 | 26 => .tail 8
 | _ => .quiet)⟩
def F.gloaminglaw18.ProcClears (p0 : Slc) (p1 : Slc) (p2 : Slc) (p3 : Int) (p4 : Int) (p5 : Int) (p6 : Bool) : Tree :=
 call Tryz.prog 13 [.slice p0.a p0.n p0.c] (.many [.l .ptr, .l .slice]) fun (r1 : KTs _) =>
 br (Option.isNone r1.1)
 (ret (.bool false))
 (call Tryz.prog 15 [.slice r1.2.1.a r1.2.1.n r1.2.1.c, .slice p1.a p1.n p1.c, .slice p2.a p2.n p2.c, .int .u8 p3, .int .u8 p4, .int .u8 p5, .bool p6, .int .u8 7] (.one (.g [.slice, .slice, .int .i64, .int .i64, .int .i64, .bool, .int .i64])) fun (r2 : LTs _) =>
 nw 31 (zc Tryz.prog 31) fun b3 =>
 st (⟨b3, 0, none⟩) [.slice r2.1.a r2.1.n r2.1.c, .slice r2.2.1.a r2.2.1.n r2.2.1.c, .int .i64 r2.2.2.1, .int .i64 r2.2.2.2.1, .int .i64 r2.2.2.2.2.1, .bool r2.2.2.2.2.2.1, .int .i64 r2.2.2.2.2.2.2.1] <|
 ld (.g [.slice, .slice, .int .i64, .int .i64, .int .i64, .bool, .int .i64]) (⟨b3, 0, none⟩) fun (x4 : LTs _) =>
 call Tryz.prog 16 [.pointer r1.1, .agg #[.slice x4.1.a x4.1.n x4.1.c, .slice x4.2.1.a x4.2.1.n x4.2.1.c, .int .i64 x4.2.2.1, .int .i64 x4.2.2.2.1, .int .i64 x4.2.2.2.2.1, .bool x4.2.2.2.2.2.1, .int .i64 x4.2.2.2.2.2.2.1]] (.many [.g [.slice, .slice, .slice, .slice], .l (.int .i64)]) fun (r5 : KTs _) =>
 nw 34 (zc Tryz.prog 34) fun b6 =>
 st (⟨b6, 0, none⟩) [.slice r5.1.1.a r5.1.1.n r5.1.1.c, .slice r5.1.2.1.a r5.1.2.1.n r5.1.2.1.c, .slice r5.1.2.2.1.a r5.1.2.2.1.n r5.1.2.2.1.c, .slice r5.1.2.2.2.1.a r5.1.2.2.2.1.n r5.1.2.2.2.1.c] <|
 call Tryz.prog 17 [.int .i64 r5.2.1] (.one (.l (.int .i64))) fun (r7 : Int) =>
 br ((r7 : Int) != 0)
 (ret (.bool false))
 (ld (.l .slice) (fa (⟨b3, 0, none⟩) 0) fun (x8 : Slc) =>
 call Tryz.prog 24 [.pointer r1.1, .slice x8.a x8.n x8.c] (.one (.l .slice)) fun (r9 : Slc) =>
 lp [.int .i64] (fun X10 u11 =>
 ld (.l .slice) (fa (⟨b6, 0, none⟩) 0) fun (x12 : Slc) =>
 br (decide ((u11.1 : Int) < (x12.n : Nat)))
 (ld (.l .slice) (fa (⟨b6, 0, none⟩) 0) fun (x13 : Slc) =>
 ix x13.a x13.n u11.1 1 fun a14 =>
 ld (.l (.int .i64)) a14 fun (x15 : Int) =>
 call Tryz.prog 25 [.pointer r1.1, .int .i64 x15] (.many [.g [.int .i64, .int .i64, .int .i64, .bool], .l (.int .i64)]) fun (r16 : KTs _) =>
 nw 49 (zc Tryz.prog 49) fun b17 =>
 st (⟨b17, 0, none⟩) [.int .i64 r16.1.1, .int .i64 r16.1.2.1, .int .i64 r16.1.2.2.1, .bool r16.1.2.2.2.1] <|
 ld (.l .slice) (fa (⟨b6, 0, none⟩) 0) fun (x18 : Slc) =>
 ix x18.a x18.n u11.1 1 fun a19 =>
 ld (.l (.int .i64)) a19 fun (x20 : Int) =>
 call Tryz.prog 26 [.pointer r1.1, .int .i64 x20, .int .i64 0] (.many [.l (.int .i64), .l (.int .i64)]) fun (r21 : KTs _) =>
 call Tryz.prog 17 [.int .i64 r16.2.1] (.one (.l (.int .i64))) fun (r22 : Int) =>
 br ((r22 : Int) != 0)
 (ret (.bool false))
 (ld (.l (.int .i64)) (fa (⟨b17, 0, none⟩) 0) fun (x23 : Int) =>
 br ((x23 : Int) != 4)
 (ret (.bool false))
 (br ((r21.1 : Int) == 0)
 (ret (.bool false))
 (call Tryz.prog 27 [.slice r9.a r9.n r9.c, .int .i64 r21.1] (.one (.l .bool)) fun (r24 : Bool) =>
 br r24
 (ret (.bool false))
 (ld (.l (.int .i64)) (fa (⟨b17, 0, none⟩) 1) fun (x25 : Int) =>
 br ((x25 : Int) == 3)
 (ld (.l .slice) (fa (⟨b6, 0, none⟩) 3) fun (x26 : Slc) =>
 call Tryz.prog 27 [.slice x26.a x26.n x26.c, .int .i64 r21.1] (.one (.l .bool)) fun (r27 : Bool) =>
 br r27
 (ret (.bool false))
 (X10 (IntKind.wrap .i64 (u11.1 + 1), ())))
 (lp [.int .i64] (fun X26 u27 =>
 br (decide ((u27.1 : Int) < (r1.2.1.n : Nat)))
 (ix r1.2.1.a r1.2.1.n u27.1 1 fun a28 =>
 ld (.l (.int .i64)) a28 fun (x29 : Int) =>
 call Tryz.prog 25 [.pointer r1.1, .int .i64 x29] (.many [.g [.int .i64, .int .i64, .int .i64, .bool], .l (.int .i64)]) fun (r30 : KTs _) =>
 nw 49 (zc Tryz.prog 49) fun b31 =>
 st (⟨b31, 0, none⟩) [.int .i64 r30.1.1, .int .i64 r30.1.2.1, .int .i64 r30.1.2.2.1, .bool r30.1.2.2.2.1] <|
 ix r1.2.1.a r1.2.1.n u27.1 1 fun a32 =>
 ld (.l (.int .i64)) a32 fun (x33 : Int) =>
 call Tryz.prog 26 [.pointer r1.1, .int .i64 x33, .int .i64 0] (.many [.l (.int .i64), .l (.int .i64)]) fun (r34 : KTs _) =>
 ld (.l (.int .i64)) (fa (⟨b31, 0, none⟩) 0) fun (x35 : Int) =>
 br ((x35 : Int) != 4)
 (X26 (IntKind.wrap .i64 (u27.1 + 1), ()))
 (ld (.l (.int .i64)) (fa (⟨b31, 0, none⟩) 1) fun (x36 : Int) =>
 br ((x36 : Int) == 3)
 (X26 (IntKind.wrap .i64 (u27.1 + 1), ()))
 (br ((r34.1 : Int) == 0)
 (X26 (IntKind.wrap .i64 (u27.1 + 1), ()))
 (br ((r34.1 : Int) == r21.1)
 (drw <|
 ld (.l .slice) (fa (⟨b6, 0, none⟩) 0) fun (x37 : Slc) =>
 ix r1.2.1.a r1.2.1.n u27.1 1 fun a38 =>
 ld (.l (.int .i64)) a38 fun (x39 : Int) =>
 call Tryz.prog 27 [.slice x37.a x37.n x37.c, .int .i64 x39] (.one (.l .bool)) fun (r40 : Bool) =>
 br (!r40)
 (ret (.bool false))
 (X26 (IntKind.wrap .i64 (u27.1 + 1), ())))
 (ld (.l (.int .i64)) (fa (⟨b31, 0, none⟩) 1) fun (x37 : Int) =>
 br ((x37 : Int) == 1)
 (nw 3 [.int .i64 r34.1] fun b38 =>
 call Tryz.prog 24 [.pointer r1.1, .slice (some ⟨b38, 0, none⟩) 1 1] (.one (.l .slice)) fun (r39 : Slc) =>
 call Tryz.prog 27 [.slice r39.a r39.n r39.c, .int .i64 r21.1] (.one (.l .bool)) fun (r40 : Bool) =>
 drw <|
 br r40
 (ld (.l .slice) (fa (⟨b6, 0, none⟩) 0) fun (x41 : Slc) =>
 ix r1.2.1.a r1.2.1.n u27.1 1 fun a42 =>
 ld (.l (.int .i64)) a42 fun (x43 : Int) =>
 call Tryz.prog 27 [.slice x41.a x41.n x41.c, .int .i64 x43] (.one (.l .bool)) fun (r44 : Bool) =>
 br (!r44)
 (ret (.bool false))
 (X26 (IntKind.wrap .i64 (u27.1 + 1), ())))
 (X26 (IntKind.wrap .i64 (u27.1 + 1), ())))
 (drw <|
 X26 (IntKind.wrap .i64 (u27.1 + 1), ())))))))
 (X10 (IntKind.wrap .i64 (u11.1 + 1), ()))) (0, ())))))))
 (call Tryz.prog 23 [] (.one (.l .bool)) fun (r13 : Bool) =>
 ret (.bool r13))) (0, ())))
theorem F.gloaminglaw18.ProcClears.calls (p0 : Slc) (p1 : Slc) (p2 : Slc) (p3 : Int) (p4 : Int) (p5 : Int) (p6 : Bool) (h : F.gloaminglaw18.ProcClears p0 p1 p2 p3 p4 p5 p6 Q w) : Calls Tryz.prog 5 #[.slice p0.a p0.n p0.c, .slice p1.a p1.n p1.c, .slice p2.a p2.n p2.c, .int .u8 p3, .int .u8 p4, .int .u8 p5, .bool p6] w (RetQ Q) :=
 Tryz.cd F.gloaminglaw18.ProcClears.T Tryz.func5 (by kernel_rfl) (es := [.va (.slice p0.a p0.n p0.c), .va (.slice p1.a p1.n p1.c), .va (.slice p2.a p2.n p2.c), .va (.int .u8 p3), .va (.int .u8 p4), .va (.int .u8 p5), .va (.bool p6)]) rfl (by kernel_rfl) h
end Go.Proofs.YtpefngbfgjfcgaaGreat
