import Derived.Test.YtpefngbfgjfcgaaGreatGsT
namespace Go.Proofs.YtpefngbfgjfcgaaGreat
open Go Go.Gl
set_option maxRecDepth 100000
set_option linter.unusedVariables false
variable {Q : Value → World → Prop} {w : World}
def F.gloaminglaw18.ProcFinals.T : Tabs := ⟨(fun
 | 10 => [(21, .int .i64)]
 | 16 => [(23, .int .i64)]
 | 22 => [(24, .slice), (25, .int .i64)]
 | 30 => [(31, .int .i64)]
 | 35 => [(32, .int .i64)]
 | 40 => [(33, .int .i64)]
 | _ => []),
 fun _ => none,
 (fun
 | 12 => .held (some 15) (.go 0 false (.go 1 false (.go 2 false (.go 3 false (.go 4 false (.go 5 false (.go 6 false (.cut (.go 7 false (.go 8 false (.go 9 false (.go 10 false (.go 11 false (.go 12 false (.go 13 false (.go 14 false (.go 15 true (.go 16 false .nil))))))))))))))))))
 | 14 => .held (some 7) (.go 0 false (.go 2 false (.go 3 false (.go 5 false (.go 6 false (.go 1 false (.go 4 false (.go 7 true (.go 8 false (.go 9 false .nil))))))))))
 | 18 => .tail 6
 | 26 => .held (some 24) (.go 0 false (.go 1 false (.go 2 false (.go 3 false (.go 4 false (.go 5 false (.go 6 false (.go 7 false (.go 8 false (.go 9 false (.go 10 false (.go 11 false (.go 12 false (.go 13 false (.go 14 false (.go 15 false (.cut (.go 16 false (.go 17 false (.go 18 false (.go 19 false (.go 20 false (.go 21 false (.go 22 false (.go 23 false (.go 24 true (.go 25 false (.go 26 false (.go 27 false (.go 28 false (.go 29 false (.go 30 false .nil))))))))))))))))))))))))))))))))
 | 37 => .held (some 17) (.go 0 false (.go 1 false (.go 2 false (.go 3 false (.go 4 false (.go 5 false (.go 6 false (.go 7 false (.cut (.go 8 false (.go 9 false (.go 10 false (.go 11 false (.go 12 false (.go 13 false (.go 14 false (.go 15 false (.go 16 false (.go 17 true (.go 18 false (.go 19 false .nil)))))))))))))))))))))
 | 43 => .held (some 17) (.go 0 false (.go 1 false (.go 2 false (.go 3 false (.go 4 false (.go 5 false (.go 6 false (.go 7 false (.cut (.go 8 false (.go 9 false (.go 10 false (.go 11 false (.go 12 false (.go 13 false (.go 14 false (.go 15 false (.go 16 false (.go 17 true (.go 18 false (.go 19 false (.go 20 false (.go 21 false (.go 22 false (.go 23 false .nil)))))))))))))))))))))))))
 | _ => .quiet)⟩
def F.gloaminglaw18.ProcFinals (p0 : Slc) (p1 : Slc) (p2 : Slc) (p3 : Int) (p4 : Int) (p5 : Int) (p6 : Bool) : Tree :=
 call Tryz.prog 13 [.slice p0.a p0.n p0.c] (.many [.l .ptr, .l .slice]) fun (r1 : KTs _) =>
 br (Option.isNone r1.1)
 (ret (.bool false))
 (call Tryz.prog 15 [.slice r1.2.1.a r1.2.1.n r1.2.1.c, .slice p1.a p1.n p1.c, .slice p2.a p2.n p2.c, .int .u8 p3, .int .u8 p4, .int .u8 p5, .bool p6, .int .u8 3] (.one (.g [.slice, .slice, .int .i64, .int .i64, .int .i64, .bool, .int .i64])) fun (r2 : LTs _) =>
 nw 31 (zc Tryz.prog 31) fun b3 =>
 st (⟨b3, 0, none⟩) [.slice r2.1.a r2.1.n r2.1.c, .slice r2.2.1.a r2.2.1.n r2.2.1.c, .int .i64 r2.2.2.1, .int .i64 r2.2.2.2.1, .int .i64 r2.2.2.2.2.1, .bool r2.2.2.2.2.2.1, .int .i64 r2.2.2.2.2.2.2.1] <|
 ld (.g [.slice, .slice, .int .i64, .int .i64, .int .i64, .bool, .int .i64]) (⟨b3, 0, none⟩) fun (x4 : LTs _) =>
 call Tryz.prog 16 [.pointer r1.1, .agg #[.slice x4.1.a x4.1.n x4.1.c, .slice x4.2.1.a x4.2.1.n x4.2.1.c, .int .i64 x4.2.2.1, .int .i64 x4.2.2.2.1, .int .i64 x4.2.2.2.2.1, .bool x4.2.2.2.2.2.1, .int .i64 x4.2.2.2.2.2.2.1]] (.many [.g [.slice, .slice, .slice, .slice], .l (.int .i64)]) fun (r5 : KTs _) =>
 nw 34 (zc Tryz.prog 34) fun b6 =>
 st (⟨b6, 0, none⟩) [.slice r5.1.1.a r5.1.1.n r5.1.1.c, .slice r5.1.2.1.a r5.1.2.1.n r5.1.2.1.c, .slice r5.1.2.2.1.a r5.1.2.2.1.n r5.1.2.2.1.c, .slice r5.1.2.2.2.1.a r5.1.2.2.2.1.n r5.1.2.2.2.1.c] <|
 call Tryz.prog 17 [.int .i64 r5.2.1] (.one (.l (.int .i64))) fun (r7 : Int) =>
 br ((r7 : Int) != 0)
 (ret (.bool false))
 (ld (.l .slice) (fa (⟨b3, 0, none⟩) 0) fun (x8 : Slc) =>
 call Tryz.prog 24 [.pointer r1.1, .slice x8.a x8.n x8.c] (.one (.l .slice)) fun (r9 : Slc) =>
 lp [.int .i64] (fun X10 u11 =>
 br (decide ((u11.1 : Int) < (r9.n : Nat)))
 (drw <| held fun S12 =>
 ldS S12 (.l .slice) (fa (⟨b6, 0, none⟩) 3) fun (x13 : Slc) =>
 ix r9.a r9.n u11.1 1 fun a14 =>
 ldS S12 (.l (.int .i64)) a14 fun (x15 : Int) =>
 call Tryz.prog 27 [.slice x13.a x13.n x13.c, .int .i64 x15] (.one (.l .bool)) fun (r16 : Bool) =>
 chk S12 <|
 narrow S12 fun S17 =>
 br (!r16)
 (ret (.bool false))
 (ldS S17 (.l .slice) (fa (⟨b6, 0, none⟩) 2) fun (x18 : Slc) =>
 ix r9.a r9.n u11.1 1 fun a19 =>
 ldS S17 (.l (.int .i64)) a19 fun (x20 : Int) =>
 call Tryz.prog 27 [.slice x18.a x18.n x18.c, .int .i64 x20] (.one (.l .bool)) fun (r21 : Bool) =>
 br r21
 (ret (.bool false))
 (X10 (IntKind.wrap .i64 (u11.1 + 1), ()))))
 (drw <| held fun S12 =>
 ldS S12 (.l .slice) (fa (⟨b3, 0, none⟩) 0) fun (x13 : Slc) =>
 ldS S12 (.l .slice) (fa (⟨b6, 0, none⟩) 2) fun (x14 : Slc) =>
 nw 3 [] fun b15 =>
 chk S12 <|
 opr Tryz.prog (Builtin.append_ #[24, 24] 24 #[.slice (some ⟨b15, 0, none⟩) 0 0, .slice x13.a x13.n x13.c]) (.one (.l .slice)) fun (r16 : Slc) =>
 chk S12 <|
 opr Tryz.prog (Builtin.append_ #[24, 24] 24 #[.slice r16.a r16.n r16.c, .slice x14.a x14.n x14.c]) (.one (.l .slice)) fun (r17 : Slc) =>
 call Tryz.prog 24 [.pointer r1.1, .slice r17.a r17.n r17.c] (.one (.l .slice)) fun (r18 : Slc) =>
 lp [.int .i64] (fun X19 u20 =>
 br (decide ((u20.1 : Int) < (r18.n : Nat)))
 (drw <|
 ld (.l .slice) (fa (⟨b6, 0, none⟩) 3) fun (x21 : Slc) =>
 ix r18.a r18.n u20.1 1 fun a22 =>
 ld (.l (.int .i64)) a22 fun (x23 : Int) =>
 call Tryz.prog 27 [.slice x21.a x21.n x21.c, .int .i64 x23] (.one (.l .bool)) fun (r24 : Bool) =>
 br (!r24)
 (ret (.bool false))
 (X19 (IntKind.wrap .i64 (u20.1 + 1), ())))
 (lp [.slice, .int .i64] (fun X21 u22 =>
 br (decide ((u22.2.1 : Int) < (r1.2.1.n : Nat)))
 (ix r1.2.1.a r1.2.1.n u22.2.1 1 fun a23 =>
 ld (.l (.int .i64)) a23 fun (x24 : Int) =>
 call Tryz.prog 25 [.pointer r1.1, .int .i64 x24] (.many [.g [.int .i64, .int .i64, .int .i64, .bool], .l (.int .i64)]) fun (r25 : KTs _) =>
 nw 49 (zc Tryz.prog 49) fun b26 =>
 st (⟨b26, 0, none⟩) [.int .i64 r25.1.1, .int .i64 r25.1.2.1, .int .i64 r25.1.2.2.1, .bool r25.1.2.2.2.1] <|
 ix r1.2.1.a r1.2.1.n u22.2.1 1 fun a27 =>
 ld (.l (.int .i64)) a27 fun (x28 : Int) =>
 call Tryz.prog 26 [.pointer r1.1, .int .i64 x28, .int .i64 0] (.many [.l (.int .i64), .l (.int .i64)]) fun (r29 : KTs _) =>
 drw <| held fun S30 =>
 ldS S30 (.l (.int .i64)) (fa (⟨b26, 0, none⟩) 0) fun (x31 : Int) =>
 br ((x31 : Int) == 4)
 (ldS S30 (.l (.int .i64)) (fa (⟨b26, 0, none⟩) 1) fun (x32 : Int) =>
 br ((x32 : Int) == 1)
 (ldS S30 (.l .slice) (fa (⟨b6, 0, none⟩) 3) fun (x33 : Slc) =>
 ix r1.2.1.a r1.2.1.n u22.2.1 1 fun a34 =>
 ldS S30 (.l (.int .i64)) a34 fun (x35 : Int) =>
 call Tryz.prog 27 [.slice x33.a x33.n x33.c, .int .i64 x35] (.one (.l .bool)) fun (r36 : Bool) =>
 chk S30 <|
 narrow S30 fun S37 =>
 br r36
 (ldS S37 (.l .slice) (fa (⟨b6, 0, none⟩) 0) fun (x38 : Slc) =>
 ix r1.2.1.a r1.2.1.n u22.2.1 1 fun a39 =>
 ldS S37 (.l (.int .i64)) a39 fun (x40 : Int) =>
 call Tryz.prog 27 [.slice x38.a x38.n x38.c, .int .i64 x40] (.one (.l .bool)) fun (r41 : Bool) =>
 br (!r41)
 (br ((r29.1 : Int) != 0)
 (nw 3 [.int .i64 r29.1] fun b42 =>
 opr Tryz.prog (Builtin.append_ #[24, 24] 24 #[.slice u22.1.a u22.1.n u22.1.c, .slice (some ⟨b42, 0, none⟩) 1 1]) (.one (.l .slice)) fun (r43 : Slc) =>
 X21 (⟨r43.a, r43.n, r43.c⟩, IntKind.wrap .i64 (u22.2.1 + 1), ()))
 (X21 (⟨u22.1.a, u22.1.n, u22.1.c⟩, IntKind.wrap .i64 (u22.2.1 + 1), ())))
 (X21 (⟨u22.1.a, u22.1.n, u22.1.c⟩, IntKind.wrap .i64 (u22.2.1 + 1), ())))
 (X21 (⟨u22.1.a, u22.1.n, u22.1.c⟩, IntKind.wrap .i64 (u22.2.1 + 1), ())))
 (narrow S30 fun S33 =>
 X21 (⟨u22.1.a, u22.1.n, u22.1.c⟩, IntKind.wrap .i64 (u22.2.1 + 1), ())))
 (narrow S30 fun S32 =>
 X21 (⟨u22.1.a, u22.1.n, u22.1.c⟩, IntKind.wrap .i64 (u22.2.1 + 1), ())))
 (nw 3 [] fun b23 =>
 opr Tryz.prog (Builtin.append_ #[24, 24] 24 #[.slice (some ⟨b23, 0, none⟩) 0 0, .slice r18.a r18.n r18.c]) (.one (.l .slice)) fun (r24 : Slc) =>
 opr Tryz.prog (Builtin.append_ #[24, 24] 24 #[.slice r24.a r24.n r24.c, .slice u22.1.a u22.1.n u22.1.c]) (.one (.l .slice)) fun (r25 : Slc) =>
 call Tryz.prog 24 [.pointer r1.1, .slice r25.a r25.n r25.c] (.one (.l .slice)) fun (r26 : Slc) =>
 lp [.int .i64] (fun X27 u28 =>
 ld (.l .slice) (fa (⟨b6, 0, none⟩) 3) fun (x29 : Slc) =>
 br (decide ((u28.1 : Int) < (x29.n : Nat)))
 (ld (.l .slice) (fa (⟨b6, 0, none⟩) 3) fun (x30 : Slc) =>
 ix x30.a x30.n u28.1 1 fun a31 =>
 ld (.l (.int .i64)) a31 fun (x32 : Int) =>
 call Tryz.prog 27 [.slice r26.a r26.n r26.c, .int .i64 x32] (.one (.l .bool)) fun (r33 : Bool) =>
 br (!r33)
 (ret (.bool false))
 (X27 (IntKind.wrap .i64 (u28.1 + 1), ())))
 (lp [.int .i64] (fun X30 u31 =>
 ld (.l .slice) (fa (⟨b6, 0, none⟩) 2) fun (x32 : Slc) =>
 br (decide ((u31.1 : Int) < (x32.n : Nat)))
 (drw <| held fun S33 =>
 ldS S33 (.l .slice) (fa (⟨b3, 0, none⟩) 1) fun (x34 : Slc) =>
 ldS S33 (.l .slice) (fa (⟨b6, 0, none⟩) 2) fun (x35 : Slc) =>
 ix x35.a x35.n u31.1 1 fun a36 =>
 ldS S33 (.l (.int .i64)) a36 fun (x37 : Int) =>
 call Tryz.prog 27 [.slice x34.a x34.n x34.c, .int .i64 x37] (.one (.l .bool)) fun (r38 : Bool) =>
 chk S33 <|
 narrow S33 fun S39 =>
 br (!r38)
 (ret (.bool false))
 (ldS S39 (.l .slice) (fa (⟨b6, 0, none⟩) 3) fun (x40 : Slc) =>
 ldS S39 (.l .slice) (fa (⟨b6, 0, none⟩) 2) fun (x41 : Slc) =>
 ix x41.a x41.n u31.1 1 fun a42 =>
 ldS S39 (.l (.int .i64)) a42 fun (x43 : Int) =>
 call Tryz.prog 27 [.slice x40.a x40.n x40.c, .int .i64 x43] (.one (.l .bool)) fun (r44 : Bool) =>
 br (!r44)
 (ret (.bool false))
 (X30 (IntKind.wrap .i64 (u31.1 + 1), ()))))
 (lp [.int .i64] (fun X33 u34 =>
 ld (.l .slice) (fa (⟨b6, 0, none⟩) 1) fun (x35 : Slc) =>
 br (decide ((u34.1 : Int) < (x35.n : Nat)))
 (ld (.l .slice) (fa (⟨b6, 0, none⟩) 1) fun (x36 : Slc) =>
 ix x36.a x36.n u34.1 1 fun a37 =>
 ld (.l (.int .i64)) a37 fun (x38 : Int) =>
 call Tryz.prog 26 [.pointer r1.1, .int .i64 x38, .int .i64 1] (.many [.l (.int .i64), .l (.int .i64)]) fun (r39 : KTs _) =>
 drw <| held fun S40 =>
 ldS S40 (.l .slice) (fa (⟨b6, 0, none⟩) 3) fun (x41 : Slc) =>
 ldS S40 (.l .slice) (fa (⟨b6, 0, none⟩) 1) fun (x42 : Slc) =>
 ix x42.a x42.n u34.1 1 fun a43 =>
 ldS S40 (.l (.int .i64)) a43 fun (x44 : Int) =>
 call Tryz.prog 27 [.slice x41.a x41.n x41.c, .int .i64 x44] (.one (.l .bool)) fun (r45 : Bool) =>
 chk S40 <|
 narrow S40 fun S46 =>
 br (!r45)
 (ret (.bool false))
 (ldS S46 (.l .slice) (fa (⟨b6, 0, none⟩) 0) fun (x47 : Slc) =>
 ldS S46 (.l .slice) (fa (⟨b6, 0, none⟩) 1) fun (x48 : Slc) =>
 ix x48.a x48.n u34.1 1 fun a49 =>
 ldS S46 (.l (.int .i64)) a49 fun (x50 : Int) =>
 call Tryz.prog 27 [.slice x47.a x47.n x47.c, .int .i64 x50] (.one (.l .bool)) fun (r51 : Bool) =>
 br (!r51)
 (ret (.bool false))
 (br (decide ((r39.1 : Int) < 1))
 (ret (.bool false))
 (X33 (IntKind.wrap .i64 (u34.1 + 1), ())))))
 (call Tryz.prog 23 [] (.one (.l .bool)) fun (r36 : Bool) =>
 ret (.bool r36))) (0, ()))) (0, ()))) (0, ()))) (⟨none, 0, 0⟩, 0, ()))) (0, ()))) (0, ())))
theorem F.gloaminglaw18.ProcFinals.calls (p0 : Slc) (p1 : Slc) (p2 : Slc) (p3 : Int) (p4 : Int) (p5 : Int) (p6 : Bool) (h : F.gloaminglaw18.ProcFinals p0 p1 p2 p3 p4 p5 p6 Q w) : Calls Tryz.prog 6 #[.slice p0.a p0.n p0.c, .slice p1.a p1.n p1.c, .slice p2.a p2.n p2.c, .int .u8 p3, .int .u8 p4, .int .u8 p5, .bool p6] w (RetQ Q) :=
 Tryz.cd F.gloaminglaw18.ProcFinals.T Tryz.func6 (by kernel_rfl) (es := [.va (.slice p0.a p0.n p0.c), .va (.slice p1.a p1.n p1.c), .va (.slice p2.a p2.n p2.c), .va (.int .u8 p3), .va (.int .u8 p4), .va (.int .u8 p5), .va (.bool p6)]) rfl (by kernel_rfl) h
end Go.Proofs.YtpefngbfgjfcgaaGreat
