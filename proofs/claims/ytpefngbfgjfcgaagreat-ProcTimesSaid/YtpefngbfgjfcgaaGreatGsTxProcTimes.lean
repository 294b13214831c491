import Derived.Test.YtpefngbfgjfcgaaGreatGsT
namespace Go.Proofs.YtpefngbfgjfcgaaGreat
open Go Go.Gl
set_option maxRecDepth 100000
set_option linter.unusedVariables false
variable {Q : Value → World → Prop} {w : World}
def F.gloaminglaw18.ProcTimes.T : Tabs := ⟨(fun
 | 8 => [(12, .slice), (13, .slice), (14, .int .i64), (15, .int .i64)]
 | 24 => [(21, .bool), (22, .int .i64)]
 | _ => []),
 (fun
 | 29 => some [(109, .adr), (110, .slice), (111, .slice), (112, .int .i64), (113, .adr), (114, .int .i64), (115, .bool), (116, .bool), (119, .bool)]
 | 30 => some [(21, .bool)]
 | _ => none),
 (fun
 | 26 => .tail 6
 | 27 => .tail 10
 | 30 => .held (some 16) (.go 0 false (.go 1 false (.go 2 false (.go 3 false (.go 4 false (.go 5 false (.go 7 false (.go 6 false (.cut (.go 8 false (.go 9 false (.go 10 false (.go 11 false (.go 12 false (.go 13 false (.go 14 false (.go 15 false (.go 17 false (.go 16 true (.go 18 false (.go 19 false .nil)))))))))))))))))))))
 | _ => .quiet)⟩
def F.gloaminglaw18.ProcTimes (p0 : Int) (p1 : Int) (p2 : Slc) (p3 : Int) : Tree :=
 call Tryz.prog 13 [.slice none 0 0] (.many [.l .ptr, .l .slice]) fun (r1 : KTs _) =>
 br (Option.isNone r1.1)
 (ret (.bool false))
 (lp [.slice, .slice, .int .i64, .int .i64] (fun X2 u3 =>
 br (decide ((u3.2.2.2.1 : Int) ≥ 0))
 (nw 3 [.int .i64 u3.2.2.1] fun b4 =>
 call Tryz.prog 28 [.pointer r1.1, .slice (some ⟨b4, 0, none⟩) 1 1] (.one (.l (.int .i64))) fun (r5 : Int) =>
 ix p2.a p2.n u3.2.2.2.1 1 fun a6 =>
 ld (.l (.int .u8)) a6 fun (x7 : Int) =>
 call Tryz.prog 29 [.pointer r1.1, .int .i64 1, .int .i64 r5, .int .i64 1, .int .i64 (IntKind.wrap .i64 x7), .int .i64 (IntKind.wrap .i64 (u3.2.2.2.1 + 1))] (.one (.l (.int .i64))) fun (r8 : Int) =>
 br ((r5 : Int) == 0)
 (ret (.bool false))
 (br ((r8 : Int) == 0)
 (ret (.bool false))
 (nw 3 [.int .i64 r5] fun b9 =>
 opr Tryz.prog (Builtin.append_ #[24, 24] 24 #[.slice (some ⟨b9, 0, none⟩) 1 1, .slice u3.1.a u3.1.n u3.1.c]) (.one (.l .slice)) fun (r10 : Slc) =>
 nw 3 [.int .i64 r8] fun b11 =>
 opr Tryz.prog (Builtin.append_ #[24, 24] 24 #[.slice (some ⟨b11, 0, none⟩) 1 1, .slice u3.2.1.a u3.2.1.n u3.2.1.c]) (.one (.l .slice)) fun (r12 : Slc) =>
 X2 (⟨r10.a, r10.n, r10.c⟩, ⟨r12.a, r12.n, r12.c⟩, r8, IntKind.wrap .i64 (u3.2.2.2.1 - 1), ()))))
 (br (((if (8 : Int) < (p2.n : Nat) then (8 : Int) else (p2.n : Nat)) : Int) == 0)
 (call Tryz.prog 23 [] (.one (.l .bool)) fun (r4 : Bool) =>
 ret (.bool r4))
 (need ((30 : Int) ≠ 0) <|
 need ((6 : Int) ≠ 0) <|
 ix u3.2.1.a u3.2.1.n 0 1 fun a4 =>
 ld (.l (.int .i64)) a4 fun (x5 : Int) =>
 nw 3 [.int .i64 x5] fun b6 =>
 call Tryz.prog 16 [.pointer r1.1, .agg #[.slice (some ⟨b6, 0, none⟩) 1 1, .slice none 0 0, .int .i64 (IntKind.wrap .i64 p3), .int .i64 (Int.tmod (IntKind.wrap .i64 p0) 30), .int .i64 (Int.tmod (IntKind.wrap .i64 p1) 6), .bool false, .int .i64 3]] (.many [.g [.slice, .slice, .slice, .slice], .l (.int .i64)]) fun (r7 : KTs _) =>
 nw 34 (zc Tryz.prog 34) fun b8 =>
 st (⟨b8, 0, none⟩) [.slice r7.1.1.a r7.1.1.n r7.1.1.c, .slice r7.1.2.1.a r7.1.2.1.n r7.1.2.1.c, .slice r7.1.2.2.1.a r7.1.2.2.1.n r7.1.2.2.1.c, .slice r7.1.2.2.2.1.a r7.1.2.2.2.1.n r7.1.2.2.2.1.c] <|
 call Tryz.prog 17 [.int .i64 r7.2.1] (.one (.l (.int .i64))) fun (r9 : Int) =>
 br ((r9 : Int) != 0)
 (ret (.bool false))
 (lp [.bool, .int .i64] (fun X10 u11 =>
 br (decide ((u11.2.1 : Int) < (if (8 : Int) < (p2.n : Nat) then (8 : Int) else (p2.n : Nat))))
 (drw <|
 ld (.l .slice) (fa (⟨b8, 0, none⟩) 3) fun (x12 : Slc) =>
 ix u3.2.1.a u3.2.1.n u11.2.1 1 fun a13 =>
 ld (.l (.int .i64)) a13 fun (x14 : Int) =>
 call Tryz.prog 27 [.slice x12.a x12.n x12.c, .int .i64 x14] (.one (.l .bool)) fun (r15 : Bool) =>
 jn (fun (j17 : LTs [.adr, .slice, .slice, .int .i64, .adr, .int .i64, .bool, .bool, .bool]) =>
 jn (fun (j19 : LTs [.bool]) =>
 drw <| held fun S20 =>
 ldS S20 (.l .slice) (fa (⟨b8, 0, none⟩) 3) fun (x21 : Slc) =>
 ix u3.1.a u3.1.n u11.2.1 1 fun a22 =>
 ldS S20 (.l (.int .i64)) a22 fun (x23 : Int) =>
 call Tryz.prog 27 [.slice x21.a x21.n x21.c, .int .i64 x23] (.one (.l .bool)) fun (r24 : Bool) =>
 chk S20 <|
 narrow S20 fun S25 =>
 br (!(r24 == j19.1))
 (ret (.bool false))
 (ldS S25 (.l .slice) (fa (⟨b8, 0, none⟩) 0) fun (x26 : Slc) =>
 ix u3.2.1.a u3.2.1.n u11.2.1 1 fun a27 =>
 ldS S25 (.l (.int .i64)) a27 fun (x28 : Int) =>
 call Tryz.prog 27 [.slice x26.a x26.n x26.c, .int .i64 x28] (.one (.l .bool)) fun (r29 : Bool) =>
 br (r29 == j19.1)
 (ret (.bool false))
 (X10 (j19.1, IntKind.wrap .i64 (u11.2.1 + 1), ())))) fun J18 =>
 br u11.1
 (ix p2.a p2.n u11.2.1 1 fun a30 =>
 ld (.l (.int .u8)) a30 fun (x31 : Int) =>
 J18 (decide (((if (IntKind.wrap .i64 ((IntKind.wrap .i64 p3) - (IntKind.wrap .i64 x31)) : Int) > 0 then (IntKind.wrap .i64 ((IntKind.wrap .i64 p3) - (IntKind.wrap .i64 x31)) : Int) else 0) : Int) ≤ (IntKind.wrap .i64 ((Int.tmod (IntKind.wrap .i64 p0) 30) * (Int.tmod (IntKind.wrap .i64 p1) 6)))), ()))
 (J18 (false, ()))) fun J16 =>
 drw <|
 br (!(r15 == u11.1))
 (ret (.bool false))
 (ld (.l .slice) (fa (⟨b8, 0, none⟩) 3) fun (x30 : Slc) =>
 ix u3.1.a u3.1.n u11.2.1 1 fun a31 =>
 ld (.l (.int .i64)) a31 fun (x32 : Int) =>
 call Tryz.prog 27 [.slice x30.a x30.n x30.c, .int .i64 x32] (.one (.l .bool)) fun (r33 : Bool) =>
 br r33
 (br (!r15)
 (ret (.bool false))
 (J16 (fa (⟨b8, 0, none⟩) 3, ⟨x30.a, x30.n, x30.c⟩, ⟨u3.1.a, u3.1.n, u3.1.c⟩, u11.2.1, a31, x32, r33, true, !r15, ())))
 (J16 (fa (⟨b8, 0, none⟩) 3, ⟨x30.a, x30.n, x30.c⟩, ⟨u3.1.a, u3.1.n, u3.1.c⟩, u11.2.1, a31, x32, r33, false, false, ()))))
 (call Tryz.prog 23 [] (.one (.l .bool)) fun (r12 : Bool) =>
 ret (.bool r12))) (true, 0, ()))))) (⟨none, 0, 0⟩, ⟨none, 0, 0⟩, 0, IntKind.wrap .i64 ((if (8 : Int) < (p2.n : Nat) then (8 : Int) else (p2.n : Nat)) - 1), ()))
theorem F.gloaminglaw18.ProcTimes.calls (p0 : Int) (p1 : Int) (p2 : Slc) (p3 : Int) (h : F.gloaminglaw18.ProcTimes p0 p1 p2 p3 Q w) : Calls Tryz.prog 7 #[.int .u8 p0, .int .u8 p1, .slice p2.a p2.n p2.c, .int .u8 p3] w (RetQ Q) :=
 Tryz.cd F.gloaminglaw18.ProcTimes.T Tryz.func7 (by kernel_rfl) (es := [.va (.int .u8 p0), .va (.int .u8 p1), .va (.slice p2.a p2.n p2.c), .va (.int .u8 p3)]) rfl (by kernel_rfl) h
end Go.Proofs.YtpefngbfgjfcgaaGreat
