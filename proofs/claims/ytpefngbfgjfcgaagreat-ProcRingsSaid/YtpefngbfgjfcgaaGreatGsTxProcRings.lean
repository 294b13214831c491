import Derived.Test.YtpefngbfgjfcgaaGreatGsT
namespace Go.Proofs.YtpefngbfgjfcgaaGreat
open Go Go.Gl
set_option maxRecDepth 100000
set_option linter.unusedVariables false
variable {Q : Value → World → Prop} {w : World}
def F.gloaminglaw18.ProcRings.T : Tabs := ⟨(fun
 | 7 => [(10, .slice), (11, .int .i64)]
 | 13 => [(12, .int .i64)]
 | 19 => [(14, .slice), (15, .int .i64)]
 | _ => []),
 (fun
 | 25 => some [(14, .slice)]
 | 28 => some [(14, .slice)]
 | _ => none),
 (fun
 | 15 => .tail 12
 | _ => .quiet)⟩
def F.gloaminglaw18.ProcRings (p0 : Int) (p1 : Slc) (p2 : Int) : Tree :=
 call Tryz.prog 13 [.slice none 0 0] (.many [.l .ptr, .l .slice]) fun (r1 : KTs _) =>
 br (Option.isNone r1.1)
 (ret (.bool false))
 (need ((9 : Int) ≠ 0) <|
 lp [.slice, .int .i64] (fun X2 u3 =>
 br (decide ((u3.2.1 : Int) < (IntKind.wrap .i64 (2 + (Int.tmod (IntKind.wrap .i64 p0) 9)))))
 (nw 3 [.int .i64 0] fun b4 =>
 call Tryz.prog 28 [.pointer r1.1, .slice (some ⟨b4, 0, none⟩) 1 1] (.one (.l (.int .i64))) fun (r5 : Int) =>
 nw 3 [.int .i64 r5] fun b6 =>
 opr Tryz.prog (Builtin.append_ #[24, 24] 24 #[.slice u3.1.a u3.1.n u3.1.c, .slice (some ⟨b6, 0, none⟩) 1 1]) (.one (.l .slice)) fun (r7 : Slc) =>
 ix r7.a r7.n u3.2.1 1 fun a8 =>
 ld (.l (.int .i64)) a8 fun (x9 : Int) =>
 br ((x9 : Int) == 0)
 (ret (.bool false))
 (X2 (⟨r7.a, r7.n, r7.c⟩, IntKind.wrap .i64 (u3.2.1 + 1), ())))
 (lp [.int .i64] (fun X4 u5 =>
 br (decide ((u5.1 : Int) < (IntKind.wrap .i64 (2 + (Int.tmod (IntKind.wrap .i64 p0) 9)))))
 (drw <|
 ix u3.1.a u3.1.n u5.1 1 fun a6 =>
 ld (.l (.int .i64)) a6 fun (x7 : Int) =>
 need ((IntKind.wrap .i64 (2 + (Int.tmod (IntKind.wrap .i64 p0) 9)) : Int) ≠ 0) <|
 ix u3.1.a u3.1.n (Int.tmod (IntKind.wrap .i64 (u5.1 + 1)) (IntKind.wrap .i64 (2 + (Int.tmod (IntKind.wrap .i64 p0) 9)))) 1 fun a8 =>
 ld (.l (.int .i64)) a8 fun (x9 : Int) =>
 call Tryz.prog 31 [.pointer r1.1, .int .i64 x7, .int .i64 0, .int .i64 x9] (.one (.l (.int .i64))) fun (r10 : Int) =>
 X4 (IntKind.wrap .i64 (u5.1 + 1), ()))
 (nw 31 (zc Tryz.prog 31) fun b6 =>
 st (⟨b6, 0, none⟩) [.slice none 0 0, .slice none 0 0, .int .i64 0, .int .i64 0, .int .i64 0, .bool false, .int .i64 1] <|
 jn (fun (j8 : LTs [.slice]) =>
 jn (fun (j10 : LTs [.slice]) =>
 ld (.g [.slice, .slice, .int .i64, .int .i64, .int .i64, .bool, .int .i64]) (⟨b6, 0, none⟩) fun (x11 : LTs _) =>
 call Tryz.prog 16 [.pointer r1.1, .agg #[.slice x11.1.a x11.1.n x11.1.c, .slice x11.2.1.a x11.2.1.n x11.2.1.c, .int .i64 x11.2.2.1, .int .i64 x11.2.2.2.1, .int .i64 x11.2.2.2.2.1, .bool x11.2.2.2.2.2.1, .int .i64 x11.2.2.2.2.2.2.1]] (.many [.g [.slice, .slice, .slice, .slice], .l (.int .i64)]) fun (r12 : KTs _) =>
 nw 34 (zc Tryz.prog 34) fun b13 =>
 st (⟨b13, 0, none⟩) [.slice r12.1.1.a r12.1.1.n r12.1.1.c, .slice r12.1.2.1.a r12.1.2.1.n r12.1.2.1.c, .slice r12.1.2.2.1.a r12.1.2.2.1.n r12.1.2.2.1.c, .slice r12.1.2.2.2.1.a r12.1.2.2.2.1.n r12.1.2.2.2.1.c] <|
 need ((2 : Int) ≠ 0) <|
 br ((Int.tmod p2 2 : Int) == 1)
 (call Tryz.prog 17 [.int .i64 r12.2.1] (.one (.l (.int .i64))) fun (r14 : Int) =>
 br ((r14 : Int) == 0)
 (ld (.l .slice) (fa (⟨b13, 0, none⟩) 2) fun (x15 : Slc) =>
 call Tryz.prog 30 [.slice x15.a x15.n x15.c, .slice j10.1.a j10.1.n j10.1.c] (.one (.l .bool)) fun (r16 : Bool) =>
 br r16
 (ld (.l .slice) (fa (⟨b13, 0, none⟩) 3) fun (x17 : Slc) =>
 br (((x17.n : Nat) : Int) == (IntKind.wrap .i64 (2 + (Int.tmod (IntKind.wrap .i64 p0) 9))))
 (ld (.l .slice) (fa (⟨b13, 0, none⟩) 0) fun (x18 : Slc) =>
 br (((x18.n : Nat) : Int) == 0)
 (call Tryz.prog 23 [] (.one (.l .bool)) fun (r19 : Bool) =>
 ret (.bool r19))
 (ret (.bool false)))
 (ret (.bool false)))
 (ret (.bool false)))
 (ret (.bool false)))
 (br (decide (((j10.1.n : Nat) : Int) > 0))
 (call Tryz.prog 17 [.int .i64 r12.2.1] (.one (.l (.int .i64))) fun (r14 : Int) =>
 br ((r14 : Int) == 0)
 (ld (.l .slice) (fa (⟨b13, 0, none⟩) 2) fun (x15 : Slc) =>
 call Tryz.prog 30 [.slice x15.a x15.n x15.c, .slice j10.1.a j10.1.n j10.1.c] (.one (.l .bool)) fun (r16 : Bool) =>
 br r16
 (ld (.l .slice) (fa (⟨b13, 0, none⟩) 3) fun (x17 : Slc) =>
 br (((x17.n : Nat) : Int) == (IntKind.wrap .i64 (2 + (Int.tmod (IntKind.wrap .i64 p0) 9))))
 (ld (.l .slice) (fa (⟨b13, 0, none⟩) 0) fun (x18 : Slc) =>
 br (((x18.n : Nat) : Int) == 0)
 (call Tryz.prog 23 [] (.one (.l .bool)) fun (r19 : Bool) =>
 ret (.bool r19))
 (ret (.bool false)))
 (ret (.bool false)))
 (ret (.bool false)))
 (ret (.bool false)))
 (call Tryz.prog 17 [.int .i64 r12.2.1] (.one (.l (.int .i64))) fun (r14 : Int) =>
 br ((r14 : Int) == 0)
 (ld (.l .slice) (fa (⟨b13, 0, none⟩) 2) fun (x15 : Slc) =>
 call Tryz.prog 30 [.slice x15.a x15.n x15.c, .slice j10.1.a j10.1.n j10.1.c] (.one (.l .bool)) fun (r16 : Bool) =>
 br r16
 (ld (.l .slice) (fa (⟨b13, 0, none⟩) 3) fun (x17 : Slc) =>
 br (((x17.n : Nat) : Int) == 0)
 (ld (.l .slice) (fa (⟨b13, 0, none⟩) 0) fun (x18 : Slc) =>
 br (((x18.n : Nat) : Int) == 0)
 (call Tryz.prog 23 [] (.one (.l .bool)) fun (r19 : Bool) =>
 ret (.bool r19))
 (ret (.bool false)))
 (ret (.bool false)))
 (ret (.bool false)))
 (ret (.bool false))))) fun J9 =>
 need ((2 : Int) ≠ 0) <|
 br ((Int.tmod p2 2 : Int) == 1)
 (need ((IntKind.wrap .i64 (2 + (Int.tmod (IntKind.wrap .i64 p0) 9)) : Int) ≠ 0) <|
 ix u3.1.a u3.1.n (Int.tmod (IntKind.wrap .i64 p2) (IntKind.wrap .i64 (2 + (Int.tmod (IntKind.wrap .i64 p0) 9)))) 1 fun a15 =>
 ld (.l (.int .i64)) a15 fun (x16 : Int) =>
 nw 3 [.int .i64 x16] fun b17 =>
 st (fa (⟨b6, 0, none⟩) 0) [.slice (some ⟨b17, 0, none⟩) 1 1] <|
 J9 (⟨none, 0, 0⟩, ()))
 (J9 (⟨j8.1.a, j8.1.n, j8.1.c⟩, ()))) fun J7 =>
 lp [.slice, .int .i64] (fun X15 u16 =>
 br (decide ((u16.2.1 : Int) < (p1.n : Nat)))
 (br (decide ((u16.2.1 : Int) < 12))
 (ix p1.a p1.n u16.2.1 1 fun a17 =>
 ld (.l (.int .u8)) a17 fun (x18 : Int) =>
 need ((IntKind.wrap .i64 (2 + (Int.tmod (IntKind.wrap .i64 p0) 9)) : Int) ≠ 0) <|
 ix u3.1.a u3.1.n (Int.tmod (IntKind.wrap .i64 x18) (IntKind.wrap .i64 (2 + (Int.tmod (IntKind.wrap .i64 p0) 9)))) 1 fun a19 =>
 ld (.l (.int .i64)) a19 fun (x20 : Int) =>
 ld (.l .slice) (fa (⟨b6, 0, none⟩) 1) fun (x21 : Slc) =>
 nw 3 [.int .i64 x20] fun b22 =>
 opr Tryz.prog (Builtin.append_ #[24, 24] 24 #[.slice x21.a x21.n x21.c, .slice (some ⟨b22, 0, none⟩) 1 1]) (.one (.l .slice)) fun (r23 : Slc) =>
 st (fa (⟨b6, 0, none⟩) 1) [.slice r23.a r23.n r23.c] <|
 call Tryz.prog 27 [.slice u16.1.a u16.1.n u16.1.c, .int .i64 x20] (.one (.l .bool)) fun (r24 : Bool) =>
 br (!r24)
 (nw 3 [.int .i64 x20] fun b25 =>
 opr Tryz.prog (Builtin.append_ #[24, 24] 24 #[.slice u16.1.a u16.1.n u16.1.c, .slice (some ⟨b25, 0, none⟩) 1 1]) (.one (.l .slice)) fun (r26 : Slc) =>
 X15 (⟨r26.a, r26.n, r26.c⟩, IntKind.wrap .i64 (u16.2.1 + 1), ()))
 (X15 (⟨u16.1.a, u16.1.n, u16.1.c⟩, IntKind.wrap .i64 (u16.2.1 + 1), ())))
 (J7 (⟨u16.1.a, u16.1.n, u16.1.c⟩, ())))
 (J7 (⟨u16.1.a, u16.1.n, u16.1.c⟩, ()))) (⟨none, 0, 0⟩, 0, ()))) (0, ()))) (⟨none, 0, 0⟩, 0, ()))
theorem F.gloaminglaw18.ProcRings.calls (p0 : Int) (p1 : Slc) (p2 : Int) (h : F.gloaminglaw18.ProcRings p0 p1 p2 Q w) : Calls Tryz.prog 10 #[.int .u8 p0, .slice p1.a p1.n p1.c, .int .u8 p2] w (RetQ Q) :=
 Tryz.cd F.gloaminglaw18.ProcRings.T Tryz.func10 (by kernel_rfl) (es := [.va (.int .u8 p0), .va (.slice p1.a p1.n p1.c), .va (.int .u8 p2)]) rfl (by kernel_rfl) h
end Go.Proofs.YtpefngbfgjfcgaaGreat
