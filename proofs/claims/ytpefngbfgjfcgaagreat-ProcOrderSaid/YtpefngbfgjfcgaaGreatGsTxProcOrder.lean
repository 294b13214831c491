import Derived.Test.YtpefngbfgjfcgaaGreatGsT
namespace Go.Proofs.YtpefngbfgjfcgaaGreat
open Go Go.Gl
set_option maxRecDepth 100000
set_option linter.unusedVariables false
variable {Q : Value → World → Prop} {w : World}
def F.gloaminglaw18.ProcOrder.T : Tabs := ⟨(fun
 | 8 => [(7, .slice), (8, .slice), (9, .slice), (11, .int .i64)]
 | 24 => [(10, .slice), (19, .int .i64)]
 | _ => []),
 fun _ => none,
 fun _ => .quiet⟩
def F.gloaminglaw18.ProcOrder (p0 : Slc) : Tree :=
 call Tryz.prog 13 [.slice none 0 0] (.many [.l .ptr, .l .slice]) fun (r1 : KTs _) =>
 br (Option.isNone r1.1)
 (ret (.bool false))
 (nw 3 [.int .i64 0] fun b2 =>
 call Tryz.prog 28 [.pointer r1.1, .slice (some ⟨b2, 0, none⟩) 1 1] (.one (.l (.int .i64))) fun (r3 : Int) =>
 lp [.slice, .slice, .slice, .int .i64] (fun X4 u5 =>
 br (decide ((u5.2.2.2.1 : Int) < (if (10 : Int) < (p0.n : Nat) then (10 : Int) else (p0.n : Nat))))
 (ix p0.a p0.n u5.2.2.2.1 1 fun a6 =>
 ld (.l (.int .u8)) a6 fun (x7 : Int) =>
 need ((3 : Int) ≠ 0) <|
 ix p0.a p0.n u5.2.2.2.1 1 fun a8 =>
 ld (.l (.int .u8)) a8 fun (x9 : Int) =>
 need ((4 : Int) ≠ 0) <|
 need ((3 : Int) ≠ 0) <|
 call Tryz.prog 29 [.pointer r1.1, .int .i64 (IntKind.wrap .i64 (1 + (Int.tmod (IntKind.wrap .i64 x7) 3))), .int .i64 r3, .int .i64 (IntKind.wrap .i64 ((Int.tmod (IntKind.wrap .i64 (Int.tdiv (IntKind.wrap .i64 x9) 4)) 3) - 1)), .int .i64 0, .int .i64 (IntKind.wrap .i64 (50 - u5.2.2.2.1))] (.one (.l (.int .i64))) fun (r10 : Int) =>
 br ((r10 : Int) == 0)
 (ret (.bool false))
 (ix p0.a p0.n u5.2.2.2.1 1 fun a11 =>
 ld (.l (.int .u8)) a11 fun (x12 : Int) =>
 br (decide ((x12 : Int) ≥ 64))
 (nw 3 [.int .i64 r10] fun b13 =>
 opr Tryz.prog (Builtin.append_ #[24, 24] 24 #[.slice u5.1.a u5.1.n u5.1.c, .slice (some ⟨b13, 0, none⟩) 1 1]) (.one (.l .slice)) fun (r14 : Slc) =>
 br ((IntKind.wrap .i64 (1 + (Int.tmod (IntKind.wrap .i64 x7) 3)) : Int) == 3)
 (nw 3 [.int .i64 r10] fun b15 =>
 opr Tryz.prog (Builtin.append_ #[24, 24] 24 #[.slice (some ⟨b15, 0, none⟩) 1 1, .slice u5.2.2.1.a u5.2.2.1.n u5.2.2.1.c]) (.one (.l .slice)) fun (r16 : Slc) =>
 X4 (⟨r14.a, r14.n, r14.c⟩, ⟨u5.2.1.a, u5.2.1.n, u5.2.1.c⟩, ⟨r16.a, r16.n, r16.c⟩, IntKind.wrap .i64 (u5.2.2.2.1 + 1), ()))
 (nw 3 [.int .i64 r10] fun b15 =>
 opr Tryz.prog (Builtin.append_ #[24, 24] 24 #[.slice (some ⟨b15, 0, none⟩) 1 1, .slice u5.2.1.a u5.2.1.n u5.2.1.c]) (.one (.l .slice)) fun (r16 : Slc) =>
 X4 (⟨r14.a, r14.n, r14.c⟩, ⟨r16.a, r16.n, r16.c⟩, ⟨u5.2.2.1.a, u5.2.2.1.n, u5.2.2.1.c⟩, IntKind.wrap .i64 (u5.2.2.2.1 + 1), ())))
 (br ((IntKind.wrap .i64 (1 + (Int.tmod (IntKind.wrap .i64 x7) 3)) : Int) == 3)
 (nw 3 [.int .i64 r10] fun b13 =>
 opr Tryz.prog (Builtin.append_ #[24, 24] 24 #[.slice (some ⟨b13, 0, none⟩) 1 1, .slice u5.2.2.1.a u5.2.2.1.n u5.2.2.1.c]) (.one (.l .slice)) fun (r14 : Slc) =>
 X4 (⟨u5.1.a, u5.1.n, u5.1.c⟩, ⟨u5.2.1.a, u5.2.1.n, u5.2.1.c⟩, ⟨r14.a, r14.n, r14.c⟩, IntKind.wrap .i64 (u5.2.2.2.1 + 1), ()))
 (nw 3 [.int .i64 r10] fun b13 =>
 opr Tryz.prog (Builtin.append_ #[24, 24] 24 #[.slice (some ⟨b13, 0, none⟩) 1 1, .slice u5.2.1.a u5.2.1.n u5.2.1.c]) (.one (.l .slice)) fun (r14 : Slc) =>
 X4 (⟨u5.1.a, u5.1.n, u5.1.c⟩, ⟨r14.a, r14.n, r14.c⟩, ⟨u5.2.2.1.a, u5.2.2.1.n, u5.2.2.1.c⟩, IntKind.wrap .i64 (u5.2.2.2.1 + 1), ())))))
 (call Tryz.prog 16 [.pointer r1.1, .agg #[.slice u5.1.a u5.1.n u5.1.c, .slice none 0 0, .int .i64 7, .int .i64 0, .int .i64 0, .bool false, .int .i64 2]] (.many [.g [.slice, .slice, .slice, .slice], .l (.int .i64)]) fun (r6 : KTs _) =>
 nw 34 (zc Tryz.prog 34) fun b7 =>
 st (⟨b7, 0, none⟩) [.slice r6.1.1.a r6.1.1.n r6.1.1.c, .slice r6.1.2.1.a r6.1.2.1.n r6.1.2.1.c, .slice r6.1.2.2.1.a r6.1.2.2.1.n r6.1.2.2.1.c, .slice r6.1.2.2.2.1.a r6.1.2.2.2.1.n r6.1.2.2.2.1.c] <|
 nw 3 [] fun b8 =>
 opr Tryz.prog (Builtin.append_ #[24, 24] 24 #[.slice (some ⟨b8, 0, none⟩) 0 0, .slice u5.2.1.a u5.2.1.n u5.2.1.c]) (.one (.l .slice)) fun (r9 : Slc) =>
 opr Tryz.prog (Builtin.append_ #[24, 24] 24 #[.slice r9.a r9.n r9.c, .slice u5.2.2.1.a u5.2.2.1.n u5.2.2.1.c]) (.one (.l .slice)) fun (r10 : Slc) =>
 lp [.slice, .int .i64] (fun X11 u12 =>
 br (decide ((u12.2.1 : Int) < (r10.n : Nat)))
 (ix r10.a r10.n u12.2.1 1 fun a13 =>
 ld (.l (.int .i64)) a13 fun (x14 : Int) =>
 call Tryz.prog 26 [.pointer r1.1, .int .i64 x14, .int .i64 1] (.many [.l (.int .i64), .l (.int .i64)]) fun (r15 : KTs _) =>
 ix r10.a r10.n u12.2.1 1 fun a16 =>
 ld (.l (.int .i64)) a16 fun (x17 : Int) =>
 call Tryz.prog 27 [.slice u5.1.a u5.1.n u5.1.c, .int .i64 x17] (.one (.l .bool)) fun (r18 : Bool) =>
 br r18
 (br (decide ((r15.1 : Int) > 0))
 (ix r10.a r10.n u12.2.1 1 fun a19 =>
 ld (.l (.int .i64)) a19 fun (x20 : Int) =>
 nw 3 [.int .i64 x20] fun b21 =>
 opr Tryz.prog (Builtin.append_ #[24, 24] 24 #[.slice u12.1.a u12.1.n u12.1.c, .slice (some ⟨b21, 0, none⟩) 1 1]) (.one (.l .slice)) fun (r22 : Slc) =>
 X11 (⟨r22.a, r22.n, r22.c⟩, IntKind.wrap .i64 (u12.2.1 + 1), ()))
 (X11 (⟨u12.1.a, u12.1.n, u12.1.c⟩, IntKind.wrap .i64 (u12.2.1 + 1), ())))
 (X11 (⟨u12.1.a, u12.1.n, u12.1.c⟩, IntKind.wrap .i64 (u12.2.1 + 1), ())))
 (call Tryz.prog 17 [.int .i64 r6.2.1] (.one (.l (.int .i64))) fun (r13 : Int) =>
 br ((r13 : Int) == 0)
 (ld (.l .slice) (fa (⟨b7, 0, none⟩) 0) fun (x14 : Slc) =>
 call Tryz.prog 30 [.slice x14.a x14.n x14.c, .slice r10.a r10.n r10.c] (.one (.l .bool)) fun (r15 : Bool) =>
 br r15
 (ld (.l .slice) (fa (⟨b7, 0, none⟩) 1) fun (x16 : Slc) =>
 call Tryz.prog 30 [.slice x16.a x16.n x16.c, .slice u12.1.a u12.1.n u12.1.c] (.one (.l .bool)) fun (r17 : Bool) =>
 br r17
 (ld (.l .slice) (fa (⟨b7, 0, none⟩) 3) fun (x18 : Slc) =>
 br (((x18.n : Nat) : Int) == (u5.1.n : Nat))
 (call Tryz.prog 23 [] (.one (.l .bool)) fun (r19 : Bool) =>
 ret (.bool r19))
 (ret (.bool false)))
 (ret (.bool false)))
 (ret (.bool false)))
 (ret (.bool false)))) (⟨none, 0, 0⟩, 0, ()))) (⟨none, 0, 0⟩, ⟨none, 0, 0⟩, ⟨none, 0, 0⟩, 0, ()))
theorem F.gloaminglaw18.ProcOrder.calls (p0 : Slc) (h : F.gloaminglaw18.ProcOrder p0 Q w) : Calls Tryz.prog 9 #[.slice p0.a p0.n p0.c] w (RetQ Q) :=
 Tryz.cd F.gloaminglaw18.ProcOrder.T Tryz.func9 (by kernel_rfl) (es := [.va (.slice p0.a p0.n p0.c)]) rfl (by kernel_rfl) h
end Go.Proofs.YtpefngbfgjfcgaaGreat
