import Derived.Test.YtdplphebjhfliaaGreatGsT
namespace Go.Proofs.YtdplphebjhfliaaGreat
open Go Go.Gl
set_option maxRecDepth 100000
set_option linter.unusedVariables false
variable {Q : Value → World → Prop} {w : World}
def F.gloaminglaw20.GcQueues.T : Tabs := ⟨(fun
 | 9 => [(7, .slice), (8, .int .i64)]
 | 13 => [(9, .int .i64)]
 | 32 => [(20, .int .i64)]
 | 36 => [(22, .int .i64)]
 | _ => []),
 (fun
 | 26 => some []
 | _ => none),
 (fun
 | 15 => .quiet
 | 34 => .held (some 10) (.go 1 false (.go 2 false (.go 3 false (.go 4 false (.go 6 false (.go 7 false (.go 8 false (.go 9 false (.go 0 false (.go 5 false (.go 10 true (.go 11 false .nil))))))))))))
 | _ => .quiet)⟩
def F.gloaminglaw20.GcQueues (p0 : Slc) : Tree :=
 call Tryz.prog 23 [.int .i64 0, .int .i64 2] (.one (.l .ptr)) fun (r1 : Option Addr) =>
 br (Option.isNone r1)
 (ret (.bool false))
 (call Tryz.prog 24 [.pointer r1, .int .i64 1] (.many [.l (.int .i64), .l (.int .i64)]) fun (r2 : KTs _) =>
 call Tryz.prog 20 [.pointer r1, .int .i64 5] (.many []) fun (r3 : KTs _) =>
 opr Tryz.prog (Instr.makeSlice 35 (.int .i64 2) (.int .i64 2)) (.one (.l .slice)) fun (r4 : Slc) =>
 lp [.slice, .int .i64] (fun X5 u6 =>
 br (decide ((u6.2.1 : Int) < 2))
 (nw 34 [.slice none 0 0] fun b7 =>
 opr Tryz.prog (Builtin.append_ #[35, 35] 35 #[.slice u6.1.a u6.1.n u6.1.c, .slice (some ⟨b7, 0, none⟩) 1 1]) (.one (.l .slice)) fun (r8 : Slc) =>
 X5 (⟨r8.a, r8.n, r8.c⟩, IntKind.wrap .i64 (u6.2.1 + 1), ()))
 (jn (fun (j8 : LTs []) => --
 nn r1 fun a9 =>
 ld (.l .ptr) (fa a9 1) fun (x10 : Option Addr) =>
 call Tryz.prog 26 [.pointer x10, .int .i64 r2.2.1] (.one (.l (.int .i64))) fun (r11 : Int) =>
 call Tryz.prog 19 [.pointer r1, .bool false] (.many [.g [.slice, .slice, .slice, .slice], .l (.int .i64)]) fun (r12 : KTs _) =>
 nw 43 (zc Tryz.prog 43) fun b13 =>
 st (⟨b13, 0, none⟩) [.slice r12.1.1.a r12.1.1.n r12.1.1.c, .slice r12.1.2.1.a r12.1.2.1.n r12.1.2.1.c, .slice r12.1.2.2.1.a r12.1.2.2.1.n r12.1.2.2.1.c, .slice r12.1.2.2.2.1.a r12.1.2.2.2.1.n r12.1.2.2.2.1.c] <|
 call Tryz.prog 19 [.pointer r1, .bool false] (.many [.g [.slice, .slice, .slice, .slice], .l (.int .i64)]) fun (r14 : KTs _) =>
 nw 43 (zc Tryz.prog 43) fun b15 =>
 st (⟨b15, 0, none⟩) [.slice r14.1.1.a r14.1.1.n r14.1.1.c, .slice r14.1.2.1.a r14.1.2.1.n r14.1.2.1.c, .slice r14.1.2.2.1.a r14.1.2.2.1.n r14.1.2.2.1.c, .slice r14.1.2.2.2.1.a r14.1.2.2.2.1.n r14.1.2.2.2.1.c] <|
 br ((r2.1 : Int) == 0)
 (ret (.bool false))
 (call Tryz.prog 14 [.int .i64 r12.2.1] (.one (.l (.int .i64))) fun (r16 : Int) =>
 call Tryz.prog 14 [.int .i64 r14.2.1] (.one (.l (.int .i64))) fun (r17 : Int) =>
 br ((IntKind.wrap .i64 (r16 + r17) : Int) != 0)
 (ret (.bool false))
 (lp [.int .i64] (fun X18 u19 =>
 br (decide ((u19.1 : Int) < 2))
 (drw <| held fun S20 =>
 ix r4.a r4.n u19.1 1 fun a21 =>
 ldS S20 (.l .slice) a21 fun (x22 : Slc) =>
 ix u6.1.a u6.1.n u19.1 1 fun a23 =>
 ldS S20 (.l .slice) a23 fun (x24 : Slc) =>
 nw 3 [] fun b25 =>
 chk S20 <|
 opr Tryz.prog (Builtin.append_ #[34, 34] 34 #[.slice (some ⟨b25, 0, none⟩) 0 0, .slice x22.a x22.n x22.c]) (.one (.l .slice)) fun (r26 : Slc) =>
 chk S20 <|
 opr Tryz.prog (Builtin.append_ #[34, 34] 34 #[.slice r26.a r26.n r26.c, .slice x24.a x24.n x24.c]) (.one (.l .slice)) fun (r27 : Slc) =>
 lp [.int .i64] (fun X28 u29 =>
 br (decide ((u29.1 : Int) < (r27.n : Nat)))
 (nn r1 fun a30 =>
 ld (.l .ptr) (fa a30 0) fun (x31 : Option Addr) =>
 nn x31 fun a32 =>
 ld (.l .ptr) (fa a32 0) fun (x33 : Option Addr) =>
 call Tryz.prog 38 [.pointer x33, .int .i64 u19.1] (.many [.l (.int .i64), .l (.int .i64)]) fun (r34 : KTs _) =>
 nn r1 fun a35 =>
 ld (.l .ptr) (fa a35 3) fun (x36 : Option Addr) =>
 nn x36 fun a37 =>
 ld (.l .ptr) (fa a37 0) fun (x38 : Option Addr) =>
 call Tryz.prog 33 [.pointer x38, .int .i64 r34.1, .int .i64 4] (.many [.l (.int .i64), .l (.int .i64)]) fun (r39 : KTs _) =>
 call Tryz.prog 14 [.int .i64 r34.2.1] (.one (.l (.int .i64))) fun (r40 : Int) =>
 call Tryz.prog 14 [.int .i64 r39.2.1] (.one (.l (.int .i64))) fun (r41 : Int) =>
 br ((IntKind.wrap .i64 (r40 + r41) : Int) != 0)
 (ret (.bool false))
 (ix r27.a r27.n u29.1 1 fun a42 =>
 ld (.l (.int .i64)) a42 fun (x43 : Int) =>
 br ((r39.1 : Int) != x43)
 (ret (.bool false))
 (X28 (IntKind.wrap .i64 (u29.1 + 1), ()))))
 (nn r1 fun a30 =>
 ld (.l .ptr) (fa a30 0) fun (x31 : Option Addr) =>
 nn x31 fun a32 =>
 ld (.l .ptr) (fa a32 0) fun (x33 : Option Addr) =>
 call Tryz.prog 38 [.pointer x33, .int .i64 u19.1] (.many [.l (.int .i64), .l (.int .i64)]) fun (r34 : KTs _) =>
 br ((r34.1 : Int) != 0)
 (ret (.bool false))
 (call Tryz.prog 14 [.int .i64 r34.2.1] (.one (.l (.int .i64))) fun (r35 : Int) =>
 br ((r35 : Int) != 0)
 (ret (.bool false))
 (X18 (IntKind.wrap .i64 (u19.1 + 1), ()))))) (0, ()))
 (call Tryz.prog 15 [] (.one (.l .bool)) fun (r20 : Bool) =>
 ret (.bool r20))) (0, ())))) fun J7 =>
 lp [.int .i64] (fun X21 u22 =>
 br (decide ((u22.1 : Int) < (p0.n : Nat)))
 (br (decide ((u22.1 : Int) < 16))
 (drw <|
 ix p0.a p0.n u22.1 1 fun a23 =>
 ld (.l (.int .u8)) a23 fun (x24 : Int) =>
 need ((3 : Int) ≠ 0) <|
 ix p0.a p0.n u22.1 1 fun a25 =>
 ld (.l (.int .u8)) a25 fun (x26 : Int) =>
 need ((4 : Int) ≠ 0) <|
 need ((2 : Int) ≠ 0) <|
 nn r1 fun a27 =>
 ld (.l .ptr) (fa a27 0) fun (x28 : Option Addr) =>
 call Tryz.prog 31 [.pointer x28, .int .i64 (IntKind.wrap .i64 (1 + (Int.tmod (IntKind.wrap .i64 x24) 3))), .int .i64 r2.1, .int .i64 (Int.tmod (IntKind.wrap .i64 (Int.tdiv (IntKind.wrap .i64 x26) 4)) 2), .int .i64 0] (.many [.l (.int .i64), .l (.int .i64)]) fun (r29 : KTs _) =>
 call Tryz.prog 14 [.int .i64 r29.2.1] (.one (.l (.int .i64))) fun (r30 : Int) =>
 br ((r30 : Int) != 0)
 (ret (.bool false))
 (ix p0.a p0.n u22.1 1 fun a31 =>
 ld (.l (.int .u8)) a31 fun (x32 : Int) =>
 br (decide ((x32 : Int) < 64))
 (X21 (IntKind.wrap .i64 (u22.1 + 1), ()))
 (nn r1 fun a33 =>
 ld (.l .ptr) (fa a33 1) fun (x34 : Option Addr) =>
 call Tryz.prog 37 [.pointer x34, .int .i64 r29.1] (.many [.l (.int .i64), .l (.int .i64)]) fun (r35 : KTs _) =>
 call Tryz.prog 14 [.int .i64 r35.2.1] (.one (.l (.int .i64))) fun (r36 : Int) =>
 br ((r36 : Int) != 0)
 (ret (.bool false))
 (br ((IntKind.wrap .i64 (1 + (Int.tmod (IntKind.wrap .i64 x24) 3)) : Int) == 3)
 (ix u6.1.a u6.1.n (Int.tmod (IntKind.wrap .i64 (Int.tdiv (IntKind.wrap .i64 x26) 4)) 2) 1 fun a37 =>
 ld (.l .slice) a37 fun (x38 : Slc) =>
 nw 3 [.int .i64 (IntKind.wrap .i64 (u22.1 + 1))] fun b39 =>
 opr Tryz.prog (Builtin.append_ #[34, 34] 34 #[.slice x38.a x38.n x38.c, .slice (some ⟨b39, 0, none⟩) 1 1]) (.one (.l .slice)) fun (r40 : Slc) =>
 ix u6.1.a u6.1.n (Int.tmod (IntKind.wrap .i64 (Int.tdiv (IntKind.wrap .i64 x26) 4)) 2) 1 fun a41 =>
 st a41 [.slice r40.a r40.n r40.c] <|
 X21 (IntKind.wrap .i64 (u22.1 + 1), ()))
 (ix r4.a r4.n (Int.tmod (IntKind.wrap .i64 (Int.tdiv (IntKind.wrap .i64 x26) 4)) 2) 1 fun a37 =>
 ld (.l .slice) a37 fun (x38 : Slc) =>
 nw 3 [.int .i64 (IntKind.wrap .i64 (u22.1 + 1))] fun b39 =>
 opr Tryz.prog (Builtin.append_ #[34, 34] 34 #[.slice x38.a x38.n x38.c, .slice (some ⟨b39, 0, none⟩) 1 1]) (.one (.l .slice)) fun (r40 : Slc) =>
 ix r4.a r4.n (Int.tmod (IntKind.wrap .i64 (Int.tdiv (IntKind.wrap .i64 x26) 4)) 2) 1 fun a41 =>
 st a41 [.slice r40.a r40.n r40.c] <|
 X21 (IntKind.wrap .i64 (u22.1 + 1), ()))))))
 (J7 (())))
 (J7 (()))) (0, ()))) (⟨none, 0, 0⟩, 0, ()))
theorem F.gloaminglaw20.GcQueues.calls (p0 : Slc) (h : F.gloaminglaw20.GcQueues p0 Q w) : Calls Tryz.prog 7 #[.slice p0.a p0.n p0.c] w (RetQ Q) :=
 Tryz.cd F.gloaminglaw20.GcQueues.T Tryz.func7 (by kernel_rfl) (es := [.va (.slice p0.a p0.n p0.c)]) rfl (by kernel_rfl) h
end Go.Proofs.YtdplphebjhfliaaGreat
