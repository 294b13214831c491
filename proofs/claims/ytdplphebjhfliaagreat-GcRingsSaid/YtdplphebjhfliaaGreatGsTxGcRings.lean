import Derived.Test.YtdplphebjhfliaaGreatGsT
namespace Go.Proofs.YtdplphebjhfliaaGreat
open Go Go.Gl
set_option maxRecDepth 100000
set_option linter.unusedVariables false
variable {Q : Value → World → Prop} {w : World}
def F.gloaminglaw20.GcRings.T : Tabs := ⟨(fun
 | 7 => [(9, .slice), (10, .slice), (11, .int .i64)]
 | 15 => [(14, .int .i64)]
 | 20 => [(16, .int .i64)]
 | _ => []),
 fun _ => none,
 (fun
 | 17 => .tail 20
 | 23 => .tail 8
 | _ => .quiet)⟩
def F.gloaminglaw20.GcRings (p0 : Int) (p1 : Int) (p2 : Bool) : Tree :=
 call Tryz.prog 23 [.int .i64 0, .int .i64 0] (.one (.l .ptr)) fun (r1 : Option Addr) =>
 br (Option.isNone r1)
 (ret (.bool false))
 (need ((30 : Int) ≠ 0) <|
 lp [.slice, .slice, .int .i64] (fun X2 u3 =>
 br (decide ((u3.2.2.1 : Int) < (IntKind.wrap .i64 (1 + (Int.tmod (IntKind.wrap .i64 p0) 30)))))
 (call Tryz.prog 24 [.pointer r1, .int .i64 2] (.many [.l (.int .i64), .l (.int .i64)]) fun (r4 : KTs _) =>
 br ((r4.1 : Int) == 0)
 (ret (.bool false))
 (nw 3 [.int .i64 r4.1] fun b5 =>
 opr Tryz.prog (Builtin.append_ #[34, 34] 34 #[.slice u3.1.a u3.1.n u3.1.c, .slice (some ⟨b5, 0, none⟩) 1 1]) (.one (.l .slice)) fun (r6 : Slc) =>
 nw 3 [.int .i64 r4.2.1] fun b7 =>
 opr Tryz.prog (Builtin.append_ #[34, 34] 34 #[.slice u3.2.1.a u3.2.1.n u3.2.1.c, .slice (some ⟨b7, 0, none⟩) 1 1]) (.one (.l .slice)) fun (r8 : Slc) =>
 X2 (⟨r6.a, r6.n, r6.c⟩, ⟨r8.a, r8.n, r8.c⟩, IntKind.wrap .i64 (u3.2.2.1 + 1), ())))
 (lp [.int .i64] (fun X4 u5 =>
 br (decide ((u5.1 : Int) < (IntKind.wrap .i64 (1 + (Int.tmod (IntKind.wrap .i64 p0) 30)))))
 (drw <|
 nn r1 fun a6 =>
 ld (.l .ptr) (fa a6 3) fun (x7 : Option Addr) =>
 nn x7 fun a8 =>
 ld (.l .ptr) (fa a8 0) fun (x9 : Option Addr) =>
 ix u3.1.a u3.1.n u5.1 1 fun a10 =>
 ld (.l (.int .i64)) a10 fun (x11 : Int) =>
 need ((2 : Int) ≠ 0) <|
 need ((IntKind.wrap .i64 (1 + (Int.tmod (IntKind.wrap .i64 p0) 30)) : Int) ≠ 0) <|
 ix u3.1.a u3.1.n (Int.tmod (IntKind.wrap .i64 (u5.1 + 1)) (IntKind.wrap .i64 (1 + (Int.tmod (IntKind.wrap .i64 p0) 30)))) 1 fun a12 =>
 ld (.l (.int .i64)) a12 fun (x13 : Int) =>
 call Tryz.prog 25 [.pointer x9, .int .i64 x11, .int .i64 (Int.tmod u5.1 2), .int .i64 x13] (.one (.l (.int .i64))) fun (r14 : Int) =>
 X4 (IntKind.wrap .i64 (u5.1 + 1), ()))
 (need ((IntKind.wrap .i64 (1 + (Int.tmod (IntKind.wrap .i64 p0) 30)) : Int) ≠ 0) <|
 lp [.int .i64] (fun X6 u7 =>
 br (decide ((u7.1 : Int) < (IntKind.wrap .i64 (1 + (Int.tmod (IntKind.wrap .i64 p0) 30)))))
 (br ((u7.1 : Int) != (Int.tmod (IntKind.wrap .i64 p1) (IntKind.wrap .i64 (1 + (Int.tmod (IntKind.wrap .i64 p0) 30)))))
 (drw <|
 nn r1 fun a8 =>
 ld (.l .ptr) (fa a8 1) fun (x9 : Option Addr) =>
 ix u3.2.1.a u3.2.1.n u7.1 1 fun a10 =>
 ld (.l (.int .i64)) a10 fun (x11 : Int) =>
 call Tryz.prog 26 [.pointer x9, .int .i64 x11] (.one (.l (.int .i64))) fun (r12 : Int) =>
 X6 (IntKind.wrap .i64 (u7.1 + 1), ()))
 (br (!p2)
 (drw <|
 nn r1 fun a8 =>
 ld (.l .ptr) (fa a8 1) fun (x9 : Option Addr) =>
 ix u3.2.1.a u3.2.1.n u7.1 1 fun a10 =>
 ld (.l (.int .i64)) a10 fun (x11 : Int) =>
 call Tryz.prog 26 [.pointer x9, .int .i64 x11] (.one (.l (.int .i64))) fun (r12 : Int) =>
 X6 (IntKind.wrap .i64 (u7.1 + 1), ()))
 (X6 (IntKind.wrap .i64 (u7.1 + 1), ()))))
 (call Tryz.prog 19 [.pointer r1, .bool false] (.many [.g [.slice, .slice, .slice, .slice], .l (.int .i64)]) fun (r8 : KTs _) =>
 nw 43 (zc Tryz.prog 43) fun b9 =>
 st (⟨b9, 0, none⟩) [.slice r8.1.1.a r8.1.1.n r8.1.1.c, .slice r8.1.2.1.a r8.1.2.1.n r8.1.2.1.c, .slice r8.1.2.2.1.a r8.1.2.2.1.n r8.1.2.2.1.c, .slice r8.1.2.2.2.1.a r8.1.2.2.2.1.n r8.1.2.2.2.1.c] <|
 br p2
 (call Tryz.prog 14 [.int .i64 r8.2.1] (.one (.l (.int .i64))) fun (r10 : Int) =>
 br ((r10 : Int) == 0)
 (ld (.l .slice) (fa (⟨b9, 0, none⟩) 3) fun (x11 : Slc) =>
 br (((x11.n : Nat) : Int) == (IntKind.wrap .i64 (1 + (Int.tmod (IntKind.wrap .i64 p0) 30))))
 (call Tryz.prog 17 [.pointer r1] (.one (.g [.slice, .slice, .slice, .slice, .slice, .slice, .int .i64, .int .i64, .int .i64, .int .i64])) fun (r12 : LTs _) =>
 br (((r12.1.n : Nat) : Int) == (IntKind.wrap .i64 (1 + (Int.tmod (IntKind.wrap .i64 p0) 30))))
 (call Tryz.prog 15 [] (.one (.l .bool)) fun (r13 : Bool) =>
 ret (.bool r13))
 (ret (.bool false)))
 (ret (.bool false)))
 (ret (.bool false)))
 (call Tryz.prog 14 [.int .i64 r8.2.1] (.one (.l (.int .i64))) fun (r10 : Int) =>
 br ((r10 : Int) == 0)
 (ld (.l .slice) (fa (⟨b9, 0, none⟩) 3) fun (x11 : Slc) =>
 br (((x11.n : Nat) : Int) == 0)
 (call Tryz.prog 17 [.pointer r1] (.one (.g [.slice, .slice, .slice, .slice, .slice, .slice, .int .i64, .int .i64, .int .i64, .int .i64])) fun (r12 : LTs _) =>
 br (((r12.1.n : Nat) : Int) == 0)
 (call Tryz.prog 15 [] (.one (.l .bool)) fun (r13 : Bool) =>
 ret (.bool r13))
 (ret (.bool false)))
 (ret (.bool false)))
 (ret (.bool false))))) (0, ()))) (0, ()))) (⟨none, 0, 0⟩, ⟨none, 0, 0⟩, 0, ()))
theorem F.gloaminglaw20.GcRings.calls (p0 : Int) (p1 : Int) (p2 : Bool) (h : F.gloaminglaw20.GcRings p0 p1 p2 Q w) : Calls Tryz.prog 4 #[.int .u8 p0, .int .u8 p1, .bool p2] w (RetQ Q) :=
 Tryz.cd F.gloaminglaw20.GcRings.T Tryz.func4 (by kernel_rfl) (es := [.va (.int .u8 p0), .va (.int .u8 p1), .va (.bool p2)]) rfl (by kernel_rfl) h
end Go.Proofs.YtdplphebjhfliaaGreat
