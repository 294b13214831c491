import Derived.Test.YtdplphebjhfliaaGreatGsT
namespace Go.Proofs.YtdplphebjhfliaaGreat
open Go Go.Gl
set_option maxRecDepth 100000
set_option linter.unusedVariables false
variable {Q : Value → World → Prop} {w : World}
def F.gloaminglaw20.GcHolds.T : Tabs := ⟨(fun
 | 7 => [(8, .int .i64), (9, .int .i64)]
 | _ => []),
 (fun
 | 25 => some []
 | 30 => some [(16, .int .i64)]
 | _ => none),
 fun _ => .quiet⟩
def F.gloaminglaw20.GcHolds (p0 : Int) (p1 : Int) : Tree :=
 call Tryz.prog 23 [.int .i64 0, .int .i64 1] (.one (.l .ptr)) fun (r1 : Option Addr) =>
 br (Option.isNone r1)
 (ret (.bool false))
 (call Tryz.prog 24 [.pointer r1, .int .i64 2] (.many [.l (.int .i64), .l (.int .i64)]) fun (r2 : KTs _) =>
 lp [.int .i64, .int .i64] (fun X3 u4 =>
 need ((9 : Int) ≠ 0) <|
 br (decide ((u4.2.1 : Int) < (Int.tmod (IntKind.wrap .i64 p1) 9)))
 (call Tryz.prog 24 [.pointer r1, .int .i64 2] (.many [.l (.int .i64), .l (.int .i64)]) fun (r5 : KTs _) =>
 br ((r5.1 : Int) == 0)
 (ret (.bool false))
 (nn r1 fun a6 =>
 ld (.l .ptr) (fa a6 3) fun (x7 : Option Addr) =>
 nn x7 fun a8 =>
 ld (.l .ptr) (fa a8 0) fun (x9 : Option Addr) =>
 need ((2 : Int) ≠ 0) <|
 call Tryz.prog 25 [.pointer x9, .int .i64 u4.1, .int .i64 (Int.tmod u4.2.1 2), .int .i64 r5.1] (.one (.l (.int .i64))) fun (r10 : Int) =>
 nn r1 fun a11 =>
 ld (.l .ptr) (fa a11 1) fun (x12 : Option Addr) =>
 call Tryz.prog 26 [.pointer x12, .int .i64 r5.2.1] (.one (.l (.int .i64))) fun (r13 : Int) =>
 X3 (r5.1, IntKind.wrap .i64 (u4.2.1 + 1), ())))
 (need ((9 : Int) ≠ 0) <|
 jn (fun (j6 : LTs []) => --
 call Tryz.prog 19 [.pointer r1, .bool false] (.many [.g [.slice, .slice, .slice, .slice], .l (.int .i64)]) fun (r7 : KTs _) =>
 nw 43 (zc Tryz.prog 43) fun b8 =>
 st (⟨b8, 0, none⟩) [.slice r7.1.1.a r7.1.1.n r7.1.1.c, .slice r7.1.2.1.a r7.1.2.1.n r7.1.2.1.c, .slice r7.1.2.2.1.a r7.1.2.2.1.n r7.1.2.2.1.c, .slice r7.1.2.2.2.1.a r7.1.2.2.2.1.n r7.1.2.2.2.1.c] <|
 call Tryz.prog 17 [.pointer r1] (.one (.g [.slice, .slice, .slice, .slice, .slice, .slice, .int .i64, .int .i64, .int .i64, .int .i64])) fun (r9 : LTs _) =>
 nw 37 (zc Tryz.prog 37) fun b10 =>
 st (⟨b10, 0, none⟩) [.slice r9.1.a r9.1.n r9.1.c, .slice r9.2.1.a r9.2.1.n r9.2.1.c, .slice r9.2.2.1.a r9.2.2.1.n r9.2.2.1.c, .slice r9.2.2.2.1.a r9.2.2.2.1.n r9.2.2.2.1.c, .slice r9.2.2.2.2.1.a r9.2.2.2.2.1.n r9.2.2.2.2.1.c, .slice r9.2.2.2.2.2.1.a r9.2.2.2.2.2.1.n r9.2.2.2.2.2.1.c, .int .i64 r9.2.2.2.2.2.2.1, .int .i64 r9.2.2.2.2.2.2.2.1, .int .i64 r9.2.2.2.2.2.2.2.2.1, .int .i64 r9.2.2.2.2.2.2.2.2.2.1] <|
 jn (fun (j12 : LTs [.int .i64]) =>
 br ((r2.1 : Int) == 0)
 (ret (.bool false))
 (call Tryz.prog 14 [.int .i64 r7.2.1] (.one (.l (.int .i64))) fun (r13 : Int) =>
 br ((r13 : Int) != 0)
 (ret (.bool false))
 (ld (.l .slice) (fa (⟨b8, 0, none⟩) 3) fun (x14 : Slc) =>
 br (((x14.n : Nat) : Int) != j12.1)
 (ret (.bool false))
 (ld (.l .slice) (fa (⟨b10, 0, none⟩) 0) fun (x15 : Slc) =>
 br (((x15.n : Nat) : Int) != j12.1)
 (ret (.bool false))
 (ld (.l .slice) (fa (⟨b10, 0, none⟩) 5) fun (x16 : Slc) =>
 br (((x16.n : Nat) : Int) != 0)
 (need ((4 : Int) ≠ 0) <|
 br ((Int.tmod p0 4 : Int) != 1)
 (ret (.bool false))
 (need ((4 : Int) ≠ 0) <|
 br ((Int.tmod p0 4 : Int) == 1)
 (nn r1 fun a17 =>
 ld (.l .ptr) (fa a17 3) fun (x18 : Option Addr) =>
 call Tryz.prog 29 [.pointer x18, .int .i64 0] (.many [.l (.int .i64), .l (.int .i64)]) fun (r19 : KTs _) =>
 call Tryz.prog 19 [.pointer r1, .bool false] (.many [.g [.slice, .slice, .slice, .slice], .l (.int .i64)]) fun (r20 : KTs _) =>
 st (⟨b8, 0, none⟩) [.slice r20.1.1.a r20.1.1.n r20.1.1.c, .slice r20.1.2.1.a r20.1.2.1.n r20.1.2.1.c, .slice r20.1.2.2.1.a r20.1.2.2.1.n r20.1.2.2.1.c, .slice r20.1.2.2.2.1.a r20.1.2.2.2.1.n r20.1.2.2.2.1.c] <|
 br ((r19.1 : Int) == r2.1)
 (call Tryz.prog 14 [.int .i64 r20.2.1] (.one (.l (.int .i64))) fun (r21 : Int) =>
 call Tryz.prog 14 [.int .i64 r19.2.1] (.one (.l (.int .i64))) fun (r22 : Int) =>
 br ((IntKind.wrap .i64 (r21 + r22) : Int) == 0)
 (ld (.l .slice) (fa (⟨b10, 0, none⟩) 5) fun (x23 : Slc) =>
 br (((x23.n : Nat) : Int) == 1)
 (ld (.l .slice) (fa (⟨b8, 0, none⟩) 3) fun (x24 : Slc) =>
 br (((x24.n : Nat) : Int) == 0)
 (call Tryz.prog 15 [] (.one (.l .bool)) fun (r25 : Bool) =>
 ret (.bool r25))
 (ret (.bool false)))
 (ret (.bool false)))
 (ret (.bool false)))
 (ret (.bool false)))
 (call Tryz.prog 15 [] (.one (.l .bool)) fun (r17 : Bool) =>
 ret (.bool r17))))
 (need ((4 : Int) ≠ 0) <|
 br ((Int.tmod p0 4 : Int) == 1)
 (nn r1 fun a17 =>
 ld (.l .ptr) (fa a17 3) fun (x18 : Option Addr) =>
 call Tryz.prog 29 [.pointer x18, .int .i64 0] (.many [.l (.int .i64), .l (.int .i64)]) fun (r19 : KTs _) =>
 call Tryz.prog 19 [.pointer r1, .bool false] (.many [.g [.slice, .slice, .slice, .slice], .l (.int .i64)]) fun (r20 : KTs _) =>
 st (⟨b8, 0, none⟩) [.slice r20.1.1.a r20.1.1.n r20.1.1.c, .slice r20.1.2.1.a r20.1.2.1.n r20.1.2.1.c, .slice r20.1.2.2.1.a r20.1.2.2.1.n r20.1.2.2.1.c, .slice r20.1.2.2.2.1.a r20.1.2.2.2.1.n r20.1.2.2.2.1.c] <|
 br ((r19.1 : Int) == r2.1)
 (call Tryz.prog 14 [.int .i64 r20.2.1] (.one (.l (.int .i64))) fun (r21 : Int) =>
 call Tryz.prog 14 [.int .i64 r19.2.1] (.one (.l (.int .i64))) fun (r22 : Int) =>
 br ((IntKind.wrap .i64 (r21 + r22) : Int) == 0)
 (ld (.l .slice) (fa (⟨b10, 0, none⟩) 5) fun (x23 : Slc) =>
 br (((x23.n : Nat) : Int) == 1)
 (ld (.l .slice) (fa (⟨b8, 0, none⟩) 3) fun (x24 : Slc) =>
 br (((x24.n : Nat) : Int) == 0)
 (call Tryz.prog 15 [] (.one (.l .bool)) fun (r25 : Bool) =>
 ret (.bool r25))
 (ret (.bool false)))
 (ret (.bool false)))
 (ret (.bool false)))
 (ret (.bool false)))
 (call Tryz.prog 15 [] (.one (.l .bool)) fun (r17 : Bool) =>
 ret (.bool r17)))))))) fun J11 =>
 need ((4 : Int) ≠ 0) <|
 br ((Int.tmod p0 4 : Int) == 2)
 (J11 (0, ()))
 (J11 (IntKind.wrap .i64 (1 + (Int.tmod (IntKind.wrap .i64 p1) 9)), ()))) fun J5 =>
 need ((4 : Int) ≠ 0) <|
 br ((Int.tmod p0 4 : Int) == 0)
 (nn r1 fun a18 =>
 ld (.l .ptr) (fa a18 2) fun (x19 : Option Addr) =>
 call Tryz.prog 27 [.pointer x19, .int .i64 3, .int .i64 r2.1] (.one (.l (.int .i64))) fun (r20 : Int) =>
 nn r1 fun a21 =>
 ld (.l .ptr) (fa a21 1) fun (x22 : Option Addr) =>
 call Tryz.prog 26 [.pointer x22, .int .i64 r2.2.1] (.one (.l (.int .i64))) fun (r23 : Int) =>
 J5 (()))
 (br ((Int.tmod p0 4 : Int) == 1)
 (nn r1 fun a18 =>
 ld (.l .ptr) (fa a18 3) fun (x19 : Option Addr) =>
 call Tryz.prog 28 [.pointer x19, .int .i64 r2.1] (.one (.l (.int .i64))) fun (r20 : Int) =>
 nn r1 fun a21 =>
 ld (.l .ptr) (fa a21 1) fun (x22 : Option Addr) =>
 call Tryz.prog 26 [.pointer x22, .int .i64 r2.2.1] (.one (.l (.int .i64))) fun (r23 : Int) =>
 J5 (()))
 (br ((Int.tmod p0 4 : Int) == 2)
 (nn r1 fun a18 =>
 ld (.l .ptr) (fa a18 1) fun (x19 : Option Addr) =>
 call Tryz.prog 26 [.pointer x19, .int .i64 r2.2.1] (.one (.l (.int .i64))) fun (r20 : Int) =>
 J5 (()))
 (J5 (())))))) (r2.1, 0, ()))
theorem F.gloaminglaw20.GcHolds.calls (p0 : Int) (p1 : Int) (h : F.gloaminglaw20.GcHolds p0 p1 Q w) : Calls Tryz.prog 5 #[.int .u8 p0, .int .u8 p1] w (RetQ Q) :=
 Tryz.cd F.gloaminglaw20.GcHolds.T Tryz.func5 (by kernel_rfl) (es := [.va (.int .u8 p0), .va (.int .u8 p1)]) rfl (by kernel_rfl) h
end Go.Proofs.YtdplphebjhfliaaGreat
