import Derived.Test.YtdplphebjhfliaaGreatGsT
namespace Go.Proofs.YtdplphebjhfliaaGreat
open Go Go.Gl
set_option maxRecDepth 100000
set_option linter.unusedVariables false
variable {Q : Value → World → Prop} {w : World}
def F.gloaminglaw20.GcTimes.T : Tabs := ⟨fun _ => [],
 (fun
 | 12 => some []
 | 16 => some [(20, .bool)]
 | _ => none),
 (fun
 | 6 => .held (some 7) (.go 0 false (.go 1 false (.go 2 false (.go 3 false (.go 4 false (.go 5 false (.go 6 false (.go 7 true (.go 8 false (.go 9 false (.go 10 false (.go 11 false (.go 12 false .nil)))))))))))))
 | 11 => .held (some 7) (.go 0 false (.go 1 false (.go 2 false (.go 3 false (.go 4 false (.go 5 false (.go 6 false (.go 7 true .nil))))))))
 | 14 => .held (some 7) (.go 0 false (.go 1 false (.go 2 false (.go 3 false (.go 4 false (.go 5 false (.go 6 false (.go 7 true (.go 8 false (.go 9 false (.go 10 false (.go 11 false (.go 12 false .nil)))))))))))))
 | _ => .quiet)⟩
def F.gloaminglaw20.GcTimes (p0 : Int) (p1 : Int) (p2 : Bool) (p3 : Bool) : Tree :=
 need ((3 : Int) ≠ 0) <|
 call Tryz.prog 23 [.int .i64 (Int.tmod (IntKind.wrap .i64 p0) 3), .int .i64 0] (.one (.l .ptr)) fun (r1 : Option Addr) =>
 br (Option.isNone r1)
 (ret (.bool false))
 (call Tryz.prog 24 [.pointer r1, .int .i64 1] (.many [.l (.int .i64), .l (.int .i64)]) fun (r2 : KTs _) =>
 drw <| held fun S3 =>
 nn r1 fun a4 =>
 ldS S3 (.l .ptr) (fa a4 0) fun (x5 : Option Addr) =>
 call Tryz.prog 21 [.pointer r1] (.one (.l (.int .i64))) fun (r6 : Int) =>
 chk S3 <|
 call Tryz.prog 31 [.pointer x5, .int .i64 1, .int .i64 r2.1, .int .i64 (-1), .int .i64 r6] (.many [.l (.int .i64), .l (.int .i64)]) fun (r7 : KTs _) =>
 nn r1 fun a8 =>
 ld (.l .ptr) (fa a8 2) fun (x9 : Option Addr) =>
 call Tryz.prog 27 [.pointer x9, .int .i64 0, .int .i64 r7.1] (.one (.l (.int .i64))) fun (r10 : Int) =>
 nn r1 fun a11 =>
 ld (.l .ptr) (fa a11 1) fun (x12 : Option Addr) =>
 call Tryz.prog 26 [.pointer x12, .int .i64 r2.2.1] (.one (.l (.int .i64))) fun (r13 : Int) =>
 call Tryz.prog 20 [.pointer r1, .int .i64 (IntKind.wrap .i64 (5000 * (IntKind.wrap .i64 p1)))] (.many []) fun (r14 : KTs _) =>
 jn (fun (j16 : LTs []) => --
 call Tryz.prog 18 [.pointer r1, .bool p3] (.one (.g [.slice, .slice, .int .i64, .int .i64, .int .i64, .bool, .int .i64])) fun (r17 : LTs _) =>
 nw 40 (zc Tryz.prog 40) fun b18 =>
 st (⟨b18, 0, none⟩) [.slice r17.1.a r17.1.n r17.1.c, .slice r17.2.1.a r17.2.1.n r17.2.1.c, .int .i64 r17.2.2.1, .int .i64 r17.2.2.2.1, .int .i64 r17.2.2.2.2.1, .bool r17.2.2.2.2.2.1, .int .i64 r17.2.2.2.2.2.2.1] <|
 call Tryz.prog 19 [.pointer r1, .bool p3] (.many [.g [.slice, .slice, .slice, .slice], .l (.int .i64)]) fun (r19 : KTs _) =>
 nw 43 (zc Tryz.prog 43) fun b20 =>
 st (⟨b20, 0, none⟩) [.slice r19.1.1.a r19.1.1.n r19.1.1.c, .slice r19.1.2.1.a r19.1.2.1.n r19.1.2.1.c, .slice r19.1.2.2.1.a r19.1.2.2.1.n r19.1.2.2.1.c, .slice r19.1.2.2.2.1.a r19.1.2.2.2.1.n r19.1.2.2.2.1.c] <|
 drw <| held fun S21 =>
 nn r1 fun a22 =>
 ldS S21 (.l .ptr) (fa a22 0) fun (x23 : Option Addr) =>
 call Tryz.prog 21 [.pointer r1] (.one (.l (.int .i64))) fun (r24 : Int) =>
 chk S21 <|
 call Tryz.prog 32 [.pointer x23, .int .i64 r7.1, .int .i64 r24] (.many [.l (.int .i64), .l (.int .i64)]) fun (r25 : KTs _) =>
 jn (fun (j27 : LTs [.bool]) =>
 br ((r2.1 : Int) != 0)
 (call Tryz.prog 14 [.int .i64 r7.2.1] (.one (.l (.int .i64))) fun (r28 : Int) =>
 call Tryz.prog 14 [.int .i64 r19.2.1] (.one (.l (.int .i64))) fun (r29 : Int) =>
 call Tryz.prog 14 [.int .i64 r25.2.1] (.one (.l (.int .i64))) fun (r30 : Int) =>
 br ((IntKind.wrap .i64 ((IntKind.wrap .i64 (r28 + r29)) + r30) : Int) == 0)
 (br (((r25.1 : Int) == r2.1) == j27.1)
 (br (((r25.1 : Int) == 0) == (!j27.1))
 (ld (.l .slice) (fa (⟨b20, 0, none⟩) 3) fun (x31 : Slc) =>
 call Tryz.prog 36 [.slice x31.a x31.n x31.c, .int .i64 r2.1] (.one (.l .bool)) fun (r32 : Bool) =>
 br (r32 == j27.1)
 (call Tryz.prog 15 [] (.one (.l .bool)) fun (r33 : Bool) =>
 ret (.bool r33))
 (ret (.bool false)))
 (ret (.bool false)))
 (ret (.bool false)))
 (ret (.bool false)))
 (ret (.bool false))) fun J26 =>
 br (!p3)
 (br p2
 (J26 (true, ()))
 (ld (.l (.int .i64)) (fa (⟨b18, 0, none⟩) 3) fun (x28 : Int) =>
 J26 (decide ((IntKind.wrap .i64 (5000 * (IntKind.wrap .i64 p1)) : Int) ≤ (IntKind.wrap .i64 (x28 * (Int.tmod (IntKind.wrap .i64 p0) 3)))), ())))
 (J26 (false, ()))) fun J15 =>
 br p2
 (drw <| held fun S28 =>
 nn r1 fun a29 =>
 ldS S28 (.l .ptr) (fa a29 0) fun (x30 : Option Addr) =>
 call Tryz.prog 21 [.pointer r1] (.one (.l (.int .i64))) fun (r31 : Int) =>
 chk S28 <|
 call Tryz.prog 32 [.pointer x30, .int .i64 r7.1, .int .i64 r31] (.many [.l (.int .i64), .l (.int .i64)]) fun (r32 : KTs _) =>
 J15 (()))
 (J15 (())))
theorem F.gloaminglaw20.GcTimes.calls (p0 : Int) (p1 : Int) (p2 : Bool) (p3 : Bool) (h : F.gloaminglaw20.GcTimes p0 p1 p2 p3 Q w) : Calls Tryz.prog 9 #[.int .u8 p0, .int .u8 p1, .bool p2, .bool p3] w (RetQ Q) :=
 Tryz.cd F.gloaminglaw20.GcTimes.T Tryz.func9 (by kernel_rfl) (es := [.va (.int .u8 p0), .va (.int .u8 p1), .va (.bool p2), .va (.bool p3)]) rfl (by kernel_rfl) h
end Go.Proofs.YtdplphebjhfliaaGreat
