import Derived.Test.YtdplphebjhfliaaGreatGsT
namespace Go.Proofs.YtdplphebjhfliaaGreat
open Go Go.Gl
set_option maxRecDepth 100000
set_option linter.unusedVariables false
variable {Q : Value → World → Prop} {w : World}
def F.gloaminglaw20.GcViews.T : Tabs := ⟨fun _ => [],
 (fun
 | 15 => some [(15, .bool)]
 | _ => none),
 (fun
 | 10 => .held (some 7) (.go 0 false (.go 1 false (.go 2 false (.go 3 false (.go 4 false (.go 5 false (.go 6 false (.go 7 true (.go 8 false (.go 9 false (.go 10 false (.go 11 false (.go 12 false .nil)))))))))))))
 | 14 => .held none (.go 0 false (.go 1 false (.go 2 false (.go 3 false (.go 4 false (.go 5 false (.go 6 false (.go 7 false (.go 8 false (.go 9 false (.go 10 false (.go 11 false (.go 12 false (.go 13 false (.go 14 false (.go 15 false (.go 16 false (.go 17 false (.go 18 false (.go 19 false (.go 20 false (.go 21 false (.go 22 false (.go 23 false (.go 24 false (.go 25 false (.go 26 false (.go 27 false (.go 28 false (.go 29 false (.go 30 false (.go 31 false (.go 32 false (.go 33 false (.go 34 false (.go 35 false (.go 36 false (.go 37 false (.go 38 false (.go 39 false (.go 40 false (.go 41 false (.go 42 false (.go 43 false (.go 44 false (.go 45 false (.go 46 false (.go 47 false (.go 48 false (.go 49 false (.go 50 false (.cut (.go 51 false (.go 52 false (.go 53 false (.go 54 false (.go 55 false (.go 56 false (.go 57 false (.go 58 false .nil))))))))))))))))))))))))))))))))))))))))))))))))))))))))))))
 | _ => .quiet)⟩
def F.gloaminglaw20.GcViews (p0 : Int) (p1 : Int) (p2 : Int) : Tree :=
 call Tryz.prog 23 [.int .i64 1, .int .i64 2] (.one (.l .ptr)) fun (r1 : Option Addr) =>
 br (Option.isNone r1)
 (ret (.bool false))
 (call Tryz.prog 24 [.pointer r1, .int .i64 2] (.many [.l (.int .i64), .l (.int .i64)]) fun (r2 : KTs _) =>
 nn r1 fun a3 =>
 ld (.l .ptr) (fa a3 3) fun (x4 : Option Addr) =>
 call Tryz.prog 28 [.pointer x4, .int .i64 r2.1] (.one (.l (.int .i64))) fun (r5 : Int) =>
 need ((16 : Int) ≠ 0) <|
 nn r1 fun a6 =>
 ld (.l .ptr) (fa a6 2) fun (x7 : Option Addr) =>
 call Tryz.prog 27 [.pointer x7, .int .i64 (Int.tmod (IntKind.wrap .i64 p0) 16), .int .i64 r2.1] (.one (.l (.int .i64))) fun (r8 : Int) =>
 call Tryz.prog 20 [.pointer r1, .int .i64 (IntKind.wrap .i64 p1)] (.many []) fun (r9 : KTs _) =>
 call Tryz.prog 20 [.pointer r1, .int .i64 (-5)] (.many []) fun (r10 : KTs _) =>
 drw <| held fun S11 =>
 nn r1 fun a12 =>
 ldS S11 (.l .ptr) (fa a12 0) fun (x13 : Option Addr) =>
 call Tryz.prog 21 [.pointer r1] (.one (.l (.int .i64))) fun (r14 : Int) =>
 chk S11 <|
 call Tryz.prog 31 [.pointer x13, .int .i64 2, .int .i64 r2.1, .int .i64 1, .int .i64 r14] (.many [.l (.int .i64), .l (.int .i64)]) fun (r15 : KTs _) =>
 call Tryz.prog 17 [.pointer r1] (.one (.g [.slice, .slice, .slice, .slice, .slice, .slice, .int .i64, .int .i64, .int .i64, .int .i64])) fun (r16 : LTs _) =>
 nw 37 (zc Tryz.prog 37) fun b17 =>
 st (⟨b17, 0, none⟩) [.slice r16.1.a r16.1.n r16.1.c, .slice r16.2.1.a r16.2.1.n r16.2.1.c, .slice r16.2.2.1.a r16.2.2.1.n r16.2.2.1.c, .slice r16.2.2.2.1.a r16.2.2.2.1.n r16.2.2.2.1.c, .slice r16.2.2.2.2.1.a r16.2.2.2.2.1.n r16.2.2.2.2.1.c, .slice r16.2.2.2.2.2.1.a r16.2.2.2.2.2.1.n r16.2.2.2.2.2.1.c, .int .i64 r16.2.2.2.2.2.2.1, .int .i64 r16.2.2.2.2.2.2.2.1, .int .i64 r16.2.2.2.2.2.2.2.2.1, .int .i64 r16.2.2.2.2.2.2.2.2.2.1] <|
 br ((r2.1 : Int) == 0)
 (ret (.bool false))
 (call Tryz.prog 14 [.int .i64 r15.2.1] (.one (.l (.int .i64))) fun (r18 : Int) =>
 call Tryz.prog 14 [.int .i64 r5] (.one (.l (.int .i64))) fun (r19 : Int) =>
 br ((IntKind.wrap .i64 (r18 + r19) : Int) != 0)
 (ret (.bool false))
 (ld (.l .slice) (fa (⟨b17, 0, none⟩) 0) fun (x20 : Slc) =>
 br (((x20.n : Nat) : Int) != 2)
 (ret (.bool false))
 (ld (.l .slice) (fa (⟨b17, 0, none⟩) 1) fun (x21 : Slc) =>
 br (((x21.n : Nat) : Int) != 1)
 (ret (.bool false))
 (ld (.l .slice) (fa (⟨b17, 0, none⟩) 3) fun (x22 : Slc) =>
 br (((x22.n : Nat) : Int) != 2)
 (ret (.bool false))
 (ld (.l .slice) (fa (⟨b17, 0, none⟩) 2) fun (x23 : Slc) =>
 br (((x23.n : Nat) : Int) != 16)
 (ret (.bool false))
 (ld (.l .slice) (fa (⟨b17, 0, none⟩) 4) fun (x24 : Slc) =>
 br (((x24.n : Nat) : Int) != 1)
 (ret (.bool false))
 (jn (fun (j26 : LTs [.bool]) =>
 ld (.l .slice) (fa (⟨b17, 0, none⟩) 2) fun (x27 : Slc) =>
 ix x27.a x27.n (Int.tmod (IntKind.wrap .i64 p0) 16) 1 fun a28 =>
 st a28 [.int .i64 p2] <|
 ld (.l .slice) (fa (⟨b17, 0, none⟩) 4) fun (x29 : Slc) =>
 ix x29.a x29.n 0 1 fun a30 =>
 st a30 [.int .i64 p2] <|
 ld (.l .slice) (fa (⟨b17, 0, none⟩) 0) fun (x31 : Slc) =>
 ix x31.a x31.n 0 6 fun a32 =>
 st (fa a32 0) [.int .i64 p2] <|
 call Tryz.prog 17 [.pointer r1] (.one (.g [.slice, .slice, .slice, .slice, .slice, .slice, .int .i64, .int .i64, .int .i64, .int .i64])) fun (r33 : LTs _) =>
 nw 37 (zc Tryz.prog 37) fun b34 =>
 st (⟨b34, 0, none⟩) [.slice r33.1.a r33.1.n r33.1.c, .slice r33.2.1.a r33.2.1.n r33.2.1.c, .slice r33.2.2.1.a r33.2.2.1.n r33.2.2.1.c, .slice r33.2.2.2.1.a r33.2.2.2.1.n r33.2.2.2.1.c, .slice r33.2.2.2.2.1.a r33.2.2.2.2.1.n r33.2.2.2.2.1.c, .slice r33.2.2.2.2.2.1.a r33.2.2.2.2.2.1.n r33.2.2.2.2.2.1.c, .int .i64 r33.2.2.2.2.2.2.1, .int .i64 r33.2.2.2.2.2.2.2.1, .int .i64 r33.2.2.2.2.2.2.2.2.1, .int .i64 r33.2.2.2.2.2.2.2.2.2.1] <|
 br j26.1
 (ld (.l .slice) (fa (⟨b34, 0, none⟩) 2) fun (x35 : Slc) =>
 ix x35.a x35.n (Int.tmod (IntKind.wrap .i64 p0) 16) 1 fun a36 =>
 ld (.l (.int .i64)) a36 fun (x37 : Int) =>
 br ((x37 : Int) == r2.1)
 (ld (.l .slice) (fa (⟨b34, 0, none⟩) 4) fun (x38 : Slc) =>
 br (((x38.n : Nat) : Int) == 1)
 (ld (.l .slice) (fa (⟨b34, 0, none⟩) 4) fun (x39 : Slc) =>
 ix x39.a x39.n 0 1 fun a40 =>
 ld (.l (.int .i64)) a40 fun (x41 : Int) =>
 br ((x41 : Int) == r2.1)
 (ld (.l .slice) (fa (⟨b34, 0, none⟩) 0) fun (x42 : Slc) =>
 br (((x42.n : Nat) : Int) == 2)
 (ld (.l .slice) (fa (⟨b34, 0, none⟩) 0) fun (x43 : Slc) =>
 ix x43.a x43.n 0 6 fun a44 =>
 ld (.l (.int .i64)) (fa a44 0) fun (x45 : Int) =>
 br ((x45 : Int) == (if (r15.1 : Int) < r2.1 then (r15.1 : Int) else r2.1))
 (call Tryz.prog 15 [] (.one (.l .bool)) fun (r46 : Bool) =>
 ret (.bool r46))
 (ret (.bool false)))
 (ret (.bool false)))
 (ret (.bool false)))
 (ret (.bool false)))
 (ret (.bool false)))
 (ret (.bool false))) fun J25 =>
 drw <| held fun S35 =>
 ldS S35 (.l .slice) (fa (⟨b17, 0, none⟩) 1) fun (x36 : Slc) =>
 ix x36.a x36.n 0 2 fun a37 =>
 ldS S35 (.g [.int .i64, .int .i64]) a37 fun (x38 : LTs _) =>
 br (((x38.1 : Int) == r2.2.1) && (((x38.2.1 : Int) == r2.1) && true))
 (ldS S35 (.l .slice) (fa (⟨b17, 0, none⟩) 2) fun (x39 : Slc) =>
 ix x39.a x39.n (Int.tmod (IntKind.wrap .i64 p0) 16) 1 fun a40 =>
 ldS S35 (.l (.int .i64)) a40 fun (x41 : Int) =>
 br ((x41 : Int) == r2.1)
 (ldS S35 (.l .slice) (fa (⟨b17, 0, none⟩) 4) fun (x42 : Slc) =>
 ix x42.a x42.n 0 1 fun a43 =>
 ldS S35 (.l (.int .i64)) a43 fun (x44 : Int) =>
 br ((x44 : Int) == r2.1)
 (ldS S35 (.l (.int .i64)) (fa (⟨b17, 0, none⟩) 6) fun (x45 : Int) =>
 br ((x45 : Int) == (IntKind.wrap .i64 p1))
 (ldS S35 (.l (.int .i64)) (fa (⟨b17, 0, none⟩) 7) fun (x46 : Int) =>
 br ((x46 : Int) == 1)
 (ldS S35 (.l (.int .i64)) (fa (⟨b17, 0, none⟩) 8) fun (x47 : Int) =>
 nn r1 fun a48 =>
 ldS S35 (.l .ptr) (fa a48 3) fun (x49 : Option Addr) =>
 nn x49 fun a50 =>
 ldS S35 (.l .ptr) (fa a50 0) fun (x51 : Option Addr) =>
 nn x51 fun a52 =>
 ldS S35 (.l .ptr) (fa a52 0) fun (x53 : Option Addr) =>
 call Tryz.prog 39 [.pointer x53] (.one (.l (.int .i64))) fun (r54 : Int) =>
 chk S35 <|
 narrow S35 fun S55 =>
 br ((x47 : Int) == r54)
 (ldS S55 (.l (.int .i64)) (fa (⟨b17, 0, none⟩) 9) fun (x56 : Int) =>
 J25 ((x56 : Int) == 0, ()))
 (J25 (false, ())))
 (narrow S35 fun S47 =>
 J25 (false, ())))
 (narrow S35 fun S46 =>
 J25 (false, ())))
 (narrow S35 fun S45 =>
 J25 (false, ())))
 (narrow S35 fun S42 =>
 J25 (false, ())))
 (narrow S35 fun S39 =>
 J25 (false, ()))))))))))
theorem F.gloaminglaw20.GcViews.calls (p0 : Int) (p1 : Int) (p2 : Int) (h : F.gloaminglaw20.GcViews p0 p1 p2 Q w) : Calls Tryz.prog 8 #[.int .u8 p0, .int .u16 p1, .int .i64 p2] w (RetQ Q) :=
 Tryz.cd F.gloaminglaw20.GcViews.T Tryz.func8 (by kernel_rfl) (es := [.va (.int .u8 p0), .va (.int .u16 p1), .va (.int .i64 p2)]) rfl (by kernel_rfl) h
end Go.Proofs.YtdplphebjhfliaaGreat
