import Derived.Test.YtpefngbfgjfcgaaGreatGsT
namespace Go.Proofs.YtpefngbfgjfcgaaGreat
open Go Go.Gl
set_option maxRecDepth 100000
set_option linter.unusedVariables false
variable {Q : Value → World → Prop} {w : World}
def F.gloaminglaw18.ProcPhantoms.T : Tabs := ⟨fun _ => [],
 (fun
 | 12 => some []
 | 14 => some []
 | _ => none),
 fun _ => .quiet⟩
def F.gloaminglaw18.ProcPhantoms (p0 : Bool) (p1 : Bool) (p2 : Int) : Tree :=
 call Tryz.prog 13 [.slice none 0 0] (.many [.l .ptr, .l .slice]) fun (r1 : KTs _) =>
 br (Option.isNone r1.1)
 (ret (.bool false))
 (nw 3 [.int .i64 0] fun b2 =>
 call Tryz.prog 28 [.pointer r1.1, .slice (some ⟨b2, 0, none⟩) 1 1] (.one (.l (.int .i64))) fun (r3 : Int) =>
 call Tryz.prog 29 [.pointer r1.1, .int .i64 2, .int .i64 r3, .int .i64 1, .int .i64 0, .int .i64 1] (.one (.l (.int .i64))) fun (r4 : Int) =>
 call Tryz.prog 29 [.pointer r1.1, .int .i64 3, .int .i64 r3, .int .i64 1, .int .i64 0, .int .i64 2] (.one (.l (.int .i64))) fun (r5 : Int) =>
 call Tryz.prog 29 [.pointer r1.1, .int .i64 1, .int .i64 r3, .int .i64 0, .int .i64 0, .int .i64 3] (.one (.l (.int .i64))) fun (r6 : Int) =>
 br ((r3 : Int) == 0)
 (ret (.bool false))
 (br ((r4 : Int) == 0)
 (ret (.bool false))
 (br ((r5 : Int) == 0)
 (ret (.bool false))
 (br ((r6 : Int) == 0)
 (ret (.bool false))
 (nw 3 [.int .i64 r4, .int .i64 r5, .int .i64 r6] fun b7 =>
 need ((9 : Int) ≠ 0) <|
 nw 31 (zc Tryz.prog 31) fun b8 =>
 st (⟨b8, 0, none⟩) [.slice (some ⟨b7, 0, none⟩) 3 3, .slice none 0 0, .int .i64 9, .int .i64 0, .int .i64 0, .bool false, .int .i64 (IntKind.wrap .i64 (1 + (Int.tmod (IntKind.wrap .i64 p2) 9)))] <|
 jn (fun (j10 : LTs []) => --
 jn (fun (j12 : LTs []) => --
 ld (.g [.slice, .slice, .int .i64, .int .i64, .int .i64, .bool, .int .i64]) (⟨b8, 0, none⟩) fun (x13 : LTs _) =>
 call Tryz.prog 16 [.pointer r1.1, .agg #[.slice x13.1.a x13.1.n x13.1.c, .slice x13.2.1.a x13.2.1.n x13.2.1.c, .int .i64 x13.2.2.1, .int .i64 x13.2.2.2.1, .int .i64 x13.2.2.2.2.1, .bool x13.2.2.2.2.2.1, .int .i64 x13.2.2.2.2.2.2.1]] (.many [.g [.slice, .slice, .slice, .slice], .l (.int .i64)]) fun (r14 : KTs _) =>
 nw 34 (zc Tryz.prog 34) fun b15 =>
 st (⟨b15, 0, none⟩) [.slice r14.1.1.a r14.1.1.n r14.1.1.c, .slice r14.1.2.1.a r14.1.2.1.n r14.1.2.1.c, .slice r14.1.2.2.1.a r14.1.2.2.1.n r14.1.2.2.1.c, .slice r14.1.2.2.2.1.a r14.1.2.2.2.1.n r14.1.2.2.2.1.c] <|
 call Tryz.prog 17 [.int .i64 r14.2.1] (.one (.l (.int .i64))) fun (r16 : Int) =>
 br ((r16 : Int) != 0)
 (ret (.bool false))
 (br p1
 (ld (.l .slice) (fa (⟨b15, 0, none⟩) 0) fun (x17 : Slc) =>
 ld (.l .slice) (fa (⟨b15, 0, none⟩) 1) fun (x18 : Slc) =>
 ld (.l .slice) (fa (⟨b15, 0, none⟩) 2) fun (x19 : Slc) =>
 br ((IntKind.wrap .i64 ((IntKind.wrap .i64 ((x17.n : Nat) + (x18.n : Nat))) + (x19.n : Nat)) : Int) == 0)
 (ld (.l .slice) (fa (⟨b15, 0, none⟩) 3) fun (x20 : Slc) =>
 br (((x20.n : Nat) : Int) == 4)
 (call Tryz.prog 23 [] (.one (.l .bool)) fun (r21 : Bool) =>
 ret (.bool r21))
 (ret (.bool false)))
 (ret (.bool false)))
 (br p0
 (ld (.l .slice) (fa (⟨b15, 0, none⟩) 0) fun (x17 : Slc) =>
 nw 3 [.int .i64 r4, .int .i64 r6] fun b18 =>
 call Tryz.prog 30 [.slice x17.a x17.n x17.c, .slice (some ⟨b18, 0, none⟩) 2 2] (.one (.l .bool)) fun (r19 : Bool) =>
 br r19
 (ld (.l .slice) (fa (⟨b15, 0, none⟩) 1) fun (x20 : Slc) =>
 nw 3 [.int .i64 r4] fun b21 =>
 call Tryz.prog 30 [.slice x20.a x20.n x20.c, .slice (some ⟨b21, 0, none⟩) 1 1] (.one (.l .bool)) fun (r22 : Bool) =>
 br r22
 (ld (.l .slice) (fa (⟨b15, 0, none⟩) 2) fun (x23 : Slc) =>
 nw 3 [.int .i64 r3] fun b24 =>
 call Tryz.prog 30 [.slice x23.a x23.n x23.c, .slice (some ⟨b24, 0, none⟩) 1 1] (.one (.l .bool)) fun (r25 : Bool) =>
 br r25
 (ld (.l .slice) (fa (⟨b15, 0, none⟩) 3) fun (x26 : Slc) =>
 br (((x26.n : Nat) : Int) == 4)
 (call Tryz.prog 23 [] (.one (.l .bool)) fun (r27 : Bool) =>
 ret (.bool r27))
 (ret (.bool false)))
 (ret (.bool false)))
 (ret (.bool false)))
 (ret (.bool false)))
 (ld (.l .slice) (fa (⟨b15, 0, none⟩) 0) fun (x17 : Slc) =>
 nw 3 [.int .i64 r4, .int .i64 r6, .int .i64 r5] fun b18 =>
 call Tryz.prog 30 [.slice x17.a x17.n x17.c, .slice (some ⟨b18, 0, none⟩) 3 3] (.one (.l .bool)) fun (r19 : Bool) =>
 br r19
 (ld (.l .slice) (fa (⟨b15, 0, none⟩) 1) fun (x20 : Slc) =>
 nw 3 [.int .i64 r4, .int .i64 r5] fun b21 =>
 call Tryz.prog 30 [.slice x20.a x20.n x20.c, .slice (some ⟨b21, 0, none⟩) 2 2] (.one (.l .bool)) fun (r22 : Bool) =>
 br r22
 (ld (.l .slice) (fa (⟨b15, 0, none⟩) 2) fun (x23 : Slc) =>
 br (((x23.n : Nat) : Int) == 0)
 (ld (.l .slice) (fa (⟨b15, 0, none⟩) 3) fun (x24 : Slc) =>
 br (((x24.n : Nat) : Int) == 3)
 (call Tryz.prog 23 [] (.one (.l .bool)) fun (r25 : Bool) =>
 ret (.bool r25))
 (ret (.bool false)))
 (ret (.bool false)))
 (ret (.bool false)))
 (ret (.bool false)))))) fun J11 =>
 br p1
 (ld (.l .slice) (fa (⟨b8, 0, none⟩) 0) fun (x20 : Slc) =>
 nw 3 [.int .i64 r3] fun b21 =>
 opr Tryz.prog (Builtin.append_ #[24, 24] 24 #[.slice x20.a x20.n x20.c, .slice (some ⟨b21, 0, none⟩) 1 1]) (.one (.l .slice)) fun (r22 : Slc) =>
 st (fa (⟨b8, 0, none⟩) 0) [.slice r22.a r22.n r22.c] <|
 J11 (()))
 (J11 (()))) fun J9 =>
 br p0
 (nw 3 [.int .i64 r3] fun b20 =>
 st (fa (⟨b8, 0, none⟩) 1) [.slice (some ⟨b20, 0, none⟩) 1 1] <|
 J9 (()))
 (J9 (())))))))
theorem F.gloaminglaw18.ProcPhantoms.calls (p0 : Bool) (p1 : Bool) (p2 : Int) (h : F.gloaminglaw18.ProcPhantoms p0 p1 p2 Q w) : Calls Tryz.prog 8 #[.bool p0, .bool p1, .int .u8 p2] w (RetQ Q) :=
 Tryz.cd F.gloaminglaw18.ProcPhantoms.T Tryz.func8 (by kernel_rfl) (es := [.va (.bool p0), .va (.bool p1), .va (.int .u8 p2)]) rfl (by kernel_rfl) h
end Go.Proofs.YtpefngbfgjfcgaaGreat
