import Derived.Test.YtpefngbfgjfcgaaGreatGsT
namespace Go.Proofs.YtpefngbfgjfcgaaGreat
open Go Go.Gl
set_option maxRecDepth 100000
set_option linter.unusedVariables false
variable {Q : Value → World → Prop} {w : World}
def F.gloaminglaw18.ProcSofts.T : Tabs := ⟨fun _ => [],
 (fun
 | 12 => some []
 | 14 => some [(18, .bool)]
 | _ => none),
 fun _ => .quiet⟩
def F.gloaminglaw18.ProcSofts (p0 : Int) (p1 : Int) (p2 : Int) (p3 : Bool) : Tree :=
 call Tryz.prog 13 [.slice none 0 0] (.many [.l .ptr, .l .slice]) fun (r1 : KTs _) =>
 br (Option.isNone r1.1)
 (ret (.bool false))
 (nw 3 [.int .i64 0] fun b2 =>
 call Tryz.prog 28 [.pointer r1.1, .slice (some ⟨b2, 0, none⟩) 1 1] (.one (.l (.int .i64))) fun (r3 : Int) =>
 call Tryz.prog 29 [.pointer r1.1, .int .i64 1, .int .i64 r3, .int .i64 0, .int .i64 (IntKind.wrap .i64 p0), .int .i64 1] (.one (.l (.int .i64))) fun (r4 : Int) =>
 call Tryz.prog 29 [.pointer r1.1, .int .i64 1, .int .i64 r3, .int .i64 1, .int .i64 (IntKind.wrap .i64 p1), .int .i64 2] (.one (.l (.int .i64))) fun (r5 : Int) =>
 call Tryz.prog 29 [.pointer r1.1, .int .i64 2, .int .i64 r3, .int .i64 1, .int .i64 0, .int .i64 3] (.one (.l (.int .i64))) fun (r6 : Int) =>
 br ((r3 : Int) == 0)
 (ret (.bool false))
 (br ((r4 : Int) == 0)
 (ret (.bool false))
 (br ((r5 : Int) == 0)
 (ret (.bool false))
 (br ((r6 : Int) == 0)
 (ret (.bool false))
 (nw 3 [.int .i64 r5, .int .i64 r6] fun b7 =>
 nw 31 (zc Tryz.prog 31) fun b8 =>
 st (⟨b8, 0, none⟩) [.slice (some ⟨b7, 0, none⟩) 2 2, .slice none 0 0, .int .i64 300, .int .i64 (IntKind.wrap .i64 ((IntKind.wrap .i64 p2) + 40)), .int .i64 1, .bool false, .int .i64 2] <|
 jn (fun (j10 : LTs []) => --
 ld (.g [.slice, .slice, .int .i64, .int .i64, .int .i64, .bool, .int .i64]) (⟨b8, 0, none⟩) fun (x11 : LTs _) =>
 call Tryz.prog 16 [.pointer r1.1, .agg #[.slice x11.1.a x11.1.n x11.1.c, .slice x11.2.1.a x11.2.1.n x11.2.1.c, .int .i64 x11.2.2.1, .int .i64 x11.2.2.2.1, .int .i64 x11.2.2.2.2.1, .bool x11.2.2.2.2.2.1, .int .i64 x11.2.2.2.2.2.2.1]] (.many [.g [.slice, .slice, .slice, .slice], .l (.int .i64)]) fun (r12 : KTs _) =>
 nw 34 (zc Tryz.prog 34) fun b13 =>
 st (⟨b13, 0, none⟩) [.slice r12.1.1.a r12.1.1.n r12.1.1.c, .slice r12.1.2.1.a r12.1.2.1.n r12.1.2.1.c, .slice r12.1.2.2.1.a r12.1.2.2.1.n r12.1.2.2.1.c, .slice r12.1.2.2.2.1.a r12.1.2.2.2.1.n r12.1.2.2.2.1.c] <|
 jn (fun (j15 : LTs [.bool]) =>
 call Tryz.prog 17 [.int .i64 r12.2.1] (.one (.l (.int .i64))) fun (r16 : Int) =>
 br ((r16 : Int) != 0)
 (ret (.bool false))
 (ld (.l .slice) (fa (⟨b13, 0, none⟩) 3) fun (x17 : Slc) =>
 call Tryz.prog 27 [.slice x17.a x17.n x17.c, .int .i64 r3] (.one (.l .bool)) fun (r18 : Bool) =>
 br (!(r18 == j15.1))
 (ret (.bool false))
 (ld (.l .slice) (fa (⟨b13, 0, none⟩) 3) fun (x19 : Slc) =>
 call Tryz.prog 27 [.slice x19.a x19.n x19.c, .int .i64 r4] (.one (.l .bool)) fun (r20 : Bool) =>
 br (!(r20 == p3))
 (ret (.bool false))
 (br j15.1
 (ld (.l .slice) (fa (⟨b13, 0, none⟩) 0) fun (x21 : Slc) =>
 br (((x21.n : Nat) : Int) == 0)
 (ld (.l .slice) (fa (⟨b13, 0, none⟩) 1) fun (x22 : Slc) =>
 br (((x22.n : Nat) : Int) == 0)
 (call Tryz.prog 23 [] (.one (.l .bool)) fun (r23 : Bool) =>
 ret (.bool r23))
 (ret (.bool false)))
 (ret (.bool false)))
 (ld (.l .slice) (fa (⟨b13, 0, none⟩) 0) fun (x21 : Slc) =>
 nw 3 [.int .i64 r4, .int .i64 r5, .int .i64 r6] fun b22 =>
 call Tryz.prog 30 [.slice x21.a x21.n x21.c, .slice (some ⟨b22, 0, none⟩) 3 3] (.one (.l .bool)) fun (r23 : Bool) =>
 br r23
 (ld (.l .slice) (fa (⟨b13, 0, none⟩) 1) fun (x24 : Slc) =>
 nw 3 [.int .i64 r5, .int .i64 r6] fun b25 =>
 call Tryz.prog 30 [.slice x24.a x24.n x24.c, .slice (some ⟨b25, 0, none⟩) 2 2] (.one (.l .bool)) fun (r26 : Bool) =>
 br r26
 (call Tryz.prog 23 [] (.one (.l .bool)) fun (r27 : Bool) =>
 ret (.bool r27))
 (ret (.bool false)))
 (ret (.bool false))))))) fun J14 =>
 br (decide ((IntKind.wrap .i64 (300 - (IntKind.wrap .i64 p1)) : Int) ≤ (IntKind.wrap .i64 ((IntKind.wrap .i64 p2) + 40))))
 (J14 (true, ()))
 (br p3
 (J14 (decide ((IntKind.wrap .i64 (300 - (IntKind.wrap .i64 p0)) : Int) ≤ (IntKind.wrap .i64 ((IntKind.wrap .i64 p2) + 40))), ()))
 (J14 (false, ())))) fun J9 =>
 br p3
 (nw 3 [.int .i64 r4, .int .i64 r5, .int .i64 r6] fun b24 =>
 st (fa (⟨b8, 0, none⟩) 0) [.slice (some ⟨b24, 0, none⟩) 3 3] <|
 J9 (()))
 (J9 (())))))))
theorem F.gloaminglaw18.ProcSofts.calls (p0 : Int) (p1 : Int) (p2 : Int) (p3 : Bool) (h : F.gloaminglaw18.ProcSofts p0 p1 p2 p3 Q w) : Calls Tryz.prog 12 #[.int .u8 p0, .int .u8 p1, .int .u8 p2, .bool p3] w (RetQ Q) :=
 Tryz.cd F.gloaminglaw18.ProcSofts.T Tryz.func12 (by kernel_rfl) (es := [.va (.int .u8 p0), .va (.int .u8 p1), .va (.int .u8 p2), .va (.bool p3)]) rfl (by kernel_rfl) h
end Go.Proofs.YtpefngbfgjfcgaaGreat
