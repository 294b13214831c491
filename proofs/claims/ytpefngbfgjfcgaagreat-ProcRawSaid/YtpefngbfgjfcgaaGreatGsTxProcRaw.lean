import Derived.Test.YtpefngbfgjfcgaaGreatGsT
namespace Go.Proofs.YtpefngbfgjfcgaaGreat
open Go Go.Gl
set_option maxRecDepth 100000
set_option linter.unusedVariables false
variable {Q : Value → World → Prop} {w : World}
def F.gloaminglaw18.ProcRaw.T : Tabs := ⟨fun _ => [],
 fun _ => none,
 (fun
 | 11 => .held (some 8) (.go 0 false (.go 1 false (.cut (.go 2 false (.go 3 false (.go 4 false (.go 5 false (.go 6 false (.go 7 false (.go 8 true (.go 9 false (.go 10 false (.go 11 false (.go 12 false (.go 13 false (.go 14 false (.go 15 false (.go 16 false (.go 17 false (.go 18 false .nil))))))))))))))))))))
 | _ => .quiet)⟩
def F.gloaminglaw18.ProcRaw (p0 : Slc) (p1 : LTs [.slice, .slice, .int .i64, .int .i64, .int .i64, .bool, .int .i64]) : Tree :=
 nw 31 [.slice p1.1.a p1.1.n p1.1.c, .slice p1.2.1.a p1.2.1.n p1.2.1.c, .int .i64 p1.2.2.1, .int .i64 p1.2.2.2.1, .int .i64 p1.2.2.2.2.1, .bool p1.2.2.2.2.2.1, .int .i64 p1.2.2.2.2.2.2.1] fun b1 =>
 ld (.l .slice) (fa (⟨b1, 0, none⟩) 0) fun (x2 : Slc) =>
 br (decide (((x2.n : Nat) : Int) > 40))
 (call Tryz.prog 23 [] (.one (.l .bool)) fun (r3 : Bool) =>
 ret (.bool r3))
 (ld (.l .slice) (fa (⟨b1, 0, none⟩) 1) fun (x3 : Slc) =>
 br (decide (((x3.n : Nat) : Int) > 40))
 (call Tryz.prog 23 [] (.one (.l .bool)) fun (r4 : Bool) =>
 ret (.bool r4))
 (call Tryz.prog 13 [.slice p0.a p0.n p0.c] (.many [.l .ptr, .l .slice]) fun (r4 : KTs _) =>
 call Tryz.prog 14 [.slice p0.a p0.n p0.c] (.many [.l .ptr, .l .slice]) fun (r5 : KTs _) =>
 br (Option.isNone r4.1)
 (ret (.bool false))
 (ld (.g [.slice, .slice, .int .i64, .int .i64, .int .i64, .bool, .int .i64]) (⟨b1, 0, none⟩) fun (x6 : LTs _) =>
 call Tryz.prog 16 [.pointer r4.1, .agg #[.slice x6.1.a x6.1.n x6.1.c, .slice x6.2.1.a x6.2.1.n x6.2.1.c, .int .i64 x6.2.2.1, .int .i64 x6.2.2.2.1, .int .i64 x6.2.2.2.2.1, .bool x6.2.2.2.2.2.1, .int .i64 x6.2.2.2.2.2.2.1]] (.many [.g [.slice, .slice, .slice, .slice], .l (.int .i64)]) fun (r7 : KTs _) =>
 nw 34 (zc Tryz.prog 34) fun b8 =>
 st (⟨b8, 0, none⟩) [.slice r7.1.1.a r7.1.1.n r7.1.1.c, .slice r7.1.2.1.a r7.1.2.1.n r7.1.2.1.c, .slice r7.1.2.2.1.a r7.1.2.2.1.n r7.1.2.2.1.c, .slice r7.1.2.2.2.1.a r7.1.2.2.2.1.n r7.1.2.2.2.1.c] <|
 ld (.l (.int .i64)) (fa (⟨b1, 0, none⟩) 6) fun (x9 : Int) =>
 br (decide ((x9 : Int) < 1))
 (call Tryz.prog 17 [.int .i64 r7.2.1] (.one (.l (.int .i64))) fun (r10 : Int) =>
 br ((r10 : Int) == 1)
 (ld (.l .slice) (fa (⟨b8, 0, none⟩) 3) fun (x11 : Slc) =>
 br (((x11.n : Nat) : Int) == 0)
 (call Tryz.prog 23 [] (.one (.l .bool)) fun (r12 : Bool) =>
 ret (.bool r12))
 (ret (.bool false)))
 (ret (.bool false)))
 (ld (.l (.int .i64)) (fa (⟨b1, 0, none⟩) 6) fun (x10 : Int) =>
 br (decide ((x10 : Int) > 4096))
 (call Tryz.prog 17 [.int .i64 r7.2.1] (.one (.l (.int .i64))) fun (r11 : Int) =>
 br ((r11 : Int) == 1)
 (ld (.l .slice) (fa (⟨b8, 0, none⟩) 3) fun (x12 : Slc) =>
 br (((x12.n : Nat) : Int) == 0)
 (call Tryz.prog 23 [] (.one (.l .bool)) fun (r13 : Bool) =>
 ret (.bool r13))
 (ret (.bool false)))
 (ret (.bool false)))
 (ld (.g [.slice, .slice, .int .i64, .int .i64, .int .i64, .bool, .int .i64]) (⟨b1, 0, none⟩) fun (x11 : LTs _) =>
 call Tryz.prog 16 [.pointer none, .agg #[.slice x11.1.a x11.1.n x11.1.c, .slice x11.2.1.a x11.2.1.n x11.2.1.c, .int .i64 x11.2.2.1, .int .i64 x11.2.2.2.1, .int .i64 x11.2.2.2.2.1, .bool x11.2.2.2.2.2.1, .int .i64 x11.2.2.2.2.2.2.1]] (.many [.g [.slice, .slice, .slice, .slice], .l (.int .i64)]) fun (r12 : KTs _) =>
 nw 34 (zc Tryz.prog 34) fun b13 =>
 st (⟨b13, 0, none⟩) [.slice r12.1.1.a r12.1.1.n r12.1.1.c, .slice r12.1.2.1.a r12.1.2.1.n r12.1.2.1.c, .slice r12.1.2.2.1.a r12.1.2.2.1.n r12.1.2.2.1.c, .slice r12.1.2.2.2.1.a r12.1.2.2.2.1.n r12.1.2.2.2.1.c] <|
 drw <| held fun S14 =>
 call Tryz.prog 17 [.int .i64 r7.2.1] (.one (.l (.int .i64))) fun (r15 : Int) =>
 chk S14 <|
 narrow S14 fun S16 =>
 br ((r15 : Int) == 0)
 (ldS S16 (.g [.slice, .slice, .slice, .slice]) (⟨b8, 0, none⟩) fun (x17 : LTs _) =>
 ldS S16 (.g [.slice, .slice, .int .i64, .int .i64, .int .i64, .bool, .int .i64]) (⟨b1, 0, none⟩) fun (x18 : LTs _) =>
 call Tryz.prog 19 [.pointer r5.1, .agg #[.slice x18.1.a x18.1.n x18.1.c, .slice x18.2.1.a x18.2.1.n x18.2.1.c, .int .i64 x18.2.2.1, .int .i64 x18.2.2.2.1, .int .i64 x18.2.2.2.2.1, .bool x18.2.2.2.2.2.1, .int .i64 x18.2.2.2.2.2.2.1]] (.one (.g [.slice, .slice, .slice, .slice])) fun (r19 : LTs _) =>
 chk S16 <|
 call Tryz.prog 18 [.agg #[.slice x17.1.a x17.1.n x17.1.c, .slice x17.2.1.a x17.2.1.n x17.2.1.c, .slice x17.2.2.1.a x17.2.2.1.n x17.2.2.1.c, .slice x17.2.2.2.1.a x17.2.2.2.1.n x17.2.2.2.1.c], .agg #[.slice r19.1.a r19.1.n r19.1.c, .slice r19.2.1.a r19.2.1.n r19.2.1.c, .slice r19.2.2.1.a r19.2.2.1.n r19.2.2.1.c, .slice r19.2.2.2.1.a r19.2.2.2.1.n r19.2.2.2.1.c]] (.one (.l .bool)) fun (r20 : Bool) =>
 br r20
 (call Tryz.prog 17 [.int .i64 r12.2.1] (.one (.l (.int .i64))) fun (r21 : Int) =>
 br ((r21 : Int) == 2)
 (call Tryz.prog 23 [] (.one (.l .bool)) fun (r22 : Bool) =>
 ret (.bool r22))
 (ret (.bool false)))
 (ret (.bool false)))
 (ret (.bool false)))))))
theorem F.gloaminglaw18.ProcRaw.calls (p0 : Slc) (p1 : LTs [.slice, .slice, .int .i64, .int .i64, .int .i64, .bool, .int .i64]) (h : F.gloaminglaw18.ProcRaw p0 p1 Q w) : Calls Tryz.prog 4 #[.slice p0.a p0.n p0.c, .agg #[.slice p1.1.a p1.1.n p1.1.c, .slice p1.2.1.a p1.2.1.n p1.2.1.c, .int .i64 p1.2.2.1, .int .i64 p1.2.2.2.1, .int .i64 p1.2.2.2.2.1, .bool p1.2.2.2.2.2.1, .int .i64 p1.2.2.2.2.2.2.1]] w (RetQ Q) :=
 Tryz.cd F.gloaminglaw18.ProcRaw.T Tryz.func4 (by kernel_rfl) (es := [.va (.slice p0.a p0.n p0.c), .va (.agg #[.slice p1.1.a p1.1.n p1.1.c, .slice p1.2.1.a p1.2.1.n p1.2.1.c, .int .i64 p1.2.2.1, .int .i64 p1.2.2.2.1, .int .i64 p1.2.2.2.2.1, .bool p1.2.2.2.2.2.1, .int .i64 p1.2.2.2.2.2.2.1])]) rfl (by kernel_rfl) h
end Go.Proofs.YtpefngbfgjfcgaaGreat
