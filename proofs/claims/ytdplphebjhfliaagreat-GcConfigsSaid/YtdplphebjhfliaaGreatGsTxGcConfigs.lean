import Derived.Test.YtdplphebjhfliaaGreatGsT
namespace Go.Proofs.YtdplphebjhfliaaGreat
open Go Go.Gl
set_option maxRecDepth 100000
set_option linter.unusedVariables false
variable {Q : Value → World → Prop} {w : World}
def F.gloaminglaw20.GcConfigs (p0 : LTs [.int .i64, .int .i64, .int .i64]) : Tree :=
 nw 23 [.int .i64 p0.1, .int .i64 p0.2.1, .int .i64 p0.2.2.1] fun b1 =>
 ld (.g [.int .i64, .int .i64, .int .i64]) (⟨b1, 0, none⟩) fun (x2 : LTs _) =>
 call Tryz.prog 12 [.agg #[.int .i64 x2.1, .int .i64 x2.2.1, .int .i64 x2.2.2.1]] (.many [.l .ptr, .l (.int .i64)]) fun (r3 : KTs _) =>
 ld (.g [.int .i64, .int .i64, .int .i64]) (⟨b1, 0, none⟩) fun (x4 : LTs _) =>
 call Tryz.prog 13 [.agg #[.int .i64 x4.1, .int .i64 x4.2.1, .int .i64 x4.2.2.1]] (.one (.l .bool)) fun (r5 : Bool) =>
 br (!r5)
 (br (Option.isNone r3.1)
 (call Tryz.prog 14 [.int .i64 r3.2.1] (.one (.l (.int .i64))) fun (r6 : Int) =>
 br ((r6 : Int) == 1)
 (call Tryz.prog 15 [] (.one (.l .bool)) fun (r7 : Bool) =>
 ret (.bool r7))
 (ret (.bool false)))
 (ret (.bool false)))
 (call Tryz.prog 16 [.pointer r3.1] (.one (.l .bool)) fun (r6 : Bool) =>
 br (!r6)
 (ret (.bool false))
 (call Tryz.prog 14 [.int .i64 r3.2.1] (.one (.l (.int .i64))) fun (r7 : Int) =>
 br ((r7 : Int) != 0)
 (ret (.bool false))
 (call Tryz.prog 17 [.pointer r3.1] (.one (.g [.slice, .slice, .slice, .slice, .slice, .slice, .int .i64, .int .i64, .int .i64, .int .i64])) fun (r8 : LTs _) =>
 nw 37 (zc Tryz.prog 37) fun b9 =>
 st (⟨b9, 0, none⟩) [.slice r8.1.a r8.1.n r8.1.c, .slice r8.2.1.a r8.2.1.n r8.2.1.c, .slice r8.2.2.1.a r8.2.2.1.n r8.2.2.1.c, .slice r8.2.2.2.1.a r8.2.2.2.1.n r8.2.2.2.1.c, .slice r8.2.2.2.2.1.a r8.2.2.2.2.1.n r8.2.2.2.2.1.c, .slice r8.2.2.2.2.2.1.a r8.2.2.2.2.2.1.n r8.2.2.2.2.2.1.c, .int .i64 r8.2.2.2.2.2.2.1, .int .i64 r8.2.2.2.2.2.2.2.1, .int .i64 r8.2.2.2.2.2.2.2.2.1, .int .i64 r8.2.2.2.2.2.2.2.2.2.1] <|
 call Tryz.prog 18 [.pointer r3.1, .bool true] (.one (.g [.slice, .slice, .int .i64, .int .i64, .int .i64, .bool, .int .i64])) fun (r10 : LTs _) =>
 nw 40 (zc Tryz.prog 40) fun b11 =>
 st (⟨b11, 0, none⟩) [.slice r10.1.a r10.1.n r10.1.c, .slice r10.2.1.a r10.2.1.n r10.2.1.c, .int .i64 r10.2.2.1, .int .i64 r10.2.2.2.1, .int .i64 r10.2.2.2.2.1, .bool r10.2.2.2.2.2.1, .int .i64 r10.2.2.2.2.2.2.1] <|
 call Tryz.prog 19 [.pointer none, .bool false] (.many [.g [.slice, .slice, .slice, .slice], .l (.int .i64)]) fun (r12 : KTs _) =>
 nw 43 (zc Tryz.prog 43) fun b13 =>
 st (⟨b13, 0, none⟩) [.slice r12.1.1.a r12.1.1.n r12.1.1.c, .slice r12.1.2.1.a r12.1.2.1.n r12.1.2.1.c, .slice r12.1.2.2.1.a r12.1.2.2.1.n r12.1.2.2.1.c, .slice r12.1.2.2.2.1.a r12.1.2.2.2.1.n r12.1.2.2.2.1.c] <|
 call Tryz.prog 20 [.pointer none, .int .i64 5] (.many []) fun (r14 : KTs _) =>
 ld (.l .slice) (fa (⟨b9, 0, none⟩) 0) fun (x15 : Slc) =>
 ld (.l .slice) (fa (⟨b9, 0, none⟩) 1) fun (x16 : Slc) =>
 ld (.l .slice) (fa (⟨b9, 0, none⟩) 3) fun (x17 : Slc) =>
 ld (.l .slice) (fa (⟨b9, 0, none⟩) 4) fun (x18 : Slc) =>
 ld (.l .slice) (fa (⟨b9, 0, none⟩) 5) fun (x19 : Slc) =>
 br ((IntKind.wrap .i64 ((IntKind.wrap .i64 ((IntKind.wrap .i64 ((IntKind.wrap .i64 ((x15.n : Nat) + (x16.n : Nat))) + (x17.n : Nat))) + (x18.n : Nat))) + (x19.n : Nat)) : Int) == 0)
 (ld (.l (.int .i64)) (fa (⟨b9, 0, none⟩) 8) fun (x20 : Int) =>
 ld (.l (.int .i64)) (fa (⟨b9, 0, none⟩) 6) fun (x21 : Int) =>
 ld (.l (.int .i64)) (fa (⟨b9, 0, none⟩) 7) fun (x22 : Int) =>
 ld (.l (.int .i64)) (fa (⟨b9, 0, none⟩) 9) fun (x23 : Int) =>
 br ((IntKind.wrap .i64 ((IntKind.wrap .i64 ((IntKind.wrap .i64 (x20 + x21)) + x22)) + x23) : Int) == 0)
 (ld (.l (.int .i64)) (fa (⟨b11, 0, none⟩) 3) fun (x24 : Int) =>
 ld (.l (.int .i64)) (fa (⟨b1, 0, none⟩) 0) fun (x25 : Int) =>
 br ((x24 : Int) == (IntKind.wrap .i64 ((IntKind.wrap .i64 (x25 - 1)) * 64)))
 (ld (.l (.int .i64)) (fa (⟨b11, 0, none⟩) 4) fun (x26 : Int) =>
 ld (.l (.int .i64)) (fa (⟨b1, 0, none⟩) 1) fun (x27 : Int) =>
 br ((x26 : Int) == x27)
 (ld (.l (.int .i64)) (fa (⟨b11, 0, none⟩) 6) fun (x28 : Int) =>
 ld (.l (.int .i64)) (fa (⟨b1, 0, none⟩) 2) fun (x29 : Int) =>
 br ((x28 : Int) == x29)
 (ld (.l .bool) (fa (⟨b11, 0, none⟩) 5) fun (x30 : Bool) =>
 br x30
 (ld (.l .slice) (fa (⟨b11, 0, none⟩) 0) fun (x31 : Slc) =>
 br (((x31.n : Nat) : Int) == 0)
 (call Tryz.prog 14 [.int .i64 r12.2.1] (.one (.l (.int .i64))) fun (r32 : Int) =>
 br ((r32 : Int) == 2)
 (call Tryz.prog 21 [.pointer none] (.one (.l (.int .i64))) fun (r33 : Int) =>
 call Tryz.prog 22 [.pointer none] (.one (.l (.int .i64))) fun (r34 : Int) =>
 br ((IntKind.wrap .i64 (r33 + r34) : Int) == 0)
 (call Tryz.prog 17 [.pointer none] (.one (.g [.slice, .slice, .slice, .slice, .slice, .slice, .int .i64, .int .i64, .int .i64, .int .i64])) fun (r35 : LTs _) =>
 br (((r35.2.2.1.n : Nat) : Int) == 0)
 (call Tryz.prog 15 [] (.one (.l .bool)) fun (r36 : Bool) =>
 ret (.bool r36))
 (ret (.bool false)))
 (ret (.bool false)))
 (ret (.bool false)))
 (ret (.bool false)))
 (ret (.bool false)))
 (ret (.bool false)))
 (ret (.bool false)))
 (ret (.bool false)))
 (ret (.bool false)))
 (ret (.bool false)))))
theorem F.gloaminglaw20.GcConfigs.calls (p0 : LTs [.int .i64, .int .i64, .int .i64]) (h : F.gloaminglaw20.GcConfigs p0 Q w) : Calls Tryz.prog 3 #[.agg #[.int .i64 p0.1, .int .i64 p0.2.1, .int .i64 p0.2.2.1]] w (RetQ Q) :=
 Tryz.cd Tabs.z Tryz.func3 (by kernel_rfl) (es := [.va (.agg #[.int .i64 p0.1, .int .i64 p0.2.1, .int .i64 p0.2.2.1])]) rfl (by kernel_rfl) h
end Go.Proofs.YtdplphebjhfliaaGreat
