import Derived.Test.YtkljcopnaodfgaaGreatGsT
namespace Go.Proofs.YtkljcopnaodfgaaGreat
open Go Go.Gl
set_option maxRecDepth 100000
set_option linter.unusedVariables false
variable {Q : Value → World → Prop} {w : World}
def F.gloaminglaw21.RtRoots.T : Tabs := ⟨fun _ => [],
 (fun
 | 12 => some [(2, .int .i64)]
 | 13 => some [(11, .bool)]
 | _ => none),
 fun _ => .quiet⟩
def F.gloaminglaw21.RtRoots (p0 : Int) (p1 : Int) (p2 : Int) : Tree :=
 call Tryz.prog 14 [] (.one (.l .ptr)) fun (r1 : Option Addr) =>
 br (Option.isNone r1)
 (ret (.bool false))
 (need ((16 : Int) ≠ 0) <|
 call Tryz.prog 15 [.pointer r1, .int .i64 4, .int .i64 3, .int .i64 0, .int .i64 0] (.one (.g [.int .i64, .int .i64])) fun (r2 : LTs _) =>
 nw 26 (zc Tryz.prog 26) fun b3 =>
 st (⟨b3, 0, none⟩) [.int .i64 r2.1, .int .i64 r2.2.1] <|
 ld (.l (.int .i64)) (fa (⟨b3, 0, none⟩) 1) fun (x4 : Int) =>
 call Tryz.prog 15 [.pointer r1, .int .i64 7, .int .i64 x4, .int .i64 2, .int .i64 p1] (.one (.g [.int .i64, .int .i64])) fun (r5 : LTs _) =>
 ld (.l (.int .i64)) (fa (⟨b3, 0, none⟩) 1) fun (x6 : Int) =>
 call Tryz.prog 15 [.pointer r1, .int .i64 9, .int .i64 (Int.tmod (IntKind.wrap .i64 p0) 16), .int .i64 x6, .int .i64 0] (.one (.g [.int .i64, .int .i64])) fun (r7 : LTs _) =>
 call Tryz.prog 16 [.agg #[.int .i64 r7.1, .int .i64 r7.2.1], .int .i64 0] (.one (.l .bool)) fun (r8 : Bool) =>
 br (!r8)
 (ret (.bool false))
 (ld (.l (.int .i64)) (fa (⟨b3, 0, none⟩) 1) fun (x9 : Int) =>
 call Tryz.prog 15 [.pointer r1, .int .i64 8, .int .i64 x9, .int .i64 0, .int .i64 0] (.one (.g [.int .i64, .int .i64])) fun (r10 : LTs _) =>
 call Tryz.prog 16 [.agg #[.int .i64 r10.1, .int .i64 r10.2.1], .int .i64 0] (.one (.l .bool)) fun (r11 : Bool) =>
 br (!r11)
 (ret (.bool false))
 (call Tryz.prog 15 [.pointer r1, .int .i64 19, .int .i64 0, .int .i64 0, .int .i64 0] (.one (.g [.int .i64, .int .i64])) fun (r12 : LTs _) =>
 call Tryz.prog 16 [.agg #[.int .i64 r12.1, .int .i64 r12.2.1], .int .i64 0] (.one (.l .bool)) fun (r13 : Bool) =>
 br (!r13)
 (ret (.bool false))
 (call Tryz.prog 15 [.pointer r1, .int .i64 10, .int .i64 (Int.tmod (IntKind.wrap .i64 p0) 16), .int .i64 0, .int .i64 0] (.one (.g [.int .i64, .int .i64])) fun (r14 : LTs _) =>
 nw 26 (zc Tryz.prog 26) fun b15 =>
 st (⟨b15, 0, none⟩) [.int .i64 r14.1, .int .i64 r14.2.1] <|
 jn (fun (j17 : LTs [.int .i64]) =>
 jn (fun (j19 : LTs [.bool]) =>
 br j19.1
 (call Tryz.prog 15 [.pointer r1, .int .i64 9, .int .i64 (Int.tmod (IntKind.wrap .i64 p0) 16), .int .i64 0, .int .i64 0] (.one (.g [.int .i64, .int .i64])) fun (r20 : LTs _) =>
 call Tryz.prog 16 [.agg #[.int .i64 r20.1, .int .i64 r20.2.1], .int .i64 0] (.one (.l .bool)) fun (r21 : Bool) =>
 br r21
 (ld (.l (.int .i64)) (fa (⟨b15, 0, none⟩) 1) fun (x22 : Int) =>
 call Tryz.prog 15 [.pointer r1, .int .i64 8, .int .i64 x22, .int .i64 0, .int .i64 0] (.one (.g [.int .i64, .int .i64])) fun (r23 : LTs _) =>
 call Tryz.prog 16 [.agg #[.int .i64 r23.1, .int .i64 r23.2.1], .int .i64 0] (.one (.l .bool)) fun (r24 : Bool) =>
 br r24
 (call Tryz.prog 15 [.pointer r1, .int .i64 10, .int .i64 (Int.tmod (IntKind.wrap .i64 p0) 16), .int .i64 0, .int .i64 0] (.one (.g [.int .i64, .int .i64])) fun (r25 : LTs _) =>
 call Tryz.prog 16 [.agg #[.int .i64 r25.1, .int .i64 r25.2.1], .int .i64 0] (.one (.l .bool)) fun (r26 : Bool) =>
 br r26
 (call Tryz.prog 15 [.pointer r1, .int .i64 19, .int .i64 1, .int .i64 0, .int .i64 0] (.one (.g [.int .i64, .int .i64])) fun (r27 : LTs _) =>
 call Tryz.prog 16 [.agg #[.int .i64 r27.1, .int .i64 r27.2.1], .int .i64 1] (.one (.l .bool)) fun (r28 : Bool) =>
 br r28
 (call Tryz.prog 15 [.pointer r1, .int .i64 21, .int .i64 3, .int .i64 0, .int .i64 0] (.one (.g [.int .i64, .int .i64])) fun (r29 : LTs _) =>
 call Tryz.prog 16 [.agg #[.int .i64 r29.1, .int .i64 r29.2.1], .int .i64 0] (.one (.l .bool)) fun (r30 : Bool) =>
 br r30
 (call Tryz.prog 15 [.pointer r1, .int .i64 21, .int .i64 4, .int .i64 0, .int .i64 0] (.one (.g [.int .i64, .int .i64])) fun (r31 : LTs _) =>
 call Tryz.prog 16 [.agg #[.int .i64 r31.1, .int .i64 r31.2.1], .int .i64 2] (.one (.l .bool)) fun (r32 : Bool) =>
 br r32
 (call Tryz.prog 15 [.pointer r1, .int .i64 21, .int .i64 0, .int .i64 0, .int .i64 0] (.one (.g [.int .i64, .int .i64])) fun (r33 : LTs _) =>
 call Tryz.prog 16 [.agg #[.int .i64 r33.1, .int .i64 r33.2.1], .int .i64 0] (.one (.l .bool)) fun (r34 : Bool) =>
 br r34
 (call Tryz.prog 18 [] (.one (.l .bool)) fun (r35 : Bool) =>
 ret (.bool r35))
 (ret (.bool false)))
 (ret (.bool false)))
 (ret (.bool false)))
 (ret (.bool false)))
 (ret (.bool false)))
 (ret (.bool false)))
 (ret (.bool false)))
 (ret (.bool false))) fun J18 =>
 ld (.l (.int .i64)) (fa (⟨b15, 0, none⟩) 1) fun (x20 : Int) =>
 call Tryz.prog 15 [.pointer r1, .int .i64 5, .int .i64 x20, .int .i64 2, .int .i64 0] (.one (.g [.int .i64, .int .i64])) fun (r21 : LTs _) =>
 call Tryz.prog 16 [.agg #[.int .i64 r21.1, .int .i64 r21.2.1], .int .i64 p1] (.one (.l .bool)) fun (r22 : Bool) =>
 br r22
 (ld (.l (.int .i64)) (fa (⟨b15, 0, none⟩) 1) fun (x23 : Int) =>
 call Tryz.prog 15 [.pointer r1, .int .i64 9, .int .i64 j17.1, .int .i64 x23, .int .i64 0] (.one (.g [.int .i64, .int .i64])) fun (r24 : LTs _) =>
 call Tryz.prog 17 [.agg #[.int .i64 r24.1, .int .i64 r24.2.1], .int .i64 1] (.one (.l .bool)) fun (r25 : Bool) =>
 br r25
 (call Tryz.prog 15 [.pointer r1, .int .i64 10, .int .i64 j17.1, .int .i64 0, .int .i64 0] (.one (.g [.int .i64, .int .i64])) fun (r26 : LTs _) =>
 call Tryz.prog 17 [.agg #[.int .i64 r26.1, .int .i64 r26.2.1], .int .i64 1] (.one (.l .bool)) fun (r27 : Bool) =>
 J18 (r27, ()))
 (J18 (false, ())))
 (J18 (false, ()))) fun J16 =>
 br (decide ((p2 : Int) ≥ 0))
 (br (decide ((p2 : Int) < 16))
 (J16 (16, ()))
 (J16 (p2, ())))
 (J16 (p2, ()))))))
theorem F.gloaminglaw21.RtRoots.calls (p0 : Int) (p1 : Int) (p2 : Int) (h : F.gloaminglaw21.RtRoots p0 p1 p2 Q w) : Calls Tryz.prog 5 #[.int .u8 p0, .int .i64 p1, .int .i64 p2] w (RetQ Q) :=
 Tryz.cd F.gloaminglaw21.RtRoots.T Tryz.func5 (by kernel_rfl) (es := [.va (.int .u8 p0), .va (.int .i64 p1), .va (.int .i64 p2)]) rfl (by kernel_rfl) h
end Go.Proofs.YtkljcopnaodfgaaGreat
