import Derived.Test.YtkljcopnaodfgaaGreatGsT
namespace Go.Proofs.YtkljcopnaodfgaaGreat
open Go Go.Gl
set_option maxRecDepth 100000
set_option linter.unusedVariables false
variable {Q : Value → World → Prop} {w : World}
def F.gloaminglaw21.RtFinals.T : Tabs := ⟨fun _ => [],
 (fun
 | 18 => some [(12, .int .i64)]
 | _ => none),
 fun _ => .quiet⟩
def F.gloaminglaw21.RtFinals (p0 : Int) (p1 : Int) (p2 : Int) : Tree :=
 call Tryz.prog 14 [] (.one (.l .ptr)) fun (r1 : Option Addr) =>
 br (Option.isNone r1)
 (ret (.bool false))
 (need ((3 : Int) ≠ 0) <|
 need ((16 : Int) ≠ 0) <|
 call Tryz.prog 15 [.pointer r1, .int .i64 4, .int .i64 2, .int .i64 0, .int .i64 0] (.one (.g [.int .i64, .int .i64])) fun (r2 : LTs _) =>
 nw 26 (zc Tryz.prog 26) fun b3 =>
 st (⟨b3, 0, none⟩) [.int .i64 r2.1, .int .i64 r2.2.1] <|
 ld (.l (.int .i64)) (fa (⟨b3, 0, none⟩) 1) fun (x4 : Int) =>
 call Tryz.prog 15 [.pointer r1, .int .i64 7, .int .i64 x4, .int .i64 0, .int .i64 p2] (.one (.g [.int .i64, .int .i64])) fun (r5 : LTs _) =>
 ld (.l (.int .i64)) (fa (⟨b3, 0, none⟩) 1) fun (x6 : Int) =>
 call Tryz.prog 15 [.pointer r1, .int .i64 17, .int .i64 x6, .int .i64 0, .int .i64 0] (.one (.g [.int .i64, .int .i64])) fun (r7 : LTs _) =>
 call Tryz.prog 16 [.agg #[.int .i64 r7.1, .int .i64 r7.2.1], .int .i64 0] (.one (.l .bool)) fun (r8 : Bool) =>
 br (!r8)
 (ret (.bool false))
 (ld (.l (.int .i64)) (fa (⟨b3, 0, none⟩) 1) fun (x9 : Int) =>
 call Tryz.prog 15 [.pointer r1, .int .i64 17, .int .i64 x9, .int .i64 0, .int .i64 0] (.one (.g [.int .i64, .int .i64])) fun (r10 : LTs _) =>
 call Tryz.prog 17 [.agg #[.int .i64 r10.1, .int .i64 r10.2.1], .int .i64 4] (.one (.l .bool)) fun (r11 : Bool) =>
 br (!r11)
 (ret (.bool false))
 (call Tryz.prog 15 [.pointer r1, .int .i64 19, .int .i64 0, .int .i64 0, .int .i64 0] (.one (.g [.int .i64, .int .i64])) fun (r12 : LTs _) =>
 call Tryz.prog 16 [.agg #[.int .i64 r12.1, .int .i64 r12.2.1], .int .i64 0] (.one (.l .bool)) fun (r13 : Bool) =>
 br (!r13)
 (ret (.bool false))
 (call Tryz.prog 15 [.pointer r1, .int .i64 21, .int .i64 2, .int .i64 0, .int .i64 0] (.one (.g [.int .i64, .int .i64])) fun (r14 : LTs _) =>
 call Tryz.prog 16 [.agg #[.int .i64 r14.1, .int .i64 r14.2.1], .int .i64 0] (.one (.l .bool)) fun (r15 : Bool) =>
 br (!r15)
 (ret (.bool false))
 (ld (.l (.int .i64)) (fa (⟨b3, 0, none⟩) 1) fun (x16 : Int) =>
 call Tryz.prog 15 [.pointer r1, .int .i64 8, .int .i64 x16, .int .i64 0, .int .i64 0] (.one (.g [.int .i64, .int .i64])) fun (r17 : LTs _) =>
 call Tryz.prog 15 [.pointer r1, .int .i64 19, .int .i64 1, .int .i64 0, .int .i64 0] (.one (.g [.int .i64, .int .i64])) fun (r18 : LTs _) =>
 call Tryz.prog 16 [.agg #[.int .i64 r18.1, .int .i64 r18.2.1], .int .i64 0] (.one (.l .bool)) fun (r19 : Bool) =>
 br (!r19)
 (ret (.bool false))
 (call Tryz.prog 15 [.pointer r1, .int .i64 21, .int .i64 2, .int .i64 0, .int .i64 0] (.one (.g [.int .i64, .int .i64])) fun (r20 : LTs _) =>
 call Tryz.prog 16 [.agg #[.int .i64 r20.1, .int .i64 r20.2.1], .int .i64 1] (.one (.l .bool)) fun (r21 : Bool) =>
 br (!r21)
 (ret (.bool false))
 (call Tryz.prog 15 [.pointer r1, .int .i64 18, .int .i64 1, .int .i64 0, .int .i64 0] (.one (.g [.int .i64, .int .i64])) fun (r22 : LTs _) =>
 call Tryz.prog 17 [.agg #[.int .i64 r22.1, .int .i64 r22.2.1], .int .i64 1] (.one (.l .bool)) fun (r23 : Bool) =>
 br (!r23)
 (ret (.bool false))
 (call Tryz.prog 15 [.pointer r1, .int .i64 18, .int .i64 0, .int .i64 3, .int .i64 0] (.one (.g [.int .i64, .int .i64])) fun (r24 : LTs _) =>
 call Tryz.prog 17 [.agg #[.int .i64 r24.1, .int .i64 r24.2.1], .int .i64 1] (.one (.l .bool)) fun (r25 : Bool) =>
 br (!r25)
 (ret (.bool false))
 (call Tryz.prog 15 [.pointer r1, .int .i64 18, .int .i64 0, .int .i64 1, .int .i64 16] (.one (.g [.int .i64, .int .i64])) fun (r26 : LTs _) =>
 call Tryz.prog 17 [.agg #[.int .i64 r26.1, .int .i64 r26.2.1], .int .i64 1] (.one (.l .bool)) fun (r27 : Bool) =>
 br (!r27)
 (ret (.bool false))
 (call Tryz.prog 15 [.pointer r1, .int .i64 18, .int .i64 0, .int .i64 (Int.tmod (IntKind.wrap .i64 p0) 3), .int .i64 (Int.tmod (IntKind.wrap .i64 p1) 16)] (.one (.g [.int .i64, .int .i64])) fun (r28 : LTs _) =>
 nw 26 (zc Tryz.prog 26) fun b29 =>
 st (⟨b29, 0, none⟩) [.int .i64 r28.1, .int .i64 r28.2.1] <|
 ld (.l (.int .i64)) (fa (⟨b29, 0, none⟩) 0) fun (x30 : Int) =>
 call Tryz.prog 19 [.int .i64 x30] (.one (.l (.int .i64))) fun (r31 : Int) =>
 br ((r31 : Int) != 0)
 (ret (.bool false))
 (ld (.l (.int .i64)) (fa (⟨b29, 0, none⟩) 1) fun (x32 : Int) =>
 br (!(((x32 : Int) != 0) == ((Int.tmod (IntKind.wrap .i64 p0) 3 : Int) == 2)))
 (ret (.bool false))
 (call Tryz.prog 15 [.pointer r1, .int .i64 18, .int .i64 0, .int .i64 0, .int .i64 0] (.one (.g [.int .i64, .int .i64])) fun (r33 : LTs _) =>
 call Tryz.prog 17 [.agg #[.int .i64 r33.1, .int .i64 r33.2.1], .int .i64 1] (.one (.l .bool)) fun (r34 : Bool) =>
 br (!r34)
 (ret (.bool false))
 (jn (fun (j36 : LTs [.int .i64]) =>
 call Tryz.prog 15 [.pointer r1, .int .i64 19, .int .i64 0, .int .i64 0, .int .i64 0] (.one (.g [.int .i64, .int .i64])) fun (r37 : LTs _) =>
 call Tryz.prog 16 [.agg #[.int .i64 r37.1, .int .i64 r37.2.1], .int .i64 j36.1] (.one (.l .bool)) fun (r38 : Bool) =>
 br (!r38)
 (ret (.bool false))
 (call Tryz.prog 15 [.pointer r1, .int .i64 21, .int .i64 2, .int .i64 0, .int .i64 0] (.one (.g [.int .i64, .int .i64])) fun (r39 : LTs _) =>
 call Tryz.prog 16 [.agg #[.int .i64 r39.1, .int .i64 r39.2.1], .int .i64 0] (.one (.l .bool)) fun (r40 : Bool) =>
 br (!r40)
 (ret (.bool false))
 (ld (.g [.int .i64, .int .i64]) (⟨b29, 0, none⟩) fun (x41 : LTs _) =>
 nw 26 (zc Tryz.prog 26) fun b42 =>
 st (⟨b42, 0, none⟩) [.int .i64 x41.1, .int .i64 x41.2.1] <|
 br ((Int.tmod (IntKind.wrap .i64 p0) 3 : Int) == 1)
 (call Tryz.prog 15 [.pointer r1, .int .i64 10, .int .i64 (Int.tmod (IntKind.wrap .i64 p1) 16), .int .i64 0, .int .i64 0] (.one (.g [.int .i64, .int .i64])) fun (r43 : LTs _) =>
 st (⟨b42, 0, none⟩) [.int .i64 r43.1, .int .i64 r43.2.1] <|
 br ((Int.tmod (IntKind.wrap .i64 p0) 3 : Int) == 0)
 (call Tryz.prog 18 [] (.one (.l .bool)) fun (r44 : Bool) =>
 ret (.bool r44))
 (ld (.l (.int .i64)) (fa (⟨b42, 0, none⟩) 1) fun (x44 : Int) =>
 call Tryz.prog 15 [.pointer r1, .int .i64 5, .int .i64 x44, .int .i64 0, .int .i64 0] (.one (.g [.int .i64, .int .i64])) fun (r45 : LTs _) =>
 call Tryz.prog 16 [.agg #[.int .i64 r45.1, .int .i64 r45.2.1], .int .i64 p2] (.one (.l .bool)) fun (r46 : Bool) =>
 br r46
 (ld (.l (.int .i64)) (fa (⟨b42, 0, none⟩) 1) fun (x47 : Int) =>
 call Tryz.prog 15 [.pointer r1, .int .i64 17, .int .i64 x47, .int .i64 0, .int .i64 0] (.one (.g [.int .i64, .int .i64])) fun (r48 : LTs _) =>
 call Tryz.prog 17 [.agg #[.int .i64 r48.1, .int .i64 r48.2.1], .int .i64 4] (.one (.l .bool)) fun (r49 : Bool) =>
 br r49
 (call Tryz.prog 18 [] (.one (.l .bool)) fun (r50 : Bool) =>
 ret (.bool r50))
 (ret (.bool false)))
 (ret (.bool false))))
 (br ((Int.tmod (IntKind.wrap .i64 p0) 3 : Int) == 0)
 (call Tryz.prog 18 [] (.one (.l .bool)) fun (r43 : Bool) =>
 ret (.bool r43))
 (ld (.l (.int .i64)) (fa (⟨b42, 0, none⟩) 1) fun (x43 : Int) =>
 call Tryz.prog 15 [.pointer r1, .int .i64 5, .int .i64 x43, .int .i64 0, .int .i64 0] (.one (.g [.int .i64, .int .i64])) fun (r44 : LTs _) =>
 call Tryz.prog 16 [.agg #[.int .i64 r44.1, .int .i64 r44.2.1], .int .i64 p2] (.one (.l .bool)) fun (r45 : Bool) =>
 br r45
 (ld (.l (.int .i64)) (fa (⟨b42, 0, none⟩) 1) fun (x46 : Int) =>
 call Tryz.prog 15 [.pointer r1, .int .i64 17, .int .i64 x46, .int .i64 0, .int .i64 0] (.one (.g [.int .i64, .int .i64])) fun (r47 : LTs _) =>
 call Tryz.prog 17 [.agg #[.int .i64 r47.1, .int .i64 r47.2.1], .int .i64 4] (.one (.l .bool)) fun (r48 : Bool) =>
 br r48
 (call Tryz.prog 18 [] (.one (.l .bool)) fun (r49 : Bool) =>
 ret (.bool r49))
 (ret (.bool false)))
 (ret (.bool false))))))) fun J35 =>
 br (decide ((Int.tmod (IntKind.wrap .i64 p0) 3 : Int) > 0))
 (J35 (0, ()))
 (J35 (1, ())))))))))))))))
theorem F.gloaminglaw21.RtFinals.calls (p0 : Int) (p1 : Int) (p2 : Int) (h : F.gloaminglaw21.RtFinals p0 p1 p2 Q w) : Calls Tryz.prog 7 #[.int .u8 p0, .int .u8 p1, .int .i64 p2] w (RetQ Q) :=
 Tryz.cd F.gloaminglaw21.RtFinals.T Tryz.func7 (by kernel_rfl) (es := [.va (.int .u8 p0), .va (.int .u8 p1), .va (.int .i64 p2)]) rfl (by kernel_rfl) h
end Go.Proofs.YtkljcopnaodfgaaGreat
