import Derived.Test.YtkljcopnaodfgaaGreatGsT
namespace Go.Proofs.YtkljcopnaodfgaaGreat
open Go Go.Gl
set_option maxRecDepth 100000
set_option linter.unusedVariables false
variable {Q : Value → World → Prop} {w : World}
def F.gloaminglaw21.RtStale.T : Tabs := ⟨(fun
 | 10 => [(8, .int .i64)]
 | _ => []),
 fun _ => none,
 fun _ => .quiet⟩
def F.gloaminglaw21.RtStale (p0 : Int) : Tree :=
 call Tryz.prog 14 [] (.one (.l .ptr)) fun (r1 : Option Addr) =>
 br (Option.isNone r1)
 (ret (.bool false))
 (call Tryz.prog 15 [.pointer r1, .int .i64 3, .int .i64 3, .int .i64 0, .int .i64 0] (.one (.g [.int .i64, .int .i64])) fun (r2 : LTs _) =>
 call Tryz.prog 15 [.pointer r1, .int .i64 3, .int .i64 3, .int .i64 0, .int .i64 0] (.one (.g [.int .i64, .int .i64])) fun (r3 : LTs _) =>
 nw 26 (zc Tryz.prog 26) fun b4 =>
 nw 26 (zc Tryz.prog 26) fun b5 =>
 st (⟨b4, 0, none⟩) [.int .i64 r2.1, .int .i64 r2.2.1] <|
 st (⟨b5, 0, none⟩) [.int .i64 r3.1, .int .i64 r3.2.1] <|
 ld (.l (.int .i64)) (fa (⟨b5, 0, none⟩) 1) fun (x6 : Int) =>
 call Tryz.prog 15 [.pointer r1, .int .i64 11, .int .i64 2, .int .i64 x6, .int .i64 (-1)] (.one (.g [.int .i64, .int .i64])) fun (r7 : LTs _) =>
 nw 26 (zc Tryz.prog 26) fun b8 =>
 st (⟨b8, 0, none⟩) [.int .i64 r7.1, .int .i64 r7.2.1] <|
 ld (.l (.int .i64)) (fa (⟨b4, 0, none⟩) 1) fun (x9 : Int) =>
 call Tryz.prog 15 [.pointer r1, .int .i64 8, .int .i64 x9, .int .i64 0, .int .i64 0] (.one (.g [.int .i64, .int .i64])) fun (r10 : LTs _) =>
 call Tryz.prog 16 [.agg #[.int .i64 r10.1, .int .i64 r10.2.1], .int .i64 0] (.one (.l .bool)) fun (r11 : Bool) =>
 br (!r11)
 (ret (.bool false))
 (ld (.l (.int .i64)) (fa (⟨b4, 0, none⟩) 1) fun (x12 : Int) =>
 nw 3 [.int .i64 x12, .int .i64 p0] fun b13 =>
 lp [.int .i64] (fun X14 u15 =>
 br (decide ((u15.1 : Int) < 2))
 (ix (some ⟨b13, 0, none⟩) 2 u15.1 1 fun a16 =>
 ld (.l (.int .i64)) a16 fun (x17 : Int) =>
 ld (.l (.int .i64)) (fa (⟨b5, 0, none⟩) 1) fun (x18 : Int) =>
 br ((x17 : Int) == x18)
 (X14 (IntKind.wrap .i64 (u15.1 + 1), ()))
 (ld (.l (.int .i64)) (fa (⟨b8, 0, none⟩) 1) fun (x19 : Int) =>
 br ((x17 : Int) == x19)
 (X14 (IntKind.wrap .i64 (u15.1 + 1), ()))
 (call Tryz.prog 15 [.pointer r1, .int .i64 5, .int .i64 x17, .int .i64 0, .int .i64 0] (.one (.g [.int .i64, .int .i64])) fun (r20 : LTs _) =>
 call Tryz.prog 17 [.agg #[.int .i64 r20.1, .int .i64 r20.2.1], .int .i64 6] (.one (.l .bool)) fun (r21 : Bool) =>
 br (!r21)
 (ret (.bool false))
 (ld (.l (.int .i64)) (fa (⟨b5, 0, none⟩) 1) fun (x22 : Int) =>
 call Tryz.prog 15 [.pointer r1, .int .i64 6, .int .i64 x17, .int .i64 0, .int .i64 x22] (.one (.g [.int .i64, .int .i64])) fun (r23 : LTs _) =>
 call Tryz.prog 17 [.agg #[.int .i64 r23.1, .int .i64 r23.2.1], .int .i64 6] (.one (.l .bool)) fun (r24 : Bool) =>
 br (!r24)
 (ret (.bool false))
 (br ((x17 : Int) != 0)
 (ld (.l (.int .i64)) (fa (⟨b5, 0, none⟩) 1) fun (x25 : Int) =>
 call Tryz.prog 15 [.pointer r1, .int .i64 6, .int .i64 x25, .int .i64 0, .int .i64 x17] (.one (.g [.int .i64, .int .i64])) fun (r26 : LTs _) =>
 call Tryz.prog 17 [.agg #[.int .i64 r26.1, .int .i64 r26.2.1], .int .i64 6] (.one (.l .bool)) fun (r27 : Bool) =>
 br (!r27)
 (ret (.bool false))
 (call Tryz.prog 15 [.pointer r1, .int .i64 7, .int .i64 x17, .int .i64 0, .int .i64 1] (.one (.g [.int .i64, .int .i64])) fun (r28 : LTs _) =>
 call Tryz.prog 17 [.agg #[.int .i64 r28.1, .int .i64 r28.2.1], .int .i64 6] (.one (.l .bool)) fun (r29 : Bool) =>
 br (!r29)
 (ret (.bool false))
 (call Tryz.prog 15 [.pointer r1, .int .i64 8, .int .i64 x17, .int .i64 0, .int .i64 0] (.one (.g [.int .i64, .int .i64])) fun (r30 : LTs _) =>
 call Tryz.prog 17 [.agg #[.int .i64 r30.1, .int .i64 r30.2.1], .int .i64 6] (.one (.l .bool)) fun (r31 : Bool) =>
 br (!r31)
 (ret (.bool false))
 (br ((x17 : Int) != 0)
 (call Tryz.prog 15 [.pointer r1, .int .i64 9, .int .i64 0, .int .i64 x17, .int .i64 0] (.one (.g [.int .i64, .int .i64])) fun (r32 : LTs _) =>
 call Tryz.prog 17 [.agg #[.int .i64 r32.1, .int .i64 r32.2.1], .int .i64 6] (.one (.l .bool)) fun (r33 : Bool) =>
 br (!r33)
 (ret (.bool false))
 (call Tryz.prog 15 [.pointer r1, .int .i64 11, .int .i64 1, .int .i64 x17, .int .i64 (-1)] (.one (.g [.int .i64, .int .i64])) fun (r34 : LTs _) =>
 call Tryz.prog 17 [.agg #[.int .i64 r34.1, .int .i64 r34.2.1], .int .i64 6] (.one (.l .bool)) fun (r35 : Bool) =>
 br (!r35)
 (ret (.bool false))
 (call Tryz.prog 15 [.pointer r1, .int .i64 12, .int .i64 x17, .int .i64 0, .int .i64 0] (.one (.g [.int .i64, .int .i64])) fun (r36 : LTs _) =>
 call Tryz.prog 17 [.agg #[.int .i64 r36.1, .int .i64 r36.2.1], .int .i64 6] (.one (.l .bool)) fun (r37 : Bool) =>
 br (!r37)
 (ret (.bool false))
 (call Tryz.prog 15 [.pointer r1, .int .i64 13, .int .i64 x17, .int .i64 0, .int .i64 0] (.one (.g [.int .i64, .int .i64])) fun (r38 : LTs _) =>
 call Tryz.prog 17 [.agg #[.int .i64 r38.1, .int .i64 r38.2.1], .int .i64 6] (.one (.l .bool)) fun (r39 : Bool) =>
 br (!r39)
 (ret (.bool false))
 (call Tryz.prog 15 [.pointer r1, .int .i64 14, .int .i64 x17, .int .i64 0, .int .i64 0] (.one (.g [.int .i64, .int .i64])) fun (r40 : LTs _) =>
 call Tryz.prog 17 [.agg #[.int .i64 r40.1, .int .i64 r40.2.1], .int .i64 6] (.one (.l .bool)) fun (r41 : Bool) =>
 br (!r41)
 (ret (.bool false))
 (call Tryz.prog 15 [.pointer r1, .int .i64 17, .int .i64 x17, .int .i64 0, .int .i64 0] (.one (.g [.int .i64, .int .i64])) fun (r42 : LTs _) =>
 call Tryz.prog 17 [.agg #[.int .i64 r42.1, .int .i64 r42.2.1], .int .i64 6] (.one (.l .bool)) fun (r43 : Bool) =>
 br (!r43)
 (ret (.bool false))
 (X14 (IntKind.wrap .i64 (u15.1 + 1), ()))))))))
 (call Tryz.prog 15 [.pointer r1, .int .i64 11, .int .i64 1, .int .i64 x17, .int .i64 (-1)] (.one (.g [.int .i64, .int .i64])) fun (r32 : LTs _) =>
 call Tryz.prog 17 [.agg #[.int .i64 r32.1, .int .i64 r32.2.1], .int .i64 6] (.one (.l .bool)) fun (r33 : Bool) =>
 br (!r33)
 (ret (.bool false))
 (call Tryz.prog 15 [.pointer r1, .int .i64 12, .int .i64 x17, .int .i64 0, .int .i64 0] (.one (.g [.int .i64, .int .i64])) fun (r34 : LTs _) =>
 call Tryz.prog 17 [.agg #[.int .i64 r34.1, .int .i64 r34.2.1], .int .i64 6] (.one (.l .bool)) fun (r35 : Bool) =>
 br (!r35)
 (ret (.bool false))
 (call Tryz.prog 15 [.pointer r1, .int .i64 13, .int .i64 x17, .int .i64 0, .int .i64 0] (.one (.g [.int .i64, .int .i64])) fun (r36 : LTs _) =>
 call Tryz.prog 17 [.agg #[.int .i64 r36.1, .int .i64 r36.2.1], .int .i64 6] (.one (.l .bool)) fun (r37 : Bool) =>
 br (!r37)
 (ret (.bool false))
 (call Tryz.prog 15 [.pointer r1, .int .i64 14, .int .i64 x17, .int .i64 0, .int .i64 0] (.one (.g [.int .i64, .int .i64])) fun (r38 : LTs _) =>
 call Tryz.prog 17 [.agg #[.int .i64 r38.1, .int .i64 r38.2.1], .int .i64 6] (.one (.l .bool)) fun (r39 : Bool) =>
 br (!r39)
 (ret (.bool false))
 (call Tryz.prog 15 [.pointer r1, .int .i64 17, .int .i64 x17, .int .i64 0, .int .i64 0] (.one (.g [.int .i64, .int .i64])) fun (r40 : LTs _) =>
 call Tryz.prog 17 [.agg #[.int .i64 r40.1, .int .i64 r40.2.1], .int .i64 6] (.one (.l .bool)) fun (r41 : Bool) =>
 br (!r41)
 (ret (.bool false))
 (X14 (IntKind.wrap .i64 (u15.1 + 1), ())))))))))))
 (call Tryz.prog 15 [.pointer r1, .int .i64 7, .int .i64 x17, .int .i64 0, .int .i64 1] (.one (.g [.int .i64, .int .i64])) fun (r25 : LTs _) =>
 call Tryz.prog 17 [.agg #[.int .i64 r25.1, .int .i64 r25.2.1], .int .i64 6] (.one (.l .bool)) fun (r26 : Bool) =>
 br (!r26)
 (ret (.bool false))
 (call Tryz.prog 15 [.pointer r1, .int .i64 8, .int .i64 x17, .int .i64 0, .int .i64 0] (.one (.g [.int .i64, .int .i64])) fun (r27 : LTs _) =>
 call Tryz.prog 17 [.agg #[.int .i64 r27.1, .int .i64 r27.2.1], .int .i64 6] (.one (.l .bool)) fun (r28 : Bool) =>
 br (!r28)
 (ret (.bool false))
 (br ((x17 : Int) != 0)
 (call Tryz.prog 15 [.pointer r1, .int .i64 9, .int .i64 0, .int .i64 x17, .int .i64 0] (.one (.g [.int .i64, .int .i64])) fun (r29 : LTs _) =>
 call Tryz.prog 17 [.agg #[.int .i64 r29.1, .int .i64 r29.2.1], .int .i64 6] (.one (.l .bool)) fun (r30 : Bool) =>
 br (!r30)
 (ret (.bool false))
 (call Tryz.prog 15 [.pointer r1, .int .i64 11, .int .i64 1, .int .i64 x17, .int .i64 (-1)] (.one (.g [.int .i64, .int .i64])) fun (r31 : LTs _) =>
 call Tryz.prog 17 [.agg #[.int .i64 r31.1, .int .i64 r31.2.1], .int .i64 6] (.one (.l .bool)) fun (r32 : Bool) =>
 br (!r32)
 (ret (.bool false))
 (call Tryz.prog 15 [.pointer r1, .int .i64 12, .int .i64 x17, .int .i64 0, .int .i64 0] (.one (.g [.int .i64, .int .i64])) fun (r33 : LTs _) =>
 call Tryz.prog 17 [.agg #[.int .i64 r33.1, .int .i64 r33.2.1], .int .i64 6] (.one (.l .bool)) fun (r34 : Bool) =>
 br (!r34)
 (ret (.bool false))
 (call Tryz.prog 15 [.pointer r1, .int .i64 13, .int .i64 x17, .int .i64 0, .int .i64 0] (.one (.g [.int .i64, .int .i64])) fun (r35 : LTs _) =>
 call Tryz.prog 17 [.agg #[.int .i64 r35.1, .int .i64 r35.2.1], .int .i64 6] (.one (.l .bool)) fun (r36 : Bool) =>
 br (!r36)
 (ret (.bool false))
 (call Tryz.prog 15 [.pointer r1, .int .i64 14, .int .i64 x17, .int .i64 0, .int .i64 0] (.one (.g [.int .i64, .int .i64])) fun (r37 : LTs _) =>
 call Tryz.prog 17 [.agg #[.int .i64 r37.1, .int .i64 r37.2.1], .int .i64 6] (.one (.l .bool)) fun (r38 : Bool) =>
 br (!r38)
 (ret (.bool false))
 (call Tryz.prog 15 [.pointer r1, .int .i64 17, .int .i64 x17, .int .i64 0, .int .i64 0] (.one (.g [.int .i64, .int .i64])) fun (r39 : LTs _) =>
 call Tryz.prog 17 [.agg #[.int .i64 r39.1, .int .i64 r39.2.1], .int .i64 6] (.one (.l .bool)) fun (r40 : Bool) =>
 br (!r40)
 (ret (.bool false))
 (X14 (IntKind.wrap .i64 (u15.1 + 1), ()))))))))
 (call Tryz.prog 15 [.pointer r1, .int .i64 11, .int .i64 1, .int .i64 x17, .int .i64 (-1)] (.one (.g [.int .i64, .int .i64])) fun (r29 : LTs _) =>
 call Tryz.prog 17 [.agg #[.int .i64 r29.1, .int .i64 r29.2.1], .int .i64 6] (.one (.l .bool)) fun (r30 : Bool) =>
 br (!r30)
 (ret (.bool false))
 (call Tryz.prog 15 [.pointer r1, .int .i64 12, .int .i64 x17, .int .i64 0, .int .i64 0] (.one (.g [.int .i64, .int .i64])) fun (r31 : LTs _) =>
 call Tryz.prog 17 [.agg #[.int .i64 r31.1, .int .i64 r31.2.1], .int .i64 6] (.one (.l .bool)) fun (r32 : Bool) =>
 br (!r32)
 (ret (.bool false))
 (call Tryz.prog 15 [.pointer r1, .int .i64 13, .int .i64 x17, .int .i64 0, .int .i64 0] (.one (.g [.int .i64, .int .i64])) fun (r33 : LTs _) =>
 call Tryz.prog 17 [.agg #[.int .i64 r33.1, .int .i64 r33.2.1], .int .i64 6] (.one (.l .bool)) fun (r34 : Bool) =>
 br (!r34)
 (ret (.bool false))
 (call Tryz.prog 15 [.pointer r1, .int .i64 14, .int .i64 x17, .int .i64 0, .int .i64 0] (.one (.g [.int .i64, .int .i64])) fun (r35 : LTs _) =>
 call Tryz.prog 17 [.agg #[.int .i64 r35.1, .int .i64 r35.2.1], .int .i64 6] (.one (.l .bool)) fun (r36 : Bool) =>
 br (!r36)
 (ret (.bool false))
 (call Tryz.prog 15 [.pointer r1, .int .i64 17, .int .i64 x17, .int .i64 0, .int .i64 0] (.one (.g [.int .i64, .int .i64])) fun (r37 : LTs _) =>
 call Tryz.prog 17 [.agg #[.int .i64 r37.1, .int .i64 r37.2.1], .int .i64 6] (.one (.l .bool)) fun (r38 : Bool) =>
 br (!r38)
 (ret (.bool false))
 (X14 (IntKind.wrap .i64 (u15.1 + 1), ())))))))))))))))
 (call Tryz.prog 15 [.pointer r1, .int .i64 21, .int .i64 3, .int .i64 0, .int .i64 0] (.one (.g [.int .i64, .int .i64])) fun (r16 : LTs _) =>
 call Tryz.prog 16 [.agg #[.int .i64 r16.1, .int .i64 r16.2.1], .int .i64 3] (.one (.l .bool)) fun (r17 : Bool) =>
 br r17
 (ld (.l (.int .i64)) (fa (⟨b5, 0, none⟩) 1) fun (x18 : Int) =>
 call Tryz.prog 15 [.pointer r1, .int .i64 5, .int .i64 x18, .int .i64 0, .int .i64 0] (.one (.g [.int .i64, .int .i64])) fun (r19 : LTs _) =>
 call Tryz.prog 19 [.int .i64 r19.1] (.one (.l (.int .i64))) fun (r20 : Int) =>
 br ((r20 : Int) == 0)
 (call Tryz.prog 18 [] (.one (.l .bool)) fun (r21 : Bool) =>
 ret (.bool r21))
 (ret (.bool false)))
 (ret (.bool false)))) (0, ())))
theorem F.gloaminglaw21.RtStale.calls (p0 : Int) (h : F.gloaminglaw21.RtStale p0 Q w) : Calls Tryz.prog 4 #[.int .i64 p0] w (RetQ Q) :=
 Tryz.cd F.gloaminglaw21.RtStale.T Tryz.func4 (by kernel_rfl) (es := [.va (.int .i64 p0)]) rfl (by kernel_rfl) h
end Go.Proofs.YtkljcopnaodfgaaGreat
