import Derived.Test.YtkljcopnaodfgaaGreatGsT
namespace Go.Proofs.YtkljcopnaodfgaaGreat
open Go Go.Gl
set_option maxRecDepth 100000
set_option linter.unusedVariables false
variable {Q : Value → World → Prop} {w : World}
def F.gloaminglaw21.RtMakes.T : Tabs := ⟨(fun
 | 10 => [(11, .int .i64)]
 | _ => []),
 (fun
 | 17 => some [(2, .int .i64)]
 | _ => none),
 fun _ => .quiet⟩
def F.gloaminglaw21.RtMakes (p0 : Int) (p1 : Int) (p2 : Int) : Tree :=
 call Tryz.prog 14 [] (.one (.l .ptr)) fun (r1 : Option Addr) =>
 br (Option.isNone r1)
 (ret (.bool false))
 (need ((31 : Int) ≠ 0) <|
 need ((0 : Int) ≤ (IntKind.wrap .i64 (1 + (Int.tmod (IntKind.wrap .i64 p0) 31)))) <|
 call Tryz.prog 15 [.pointer r1, .int .i64 1, .int .i64 (IntKind.wrap .i64 (1 + (Int.tmod (IntKind.wrap .i64 p0) 31))), .int .i64 (ibits .and .i64 (IntKind.wrap .i64 p1) (IntKind.wrap .i64 ((IntKind.wrap .i64 (1 * 2 ^ (min ((IntKind.wrap .i64 (1 + (Int.tmod (IntKind.wrap .i64 p0) 31))) : Int).toNat (IntKind.bits .i64)))) - 1))), .int .i64 0] (.one (.g [.int .i64, .int .i64])) fun (r2 : LTs _) =>
 nw 26 (zc Tryz.prog 26) fun b3 =>
 st (⟨b3, 0, none⟩) [.int .i64 r2.1, .int .i64 r2.2.1] <|
 ld (.l (.int .i64)) (fa (⟨b3, 0, none⟩) 1) fun (x4 : Int) =>
 call Tryz.prog 15 [.pointer r1, .int .i64 2, .int .i64 x4, .int .i64 0, .int .i64 0] (.one (.g [.int .i64, .int .i64])) fun (r5 : LTs _) =>
 nw 26 (zc Tryz.prog 26) fun b6 =>
 st (⟨b6, 0, none⟩) [.int .i64 r5.1, .int .i64 r5.2.1] <|
 ld (.g [.int .i64, .int .i64]) (⟨b3, 0, none⟩) fun (x7 : LTs _) =>
 call Tryz.prog 16 [.agg #[.int .i64 x7.1, .int .i64 x7.2.1], .int .i64 1] (.one (.l .bool)) fun (r8 : Bool) =>
 br (!r8)
 (ret (.bool false))
 (ld (.l (.int .i64)) (fa (⟨b6, 0, none⟩) 0) fun (x9 : Int) =>
 call Tryz.prog 19 [.int .i64 x9] (.one (.l (.int .i64))) fun (r10 : Int) =>
 br ((r10 : Int) != 0)
 (ret (.bool false))
 (lp [.int .i64] (fun X11 u12 =>
 br (decide ((u12.1 : Int) < (if (8 : Int) < (IntKind.wrap .i64 (1 + (Int.tmod (IntKind.wrap .i64 p0) 31))) then (8 : Int) else IntKind.wrap .i64 (1 + (Int.tmod (IntKind.wrap .i64 p0) 31)))))
 (need ((0 : Int) ≤ u12.1) <|
 br ((ibits .and .i64 (Int.fdiv (IntKind.wrap .i64 p1) (2 ^ (min (u12.1 : Int).toNat (IntKind.bits .i64)))) 1 : Int) == 1)
 (ld (.l (.int .i64)) (fa (⟨b6, 0, none⟩) 1) fun (x13 : Int) =>
 call Tryz.prog 15 [.pointer r1, .int .i64 7, .int .i64 x13, .int .i64 u12.1, .int .i64 1] (.one (.g [.int .i64, .int .i64])) fun (r14 : LTs _) =>
 call Tryz.prog 17 [.agg #[.int .i64 r14.1, .int .i64 r14.2.1], .int .i64 5] (.one (.l .bool)) fun (r15 : Bool) =>
 br (!r15)
 (ret (.bool false))
 (br (!((ibits .and .i64 (Int.fdiv (IntKind.wrap .i64 p1) (2 ^ (min (u12.1 : Int).toNat (IntKind.bits .i64)))) 1 : Int) == 1))
 (ld (.l (.int .i64)) (fa (⟨b6, 0, none⟩) 1) fun (x16 : Int) =>
 call Tryz.prog 15 [.pointer r1, .int .i64 7, .int .i64 x16, .int .i64 u12.1, .int .i64 1] (.one (.g [.int .i64, .int .i64])) fun (r17 : LTs _) =>
 call Tryz.prog 16 [.agg #[.int .i64 r17.1, .int .i64 r17.2.1], .int .i64 0] (.one (.l .bool)) fun (r18 : Bool) =>
 br (!r18)
 (ret (.bool false))
 (X11 (IntKind.wrap .i64 (u12.1 + 1), ())))
 (X11 (IntKind.wrap .i64 (u12.1 + 1), ()))))
 (br (!((ibits .and .i64 (Int.fdiv (IntKind.wrap .i64 p1) (2 ^ (min (u12.1 : Int).toNat (IntKind.bits .i64)))) 1 : Int) == 1))
 (ld (.l (.int .i64)) (fa (⟨b6, 0, none⟩) 1) fun (x13 : Int) =>
 call Tryz.prog 15 [.pointer r1, .int .i64 7, .int .i64 x13, .int .i64 u12.1, .int .i64 1] (.one (.g [.int .i64, .int .i64])) fun (r14 : LTs _) =>
 call Tryz.prog 16 [.agg #[.int .i64 r14.1, .int .i64 r14.2.1], .int .i64 0] (.one (.l .bool)) fun (r15 : Bool) =>
 br (!r15)
 (ret (.bool false))
 (X11 (IntKind.wrap .i64 (u12.1 + 1), ())))
 (X11 (IntKind.wrap .i64 (u12.1 + 1), ()))))
 (jn (fun (j14 : LTs [.int .i64]) =>
 call Tryz.prog 15 [.pointer r1, .int .i64 2, .int .i64 j14.1, .int .i64 0, .int .i64 0] (.one (.g [.int .i64, .int .i64])) fun (r15 : LTs _) =>
 call Tryz.prog 17 [.agg #[.int .i64 r15.1, .int .i64 r15.2.1], .int .i64 2] (.one (.l .bool)) fun (r16 : Bool) =>
 br r16
 (call Tryz.prog 15 [.pointer r1, .int .i64 4, .int .i64 (if ((-1) : Int) < j14.1 then ((-1) : Int) else j14.1), .int .i64 0, .int .i64 0] (.one (.g [.int .i64, .int .i64])) fun (r17 : LTs _) =>
 call Tryz.prog 17 [.agg #[.int .i64 r17.1, .int .i64 r17.2.1], .int .i64 1] (.one (.l .bool)) fun (r18 : Bool) =>
 br r18
 (call Tryz.prog 15 [.pointer r1, .int .i64 3, .int .i64 (if (1024 : Int) > j14.1 then (1024 : Int) else j14.1), .int .i64 0, .int .i64 0] (.one (.g [.int .i64, .int .i64])) fun (r19 : LTs _) =>
 call Tryz.prog 17 [.agg #[.int .i64 r19.1, .int .i64 r19.2.1], .int .i64 1] (.one (.l .bool)) fun (r20 : Bool) =>
 br r20
 (call Tryz.prog 15 [.pointer r1, .int .i64 1, .int .i64 (if ((-1) : Int) < j14.1 then ((-1) : Int) else j14.1), .int .i64 0, .int .i64 0] (.one (.g [.int .i64, .int .i64])) fun (r21 : LTs _) =>
 call Tryz.prog 17 [.agg #[.int .i64 r21.1, .int .i64 r21.2.1], .int .i64 1] (.one (.l .bool)) fun (r22 : Bool) =>
 br r22
 (call Tryz.prog 15 [.pointer r1, .int .i64 1, .int .i64 (if (1024 : Int) > j14.1 then (1024 : Int) else j14.1), .int .i64 0, .int .i64 0] (.one (.g [.int .i64, .int .i64])) fun (r23 : LTs _) =>
 call Tryz.prog 17 [.agg #[.int .i64 r23.1, .int .i64 r23.2.1], .int .i64 1] (.one (.l .bool)) fun (r24 : Bool) =>
 br r24
 (call Tryz.prog 15 [.pointer r1, .int .i64 1, .int .i64 3, .int .i64 (if ((-1) : Int) < j14.1 then ((-1) : Int) else j14.1), .int .i64 0] (.one (.g [.int .i64, .int .i64])) fun (r25 : LTs _) =>
 call Tryz.prog 17 [.agg #[.int .i64 r25.1, .int .i64 r25.2.1], .int .i64 1] (.one (.l .bool)) fun (r26 : Bool) =>
 br r26
 (call Tryz.prog 15 [.pointer r1, .int .i64 1, .int .i64 3, .int .i64 8, .int .i64 0] (.one (.g [.int .i64, .int .i64])) fun (r27 : LTs _) =>
 call Tryz.prog 17 [.agg #[.int .i64 r27.1, .int .i64 r27.2.1], .int .i64 1] (.one (.l .bool)) fun (r28 : Bool) =>
 br r28
 (call Tryz.prog 15 [.pointer r1, .int .i64 1, .int .i64 40, .int .i64 4294967296, .int .i64 0] (.one (.g [.int .i64, .int .i64])) fun (r29 : LTs _) =>
 call Tryz.prog 17 [.agg #[.int .i64 r29.1, .int .i64 r29.2.1], .int .i64 1] (.one (.l .bool)) fun (r30 : Bool) =>
 br r30
 (call Tryz.prog 15 [.pointer r1, .int .i64 16, .int .i64 (if (0 : Int) > j14.1 then (0 : Int) else j14.1), .int .i64 0, .int .i64 0] (.one (.g [.int .i64, .int .i64])) fun (r31 : LTs _) =>
 call Tryz.prog 17 [.agg #[.int .i64 r31.1, .int .i64 r31.2.1], .int .i64 2] (.one (.l .bool)) fun (r32 : Bool) =>
 br r32
 (ld (.l (.int .i64)) (fa (⟨b6, 0, none⟩) 1) fun (x33 : Int) =>
 call Tryz.prog 15 [.pointer r1, .int .i64 11, .int .i64 3, .int .i64 x33, .int .i64 (-1)] (.one (.g [.int .i64, .int .i64])) fun (r34 : LTs _) =>
 call Tryz.prog 17 [.agg #[.int .i64 r34.1, .int .i64 r34.2.1], .int .i64 1] (.one (.l .bool)) fun (r35 : Bool) =>
 br r35
 (ld (.l (.int .i64)) (fa (⟨b6, 0, none⟩) 1) fun (x36 : Int) =>
 call Tryz.prog 15 [.pointer r1, .int .i64 11, .int .i64 4, .int .i64 x36, .int .i64 (-1)] (.one (.g [.int .i64, .int .i64])) fun (r37 : LTs _) =>
 call Tryz.prog 17 [.agg #[.int .i64 r37.1, .int .i64 r37.2.1], .int .i64 1] (.one (.l .bool)) fun (r38 : Bool) =>
 br r38
 (ld (.l (.int .i64)) (fa (⟨b6, 0, none⟩) 1) fun (x39 : Int) =>
 call Tryz.prog 15 [.pointer r1, .int .i64 11, .int .i64 2, .int .i64 x39, .int .i64 0] (.one (.g [.int .i64, .int .i64])) fun (r40 : LTs _) =>
 call Tryz.prog 17 [.agg #[.int .i64 r40.1, .int .i64 r40.2.1], .int .i64 2] (.one (.l .bool)) fun (r41 : Bool) =>
 br r41
 (call Tryz.prog 18 [] (.one (.l .bool)) fun (r42 : Bool) =>
 ret (.bool r42))
 (ret (.bool false)))
 (ret (.bool false)))
 (ret (.bool false)))
 (ret (.bool false)))
 (ret (.bool false)))
 (ret (.bool false)))
 (ret (.bool false)))
 (ret (.bool false)))
 (ret (.bool false)))
 (ret (.bool false)))
 (ret (.bool false)))
 (ret (.bool false))) fun J13 =>
 br ((p2 : Int) == 1)
 (J13 (2, ()))
 (J13 (p2, ())))) (0, ()))))
theorem F.gloaminglaw21.RtMakes.calls (p0 : Int) (p1 : Int) (p2 : Int) (h : F.gloaminglaw21.RtMakes p0 p1 p2 Q w) : Calls Tryz.prog 8 #[.int .u8 p0, .int .u8 p1, .int .i64 p2] w (RetQ Q) :=
 Tryz.cd F.gloaminglaw21.RtMakes.T Tryz.func8 (by kernel_rfl) (es := [.va (.int .u8 p0), .va (.int .u8 p1), .va (.int .i64 p2)]) rfl (by kernel_rfl) h
end Go.Proofs.YtkljcopnaodfgaaGreat
