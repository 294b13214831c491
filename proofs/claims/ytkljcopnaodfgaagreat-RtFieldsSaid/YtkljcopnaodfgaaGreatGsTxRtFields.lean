import Derived.Test.YtkljcopnaodfgaaGreatGsT
namespace Go.Proofs.YtkljcopnaodfgaaGreat
open Go Go.Gl
set_option maxRecDepth 100000
set_option linter.unusedVariables false
variable {Q : Value → World → Prop} {w : World}
def F.gloaminglaw21.RtFields.T : Tabs := ⟨fun _ => [],
 (fun
 | 12 => some [(14, .adr), (15, .adr)]
 | _ => none),
 (fun
 | 11 => .held (some 8) (.go 0 false (.go 1 false (.go 2 false (.go 4 false (.go 5 false (.go 6 false (.go 7 false (.two (.go 3 false (.two (.go 8 true (.two (.go 9 false (.go 10 false (.go 11 false (.go 12 false .nil)))) (.go 10 false (.go 9 false (.go 11 false (.go 12 false .nil)))))) (.two (.go 9 false (.two (.go 8 true (.go 10 false (.go 11 false (.go 12 false .nil)))) (.go 10 false (.go 8 true (.go 11 false (.go 12 false .nil)))))) (.go 10 false (.two (.go 8 true (.go 9 false (.go 11 false (.go 12 false .nil)))) (.go 9 false (.go 8 true (.go 11 false (.go 12 false .nil))))))))) (.two (.go 9 false (.two (.go 3 false (.two (.go 8 true (.go 10 false (.go 11 false (.go 12 false .nil)))) (.go 10 false (.go 8 true (.go 11 false (.go 12 false .nil)))))) (.go 10 false (.go 3 false (.go 8 true (.go 11 false (.go 12 false .nil))))))) (.go 10 false (.two (.go 3 false (.two (.go 8 true (.go 9 false (.go 11 false (.go 12 false .nil)))) (.go 9 false (.go 8 true (.go 11 false (.go 12 false .nil)))))) (.go 9 false (.go 3 false (.go 8 true (.go 11 false (.go 12 false .nil))))))))))))))))
 | _ => .quiet)⟩
def F.gloaminglaw21.RtFields (p0 : Int) (p1 : Int) (p2 : Int) : Tree :=
 call Tryz.prog 14 [] (.one (.l .ptr)) fun (r1 : Option Addr) =>
 br (Option.isNone r1)
 (ret (.bool false))
 (call Tryz.prog 15 [.pointer r1, .int .i64 1, .int .i64 4, .int .i64 5, .int .i64 0] (.one (.g [.int .i64, .int .i64])) fun (r2 : LTs _) =>
 nw 26 (zc Tryz.prog 26) fun b3 =>
 st (⟨b3, 0, none⟩) [.int .i64 r2.1, .int .i64 r2.2.1] <|
 ld (.l (.int .i64)) (fa (⟨b3, 0, none⟩) 1) fun (x4 : Int) =>
 call Tryz.prog 15 [.pointer r1, .int .i64 2, .int .i64 x4, .int .i64 0, .int .i64 0] (.one (.g [.int .i64, .int .i64])) fun (r5 : LTs _) =>
 nw 26 (zc Tryz.prog 26) fun b6 =>
 st (⟨b6, 0, none⟩) [.int .i64 r5.1, .int .i64 r5.2.1] <|
 call Tryz.prog 15 [.pointer r1, .int .i64 4, .int .i64 9, .int .i64 0, .int .i64 0] (.one (.g [.int .i64, .int .i64])) fun (r7 : LTs _) =>
 nw 26 (zc Tryz.prog 26) fun b8 =>
 st (⟨b8, 0, none⟩) [.int .i64 r7.1, .int .i64 r7.2.1] <|
 call Tryz.prog 15 [.pointer r1, .int .i64 3, .int .i64 9, .int .i64 0, .int .i64 0] (.one (.g [.int .i64, .int .i64])) fun (r9 : LTs _) =>
 nw 26 (zc Tryz.prog 26) fun b10 =>
 st (⟨b10, 0, none⟩) [.int .i64 r9.1, .int .i64 r9.2.1] <|
 need ((9 : Int) ≠ 0) <|
 need ((9 : Int) ≠ 0) <|
 ld (.l (.int .i64)) (fa (⟨b6, 0, none⟩) 1) fun (x11 : Int) =>
 call Tryz.prog 15 [.pointer r1, .int .i64 7, .int .i64 x11, .int .i64 1, .int .i64 p0] (.one (.g [.int .i64, .int .i64])) fun (r12 : LTs _) =>
 call Tryz.prog 16 [.agg #[.int .i64 r12.1, .int .i64 r12.2.1], .int .i64 0] (.one (.l .bool)) fun (r13 : Bool) =>
 br (!r13)
 (ret (.bool false))
 (ld (.l (.int .i64)) (fa (⟨b8, 0, none⟩) 1) fun (x14 : Int) =>
 call Tryz.prog 15 [.pointer r1, .int .i64 7, .int .i64 x14, .int .i64 (Int.tmod (IntKind.wrap .i64 p1) 9), .int .i64 p0] (.one (.g [.int .i64, .int .i64])) fun (r15 : LTs _) =>
 call Tryz.prog 16 [.agg #[.int .i64 r15.1, .int .i64 r15.2.1], .int .i64 0] (.one (.l .bool)) fun (r16 : Bool) =>
 br (!r16)
 (ret (.bool false))
 (ld (.l (.int .i64)) (fa (⟨b6, 0, none⟩) 1) fun (x17 : Int) =>
 ld (.l (.int .i64)) (fa (⟨b8, 0, none⟩) 1) fun (x18 : Int) =>
 call Tryz.prog 15 [.pointer r1, .int .i64 6, .int .i64 x17, .int .i64 2, .int .i64 x18] (.one (.g [.int .i64, .int .i64])) fun (r19 : LTs _) =>
 call Tryz.prog 16 [.agg #[.int .i64 r19.1, .int .i64 r19.2.1], .int .i64 0] (.one (.l .bool)) fun (r20 : Bool) =>
 br (!r20)
 (ret (.bool false))
 (ld (.l (.int .i64)) (fa (⟨b10, 0, none⟩) 1) fun (x21 : Int) =>
 ld (.l (.int .i64)) (fa (⟨b6, 0, none⟩) 1) fun (x22 : Int) =>
 call Tryz.prog 15 [.pointer r1, .int .i64 6, .int .i64 x21, .int .i64 (Int.tmod (IntKind.wrap .i64 p2) 9), .int .i64 x22] (.one (.g [.int .i64, .int .i64])) fun (r23 : LTs _) =>
 call Tryz.prog 16 [.agg #[.int .i64 r23.1, .int .i64 r23.2.1], .int .i64 0] (.one (.l .bool)) fun (r24 : Bool) =>
 br (!r24)
 (ret (.bool false))
 (jn (fun (j26 : LTs [.adr, .adr]) =>
 ld (.l (.int .i64)) (fa (⟨b6, 0, none⟩) 1) fun (x27 : Int) =>
 call Tryz.prog 15 [.pointer r1, .int .i64 5, .int .i64 x27, .int .i64 1, .int .i64 0] (.one (.g [.int .i64, .int .i64])) fun (r28 : LTs _) =>
 call Tryz.prog 16 [.agg #[.int .i64 r28.1, .int .i64 r28.2.1], .int .i64 p0] (.one (.l .bool)) fun (r29 : Bool) =>
 br r29
 (ld (.l (.int .i64)) (fa (⟨b8, 0, none⟩) 1) fun (x30 : Int) =>
 call Tryz.prog 15 [.pointer r1, .int .i64 5, .int .i64 x30, .int .i64 (Int.tmod (IntKind.wrap .i64 p1) 9), .int .i64 0] (.one (.g [.int .i64, .int .i64])) fun (r31 : LTs _) =>
 call Tryz.prog 16 [.agg #[.int .i64 r31.1, .int .i64 r31.2.1], .int .i64 p0] (.one (.l .bool)) fun (r32 : Bool) =>
 br r32
 (ld (.l (.int .i64)) (fa j26.1 1) fun (x33 : Int) =>
 call Tryz.prog 15 [.pointer r1, .int .i64 5, .int .i64 x33, .int .i64 (Int.tmod (IntKind.wrap .i64 p1) 9), .int .i64 0] (.one (.g [.int .i64, .int .i64])) fun (r34 : LTs _) =>
 call Tryz.prog 16 [.agg #[.int .i64 r34.1, .int .i64 r34.2.1], .int .i64 p0] (.one (.l .bool)) fun (r35 : Bool) =>
 br r35
 (ld (.l (.int .i64)) (fa j26.2.1 1) fun (x36 : Int) =>
 call Tryz.prog 15 [.pointer r1, .int .i64 5, .int .i64 x36, .int .i64 1, .int .i64 0] (.one (.g [.int .i64, .int .i64])) fun (r37 : LTs _) =>
 call Tryz.prog 16 [.agg #[.int .i64 r37.1, .int .i64 r37.2.1], .int .i64 p0] (.one (.l .bool)) fun (r38 : Bool) =>
 br r38
 (ld (.l (.int .i64)) (fa j26.1 1) fun (x39 : Int) =>
 ld (.l (.int .i64)) (fa (⟨b8, 0, none⟩) 1) fun (x40 : Int) =>
 br ((x39 : Int) != x40)
 (ld (.l (.int .i64)) (fa j26.2.1 1) fun (x41 : Int) =>
 ld (.l (.int .i64)) (fa (⟨b6, 0, none⟩) 1) fun (x42 : Int) =>
 br ((x41 : Int) != x42)
 (ld (.l (.int .i64)) (fa (⟨b6, 0, none⟩) 1) fun (x43 : Int) =>
 call Tryz.prog 15 [.pointer r1, .int .i64 5, .int .i64 x43, .int .i64 0, .int .i64 0] (.one (.g [.int .i64, .int .i64])) fun (r44 : LTs _) =>
 call Tryz.prog 16 [.agg #[.int .i64 r44.1, .int .i64 r44.2.1], .int .i64 0] (.one (.l .bool)) fun (r45 : Bool) =>
 br r45
 (ld (.l (.int .i64)) (fa (⟨b6, 0, none⟩) 1) fun (x46 : Int) =>
 call Tryz.prog 15 [.pointer r1, .int .i64 7, .int .i64 x46, .int .i64 0, .int .i64 p0] (.one (.g [.int .i64, .int .i64])) fun (r47 : LTs _) =>
 call Tryz.prog 17 [.agg #[.int .i64 r47.1, .int .i64 r47.2.1], .int .i64 5] (.one (.l .bool)) fun (r48 : Bool) =>
 br r48
 (ld (.l (.int .i64)) (fa (⟨b6, 0, none⟩) 1) fun (x49 : Int) =>
 ld (.l (.int .i64)) (fa (⟨b8, 0, none⟩) 1) fun (x50 : Int) =>
 call Tryz.prog 15 [.pointer r1, .int .i64 6, .int .i64 x49, .int .i64 1, .int .i64 x50] (.one (.g [.int .i64, .int .i64])) fun (r51 : LTs _) =>
 call Tryz.prog 17 [.agg #[.int .i64 r51.1, .int .i64 r51.2.1], .int .i64 5] (.one (.l .bool)) fun (r52 : Bool) =>
 br r52
 (ld (.l (.int .i64)) (fa (⟨b8, 0, none⟩) 1) fun (x53 : Int) =>
 ld (.l (.int .i64)) (fa (⟨b8, 0, none⟩) 1) fun (x54 : Int) =>
 call Tryz.prog 15 [.pointer r1, .int .i64 6, .int .i64 x53, .int .i64 0, .int .i64 x54] (.one (.g [.int .i64, .int .i64])) fun (r55 : LTs _) =>
 call Tryz.prog 17 [.agg #[.int .i64 r55.1, .int .i64 r55.2.1], .int .i64 5] (.one (.l .bool)) fun (r56 : Bool) =>
 br r56
 (ld (.l (.int .i64)) (fa (⟨b10, 0, none⟩) 1) fun (x57 : Int) =>
 call Tryz.prog 15 [.pointer r1, .int .i64 7, .int .i64 x57, .int .i64 0, .int .i64 1] (.one (.g [.int .i64, .int .i64])) fun (r58 : LTs _) =>
 call Tryz.prog 17 [.agg #[.int .i64 r58.1, .int .i64 r58.2.1], .int .i64 5] (.one (.l .bool)) fun (r59 : Bool) =>
 br r59
 (ld (.l (.int .i64)) (fa (⟨b6, 0, none⟩) 1) fun (x60 : Int) =>
 call Tryz.prog 15 [.pointer r1, .int .i64 5, .int .i64 x60, .int .i64 4, .int .i64 0] (.one (.g [.int .i64, .int .i64])) fun (r61 : LTs _) =>
 call Tryz.prog 17 [.agg #[.int .i64 r61.1, .int .i64 r61.2.1], .int .i64 1] (.one (.l .bool)) fun (r62 : Bool) =>
 br r62
 (ld (.l (.int .i64)) (fa (⟨b6, 0, none⟩) 1) fun (x63 : Int) =>
 call Tryz.prog 15 [.pointer r1, .int .i64 5, .int .i64 x63, .int .i64 (-1), .int .i64 0] (.one (.g [.int .i64, .int .i64])) fun (r64 : LTs _) =>
 call Tryz.prog 17 [.agg #[.int .i64 r64.1, .int .i64 r64.2.1], .int .i64 1] (.one (.l .bool)) fun (r65 : Bool) =>
 br r65
 (ld (.l (.int .i64)) (fa (⟨b10, 0, none⟩) 1) fun (x66 : Int) =>
 call Tryz.prog 15 [.pointer r1, .int .i64 6, .int .i64 x66, .int .i64 (Int.tmod (IntKind.wrap .i64 p2) 9), .int .i64 0] (.one (.g [.int .i64, .int .i64])) fun (r67 : LTs _) =>
 call Tryz.prog 16 [.agg #[.int .i64 r67.1, .int .i64 r67.2.1], .int .i64 0] (.one (.l .bool)) fun (r68 : Bool) =>
 br r68
 (ld (.l (.int .i64)) (fa (⟨b10, 0, none⟩) 1) fun (x69 : Int) =>
 call Tryz.prog 15 [.pointer r1, .int .i64 5, .int .i64 x69, .int .i64 (Int.tmod (IntKind.wrap .i64 p2) 9), .int .i64 0] (.one (.g [.int .i64, .int .i64])) fun (r70 : LTs _) =>
 call Tryz.prog 16 [.agg #[.int .i64 r70.1, .int .i64 r70.2.1], .int .i64 0] (.one (.l .bool)) fun (r71 : Bool) =>
 br r71
 (call Tryz.prog 18 [] (.one (.l .bool)) fun (r72 : Bool) =>
 ret (.bool r72))
 (ret (.bool false)))
 (ret (.bool false)))
 (ret (.bool false)))
 (ret (.bool false)))
 (ret (.bool false)))
 (ret (.bool false)))
 (ret (.bool false)))
 (ret (.bool false)))
 (ret (.bool false)))
 (ret (.bool false)))
 (ret (.bool false)))
 (ret (.bool false)))
 (ret (.bool false)))
 (ret (.bool false)))
 (ret (.bool false))) fun J25 =>
 drw <| held fun S30 =>
 ldS S30 (.l (.int .i64)) (fa (⟨b6, 0, none⟩) 1) fun (x31 : Int) =>
 ldS S30 (.l (.int .i64)) (fa (⟨b10, 0, none⟩) 1) fun (x32 : Int) =>
 both
 (call Tryz.prog 15 [.pointer r1, .int .i64 5, .int .i64 x31, .int .i64 2, .int .i64 0] (.one (.g [.int .i64, .int .i64])) fun (r33 : LTs _) =>
 chk S30 <|
 both
 (call Tryz.prog 15 [.pointer r1, .int .i64 5, .int .i64 x32, .int .i64 (Int.tmod (IntKind.wrap .i64 p2) 9), .int .i64 0] (.one (.g [.int .i64, .int .i64])) fun (r34 : LTs _) =>
 both
 (nw 26 (zc Tryz.prog 26) fun b35 =>
 nw 26 (zc Tryz.prog 26) fun b36 =>
 st (⟨b35, 0, none⟩) [.int .i64 r33.1, .int .i64 r33.2.1] <|
 st (⟨b36, 0, none⟩) [.int .i64 r34.1, .int .i64 r34.2.1] <|
 J25 (⟨b35, 0, none⟩, ⟨b36, 0, none⟩, ()))
 (nw 26 (zc Tryz.prog 26) fun b37 =>
 nw 26 (zc Tryz.prog 26) fun b38 =>
 st (⟨b38, 0, none⟩) [.int .i64 r33.1, .int .i64 r33.2.1] <|
 st (⟨b37, 0, none⟩) [.int .i64 r34.1, .int .i64 r34.2.1] <|
 J25 (⟨b38, 0, none⟩, ⟨b37, 0, none⟩, ())))
 (both
 (nw 26 (zc Tryz.prog 26) fun b39 =>
 chk S30 <|
 both
 (call Tryz.prog 15 [.pointer r1, .int .i64 5, .int .i64 x32, .int .i64 (Int.tmod (IntKind.wrap .i64 p2) 9), .int .i64 0] (.one (.g [.int .i64, .int .i64])) fun (r40 : LTs _) =>
 nw 26 (zc Tryz.prog 26) fun b41 =>
 st (⟨b39, 0, none⟩) [.int .i64 r33.1, .int .i64 r33.2.1] <|
 st (⟨b41, 0, none⟩) [.int .i64 r40.1, .int .i64 r40.2.1] <|
 J25 (⟨b39, 0, none⟩, ⟨b41, 0, none⟩, ()))
 (nw 26 (zc Tryz.prog 26) fun b42 =>
 chk S30 <|
 call Tryz.prog 15 [.pointer r1, .int .i64 5, .int .i64 x32, .int .i64 (Int.tmod (IntKind.wrap .i64 p2) 9), .int .i64 0] (.one (.g [.int .i64, .int .i64])) fun (r43 : LTs _) =>
 st (⟨b39, 0, none⟩) [.int .i64 r33.1, .int .i64 r33.2.1] <|
 st (⟨b42, 0, none⟩) [.int .i64 r43.1, .int .i64 r43.2.1] <|
 J25 (⟨b39, 0, none⟩, ⟨b42, 0, none⟩, ())))
 (nw 26 (zc Tryz.prog 26) fun b44 =>
 chk S30 <|
 both
 (call Tryz.prog 15 [.pointer r1, .int .i64 5, .int .i64 x32, .int .i64 (Int.tmod (IntKind.wrap .i64 p2) 9), .int .i64 0] (.one (.g [.int .i64, .int .i64])) fun (r45 : LTs _) =>
 nw 26 (zc Tryz.prog 26) fun b46 =>
 st (⟨b46, 0, none⟩) [.int .i64 r33.1, .int .i64 r33.2.1] <|
 st (⟨b44, 0, none⟩) [.int .i64 r45.1, .int .i64 r45.2.1] <|
 J25 (⟨b46, 0, none⟩, ⟨b44, 0, none⟩, ()))
 (nw 26 (zc Tryz.prog 26) fun b47 =>
 chk S30 <|
 call Tryz.prog 15 [.pointer r1, .int .i64 5, .int .i64 x32, .int .i64 (Int.tmod (IntKind.wrap .i64 p2) 9), .int .i64 0] (.one (.g [.int .i64, .int .i64])) fun (r48 : LTs _) =>
 st (⟨b47, 0, none⟩) [.int .i64 r33.1, .int .i64 r33.2.1] <|
 st (⟨b44, 0, none⟩) [.int .i64 r48.1, .int .i64 r48.2.1] <|
 J25 (⟨b47, 0, none⟩, ⟨b44, 0, none⟩, ())))))
 (both
 (nw 26 (zc Tryz.prog 26) fun b49 =>
 chk S30 <|
 both
 (call Tryz.prog 15 [.pointer r1, .int .i64 5, .int .i64 x31, .int .i64 2, .int .i64 0] (.one (.g [.int .i64, .int .i64])) fun (r50 : LTs _) =>
 chk S30 <|
 both
 (call Tryz.prog 15 [.pointer r1, .int .i64 5, .int .i64 x32, .int .i64 (Int.tmod (IntKind.wrap .i64 p2) 9), .int .i64 0] (.one (.g [.int .i64, .int .i64])) fun (r51 : LTs _) =>
 nw 26 (zc Tryz.prog 26) fun b52 =>
 st (⟨b49, 0, none⟩) [.int .i64 r50.1, .int .i64 r50.2.1] <|
 st (⟨b52, 0, none⟩) [.int .i64 r51.1, .int .i64 r51.2.1] <|
 J25 (⟨b49, 0, none⟩, ⟨b52, 0, none⟩, ()))
 (nw 26 (zc Tryz.prog 26) fun b53 =>
 chk S30 <|
 call Tryz.prog 15 [.pointer r1, .int .i64 5, .int .i64 x32, .int .i64 (Int.tmod (IntKind.wrap .i64 p2) 9), .int .i64 0] (.one (.g [.int .i64, .int .i64])) fun (r54 : LTs _) =>
 st (⟨b49, 0, none⟩) [.int .i64 r50.1, .int .i64 r50.2.1] <|
 st (⟨b53, 0, none⟩) [.int .i64 r54.1, .int .i64 r54.2.1] <|
 J25 (⟨b49, 0, none⟩, ⟨b53, 0, none⟩, ())))
 (nw 26 (zc Tryz.prog 26) fun b55 =>
 chk S30 <|
 call Tryz.prog 15 [.pointer r1, .int .i64 5, .int .i64 x31, .int .i64 2, .int .i64 0] (.one (.g [.int .i64, .int .i64])) fun (r56 : LTs _) =>
 chk S30 <|
 call Tryz.prog 15 [.pointer r1, .int .i64 5, .int .i64 x32, .int .i64 (Int.tmod (IntKind.wrap .i64 p2) 9), .int .i64 0] (.one (.g [.int .i64, .int .i64])) fun (r57 : LTs _) =>
 st (⟨b49, 0, none⟩) [.int .i64 r56.1, .int .i64 r56.2.1] <|
 st (⟨b55, 0, none⟩) [.int .i64 r57.1, .int .i64 r57.2.1] <|
 J25 (⟨b49, 0, none⟩, ⟨b55, 0, none⟩, ())))
 (nw 26 (zc Tryz.prog 26) fun b58 =>
 chk S30 <|
 both
 (call Tryz.prog 15 [.pointer r1, .int .i64 5, .int .i64 x31, .int .i64 2, .int .i64 0] (.one (.g [.int .i64, .int .i64])) fun (r59 : LTs _) =>
 chk S30 <|
 both
 (call Tryz.prog 15 [.pointer r1, .int .i64 5, .int .i64 x32, .int .i64 (Int.tmod (IntKind.wrap .i64 p2) 9), .int .i64 0] (.one (.g [.int .i64, .int .i64])) fun (r60 : LTs _) =>
 nw 26 (zc Tryz.prog 26) fun b61 =>
 st (⟨b61, 0, none⟩) [.int .i64 r59.1, .int .i64 r59.2.1] <|
 st (⟨b58, 0, none⟩) [.int .i64 r60.1, .int .i64 r60.2.1] <|
 J25 (⟨b61, 0, none⟩, ⟨b58, 0, none⟩, ()))
 (nw 26 (zc Tryz.prog 26) fun b62 =>
 chk S30 <|
 call Tryz.prog 15 [.pointer r1, .int .i64 5, .int .i64 x32, .int .i64 (Int.tmod (IntKind.wrap .i64 p2) 9), .int .i64 0] (.one (.g [.int .i64, .int .i64])) fun (r63 : LTs _) =>
 st (⟨b62, 0, none⟩) [.int .i64 r59.1, .int .i64 r59.2.1] <|
 st (⟨b58, 0, none⟩) [.int .i64 r63.1, .int .i64 r63.2.1] <|
 J25 (⟨b62, 0, none⟩, ⟨b58, 0, none⟩, ())))
 (nw 26 (zc Tryz.prog 26) fun b64 =>
 chk S30 <|
 call Tryz.prog 15 [.pointer r1, .int .i64 5, .int .i64 x31, .int .i64 2, .int .i64 0] (.one (.g [.int .i64, .int .i64])) fun (r65 : LTs _) =>
 chk S30 <|
 call Tryz.prog 15 [.pointer r1, .int .i64 5, .int .i64 x32, .int .i64 (Int.tmod (IntKind.wrap .i64 p2) 9), .int .i64 0] (.one (.g [.int .i64, .int .i64])) fun (r66 : LTs _) =>
 st (⟨b64, 0, none⟩) [.int .i64 r65.1, .int .i64 r65.2.1] <|
 st (⟨b58, 0, none⟩) [.int .i64 r66.1, .int .i64 r66.2.1] <|
 J25 (⟨b64, 0, none⟩, ⟨b58, 0, none⟩, ())))))))))
theorem F.gloaminglaw21.RtFields.calls (p0 : Int) (p1 : Int) (p2 : Int) (h : F.gloaminglaw21.RtFields p0 p1 p2 Q w) : Calls Tryz.prog 3 #[.int .i64 p0, .int .u8 p1, .int .u8 p2] w (RetQ Q) :=
 Tryz.cd F.gloaminglaw21.RtFields.T Tryz.func3 (by kernel_rfl) (es := [.va (.int .i64 p0), .va (.int .u8 p1), .va (.int .u8 p2)]) rfl (by kernel_rfl) h
end Go.Proofs.YtkljcopnaodfgaaGreat
