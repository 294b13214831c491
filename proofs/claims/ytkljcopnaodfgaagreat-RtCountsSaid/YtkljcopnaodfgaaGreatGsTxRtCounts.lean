import Derived.Test.YtkljcopnaodfgaaGreatGsT
namespace Go.Proofs.YtkljcopnaodfgaaGreat
open Go Go.Gl
set_option maxRecDepth 100000
set_option linter.unusedVariables false
variable {Q : Value → World → Prop} {w : World}
def F.gloaminglaw21.RtCounts.T : Tabs := ⟨(fun
 | 6 => [(7, .int .i64)]
 | _ => []),
 (fun
 | 13 => some [(1, .int .i64)]
 | _ => none),
 fun _ => .quiet⟩
def F.gloaminglaw21.RtCounts (p0 : Slc) (p1 : Int) : Tree :=
 call Tryz.prog 14 [] (.one (.l .ptr)) fun (r1 : Option Addr) =>
 br (Option.isNone r1)
 (ret (.bool false))
 (lp [.int .i64] (fun X2 u3 =>
 br (decide ((u3.1 : Int) < (if (20 : Int) < (p0.n : Nat) then (20 : Int) else (p0.n : Nat))))
 (ix p0.a p0.n u3.1 1 fun a4 =>
 ld (.l (.int .u8)) a4 fun (x5 : Int) =>
 need ((90 : Int) ≠ 0) <|
 call Tryz.prog 15 [.pointer r1, .int .i64 4, .int .i64 (Int.tmod (IntKind.wrap .i64 x5) 90), .int .i64 0, .int .i64 0] (.one (.g [.int .i64, .int .i64])) fun (r6 : LTs _) =>
 call Tryz.prog 19 [.int .i64 r6.1] (.one (.l (.int .i64))) fun (r7 : Int) =>
 br ((r7 : Int) != 0)
 (ret (.bool false))
 (X2 (IntKind.wrap .i64 (u3.1 + 1), ())))
 (call Tryz.prog 15 [.pointer r1, .int .i64 21, .int .i64 0, .int .i64 0, .int .i64 0] (.one (.g [.int .i64, .int .i64])) fun (r4 : LTs _) =>
 call Tryz.prog 15 [.pointer r1, .int .i64 21, .int .i64 1, .int .i64 0, .int .i64 0] (.one (.g [.int .i64, .int .i64])) fun (r5 : LTs _) =>
 nw 26 (zc Tryz.prog 26) fun b6 =>
 nw 26 (zc Tryz.prog 26) fun b7 =>
 st (⟨b6, 0, none⟩) [.int .i64 r4.1, .int .i64 r4.2.1] <|
 st (⟨b7, 0, none⟩) [.int .i64 r5.1, .int .i64 r5.2.1] <|
 jn (fun (j9 : LTs [.int .i64]) =>
 call Tryz.prog 15 [.pointer r1, .int .i64 20, .int .i64 (if ((-1) : Int) < j9.1 then ((-1) : Int) else j9.1), .int .i64 0, .int .i64 0] (.one (.g [.int .i64, .int .i64])) fun (r10 : LTs _) =>
 nw 26 (zc Tryz.prog 26) fun b11 =>
 st (⟨b11, 0, none⟩) [.int .i64 r10.1, .int .i64 r10.2.1] <|
 call Tryz.prog 15 [.pointer r1, .int .i64 20, .int .i64 (if (20 : Int) < (p0.n : Nat) then (20 : Int) else (p0.n : Nat)), .int .i64 0, .int .i64 0] (.one (.g [.int .i64, .int .i64])) fun (r12 : LTs _) =>
 nw 26 (zc Tryz.prog 26) fun b13 =>
 st (⟨b13, 0, none⟩) [.int .i64 r12.1, .int .i64 r12.2.1] <|
 nn r1 fun a14 =>
 ld (.l .ptr) (fa a14 0) fun (x15 : Option Addr) =>
 call Tryz.prog 23 [.pointer x15] (.one (.g [.slice, .slice, .slice, .slice, .slice, .slice, .int .i64, .int .i64, .int .i64, .int .i64])) fun (r16 : LTs _) =>
 nw 53 (zc Tryz.prog 53) fun b17 =>
 st (⟨b17, 0, none⟩) [.slice r16.1.a r16.1.n r16.1.c, .slice r16.2.1.a r16.2.1.n r16.2.1.c, .slice r16.2.2.1.a r16.2.2.1.n r16.2.2.1.c, .slice r16.2.2.2.1.a r16.2.2.2.1.n r16.2.2.2.1.c, .slice r16.2.2.2.2.1.a r16.2.2.2.2.1.n r16.2.2.2.2.1.c, .slice r16.2.2.2.2.2.1.a r16.2.2.2.2.2.1.n r16.2.2.2.2.2.1.c, .int .i64 r16.2.2.2.2.2.2.1, .int .i64 r16.2.2.2.2.2.2.2.1, .int .i64 r16.2.2.2.2.2.2.2.2.1, .int .i64 r16.2.2.2.2.2.2.2.2.2.1] <|
 ld (.l (.int .i64)) (fa (⟨b6, 0, none⟩) 1) fun (x18 : Int) =>
 ld (.l (.int .i64)) (fa (⟨b7, 0, none⟩) 1) fun (x19 : Int) =>
 br ((IntKind.wrap .i64 (x18 + x19) : Int) == 3776)
 (ld (.l (.int .i64)) (fa (⟨b6, 0, none⟩) 1) fun (x20 : Int) =>
 ld (.l (.int .i64)) (fa (⟨b17, 0, none⟩) 8) fun (x21 : Int) =>
 br ((x20 : Int) == x21)
 (call Tryz.prog 15 [.pointer r1, .int .i64 21, .int .i64 3, .int .i64 0, .int .i64 0] (.one (.g [.int .i64, .int .i64])) fun (r22 : LTs _) =>
 call Tryz.prog 16 [.agg #[.int .i64 r22.1, .int .i64 r22.2.1], .int .i64 (if (20 : Int) < (p0.n : Nat) then (20 : Int) else (p0.n : Nat))] (.one (.l .bool)) fun (r23 : Bool) =>
 br r23
 (call Tryz.prog 15 [.pointer r1, .int .i64 21, .int .i64 j9.1, .int .i64 0, .int .i64 0] (.one (.g [.int .i64, .int .i64])) fun (r24 : LTs _) =>
 call Tryz.prog 17 [.agg #[.int .i64 r24.1, .int .i64 r24.2.1], .int .i64 1] (.one (.l .bool)) fun (r25 : Bool) =>
 br r25
 (ld (.g [.int .i64, .int .i64]) (⟨b11, 0, none⟩) fun (x26 : LTs _) =>
 call Tryz.prog 17 [.agg #[.int .i64 x26.1, .int .i64 x26.2.1], .int .i64 1] (.one (.l .bool)) fun (r27 : Bool) =>
 br r27
 (ld (.g [.int .i64, .int .i64]) (⟨b13, 0, none⟩) fun (x28 : LTs _) =>
 call Tryz.prog 16 [.agg #[.int .i64 x28.1, .int .i64 x28.2.1], .int .i64 0] (.one (.l .bool)) fun (r29 : Bool) =>
 br r29
 (ld (.l (.int .i64)) (fa (⟨b17, 0, none⟩) 6) fun (x30 : Int) =>
 br ((x30 : Int) == (if (20 : Int) < (p0.n : Nat) then (20 : Int) else (p0.n : Nat)))
 (call Tryz.prog 15 [.pointer r1, .int .i64 19, .int .i64 j9.1, .int .i64 0, .int .i64 0] (.one (.g [.int .i64, .int .i64])) fun (r31 : LTs _) =>
 call Tryz.prog 17 [.agg #[.int .i64 r31.1, .int .i64 r31.2.1], .int .i64 1] (.one (.l .bool)) fun (r32 : Bool) =>
 br r32
 (call Tryz.prog 18 [] (.one (.l .bool)) fun (r33 : Bool) =>
 ret (.bool r33))
 (ret (.bool false)))
 (ret (.bool false)))
 (ret (.bool false)))
 (ret (.bool false)))
 (ret (.bool false)))
 (ret (.bool false)))
 (ret (.bool false)))
 (ret (.bool false))) fun J8 =>
 br (decide ((p1 : Int) ≥ 0))
 (br (decide ((p1 : Int) ≤ 4))
 (J8 (5, ()))
 (J8 (p1, ())))
 (J8 (p1, ())))) (0, ()))
theorem F.gloaminglaw21.RtCounts.calls (p0 : Slc) (p1 : Int) (h : F.gloaminglaw21.RtCounts p0 p1 Q w) : Calls Tryz.prog 12 #[.slice p0.a p0.n p0.c, .int .i64 p1] w (RetQ Q) :=
 Tryz.cd F.gloaminglaw21.RtCounts.T Tryz.func12 (by kernel_rfl) (es := [.va (.slice p0.a p0.n p0.c), .va (.int .i64 p1)]) rfl (by kernel_rfl) h
end Go.Proofs.YtkljcopnaodfgaaGreat
