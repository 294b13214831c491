import Derived.Test.YtpefngbfgjfcgaaGreatGsT
namespace Go.Proofs.YtpefngbfgjfcgaaGreat
open Go Go.Gl
set_option maxRecDepth 100000
set_option linter.unusedVariables false
variable {Q : Value → World → Prop} {w : World}
def F.gloaminglaw17.Graph.T : Tabs := ⟨(fun
 | 8 => [(7, .slice), (8, .int .i64)]
 | 15 => [(11, .int .i64)]
 | 19 => [(13, .int .i64)]
 | _ => []),
 fun _ => none,
 (fun
 | 21 => .tail 10
 | _ => .quiet)⟩
def F.gloaminglaw17.Graph (p0 : Slc) : Tree :=
 call Tryz.prog 32 [.int .i64 60] (.many [.l .ptr, .l (.int .i64)]) fun (r1 : KTs _) =>
 call Tryz.prog 33 [.pointer r1.1] (.one (.l .bool)) fun (r2 : Bool) =>
 br (!r2)
 (ret (.tuple #[.pointer none, .slice none 0 0]))
 (call Tryz.prog 17 [.int .i64 r1.2.1] (.one (.l (.int .i64))) fun (r3 : Int) =>
 br ((r3 : Int) != 0)
 (ret (.tuple #[.pointer none, .slice none 0 0]))
 (nn r1.1 fun a4 =>
 ld (.l .ptr) (fa a4 1) fun (x5 : Option Addr) =>
 nw 3 [.int .i64 0, .int .i64 2] fun b6 =>
 call Tryz.prog 34 [.pointer x5, .int .i64 3, .slice (some ⟨b6, 0, none⟩) 2 2] (.many [.l (.int .i64), .l (.int .i64)]) fun (r7 : KTs _) =>
 call Tryz.prog 35 [.slice p0.a p0.n p0.c] (.one (.l .slice)) fun (r8 : Slc) =>
 lp [.slice, .int .i64] (fun X9 u10 =>
 br (decide ((u10.2.1 : Int) < (r8.n : Nat)))
 (ix r8.a r8.n u10.2.1 4 fun a11 =>
 ld (.g [.int .i64, .int .i64, .int .i64, .bool]) a11 fun (x12 : LTs _) =>
 call Tryz.prog 36 [.pointer r1.1, .agg #[.int .i64 x12.1, .int .i64 x12.2.1, .int .i64 x12.2.2.1, .bool x12.2.2.2.1]] (.many [.l (.int .i64), .l (.int .i64)]) fun (r13 : KTs _) =>
 call Tryz.prog 17 [.int .i64 r13.2.1] (.one (.l (.int .i64))) fun (r14 : Int) =>
 br ((r14 : Int) != 0)
 (ret (.tuple #[.pointer none, .slice none 0 0]))
 (nw 3 [.int .i64 r13.1] fun b15 =>
 opr Tryz.prog (Builtin.append_ #[24, 24] 24 #[.slice u10.1.a u10.1.n u10.1.c, .slice (some ⟨b15, 0, none⟩) 1 1]) (.one (.l .slice)) fun (r16 : Slc) =>
 X9 (⟨r16.a, r16.n, r16.c⟩, IntKind.wrap .i64 (u10.2.1 + 1), ())))
 (lp [.int .i64] (fun X11 u12 =>
 br (decide ((u12.1 : Int) < (r8.n : Nat)))
 (ix r8.a r8.n u12.1 4 fun a13 =>
 ld (.g [.int .i64, .int .i64, .int .i64, .bool]) a13 fun (x14 : LTs _) =>
 call Tryz.prog 37 [.agg #[.int .i64 x14.1, .int .i64 x14.2.1, .int .i64 x14.2.2.1, .bool x14.2.2.2.1], .slice u10.1.a u10.1.n u10.1.c, .slice p0.a p0.n p0.c, .int .i64 u12.1] (.one (.l .slice)) fun (r15 : Slc) =>
 lp [.int .i64] (fun X16 u17 =>
 br (decide ((u17.1 : Int) < (r15.n : Nat)))
 (drw <|
 ix u10.1.a u10.1.n u12.1 1 fun a18 =>
 ld (.l (.int .i64)) a18 fun (x19 : Int) =>
 ix r15.a r15.n u17.1 1 fun a20 =>
 ld (.l (.int .i64)) a20 fun (x21 : Int) =>
 call Tryz.prog 31 [.pointer r1.1, .int .i64 x19, .int .i64 u17.1, .int .i64 x21] (.one (.l (.int .i64))) fun (r22 : Int) =>
 call Tryz.prog 17 [.int .i64 r22] (.one (.l (.int .i64))) fun (r23 : Int) =>
 br ((r23 : Int) != 0)
 (ret (.tuple #[.pointer none, .slice none 0 0]))
 (X16 (IntKind.wrap .i64 (u17.1 + 1), ())))
 (X11 (IntKind.wrap .i64 (u12.1 + 1), ()))) (0, ()))
 (ret (.tuple #[.pointer r1.1, .slice u10.1.a u10.1.n u10.1.c]))) (0, ()))) (⟨none, 0, 0⟩, 0, ())))
theorem F.gloaminglaw17.Graph.calls (p0 : Slc) (h : F.gloaminglaw17.Graph p0 Q w) : Calls Tryz.prog 13 #[.slice p0.a p0.n p0.c] w (RetQ Q) :=
 Tryz.cd F.gloaminglaw17.Graph.T Tryz.func13 (by kernel_rfl) (es := [.va (.slice p0.a p0.n p0.c)]) rfl (by kernel_rfl) h
def F.gloaminglaw17.Model.T : Tabs := ⟨(fun
 | 6 => [(6, .slice), (7, .int .i64)]
 | 10 => [(8, .int .i64)]
 | 14 => [(10, .int .i64)]
 | _ => []),
 fun _ => none,
 (fun
 | 16 => .tail 10
 | _ => .quiet)⟩
def F.gloaminglaw17.Model (p0 : Slc) : Tree :=
 call Tryz.prog 38 [.int .i64 60] (.one (.l .ptr)) fun (r1 : Option Addr) =>
 nw 3 [.int .i64 0, .int .i64 2] fun b2 =>
 call Tryz.prog 39 [.pointer r1, .agg #[.int .i64 3, .slice (some ⟨b2, 0, none⟩) 2 2]] (.one (.g [.int .i64, .int .i64])) fun (r3 : LTs _) =>
 call Tryz.prog 35 [.slice p0.a p0.n p0.c] (.one (.l .slice)) fun (r4 : Slc) =>
 lp [.slice, .int .i64] (fun X5 u6 =>
 br (decide ((u6.2.1 : Int) < (r4.n : Nat)))
 (ix r4.a r4.n u6.2.1 4 fun a7 =>
 ld (.g [.int .i64, .int .i64, .int .i64, .bool]) a7 fun (x8 : LTs _) =>
 call Tryz.prog 40 [.pointer r1, .agg #[.int .i64 x8.1, .int .i64 x8.2.1, .int .i64 x8.2.2.1, .bool x8.2.2.2.1]] (.one (.g [.int .i64, .int .i64])) fun (r9 : LTs _) =>
 nw 3 [.int .i64 r9.1] fun b10 =>
 opr Tryz.prog (Builtin.append_ #[24, 24] 24 #[.slice u6.1.a u6.1.n u6.1.c, .slice (some ⟨b10, 0, none⟩) 1 1]) (.one (.l .slice)) fun (r11 : Slc) =>
 X5 (⟨r11.a, r11.n, r11.c⟩, IntKind.wrap .i64 (u6.2.1 + 1), ()))
 (lp [.int .i64] (fun X7 u8 =>
 br (decide ((u8.1 : Int) < (r4.n : Nat)))
 (ix r4.a r4.n u8.1 4 fun a9 =>
 ld (.g [.int .i64, .int .i64, .int .i64, .bool]) a9 fun (x10 : LTs _) =>
 call Tryz.prog 37 [.agg #[.int .i64 x10.1, .int .i64 x10.2.1, .int .i64 x10.2.2.1, .bool x10.2.2.2.1], .slice u6.1.a u6.1.n u6.1.c, .slice p0.a p0.n p0.c, .int .i64 u8.1] (.one (.l .slice)) fun (r11 : Slc) =>
 lp [.int .i64] (fun X12 u13 =>
 br (decide ((u13.1 : Int) < (r11.n : Nat)))
 (drw <|
 ix u6.1.a u6.1.n u8.1 1 fun a14 =>
 ld (.l (.int .i64)) a14 fun (x15 : Int) =>
 ix r11.a r11.n u13.1 1 fun a16 =>
 ld (.l (.int .i64)) a16 fun (x17 : Int) =>
 call Tryz.prog 41 [.pointer r1, .int .i64 x15, .int .i64 u13.1, .int .i64 x17] (.one (.l (.int .i64))) fun (r18 : Int) =>
 X12 (IntKind.wrap .i64 (u13.1 + 1), ()))
 (X7 (IntKind.wrap .i64 (u8.1 + 1), ()))) (0, ()))
 (ret (.tuple #[.pointer r1, .slice u6.1.a u6.1.n u6.1.c]))) (0, ()))) (⟨none, 0, 0⟩, 0, ())
theorem F.gloaminglaw17.Model.calls (p0 : Slc) (h : F.gloaminglaw17.Model p0 Q w) : Calls Tryz.prog 14 #[.slice p0.a p0.n p0.c] w (RetQ Q) :=
 Tryz.cd F.gloaminglaw17.Model.T Tryz.func14 (by kernel_rfl) (es := [.va (.slice p0.a p0.n p0.c)]) rfl (by kernel_rfl) h
def F.gloaminglaw17.heads.T : Tabs := ⟨(fun
 | 3 => [(3, .slice), (4, .int .i64)]
 | _ => []),
 fun _ => none,
 (fun
 | 5 => .held (some 17) (.go 0 false (.go 1 false (.go 2 false (.go 3 false (.go 4 false (.go 5 false (.go 6 false (.go 7 false (.go 8 false (.go 9 false (.go 10 false (.go 11 false (.go 12 false (.go 13 false (.go 14 false (.go 15 false (.go 16 false (.go 17 true .nil))))))))))))))))))
 | _ => .quiet)⟩
def F.gloaminglaw17.heads (p0 : Slc) : Tree :=
 lp [.slice, .int .i64] (fun X1 u2 =>
 br (decide ((u2.2.1 : Int) < (p0.n : Nat)))
 (br (decide ((u2.2.1 : Int) < 24))
 (drw <| held fun S3 =>
 ix p0.a p0.n u2.2.1 1 fun a4 =>
 ldS S3 (.l (.int .u8)) a4 fun (x5 : Int) =>
 need ((4 : Int) ≠ 0) <|
 ix p0.a p0.n u2.2.1 1 fun a6 =>
 ldS S3 (.l (.int .u8)) a6 fun (x7 : Int) =>
 need ((4 : Int) ≠ 0) <|
 need ((5 : Int) ≠ 0) <|
 nw 49 (zc Tryz.prog 49) fun b8 =>
 chk S3 <|
 st (⟨b8, 0, none⟩) [.int .i64 (IntKind.wrap .i64 (1 + (Int.tmod (IntKind.wrap .i64 x5) 4))), .int .i64 0, .int .i64 (IntKind.wrap .i64 (1 + (Int.tmod (IntKind.wrap .i64 (Int.tdiv (IntKind.wrap .i64 x7) 4)) 5))), .bool false] <|
 ld (.l (.int .i64)) (fa (⟨b8, 0, none⟩) 0) fun (x9 : Int) =>
 br ((x9 : Int) == 1)
 (st (fa (⟨b8, 0, none⟩) 1) [.int .i64 1] <|
 st (fa (⟨b8, 0, none⟩) 2) [.int .i64 3] <|
 ld (.g [.int .i64, .int .i64, .int .i64, .bool]) (⟨b8, 0, none⟩) fun (x10 : LTs _) =>
 nw 49 [.int .i64 x10.1, .int .i64 x10.2.1, .int .i64 x10.2.2.1, .bool x10.2.2.2.1] fun b11 =>
 opr Tryz.prog (Builtin.append_ #[74, 74] 74 #[.slice u2.1.a u2.1.n u2.1.c, .slice (some ⟨b11, 0, none⟩) 1 1]) (.one (.l .slice)) fun (r12 : Slc) =>
 X1 (⟨r12.a, r12.n, r12.c⟩, IntKind.wrap .i64 (u2.2.1 + 1), ()))
 (br ((x9 : Int) == 4)
 (ix p0.a p0.n u2.2.1 1 fun a10 =>
 ld (.l (.int .u8)) a10 fun (x11 : Int) =>
 need ((4 : Int) ≠ 0) <|
 need ((3 : Int) ≠ 0) <|
 st (fa (⟨b8, 0, none⟩) 1) [.int .i64 (IntKind.wrap .i64 (1 + (Int.tmod (IntKind.wrap .i64 (Int.tdiv (IntKind.wrap .i64 x11) 4)) 3)))] <|
 st (fa (⟨b8, 0, none⟩) 2) [.int .i64 5] <|
 ld (.g [.int .i64, .int .i64, .int .i64, .bool]) (⟨b8, 0, none⟩) fun (x12 : LTs _) =>
 nw 49 [.int .i64 x12.1, .int .i64 x12.2.1, .int .i64 x12.2.2.1, .bool x12.2.2.2.1] fun b13 =>
 opr Tryz.prog (Builtin.append_ #[74, 74] 74 #[.slice u2.1.a u2.1.n u2.1.c, .slice (some ⟨b13, 0, none⟩) 1 1]) (.one (.l .slice)) fun (r14 : Slc) =>
 X1 (⟨r14.a, r14.n, r14.c⟩, IntKind.wrap .i64 (u2.2.1 + 1), ()))
 (ld (.g [.int .i64, .int .i64, .int .i64, .bool]) (⟨b8, 0, none⟩) fun (x10 : LTs _) =>
 nw 49 [.int .i64 x10.1, .int .i64 x10.2.1, .int .i64 x10.2.2.1, .bool x10.2.2.2.1] fun b11 =>
 opr Tryz.prog (Builtin.append_ #[74, 74] 74 #[.slice u2.1.a u2.1.n u2.1.c, .slice (some ⟨b11, 0, none⟩) 1 1]) (.one (.l .slice)) fun (r12 : Slc) =>
 X1 (⟨r12.a, r12.n, r12.c⟩, IntKind.wrap .i64 (u2.2.1 + 1), ()))))
 (ret (.slice u2.1.a u2.1.n u2.1.c)))
 (ret (.slice u2.1.a u2.1.n u2.1.c))) (⟨none, 0, 0⟩, 0, ())
theorem F.gloaminglaw17.heads.calls (p0 : Slc) (h : F.gloaminglaw17.heads p0 Q w) : Calls Tryz.prog 35 #[.slice p0.a p0.n p0.c] w (RetQ Q) :=
 Tryz.cd F.gloaminglaw17.heads.T Tryz.func35 (by kernel_rfl) (es := [.va (.slice p0.a p0.n p0.c)]) rfl (by kernel_rfl) h
def F.gloaminglaw17.words.T : Tabs := ⟨(fun
 | 3 => [(10, .int .i64)]
 | _ => []),
 (fun
 | 7 => some [(12, .bool)]
 | _ => none),
 fun _ => .quiet⟩
def F.gloaminglaw17.words (p0 : LTs [.int .i64, .int .i64, .int .i64, .bool]) (p1 : Slc) (p2 : Slc) (p3 : Int) : Tree :=
 nw 49 [.int .i64 p0.1, .int .i64 p0.2.1, .int .i64 p0.2.2.1, .bool p0.2.2.2.1] fun b1 =>
 ld (.l (.int .i64)) (fa (⟨b1, 0, none⟩) 2) fun (x2 : Int) =>
 opr Tryz.prog (Instr.makeSlice 24 (.int .i64 x2) (.int .i64 x2)) (.one (.l .slice)) fun (r3 : Slc) =>
 lp [.int .i64] (fun X4 u5 =>
 ld (.l (.int .i64)) (fa (⟨b1, 0, none⟩) 2) fun (x6 : Int) =>
 br (decide ((u5.1 : Int) < x6))
 (need (((p2.n : Nat) : Int) ≠ 0) <|
 ix p2.a p2.n (Int.tmod (IntKind.wrap .i64 ((IntKind.wrap .i64 ((IntKind.wrap .i64 (p3 * 7)) + (IntKind.wrap .i64 (u5.1 * 3)))) + 1)) (p2.n : Nat)) 1 fun a7 =>
 ld (.l (.int .u8)) a7 fun (x8 : Int) =>
 jn (fun (j10 : LTs [.bool]) =>
 br j10.1
 (need ((3 : Int) ≠ 0) <|
 br (decide ((Int.tmod (IntKind.wrap .i64 ((IntKind.wrap .i64 ((IntKind.wrap .i64 x8) + (IntKind.wrap .i64 (13 * p3)))) + (IntKind.wrap .i64 (5 * u5.1)))) 3 : Int) > 0))
 (need (((p1.n : Nat) : Int) ≠ 0) <|
 ix p1.a p1.n (Int.tmod (IntKind.wrap .i64 ((IntKind.wrap .i64 ((IntKind.wrap .i64 x8) + (IntKind.wrap .i64 (13 * p3)))) + (IntKind.wrap .i64 (5 * u5.1)))) (p1.n : Nat)) 1 fun a11 =>
 ld (.l (.int .i64)) a11 fun (x12 : Int) =>
 ix r3.a r3.n u5.1 1 fun a13 =>
 st a13 [.int .i64 x12] <|
 br (!j10.1)
 (ix r3.a r3.n u5.1 1 fun a14 =>
 st a14 [.int .i64 (IntKind.wrap .i64 ((IntKind.wrap .i64 ((IntKind.wrap .i64 x8) + (IntKind.wrap .i64 (13 * p3)))) + (IntKind.wrap .i64 (5 * u5.1))))] <|
 X4 (IntKind.wrap .i64 (u5.1 + 1), ()))
 (X4 (IntKind.wrap .i64 (u5.1 + 1), ())))
 (br (!j10.1)
 (ix r3.a r3.n u5.1 1 fun a11 =>
 st a11 [.int .i64 (IntKind.wrap .i64 ((IntKind.wrap .i64 ((IntKind.wrap .i64 x8) + (IntKind.wrap .i64 (13 * p3)))) + (IntKind.wrap .i64 (5 * u5.1))))] <|
 X4 (IntKind.wrap .i64 (u5.1 + 1), ()))
 (X4 (IntKind.wrap .i64 (u5.1 + 1), ()))))
 (br (!j10.1)
 (ix r3.a r3.n u5.1 1 fun a11 =>
 st a11 [.int .i64 (IntKind.wrap .i64 ((IntKind.wrap .i64 ((IntKind.wrap .i64 x8) + (IntKind.wrap .i64 (13 * p3)))) + (IntKind.wrap .i64 (5 * u5.1))))] <|
 X4 (IntKind.wrap .i64 (u5.1 + 1), ()))
 (X4 (IntKind.wrap .i64 (u5.1 + 1), ())))) fun J9 =>
 ld (.l (.int .i64)) (fa (⟨b1, 0, none⟩) 0) fun (x11 : Int) =>
 br ((x11 : Int) == 2)
 (J9 (true, ()))
 (ld (.l (.int .i64)) (fa (⟨b1, 0, none⟩) 0) fun (x12 : Int) =>
 br ((x12 : Int) == 1)
 (br ((u5.1 : Int) != 1)
 (J9 (true, ()))
 (ld (.l (.int .i64)) (fa (⟨b1, 0, none⟩) 0) fun (x13 : Int) =>
 br ((x13 : Int) == 4)
 (br ((u5.1 : Int) == 0)
 (J9 (true, ()))
 (J9 ((u5.1 : Int) == 2, ())))
 (J9 (false, ()))))
 (ld (.l (.int .i64)) (fa (⟨b1, 0, none⟩) 0) fun (x13 : Int) =>
 br ((x13 : Int) == 4)
 (br ((u5.1 : Int) == 0)
 (J9 (true, ()))
 (J9 ((u5.1 : Int) == 2, ())))
 (J9 (false, ())))))
 (ld (.l (.int .i64)) (fa (⟨b1, 0, none⟩) 0) fun (x7 : Int) =>
 br ((x7 : Int) == 4)
 (ix r3.a r3.n 2 1 fun a8 =>
 st a8 [.int .i64 0] <|
 call Tryz.prog 72 [.slice p2.a p2.n p2.c, .int .i64 p3] (.one (.l (.int .i64))) fun (r9 : Int) =>
 ix r3.a r3.n 1 1 fun a10 =>
 st a10 [.int .i64 r9] <|
 need (((p2.n : Nat) : Int) ≠ 0) <|
 ix p2.a p2.n (Int.tmod p3 (p2.n : Nat)) 1 fun a11 =>
 ld (.l (.int .u8)) a11 fun (x12 : Int) =>
 ix r3.a r3.n 3 1 fun a13 =>
 st a13 [.int .i64 (IntKind.wrap .i64 x12)] <|
 ix r3.a r3.n 4 1 fun a14 =>
 st a14 [.int .i64 (IntKind.wrap .i64 (p3 + 1))] <|
 ret (.slice r3.a r3.n r3.c))
 (ret (.slice r3.a r3.n r3.c)))) (0, ())
theorem F.gloaminglaw17.words.calls (p0 : LTs [.int .i64, .int .i64, .int .i64, .bool]) (p1 : Slc) (p2 : Slc) (p3 : Int) (h : F.gloaminglaw17.words p0 p1 p2 p3 Q w) : Calls Tryz.prog 37 #[.agg #[.int .i64 p0.1, .int .i64 p0.2.1, .int .i64 p0.2.2.1, .bool p0.2.2.2.1], .slice p1.a p1.n p1.c, .slice p2.a p2.n p2.c, .int .i64 p3] w (RetQ Q) :=
 Tryz.cd F.gloaminglaw17.words.T Tryz.func37 (by kernel_rfl) (es := [.va (.agg #[.int .i64 p0.1, .int .i64 p0.2.1, .int .i64 p0.2.2.1, .bool p0.2.2.2.1]), .va (.slice p1.a p1.n p1.c), .va (.slice p2.a p2.n p2.c), .va (.int .i64 p3)]) rfl (by kernel_rfl) h
def F.gloaminglaw17.Some.T : Tabs := ⟨(fun
 | 3 => [(7, .slice), (8, .int .i64)]
 | _ => []),
 fun _ => none,
 fun _ => .quiet⟩
def F.gloaminglaw17.Some (p0 : Slc) (p1 : Slc) (p2 : Int) : Tree :=
 lp [.slice, .int .i64] (fun X1 u2 =>
 br (decide ((u2.2.1 : Int) < (p1.n : Nat)))
 (br (decide ((u2.2.1 : Int) < p2))
 (br (decide (((p0.n : Nat) : Int) > 0))
 (ix p1.a p1.n u2.2.1 1 fun a3 =>
 ld (.l (.int .u8)) a3 fun (x4 : Int) =>
 br (decide ((x4 : Int) < 230))
 (ix p1.a p1.n u2.2.1 1 fun a5 =>
 ld (.l (.int .u8)) a5 fun (x6 : Int) =>
 need (((p0.n : Nat) : Int) ≠ 0) <|
 ix p0.a p0.n (Int.tmod (IntKind.wrap .i64 x6) (p0.n : Nat)) 1 fun a7 =>
 ld (.l (.int .i64)) a7 fun (x8 : Int) =>
 nw 3 [.int .i64 x8] fun b9 =>
 opr Tryz.prog (Builtin.append_ #[24, 24] 24 #[.slice u2.1.a u2.1.n u2.1.c, .slice (some ⟨b9, 0, none⟩) 1 1]) (.one (.l .slice)) fun (r10 : Slc) =>
 X1 (⟨r10.a, r10.n, r10.c⟩, IntKind.wrap .i64 (u2.2.1 + 1), ()))
 (ix p1.a p1.n u2.2.1 1 fun a5 =>
 ld (.l (.int .u8)) a5 fun (x6 : Int) =>
 nw 3 [.int .i64 (IntKind.wrap .i64 ((IntKind.wrap .i64 x6) - 231))] fun b7 =>
 opr Tryz.prog (Builtin.append_ #[24, 24] 24 #[.slice u2.1.a u2.1.n u2.1.c, .slice (some ⟨b7, 0, none⟩) 1 1]) (.one (.l .slice)) fun (r8 : Slc) =>
 X1 (⟨r8.a, r8.n, r8.c⟩, IntKind.wrap .i64 (u2.2.1 + 1), ())))
 (ix p1.a p1.n u2.2.1 1 fun a3 =>
 ld (.l (.int .u8)) a3 fun (x4 : Int) =>
 nw 3 [.int .i64 (IntKind.wrap .i64 ((IntKind.wrap .i64 x4) - 231))] fun b5 =>
 opr Tryz.prog (Builtin.append_ #[24, 24] 24 #[.slice u2.1.a u2.1.n u2.1.c, .slice (some ⟨b5, 0, none⟩) 1 1]) (.one (.l .slice)) fun (r6 : Slc) =>
 X1 (⟨r6.a, r6.n, r6.c⟩, IntKind.wrap .i64 (u2.2.1 + 1), ())))
 (ret (.slice u2.1.a u2.1.n u2.1.c)))
 (ret (.slice u2.1.a u2.1.n u2.1.c))) (⟨none, 0, 0⟩, 0, ())
theorem F.gloaminglaw17.Some.calls (p0 : Slc) (p1 : Slc) (p2 : Int) (h : F.gloaminglaw17.Some p0 p1 p2 Q w) : Calls Tryz.prog 42 #[.slice p0.a p0.n p0.c, .slice p1.a p1.n p1.c, .int .i64 p2] w (RetQ Q) :=
 Tryz.cd F.gloaminglaw17.Some.T Tryz.func42 (by kernel_rfl) (es := [.va (.slice p0.a p0.n p0.c), .va (.slice p1.a p1.n p1.c), .va (.int .i64 p2)]) rfl (by kernel_rfl) h
def F.gloaminglaw17.n3 (p0 : Slc) (p1 : Int) : Tree :=
 need (((p0.n : Nat) : Int) ≠ 0) <|
 ix p0.a p0.n (Int.tmod (IntKind.wrap .i64 ((IntKind.wrap .i64 (p1 * 5)) + 2)) (p0.n : Nat)) 1 fun a1 =>
 ld (.l (.int .u8)) a1 fun (x2 : Int) =>
 need ((4 : Int) ≠ 0) <|
 ret (.int .i64 (IntKind.wrap .i64 ((Int.tmod (IntKind.wrap .i64 x2) 4) - 1)))
theorem F.gloaminglaw17.n3.calls (p0 : Slc) (p1 : Int) (h : F.gloaminglaw17.n3 p0 p1 Q w) : Calls Tryz.prog 72 #[.slice p0.a p0.n p0.c, .int .i64 p1] w (RetQ Q) :=
 Tryz.cd Tabs.z Tryz.func72 (by kernel_rfl) (es := [.va (.slice p0.a p0.n p0.c), .va (.int .i64 p1)]) rfl (by kernel_rfl) h
end Go.Proofs.YtpefngbfgjfcgaaGreat
