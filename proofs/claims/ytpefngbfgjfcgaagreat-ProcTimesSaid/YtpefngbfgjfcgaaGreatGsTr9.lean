import Derived.Test.YtpefngbfgjfcgaaGreatGsT
namespace Go.Proofs.YtpefngbfgjfcgaaGreat
open Go Go.Gl
set_option maxRecDepth 100000
set_option linter.unusedVariables false
variable {Q : Value → World → Prop} {w : World}
def F.gloamingref9.SameOut (p0 : LTs [.slice, .slice, .slice, .slice]) (p1 : LTs [.slice, .slice, .slice, .slice]) : Tree :=
 nw 34 [.slice p0.1.a p0.1.n p0.1.c, .slice p0.2.1.a p0.2.1.n p0.2.1.c, .slice p0.2.2.1.a p0.2.2.1.n p0.2.2.1.c, .slice p0.2.2.2.1.a p0.2.2.2.1.n p0.2.2.2.1.c] fun b1 =>
 nw 34 [.slice p1.1.a p1.1.n p1.1.c, .slice p1.2.1.a p1.2.1.n p1.2.1.c, .slice p1.2.2.1.a p1.2.2.1.n p1.2.2.1.c, .slice p1.2.2.2.1.a p1.2.2.2.1.n p1.2.2.2.1.c] fun b2 =>
 ld (.l .slice) (fa (⟨b1, 0, none⟩) 0) fun (x3 : Slc) =>
 ld (.l .slice) (fa (⟨b2, 0, none⟩) 0) fun (x4 : Slc) =>
 call Tryz.prog 30 [.slice x3.a x3.n x3.c, .slice x4.a x4.n x4.c] (.one (.l .bool)) fun (r5 : Bool) =>
 br r5
 (ld (.l .slice) (fa (⟨b1, 0, none⟩) 1) fun (x6 : Slc) =>
 ld (.l .slice) (fa (⟨b2, 0, none⟩) 1) fun (x7 : Slc) =>
 call Tryz.prog 30 [.slice x6.a x6.n x6.c, .slice x7.a x7.n x7.c] (.one (.l .bool)) fun (r8 : Bool) =>
 br r8
 (ld (.l .slice) (fa (⟨b1, 0, none⟩) 2) fun (x9 : Slc) =>
 ld (.l .slice) (fa (⟨b2, 0, none⟩) 2) fun (x10 : Slc) =>
 call Tryz.prog 30 [.slice x9.a x9.n x9.c, .slice x10.a x10.n x10.c] (.one (.l .bool)) fun (r11 : Bool) =>
 br r11
 (ld (.l .slice) (fa (⟨b1, 0, none⟩) 3) fun (x12 : Slc) =>
 ld (.l .slice) (fa (⟨b2, 0, none⟩) 3) fun (x13 : Slc) =>
 call Tryz.prog 30 [.slice x12.a x12.n x12.c, .slice x13.a x13.n x13.c] (.one (.l .bool)) fun (r14 : Bool) =>
 ret (.bool r14))
 (ret (.bool false)))
 (ret (.bool false)))
 (ret (.bool false))
theorem F.gloamingref9.SameOut.calls (p0 : LTs [.slice, .slice, .slice, .slice]) (p1 : LTs [.slice, .slice, .slice, .slice]) (h : F.gloamingref9.SameOut p0 p1 Q w) : Calls Tryz.prog 18 #[.agg #[.slice p0.1.a p0.1.n p0.1.c, .slice p0.2.1.a p0.2.1.n p0.2.1.c, .slice p0.2.2.1.a p0.2.2.1.n p0.2.2.1.c, .slice p0.2.2.2.1.a p0.2.2.2.1.n p0.2.2.2.1.c], .agg #[.slice p1.1.a p1.1.n p1.1.c, .slice p1.2.1.a p1.2.1.n p1.2.1.c, .slice p1.2.2.1.a p1.2.2.1.n p1.2.2.1.c, .slice p1.2.2.2.1.a p1.2.2.2.1.n p1.2.2.2.1.c]] w (RetQ Q) :=
 Tryz.cd Tabs.z Tryz.func18 (by kernel_rfl) (es := [.va (.agg #[.slice p0.1.a p0.1.n p0.1.c, .slice p0.2.1.a p0.2.1.n p0.2.1.c, .slice p0.2.2.1.a p0.2.2.1.n p0.2.2.1.c, .slice p0.2.2.2.1.a p0.2.2.2.1.n p0.2.2.2.1.c]), .va (.agg #[.slice p1.1.a p1.1.n p1.1.c, .slice p1.2.1.a p1.2.1.n p1.2.1.c, .slice p1.2.2.1.a p1.2.2.1.n p1.2.2.1.c, .slice p1.2.2.2.1.a p1.2.2.2.1.n p1.2.2.2.1.c])]) rfl (by kernel_rfl) h
def F.gloamingref9.Process.T : Tabs := ⟨(fun
 | 3 => []
 | 9 => [(8, .int .i64)]
 | 17 => [(10, .int .i64)]
 | _ => []),
 fun _ => none,
 (fun
 | 15 => .held (some 5) (.go 0 false (.go 1 false (.go 2 false (.go 3 false (.go 4 false (.go 5 true (.go 6 false (.go 7 false .nil))))))))
 | _ => .quiet)⟩
def F.gloamingref9.Process (p0 : Option Addr) (p1 : LTs [.slice, .slice, .int .i64, .int .i64, .int .i64, .bool, .int .i64]) : Tree :=
 nw 31 [.slice p1.1.a p1.1.n p1.1.c, .slice p1.2.1.a p1.2.1.n p1.2.1.c, .int .i64 p1.2.2.1, .int .i64 p1.2.2.2.1, .int .i64 p1.2.2.2.2.1, .bool p1.2.2.2.2.2.1, .int .i64 p1.2.2.2.2.2.2.1] fun b1 =>
 nw 34 (zc Tryz.prog 34) fun b2 =>
 call Tryz.prog 51 [.pointer p0] (.one (.l .slice)) fun (r3 : Slc) =>
 ld (.l .slice) (fa (⟨b1, 0, none⟩) 0) fun (x4 : Slc) =>
 call Tryz.prog 52 [.slice r3.a r3.n r3.c, .pointer p0, .slice x4.a x4.n x4.c] (.many []) fun (r5 : KTs _) =>
 lp [] (fun X6 u7 => --
 ld (.g [.slice, .slice, .int .i64, .int .i64, .int .i64, .bool, .int .i64]) (⟨b1, 0, none⟩) fun (x8 : LTs _) =>
 call Tryz.prog 53 [.slice r3.a r3.n r3.c, .pointer p0, .agg #[.slice x8.1.a x8.1.n x8.1.c, .slice x8.2.1.a x8.2.1.n x8.2.1.c, .int .i64 x8.2.2.1, .int .i64 x8.2.2.2.1, .int .i64 x8.2.2.2.2.1, .bool x8.2.2.2.2.2.1, .int .i64 x8.2.2.2.2.2.2.1]] (.one (.l (.int .i64))) fun (r9 : Int) =>
 br ((r9 : Int) == 0)
 (nw 34 (zc Tryz.prog 34) fun b10 =>
 call Tryz.prog 54 [.slice r3.a r3.n r3.c, .pointer p0, .int .i64 1, .int .i64 2] (.one (.l .slice)) fun (r11 : Slc) =>
 st (fa (⟨b10, 0, none⟩) 0) [.slice r11.a r11.n r11.c] <|
 lp [.int .i64] (fun X12 u13 =>
 ld (.l .slice) (fa (⟨b1, 0, none⟩) 1) fun (x14 : Slc) =>
 br (decide ((u13.1 : Int) < (x14.n : Nat)))
 (ld (.l .slice) (fa (⟨b1, 0, none⟩) 1) fun (x15 : Slc) =>
 ix x15.a x15.n u13.1 1 fun a16 =>
 ld (.l (.int .i64)) a16 fun (x17 : Int) =>
 call Tryz.prog 55 [.pointer p0, .int .i64 x17] (.one (.g [.int .i64, .int .i64, .int .i64, .bool, .bool])) fun (r18 : LTs _) =>
 br r18.2.2.2.2.1
 (ix r3.a r3.n x17 1 fun a19 =>
 ld (.l .bool) a19 fun (x20 : Bool) =>
 br (!x20)
 (ld (.l .slice) (fa (⟨b10, 0, none⟩) 2) fun (x21 : Slc) =>
 call Tryz.prog 27 [.slice x21.a x21.n x21.c, .int .i64 x17] (.one (.l .bool)) fun (r22 : Bool) =>
 br (!r22)
 (ld (.l .slice) (fa (⟨b10, 0, none⟩) 2) fun (x23 : Slc) =>
 nw 3 [.int .i64 x17] fun b24 =>
 opr Tryz.prog (Builtin.append_ #[24, 24] 24 #[.slice x23.a x23.n x23.c, .slice (some ⟨b24, 0, none⟩) 1 1]) (.one (.l .slice)) fun (r25 : Slc) =>
 st (fa (⟨b10, 0, none⟩) 2) [.slice r25.a r25.n r25.c] <|
 X12 (IntKind.wrap .i64 (u13.1 + 1), ()))
 (X12 (IntKind.wrap .i64 (u13.1 + 1), ())))
 (X12 (IntKind.wrap .i64 (u13.1 + 1), ())))
 (X12 (IntKind.wrap .i64 (u13.1 + 1), ())))
 (ld (.l .slice) (fa (⟨b10, 0, none⟩) 2) fun (x15 : Slc) =>
 call Tryz.prog 52 [.slice r3.a r3.n r3.c, .pointer p0, .slice x15.a x15.n x15.c] (.many []) fun (r16 : KTs _) =>
 drw <| held fun S17 =>
 ldS S17 (.l .slice) (fa (⟨b10, 0, none⟩) 0) fun (x18 : Slc) =>
 call Tryz.prog 54 [.slice r3.a r3.n r3.c, .pointer p0, .int .i64 3, .int .i64 3] (.one (.l .slice)) fun (r19 : Slc) =>
 chk S17 <|
 opr Tryz.prog (Builtin.append_ #[24, 24] 24 #[.slice x18.a x18.n x18.c, .slice r19.a r19.n r19.c]) (.one (.l .slice)) fun (r20 : Slc) =>
 st (fa (⟨b10, 0, none⟩) 0) [.slice r20.a r20.n r20.c] <|
 lp [.int .i64] (fun X21 u22 =>
 ld (.l .slice) (fa (⟨b10, 0, none⟩) 0) fun (x23 : Slc) =>
 br (decide ((u22.1 : Int) < (x23.n : Nat)))
 (ld (.l .slice) (fa (⟨b10, 0, none⟩) 0) fun (x24 : Slc) =>
 ix x24.a x24.n u22.1 1 fun a25 =>
 ld (.l (.int .i64)) a25 fun (x26 : Int) =>
 ix r3.a r3.n x26 1 fun a27 =>
 ld (.l .bool) a27 fun (x28 : Bool) =>
 br x28
 (call Tryz.prog 56 [.pointer p0, .int .i64 x26, .int .i64 1] (.one (.g [.int .i64, .int .i64])) fun (r29 : LTs _) =>
 br (decide ((r29.1 : Int) > 0))
 (ld (.l .slice) (fa (⟨b10, 0, none⟩) 1) fun (x30 : Slc) =>
 nw 3 [.int .i64 x26] fun b31 =>
 opr Tryz.prog (Builtin.append_ #[24, 24] 24 #[.slice x30.a x30.n x30.c, .slice (some ⟨b31, 0, none⟩) 1 1]) (.one (.l .slice)) fun (r32 : Slc) =>
 st (fa (⟨b10, 0, none⟩) 1) [.slice r32.a r32.n r32.c] <|
 X21 (IntKind.wrap .i64 (u22.1 + 1), ()))
 (X21 (IntKind.wrap .i64 (u22.1 + 1), ())))
 (X21 (IntKind.wrap .i64 (u22.1 + 1), ())))
 (call Tryz.prog 57 [.slice r3.a r3.n r3.c] (.one (.l .slice)) fun (r24 : Slc) =>
 st (fa (⟨b10, 0, none⟩) 3) [.slice r24.a r24.n r24.c] <|
 ld (.g [.slice, .slice, .slice, .slice]) (⟨b10, 0, none⟩) fun (x25 : LTs _) =>
 st (⟨b2, 0, none⟩) [.slice x25.1.a x25.1.n x25.1.c, .slice x25.2.1.a x25.2.1.n x25.2.1.c, .slice x25.2.2.1.a x25.2.2.1.n x25.2.2.1.c, .slice x25.2.2.2.1.a x25.2.2.2.1.n x25.2.2.2.1.c] <|
 ld (.g [.slice, .slice, .slice, .slice]) (⟨b2, 0, none⟩) fun (x26 : LTs _) =>
 ret (.agg #[.slice x26.1.a x26.1.n x26.1.c, .slice x26.2.1.a x26.2.1.n x26.2.1.c, .slice x26.2.2.1.a x26.2.2.1.n x26.2.2.1.c, .slice x26.2.2.2.1.a x26.2.2.2.1.n x26.2.2.2.1.c]))) (0, ()))) (0, ()))
 (nw 3 [.int .i64 r9] fun b10 =>
 call Tryz.prog 52 [.slice r3.a r3.n r3.c, .pointer p0, .slice (some ⟨b10, 0, none⟩) 1 1] (.many []) fun (r11 : KTs _) =>
 X6 (()))) (())
theorem F.gloamingref9.Process.calls (p0 : Option Addr) (p1 : LTs [.slice, .slice, .int .i64, .int .i64, .int .i64, .bool, .int .i64]) (h : F.gloamingref9.Process p0 p1 Q w) : Calls Tryz.prog 19 #[.pointer p0, .agg #[.slice p1.1.a p1.1.n p1.1.c, .slice p1.2.1.a p1.2.1.n p1.2.1.c, .int .i64 p1.2.2.1, .int .i64 p1.2.2.2.1, .int .i64 p1.2.2.2.2.1, .bool p1.2.2.2.2.2.1, .int .i64 p1.2.2.2.2.2.2.1]] w (RetQ Q) :=
 Tryz.cd F.gloamingref9.Process.T Tryz.func19 (by kernel_rfl) (es := [.va (.pointer p0), .va (.agg #[.slice p1.1.a p1.1.n p1.1.c, .slice p1.2.1.a p1.2.1.n p1.2.1.c, .int .i64 p1.2.2.1, .int .i64 p1.2.2.2.1, .int .i64 p1.2.2.2.2.1, .bool p1.2.2.2.2.2.1, .int .i64 p1.2.2.2.2.2.2.1])]) rfl (by kernel_rfl) h
def F.gloamingref9.SameObjs.T : Tabs := ⟨(fun
 | 4 => [(5, .int .i64)]
 | _ => []),
 fun _ => none,
 (fun
 | 6 => .tail 35
 | _ => .quiet)⟩
def F.gloamingref9.SameObjs (p0 : Slc) (p1 : Slc) : Tree :=
 br (((p0.n : Nat) : Int) != (p1.n : Nat))
 (ret (.bool false))
 (lp [.int .i64] (fun X1 u2 =>
 br (decide ((u2.1 : Int) < (p0.n : Nat)))
 (drw <|
 ix p0.a p0.n u2.1 6 fun a3 =>
 ld (.l (.int .i64)) (fa a3 0) fun (x4 : Int) =>
 ix p1.a p1.n u2.1 6 fun a5 =>
 ld (.l (.int .i64)) (fa a5 0) fun (x6 : Int) =>
 br ((x4 : Int) != x6)
 (ret (.bool false))
 (ix p0.a p0.n u2.1 6 fun a7 =>
 ld (.g [.int .i64, .int .i64, .int .i64, .bool]) (fa a7 1) fun (x8 : LTs _) =>
 ix p1.a p1.n u2.1 6 fun a9 =>
 ld (.g [.int .i64, .int .i64, .int .i64, .bool]) (fa a9 1) fun (x10 : LTs _) =>
 br (!(((x8.1 : Int) == x10.1) && (((x8.2.1 : Int) == x10.2.1) && (((x8.2.2.1 : Int) == x10.2.2.1) && ((x8.2.2.2.1 == x10.2.2.2.1) && true)))))
 (ret (.bool false))
 (ix p0.a p0.n u2.1 6 fun a11 =>
 ld (.l .slice) (fa a11 5) fun (x12 : Slc) =>
 ix p1.a p1.n u2.1 6 fun a13 =>
 ld (.l .slice) (fa a13 5) fun (x14 : Slc) =>
 call Tryz.prog 30 [.slice x12.a x12.n x12.c, .slice x14.a x14.n x14.c] (.one (.l .bool)) fun (r15 : Bool) =>
 br (!r15)
 (ret (.bool false))
 (X1 (IntKind.wrap .i64 (u2.1 + 1), ())))))
 (ret (.bool true))) (0, ()))
theorem F.gloamingref9.SameObjs.calls (p0 : Slc) (p1 : Slc) (h : F.gloamingref9.SameObjs p0 p1 Q w) : Calls Tryz.prog 20 #[.slice p0.a p0.n p0.c, .slice p1.a p1.n p1.c] w (RetQ Q) :=
 Tryz.cd F.gloamingref9.SameObjs.T Tryz.func20 (by kernel_rfl) (es := [.va (.slice p0.a p0.n p0.c), .va (.slice p1.a p1.n p1.c)]) rfl (by kernel_rfl) h
def F.gloamingref9.Heap.Objects.T : Tabs := ⟨(fun
 | 4 => [(3, .slice), (5, .int .i64)]
 | _ => []),
 fun _ => none,
 (fun
 | 7 => .held (some 32) (.go 0 false (.go 1 false (.go 2 false (.go 3 false (.go 4 false (.go 5 false (.go 6 false (.go 8 false (.go 9 false (.go 10 false (.go 11 false (.go 12 false (.go 13 false (.go 14 false (.go 15 false (.go 16 false (.go 17 false (.go 18 false (.go 19 false (.go 20 false (.go 21 false (.go 22 false (.go 23 false (.go 24 false (.go 25 false (.go 26 false (.go 27 false (.go 28 false (.go 29 false (.go 7 false (.go 30 false (.go 31 false (.go 32 true (.go 33 false (.go 34 false .nil)))))))))))))))))))))))))))))))))))
 | _ => .quiet)⟩
def F.gloamingref9.Heap.Objects (p0 : Option Addr) : Tree :=
 nn p0 fun a1 =>
 ld (.l .ptr) (fa a1 0) fun (x2 : Option Addr) =>
 call Tryz.prog 59 [.pointer x2] (.one (.l .slice)) fun (r3 : Slc) =>
 lp [.slice, .int .i64] (fun X4 u5 =>
 br (decide ((u5.2.1 : Int) < (r3.n : Nat)))
 (ix r3.a r3.n u5.2.1 1 fun a6 =>
 ld (.l (.int .i64)) a6 fun (x7 : Int) =>
 call Tryz.prog 55 [.pointer p0, .int .i64 x7] (.one (.g [.int .i64, .int .i64, .int .i64, .bool, .bool])) fun (r8 : LTs _) =>
 nw 109 (zc Tryz.prog 109) fun b9 =>
 st (⟨b9, 0, none⟩) [.int .i64 r8.1, .int .i64 r8.2.1, .int .i64 r8.2.2.1, .bool r8.2.2.2.1, .bool r8.2.2.2.2.1] <|
 drw <| held fun S10 =>
 ix r3.a r3.n u5.2.1 1 fun a11 =>
 ldS S10 (.l (.int .i64)) a11 fun (x12 : Int) =>
 ldS S10 (.g [.int .i64, .int .i64, .int .i64, .bool]) (fa (⟨b9, 0, none⟩) 0) fun (x13 : LTs _) =>
 nn p0 fun a14 =>
 ldS S10 (.l .ptr) (fa a14 0) fun (x15 : Option Addr) =>
 nn x15 fun a16 =>
 ldS S10 (.l .slice) (fa a16 0) fun (x17 : Slc) =>
 ix r3.a r3.n u5.2.1 1 fun a18 =>
 ldS S10 (.l (.int .i64)) a18 fun (x19 : Int) =>
 ix r3.a r3.n u5.2.1 1 fun a20 =>
 ldS S10 (.l (.int .i64)) a20 fun (x21 : Int) =>
 ldS S10 (.l (.int .i64)) (fa (fa (⟨b9, 0, none⟩) 0) 2) fun (x22 : Int) =>
 slc x17.a x17.c (IntKind.wrap .i64 (x19 + 1)) (IntKind.wrap .i64 ((IntKind.wrap .i64 (x21 + 1)) + x22)) 1 fun s23 =>
 nw 3 [] fun b24 =>
 chk S10 <|
 opr Tryz.prog (Builtin.append_ #[24, 24] 24 #[.slice (some ⟨b24, 0, none⟩) 0 0, .slice s23.a s23.n s23.c]) (.one (.l .slice)) fun (r25 : Slc) =>
 chk S10 <|
 nw 113 [.int .i64 x12, .int .i64 x13.1, .int .i64 x13.2.1, .int .i64 x13.2.2.1, .bool x13.2.2.2.1, .slice r25.a r25.n r25.c] fun b26 =>
 opr Tryz.prog (Builtin.append_ #[42, 42] 42 #[.slice u5.1.a u5.1.n u5.1.c, .slice (some ⟨b26, 0, none⟩) 1 1]) (.one (.l .slice)) fun (r27 : Slc) =>
 X4 (⟨r27.a, r27.n, r27.c⟩, IntKind.wrap .i64 (u5.2.1 + 1), ()))
 (ret (.slice u5.1.a u5.1.n u5.1.c))) (⟨none, 0, 0⟩, 0, ())
theorem F.gloamingref9.Heap.Objects.calls (p0 : Option Addr) (h : F.gloamingref9.Heap.Objects p0 Q w) : Calls Tryz.prog 22 #[.pointer p0] w (RetQ Q) :=
 Tryz.cd F.gloamingref9.Heap.Objects.T Tryz.func22 (by kernel_rfl) (es := [.va (.pointer p0)]) rfl (by kernel_rfl) h
def F.gloamingref9.NewHeap (p0 : Int) : Tree :=
 call Tryz.prog 73 [.int .i64 p0] (.one (.l .ptr)) fun (r1 : Option Addr) =>
 nw 117 [.pointer r1, .slice none 0 0] fun b2 =>
 ret (.pointer (some (⟨b2, 0, none⟩)))
theorem F.gloamingref9.NewHeap.calls (p0 : Int) (h : F.gloamingref9.NewHeap p0 Q w) : Calls Tryz.prog 38 #[.int .i64 p0] w (RetQ Q) :=
 Tryz.cd Tabs.z Tryz.func38 (by kernel_rfl) (es := [.va (.int .i64 p0)]) rfl (by kernel_rfl) h
def F.gloamingref9.Heap.Add.T : Tabs := ⟨fun _ => [],
 fun _ => none,
 (fun
 | 5 => .held (some 13) (.go 0 false (.go 1 false (.go 2 false (.go 3 false (.go 4 false (.go 5 false (.go 6 false (.go 8 false (.go 9 false (.go 7 false (.go 10 false (.go 11 false (.go 12 false (.go 13 true (.go 14 false (.go 15 false (.go 16 false .nil)))))))))))))))))
 | _ => .quiet)⟩
def F.gloamingref9.Heap.Add (p0 : Option Addr) (p1 : LTs [.int .i64, .slice]) : Tree :=
 nw 83 [.int .i64 p1.1, .slice p1.2.1.a p1.2.1.n p1.2.1.c] fun b1 =>
 nw 80 (zc Tryz.prog 80) fun b2 =>
 ld (.g [.int .i64, .slice]) (⟨b1, 0, none⟩) fun (x3 : LTs _) =>
 call Tryz.prog 74 [.agg #[.int .i64 x3.1, .slice x3.2.1.a x3.2.1.n x3.2.1.c]] (.one (.l .bool)) fun (r4 : Bool) =>
 br (!r4)
 (st (⟨b2, 0, none⟩) [.int .i64 0, .int .i64 1] <|
 ld (.g [.int .i64, .int .i64]) (⟨b2, 0, none⟩) fun (x5 : LTs _) =>
 ret (.agg #[.int .i64 x5.1, .int .i64 x5.2.1]))
 (nn p0 fun a5 =>
 ld (.l .slice) (fa a5 1) fun (x6 : Slc) =>
 br (decide (((x6.n : Nat) : Int) ≥ 256))
 (st (⟨b2, 0, none⟩) [.int .i64 0, .int .i64 3] <|
 ld (.g [.int .i64, .int .i64]) (⟨b2, 0, none⟩) fun (x7 : LTs _) =>
 ret (.agg #[.int .i64 x7.1, .int .i64 x7.2.1]))
 (drw <| held fun S7 =>
 nn p0 fun a8 =>
 ldS S7 (.l .slice) (fa a8 1) fun (x9 : Slc) =>
 ldS S7 (.l (.int .i64)) (fa (⟨b1, 0, none⟩) 0) fun (x10 : Int) =>
 ldS S7 (.l .slice) (fa (⟨b1, 0, none⟩) 1) fun (x11 : Slc) =>
 nw 3 [] fun b12 =>
 chk S7 <|
 opr Tryz.prog (Builtin.append_ #[24, 24] 24 #[.slice (some ⟨b12, 0, none⟩) 0 0, .slice x11.a x11.n x11.c]) (.one (.l .slice)) fun (r13 : Slc) =>
 chk S7 <|
 nw 83 [.int .i64 x10, .slice r13.a r13.n r13.c] fun b14 =>
 chk S7 <|
 opr Tryz.prog (Builtin.append_ #[115, 115] 115 #[.slice x9.a x9.n x9.c, .slice (some ⟨b14, 0, none⟩) 1 1]) (.one (.l .slice)) fun (r15 : Slc) =>
 nn p0 fun a16 =>
 st (fa a16 1) [.slice r15.a r15.n r15.c] <|
 nn p0 fun a17 =>
 ld (.l .slice) (fa a17 1) fun (x18 : Slc) =>
 st (⟨b2, 0, none⟩) [.int .i64 (x18.n : Nat), .int .i64 0] <|
 ld (.g [.int .i64, .int .i64]) (⟨b2, 0, none⟩) fun (x19 : LTs _) =>
 ret (.agg #[.int .i64 x19.1, .int .i64 x19.2.1])))
theorem F.gloamingref9.Heap.Add.calls (p0 : Option Addr) (p1 : LTs [.int .i64, .slice]) (h : F.gloamingref9.Heap.Add p0 p1 Q w) : Calls Tryz.prog 39 #[.pointer p0, .agg #[.int .i64 p1.1, .slice p1.2.1.a p1.2.1.n p1.2.1.c]] w (RetQ Q) :=
 Tryz.cd F.gloamingref9.Heap.Add.T Tryz.func39 (by kernel_rfl) (es := [.va (.pointer p0), .va (.agg #[.int .i64 p1.1, .slice p1.2.1.a p1.2.1.n p1.2.1.c])]) rfl (by kernel_rfl) h
def F.gloamingref9.Heap.Make.T : Tabs := ⟨fun _ => [],
 fun _ => none,
 (fun
 | 4 => .held (some 7) (.go 0 false (.go 1 false (.go 2 false (.go 3 false (.go 4 false (.go 5 false (.go 6 false (.two (.go 7 true (.go 8 false (.go 9 false .nil))) (.go 8 false (.go 7 true (.go 9 false .nil)))))))))))
 | 6 => .held (some 12) (.go 0 false (.go 1 false (.go 2 false (.go 3 false (.go 4 false (.go 5 false (.go 6 false (.go 7 false (.go 8 false (.go 9 false (.go 10 false (.go 11 false (.go 12 true .nil)))))))))))))
 | _ => .quiet)⟩
def F.gloamingref9.Heap.Make (p0 : Option Addr) (p1 : LTs [.int .i64, .int .i64, .int .i64, .bool]) : Tree :=
 nw 49 [.int .i64 p1.1, .int .i64 p1.2.1, .int .i64 p1.2.2.1, .bool p1.2.2.2.1] fun b1 =>
 nw 80 (zc Tryz.prog 80) fun b2 =>
 ld (.g [.int .i64, .int .i64, .int .i64, .bool]) (⟨b1, 0, none⟩) fun (x3 : LTs _) =>
 call Tryz.prog 75 [.pointer p0, .agg #[.int .i64 x3.1, .int .i64 x3.2.1, .int .i64 x3.2.2.1, .bool x3.2.2.2.1]] (.one (.l (.int .i64))) fun (r4 : Int) =>
 br ((r4 : Int) != 0)
 (st (⟨b2, 0, none⟩) [.int .i64 0, .int .i64 r4] <|
 ld (.g [.int .i64, .int .i64]) (⟨b2, 0, none⟩) fun (x5 : LTs _) =>
 ret (.agg #[.int .i64 x5.1, .int .i64 x5.2.1]))
 (drw <| held fun S5 =>
 nn p0 fun a6 =>
 ldS S5 (.l .ptr) (fa a6 0) fun (x7 : Option Addr) =>
 ldS S5 (.l (.int .i64)) (fa (⟨b1, 0, none⟩) 2) fun (x8 : Int) =>
 both
 (call Tryz.prog 76 [.pointer x7, .int .i64 (IntKind.wrap .i64 (x8 + 1))] (.one (.g [.int .i64, .int .i64])) fun (r9 : LTs _) =>
 nw 80 (zc Tryz.prog 80) fun b10 =>
 st (⟨b10, 0, none⟩) [.int .i64 r9.1, .int .i64 r9.2.1] <|
 ld (.l (.int .i64)) (fa (⟨b10, 0, none⟩) 1) fun (x11 : Int) =>
 br ((x11 : Int) == 0)
 (drw <| held fun S12 =>
 nn p0 fun a13 =>
 ldS S12 (.l .ptr) (fa a13 0) fun (x14 : Option Addr) =>
 nn x14 fun a15 =>
 ldS S12 (.l .slice) (fa a15 0) fun (x16 : Slc) =>
 ldS S12 (.l (.int .i64)) (fa (⟨b10, 0, none⟩) 0) fun (x17 : Int) =>
 ldS S12 (.g [.int .i64, .int .i64, .int .i64, .bool]) (⟨b1, 0, none⟩) fun (x18 : LTs _) =>
 call Tryz.prog 77 [.agg #[.int .i64 x18.1, .int .i64 x18.2.1, .int .i64 x18.2.2.1, .bool x18.2.2.2.1]] (.one (.l (.int .i64))) fun (r19 : Int) =>
 chk S12 <|
 ix x16.a x16.n x17 1 fun a20 =>
 st a20 [.int .i64 r19] <|
 ld (.g [.int .i64, .int .i64]) (⟨b10, 0, none⟩) fun (x21 : LTs _) =>
 st (⟨b2, 0, none⟩) [.int .i64 x21.1, .int .i64 x21.2.1] <|
 ld (.g [.int .i64, .int .i64]) (⟨b2, 0, none⟩) fun (x22 : LTs _) =>
 ret (.agg #[.int .i64 x22.1, .int .i64 x22.2.1]))
 (ld (.g [.int .i64, .int .i64]) (⟨b10, 0, none⟩) fun (x12 : LTs _) =>
 st (⟨b2, 0, none⟩) [.int .i64 x12.1, .int .i64 x12.2.1] <|
 ld (.g [.int .i64, .int .i64]) (⟨b2, 0, none⟩) fun (x13 : LTs _) =>
 ret (.agg #[.int .i64 x13.1, .int .i64 x13.2.1])))
 (nw 80 (zc Tryz.prog 80) fun b14 =>
 chk S5 <|
 call Tryz.prog 76 [.pointer x7, .int .i64 (IntKind.wrap .i64 (x8 + 1))] (.one (.g [.int .i64, .int .i64])) fun (r15 : LTs _) =>
 st (⟨b14, 0, none⟩) [.int .i64 r15.1, .int .i64 r15.2.1] <|
 ld (.l (.int .i64)) (fa (⟨b14, 0, none⟩) 1) fun (x16 : Int) =>
 br ((x16 : Int) == 0)
 (drw <| held fun S17 =>
 nn p0 fun a18 =>
 ldS S17 (.l .ptr) (fa a18 0) fun (x19 : Option Addr) =>
 nn x19 fun a20 =>
 ldS S17 (.l .slice) (fa a20 0) fun (x21 : Slc) =>
 ldS S17 (.l (.int .i64)) (fa (⟨b14, 0, none⟩) 0) fun (x22 : Int) =>
 ldS S17 (.g [.int .i64, .int .i64, .int .i64, .bool]) (⟨b1, 0, none⟩) fun (x23 : LTs _) =>
 call Tryz.prog 77 [.agg #[.int .i64 x23.1, .int .i64 x23.2.1, .int .i64 x23.2.2.1, .bool x23.2.2.2.1]] (.one (.l (.int .i64))) fun (r24 : Int) =>
 chk S17 <|
 ix x21.a x21.n x22 1 fun a25 =>
 st a25 [.int .i64 r24] <|
 ld (.g [.int .i64, .int .i64]) (⟨b14, 0, none⟩) fun (x26 : LTs _) =>
 st (⟨b2, 0, none⟩) [.int .i64 x26.1, .int .i64 x26.2.1] <|
 ld (.g [.int .i64, .int .i64]) (⟨b2, 0, none⟩) fun (x27 : LTs _) =>
 ret (.agg #[.int .i64 x27.1, .int .i64 x27.2.1]))
 (ld (.g [.int .i64, .int .i64]) (⟨b14, 0, none⟩) fun (x17 : LTs _) =>
 st (⟨b2, 0, none⟩) [.int .i64 x17.1, .int .i64 x17.2.1] <|
 ld (.g [.int .i64, .int .i64]) (⟨b2, 0, none⟩) fun (x18 : LTs _) =>
 ret (.agg #[.int .i64 x18.1, .int .i64 x18.2.1]))))
theorem F.gloamingref9.Heap.Make.calls (p0 : Option Addr) (p1 : LTs [.int .i64, .int .i64, .int .i64, .bool]) (h : F.gloamingref9.Heap.Make p0 p1 Q w) : Calls Tryz.prog 40 #[.pointer p0, .agg #[.int .i64 p1.1, .int .i64 p1.2.1, .int .i64 p1.2.2.1, .bool p1.2.2.2.1]] w (RetQ Q) :=
 Tryz.cd F.gloamingref9.Heap.Make.T Tryz.func40 (by kernel_rfl) (es := [.va (.pointer p0), .va (.agg #[.int .i64 p1.1, .int .i64 p1.2.1, .int .i64 p1.2.2.1, .bool p1.2.2.2.1])]) rfl (by kernel_rfl) h
def F.gloamingref9.Heap.Put (p0 : Option Addr) (p1 : Int) (p2 : Int) (p3 : Int) : Tree :=
 call Tryz.prog 56 [.pointer p0, .int .i64 p1, .int .i64 p2] (.one (.g [.int .i64, .int .i64])) fun (r1 : LTs _) =>
 nw 80 (zc Tryz.prog 80) fun b2 =>
 st (⟨b2, 0, none⟩) [.int .i64 r1.1, .int .i64 r1.2.1] <|
 ld (.l (.int .i64)) (fa (⟨b2, 0, none⟩) 1) fun (x3 : Int) =>
 br ((x3 : Int) == 0)
 (nn p0 fun a4 =>
 ld (.l .ptr) (fa a4 0) fun (x5 : Option Addr) =>
 nn x5 fun a6 =>
 ld (.l .slice) (fa a6 0) fun (x7 : Slc) =>
 ix x7.a x7.n (IntKind.wrap .i64 ((IntKind.wrap .i64 (p1 + 1)) + p2)) 1 fun a8 =>
 st a8 [.int .i64 p3] <|
 ld (.l (.int .i64)) (fa (⟨b2, 0, none⟩) 1) fun (x9 : Int) =>
 ret (.int .i64 x9))
 (ld (.l (.int .i64)) (fa (⟨b2, 0, none⟩) 1) fun (x4 : Int) =>
 ret (.int .i64 x4))
theorem F.gloamingref9.Heap.Put.calls (p0 : Option Addr) (p1 : Int) (p2 : Int) (p3 : Int) (h : F.gloamingref9.Heap.Put p0 p1 p2 p3 Q w) : Calls Tryz.prog 41 #[.pointer p0, .int .i64 p1, .int .i64 p2, .int .i64 p3] w (RetQ Q) :=
 Tryz.cd Tabs.z Tryz.func41 (by kernel_rfl) (es := [.va (.pointer p0), .va (.int .i64 p1), .va (.int .i64 p2), .va (.int .i64 p3)]) rfl (by kernel_rfl) h
def F.gloamingref9.NewMarks (p0 : Option Addr) : Tree :=
 nn p0 fun a1 =>
 ld (.l .ptr) (fa a1 0) fun (x2 : Option Addr) =>
 nn x2 fun a3 =>
 ld (.l .slice) (fa a3 0) fun (x4 : Slc) =>
 opr Tryz.prog (Instr.makeSlice 103 (.int .i64 (x4.n : Nat)) (.int .i64 (x4.n : Nat))) (.one (.l .slice)) fun (r5 : Slc) =>
 ret (.slice r5.a r5.n r5.c)
theorem F.gloamingref9.NewMarks.calls (p0 : Option Addr) (h : F.gloamingref9.NewMarks p0 Q w) : Calls Tryz.prog 51 #[.pointer p0] w (RetQ Q) :=
 Tryz.cd Tabs.z Tryz.func51 (by kernel_rfl) (es := [.va (.pointer p0)]) rfl (by kernel_rfl) h
def F.gloamingref9.Marks.Mark.T : Tabs := ⟨(fun
 | 2 => [(6, .slice), (7, .int .i64)]
 | 9 => [(6, .slice), (10, .int .i64)]
 | _ => []),
 fun _ => none,
 fun _ => .quiet⟩
def F.gloamingref9.Marks.Mark (p0 : Slc) (p1 : Option Addr) (p2 : Slc) : Tree :=
 nw 3 [] fun b1 =>
 opr Tryz.prog (Builtin.append_ #[24, 24] 24 #[.slice (some ⟨b1, 0, none⟩) 0 0, .slice p2.a p2.n p2.c]) (.one (.l .slice)) fun (r2 : Slc) =>
 lp [.slice, .int .i64] (fun X3 u4 =>
 br (decide ((u4.2.1 : Int) < (u4.1.n : Nat)))
 (ix u4.1.a u4.1.n u4.2.1 1 fun a5 =>
 ld (.l (.int .i64)) a5 fun (x6 : Int) =>
 call Tryz.prog 55 [.pointer p1, .int .i64 x6] (.one (.g [.int .i64, .int .i64, .int .i64, .bool, .bool])) fun (r7 : LTs _) =>
 br (!r7.2.2.2.2.1)
 (X3 (⟨u4.1.a, u4.1.n, u4.1.c⟩, IntKind.wrap .i64 (u4.2.1 + 1), ()))
 (ix p0.a p0.n x6 1 fun a8 =>
 ld (.l .bool) a8 fun (x9 : Bool) =>
 br x9
 (X3 (⟨u4.1.a, u4.1.n, u4.1.c⟩, IntKind.wrap .i64 (u4.2.1 + 1), ()))
 (ix p0.a p0.n x6 1 fun a10 =>
 st a10 [.bool true] <|
 call Tryz.prog 96 [.pointer p1, .int .i64 x6] (.one (.l .slice)) fun (r11 : Slc) =>
 lp [.slice, .int .i64] (fun X12 u13 =>
 br (decide ((u13.2.1 : Int) < (r11.n : Nat)))
 (ix r11.a r11.n u13.2.1 1 fun a14 =>
 ld (.l (.int .i64)) a14 fun (x15 : Int) =>
 call Tryz.prog 56 [.pointer p1, .int .i64 x6, .int .i64 x15] (.one (.g [.int .i64, .int .i64])) fun (r16 : LTs _) =>
 nw 3 [.int .i64 r16.1] fun b17 =>
 opr Tryz.prog (Builtin.append_ #[24, 24] 24 #[.slice u13.1.a u13.1.n u13.1.c, .slice (some ⟨b17, 0, none⟩) 1 1]) (.one (.l .slice)) fun (r18 : Slc) =>
 X12 (⟨r18.a, r18.n, r18.c⟩, IntKind.wrap .i64 (u13.2.1 + 1), ()))
 (X3 (⟨u13.1.a, u13.1.n, u13.1.c⟩, IntKind.wrap .i64 (u4.2.1 + 1), ()))) (⟨u4.1.a, u4.1.n, u4.1.c⟩, 0, ()))))
 (ret (.tuple #[]))) (⟨r2.a, r2.n, r2.c⟩, 0, ())
theorem F.gloamingref9.Marks.Mark.calls (p0 : Slc) (p1 : Option Addr) (p2 : Slc) (h : F.gloamingref9.Marks.Mark p0 p1 p2 Q w) : Calls Tryz.prog 52 #[.slice p0.a p0.n p0.c, .pointer p1, .slice p2.a p2.n p2.c] w (RetQ Q) :=
 Tryz.cd F.gloamingref9.Marks.Mark.T Tryz.func52 (by kernel_rfl) (es := [.va (.slice p0.a p0.n p0.c), .va (.pointer p1), .va (.slice p2.a p2.n p2.c)]) rfl (by kernel_rfl) h
def F.gloamingref9.Marks.softly.T : Tabs := ⟨(fun
 | 3 => [(8, .int .i64)]
 | _ => []),
 fun _ => none,
 (fun
 | 8 => .held (some 22) (.go 0 false (.go 1 false (.go 2 false (.cut (.go 3 false (.go 4 false (.go 5 false (.go 6 false (.go 7 false (.go 8 false (.go 9 false (.go 10 false (.go 11 false (.go 12 false (.go 13 false (.go 14 false (.go 15 false (.go 16 false (.go 17 false (.go 18 false (.go 19 false (.go 20 false (.go 21 false (.go 22 true (.go 23 false .nil)))))))))))))))))))))))))
 | _ => .quiet)⟩
def F.gloamingref9.Marks.softly (p0 : Slc) (p1 : Option Addr) (p2 : LTs [.slice, .slice, .int .i64, .int .i64, .int .i64, .bool, .int .i64]) : Tree :=
 nw 31 [.slice p2.1.a p2.1.n p2.1.c, .slice p2.2.1.a p2.2.1.n p2.2.1.c, .int .i64 p2.2.2.1, .int .i64 p2.2.2.2.1, .int .i64 p2.2.2.2.2.1, .bool p2.2.2.2.2.2.1, .int .i64 p2.2.2.2.2.2.2.1] fun b1 =>
 call Tryz.prog 22 [.pointer p1] (.one (.l .slice)) fun (r2 : Slc) =>
 lp [.int .i64] (fun X3 u4 =>
 br (decide ((u4.1 : Int) < (r2.n : Nat)))
 (ix r2.a r2.n u4.1 6 fun a5 =>
 ld (.g [.int .i64, .int .i64, .int .i64, .int .i64, .bool, .slice]) a5 fun (x6 : LTs _) =>
 nw 113 (zc Tryz.prog 113) fun b7 =>
 st (⟨b7, 0, none⟩) [.int .i64 x6.1, .int .i64 x6.2.1, .int .i64 x6.2.2.1, .int .i64 x6.2.2.2.1, .bool x6.2.2.2.2.1, .slice x6.2.2.2.2.2.1.a x6.2.2.2.2.2.1.n x6.2.2.2.2.2.1.c] <|
 ld (.l (.int .i64)) (fa (⟨b7, 0, none⟩) 0) fun (x8 : Int) =>
 ix p0.a p0.n x8 1 fun a9 =>
 ld (.l .bool) a9 fun (x10 : Bool) =>
 br (!x10)
 (X3 (IntKind.wrap .i64 (u4.1 + 1), ()))
 (ld (.l (.int .i64)) (fa (fa (⟨b7, 0, none⟩) 1) 0) fun (x11 : Int) =>
 br ((x11 : Int) != 4)
 (X3 (IntKind.wrap .i64 (u4.1 + 1), ()))
 (ld (.l (.int .i64)) (fa (fa (⟨b7, 0, none⟩) 1) 1) fun (x12 : Int) =>
 br ((x12 : Int) != 1)
 (X3 (IntKind.wrap .i64 (u4.1 + 1), ()))
 (ld (.l .bool) (fa (⟨b1, 0, none⟩) 5) fun (x13 : Bool) =>
 br x13
 (X3 (IntKind.wrap .i64 (u4.1 + 1), ()))
 (ld (.l .slice) (fa (⟨b7, 0, none⟩) 5) fun (x14 : Slc) =>
 ix x14.a x14.n 0 1 fun a15 =>
 ld (.l (.int .i64)) a15 fun (x16 : Int) =>
 drw <| held fun S17 =>
 call Tryz.prog 55 [.pointer p1, .int .i64 x16] (.one (.g [.int .i64, .int .i64, .int .i64, .bool, .bool])) fun (r18 : LTs _) =>
 chk S17 <|
 narrow S17 fun S19 =>
 br r18.2.2.2.2.1
 (ix p0.a p0.n x16 1 fun a20 =>
 ldS S19 (.l .bool) a20 fun (x21 : Bool) =>
 br (!x21)
 (ldS S19 (.l (.int .i64)) (fa (⟨b1, 0, none⟩) 2) fun (x22 : Int) =>
 ldS S19 (.l .slice) (fa (⟨b7, 0, none⟩) 5) fun (x23 : Slc) =>
 ix x23.a x23.n 3 1 fun a24 =>
 ldS S19 (.l (.int .i64)) a24 fun (x25 : Int) =>
 ldS S19 (.l (.int .i64)) (fa (⟨b1, 0, none⟩) 3) fun (x26 : Int) =>
 ldS S19 (.l (.int .i64)) (fa (⟨b1, 0, none⟩) 4) fun (x27 : Int) =>
 call Tryz.prog 97 [.int .i64 x22, .int .i64 x25, .int .i64 x26, .int .i64 x27] (.one (.l .bool)) fun (r28 : Bool) =>
 br r28
 (ret (.int .i64 x16))
 (X3 (IntKind.wrap .i64 (u4.1 + 1), ())))
 (X3 (IntKind.wrap .i64 (u4.1 + 1), ())))
 (X3 (IntKind.wrap .i64 (u4.1 + 1), ())))))))
 (ret (.int .i64 0))) (0, ())
theorem F.gloamingref9.Marks.softly.calls (p0 : Slc) (p1 : Option Addr) (p2 : LTs [.slice, .slice, .int .i64, .int .i64, .int .i64, .bool, .int .i64]) (h : F.gloamingref9.Marks.softly p0 p1 p2 Q w) : Calls Tryz.prog 53 #[.slice p0.a p0.n p0.c, .pointer p1, .agg #[.slice p2.1.a p2.1.n p2.1.c, .slice p2.2.1.a p2.2.1.n p2.2.1.c, .int .i64 p2.2.2.1, .int .i64 p2.2.2.2.1, .int .i64 p2.2.2.2.2.1, .bool p2.2.2.2.2.2.1, .int .i64 p2.2.2.2.2.2.2.1]] w (RetQ Q) :=
 Tryz.cd F.gloamingref9.Marks.softly.T Tryz.func53 (by kernel_rfl) (es := [.va (.slice p0.a p0.n p0.c), .va (.pointer p1), .va (.agg #[.slice p2.1.a p2.1.n p2.1.c, .slice p2.2.1.a p2.2.1.n p2.2.1.c, .int .i64 p2.2.2.1, .int .i64 p2.2.2.2.1, .int .i64 p2.2.2.2.2.1, .bool p2.2.2.2.2.2.1, .int .i64 p2.2.2.2.2.2.2.1])]) rfl (by kernel_rfl) h
def F.gloamingref9.Marks.bySerial.T : Tabs := ⟨(fun
 | 4 => [(9, .slice), (11, .int .i64)]
 | 11 => [(14, .int .i64)]
 | _ => []),
 (fun
 | 13 => some [(14, .int .i64)]
 | _ => none),
 (fun
 | 11 => .held none (.go 0 false (.go 1 false (.go 2 false (.go 3 false (.go 4 false (.go 5 false (.go 6 false (.go 7 false (.go 8 false (.go 9 false (.go 12 false (.go 13 false (.go 14 false (.go 15 false (.go 10 false (.go 11 false (.go 16 false (.go 17 false .nil))))))))))))))))))
 | 13 => .held (some 7) (.go 1 false (.go 2 false (.go 3 false (.go 5 false (.go 6 false (.go 9 false (.go 10 false (.go 11 false (.two (.go 0 false (.two (.go 4 false (.go 7 true (.go 8 false (.go 12 false (.go 13 false .nil))))) (.go 7 true (.go 4 false (.go 8 false (.go 12 false (.go 13 false .nil))))))) (.go 7 true (.go 0 false (.go 4 false (.go 8 false (.go 12 false (.go 13 false .nil)))))))))))))))
 | _ => .quiet)⟩
def F.gloamingref9.Marks.bySerial (p0 : Slc) (p1 : Option Addr) (p2 : Int) (p3 : Int) : Tree :=
 call Tryz.prog 22 [.pointer p1] (.one (.l .slice)) fun (r1 : Slc) =>
 lp [.slice, .int .i64] (fun X2 u3 =>
 br (decide ((u3.2.1 : Int) < (r1.n : Nat)))
 (ix r1.a r1.n u3.2.1 6 fun a4 =>
 ld (.g [.int .i64, .int .i64, .int .i64, .int .i64, .bool, .slice]) a4 fun (x5 : LTs _) =>
 nw 113 (zc Tryz.prog 113) fun b6 =>
 st (⟨b6, 0, none⟩) [.int .i64 x5.1, .int .i64 x5.2.1, .int .i64 x5.2.2.1, .int .i64 x5.2.2.2.1, .bool x5.2.2.2.2.1, .slice x5.2.2.2.2.2.1.a x5.2.2.2.2.2.1.n x5.2.2.2.2.2.1.c] <|
 ld (.l (.int .i64)) (fa (fa (⟨b6, 0, none⟩) 1) 0) fun (x7 : Int) =>
 br ((x7 : Int) != 4)
 (X2 (⟨u3.1.a, u3.1.n, u3.1.c⟩, IntKind.wrap .i64 (u3.2.1 + 1), ()))
 (ld (.l (.int .i64)) (fa (fa (⟨b6, 0, none⟩) 1) 1) fun (x8 : Int) =>
 br (decide ((x8 : Int) < p2))
 (X2 (⟨u3.1.a, u3.1.n, u3.1.c⟩, IntKind.wrap .i64 (u3.2.1 + 1), ()))
 (ld (.l (.int .i64)) (fa (fa (⟨b6, 0, none⟩) 1) 1) fun (x9 : Int) =>
 br (decide ((x9 : Int) > p3))
 (X2 (⟨u3.1.a, u3.1.n, u3.1.c⟩, IntKind.wrap .i64 (u3.2.1 + 1), ()))
 (ld (.l .slice) (fa (⟨b6, 0, none⟩) 5) fun (x10 : Slc) =>
 ix x10.a x10.n 0 1 fun a11 =>
 ld (.l (.int .i64)) a11 fun (x12 : Int) =>
 call Tryz.prog 55 [.pointer p1, .int .i64 x12] (.one (.g [.int .i64, .int .i64, .int .i64, .bool, .bool])) fun (r13 : LTs _) =>
 br (!r13.2.2.2.2.1)
 (X2 (⟨u3.1.a, u3.1.n, u3.1.c⟩, IntKind.wrap .i64 (u3.2.1 + 1), ()))
 (ix p0.a p0.n x12 1 fun a14 =>
 ld (.l .bool) a14 fun (x15 : Bool) =>
 br x15
 (X2 (⟨u3.1.a, u3.1.n, u3.1.c⟩, IntKind.wrap .i64 (u3.2.1 + 1), ()))
 (jn (fun (j17 : LTs [.int .i64]) =>
 drw <| held fun S18 =>
 slc u3.1.a u3.1.c 0 j17.1 1 fun s19 =>
 ldS S18 (.l (.int .i64)) (fa (⟨b6, 0, none⟩) 0) fun (x20 : Int) =>
 slc u3.1.a u3.1.c j17.1 (u3.1.n : Nat) 1 fun s21 =>
 both
 (nw 3 [] fun b22 =>
 chk S18 <|
 both
 (opr Tryz.prog (Builtin.append_ #[24, 24] 24 #[.slice (some ⟨b22, 0, none⟩) 0 0, .slice s19.a s19.n s19.c]) (.one (.l .slice)) fun (r23 : Slc) =>
 chk S18 <|
 nw 3 [.int .i64 x20] fun b24 =>
 opr Tryz.prog (Builtin.append_ #[24, 24] 24 #[.slice r23.a r23.n r23.c, .slice (some ⟨b24, 0, none⟩) 1 1]) (.one (.l .slice)) fun (r25 : Slc) =>
 opr Tryz.prog (Builtin.append_ #[24, 24] 24 #[.slice r25.a r25.n r25.c, .slice s21.a s21.n s21.c]) (.one (.l .slice)) fun (r26 : Slc) =>
 X2 (⟨r26.a, r26.n, r26.c⟩, IntKind.wrap .i64 (u3.2.1 + 1), ()))
 (nw 3 [.int .i64 x20] fun b27 =>
 opr Tryz.prog (Builtin.append_ #[24, 24] 24 #[.slice (some ⟨b22, 0, none⟩) 0 0, .slice s19.a s19.n s19.c]) (.one (.l .slice)) fun (r28 : Slc) =>
 opr Tryz.prog (Builtin.append_ #[24, 24] 24 #[.slice r28.a r28.n r28.c, .slice (some ⟨b27, 0, none⟩) 1 1]) (.one (.l .slice)) fun (r29 : Slc) =>
 opr Tryz.prog (Builtin.append_ #[24, 24] 24 #[.slice r29.a r29.n r29.c, .slice s21.a s21.n s21.c]) (.one (.l .slice)) fun (r30 : Slc) =>
 X2 (⟨r30.a, r30.n, r30.c⟩, IntKind.wrap .i64 (u3.2.1 + 1), ())))
 (nw 3 [.int .i64 x20] fun b31 =>
 nw 3 [] fun b32 =>
 opr Tryz.prog (Builtin.append_ #[24, 24] 24 #[.slice (some ⟨b32, 0, none⟩) 0 0, .slice s19.a s19.n s19.c]) (.one (.l .slice)) fun (r33 : Slc) =>
 opr Tryz.prog (Builtin.append_ #[24, 24] 24 #[.slice r33.a r33.n r33.c, .slice (some ⟨b31, 0, none⟩) 1 1]) (.one (.l .slice)) fun (r34 : Slc) =>
 opr Tryz.prog (Builtin.append_ #[24, 24] 24 #[.slice r34.a r34.n r34.c, .slice s21.a s21.n s21.c]) (.one (.l .slice)) fun (r35 : Slc) =>
 X2 (⟨r35.a, r35.n, r35.c⟩, IntKind.wrap .i64 (u3.2.1 + 1), ()))) fun J16 =>
 lp [.int .i64] (fun X36 u37 =>
 drw <| held fun S38 =>
 br (decide ((u37.1 : Int) < (u3.1.n : Nat)))
 (ix u3.1.a u3.1.n u37.1 1 fun a39 =>
 ldS S38 (.l (.int .i64)) a39 fun (x40 : Int) =>
 ldS S38 (.l .slice) (fa (⟨b6, 0, none⟩) 5) fun (x41 : Slc) =>
 ix x41.a x41.n 4 1 fun a42 =>
 ldS S38 (.l (.int .i64)) a42 fun (x43 : Int) =>
 call Tryz.prog 56 [.pointer p1, .int .i64 x40, .int .i64 4] (.one (.g [.int .i64, .int .i64])) fun (r44 : LTs _) =>
 chk S38 <|
 br (decide ((r44.1 : Int) ≤ x43))
 (X36 (IntKind.wrap .i64 (u37.1 + 1), ()))
 (J16 (u37.1, ())))
 (J16 (u37.1, ()))) (0, ())))))))
 (ret (.slice u3.1.a u3.1.n u3.1.c))) (⟨none, 0, 0⟩, 0, ())
theorem F.gloamingref9.Marks.bySerial.calls (p0 : Slc) (p1 : Option Addr) (p2 : Int) (p3 : Int) (h : F.gloamingref9.Marks.bySerial p0 p1 p2 p3 Q w) : Calls Tryz.prog 54 #[.slice p0.a p0.n p0.c, .pointer p1, .int .i64 p2, .int .i64 p3] w (RetQ Q) :=
 Tryz.cd F.gloamingref9.Marks.bySerial.T Tryz.func54 (by kernel_rfl) (es := [.va (.slice p0.a p0.n p0.c), .va (.pointer p1), .va (.int .i64 p2), .va (.int .i64 p3)]) rfl (by kernel_rfl) h
def F.gloamingref9.Heap.Head (p0 : Option Addr) (p1 : Int) : Tree :=
 nw 109 (zc Tryz.prog 109) fun b1 =>
 nn p0 fun a2 =>
 ld (.l .ptr) (fa a2 0) fun (x3 : Option Addr) =>
 call Tryz.prog 98 [.pointer x3, .int .i64 p1] (.one (.g [.int .i64, .int .i64, .bool])) fun (r4 : LTs _) =>
 nw 167 (zc Tryz.prog 167) fun b5 =>
 st (⟨b5, 0, none⟩) [.int .i64 r4.1, .int .i64 r4.2.1, .bool r4.2.2.1] <|
 ld (.l .bool) (fa (⟨b5, 0, none⟩) 2) fun (x6 : Bool) =>
 br (!x6)
 (st (⟨b1, 0, none⟩) [.int .i64 0, .int .i64 0, .int .i64 0, .bool false, .bool false] <|
 ld (.g [.int .i64, .int .i64, .int .i64, .bool, .bool]) (⟨b1, 0, none⟩) fun (x7 : LTs _) =>
 ret (.agg #[.int .i64 x7.1, .int .i64 x7.2.1, .int .i64 x7.2.2.1, .bool x7.2.2.2.1, .bool x7.2.2.2.2.1]))
 (ld (.l (.int .i64)) (fa (⟨b5, 0, none⟩) 0) fun (x7 : Int) =>
 br ((x7 : Int) != p1)
 (st (⟨b1, 0, none⟩) [.int .i64 0, .int .i64 0, .int .i64 0, .bool false, .bool false] <|
 ld (.g [.int .i64, .int .i64, .int .i64, .bool, .bool]) (⟨b1, 0, none⟩) fun (x8 : LTs _) =>
 ret (.agg #[.int .i64 x8.1, .int .i64 x8.2.1, .int .i64 x8.2.2.1, .bool x8.2.2.2.1, .bool x8.2.2.2.2.1]))
 (nn p0 fun a8 =>
 ld (.l .ptr) (fa a8 0) fun (x9 : Option Addr) =>
 nn x9 fun a10 =>
 ld (.l .slice) (fa a10 0) fun (x11 : Slc) =>
 ix x11.a x11.n p1 1 fun a12 =>
 ld (.l (.int .i64)) a12 fun (x13 : Int) =>
 call Tryz.prog 99 [.int .i64 x13] (.one (.g [.int .i64, .int .i64, .int .i64, .bool, .bool])) fun (r14 : LTs _) =>
 st (⟨b1, 0, none⟩) [.int .i64 r14.1, .int .i64 r14.2.1, .int .i64 r14.2.2.1, .bool r14.2.2.2.1, .bool r14.2.2.2.2.1] <|
 ld (.g [.int .i64, .int .i64, .int .i64, .bool, .bool]) (⟨b1, 0, none⟩) fun (x15 : LTs _) =>
 ret (.agg #[.int .i64 x15.1, .int .i64 x15.2.1, .int .i64 x15.2.2.1, .bool x15.2.2.2.1, .bool x15.2.2.2.2.1])))
theorem F.gloamingref9.Heap.Head.calls (p0 : Option Addr) (p1 : Int) (h : F.gloamingref9.Heap.Head p0 p1 Q w) : Calls Tryz.prog 55 #[.pointer p0, .int .i64 p1] w (RetQ Q) :=
 Tryz.cd Tabs.z Tryz.func55 (by kernel_rfl) (es := [.va (.pointer p0), .va (.int .i64 p1)]) rfl (by kernel_rfl) h
def F.gloamingref9.Heap.Field (p0 : Option Addr) (p1 : Int) (p2 : Int) : Tree :=
 nw 80 (zc Tryz.prog 80) fun b1 =>
 call Tryz.prog 55 [.pointer p0, .int .i64 p1] (.one (.g [.int .i64, .int .i64, .int .i64, .bool, .bool])) fun (r2 : LTs _) =>
 nw 109 (zc Tryz.prog 109) fun b3 =>
 st (⟨b3, 0, none⟩) [.int .i64 r2.1, .int .i64 r2.2.1, .int .i64 r2.2.2.1, .bool r2.2.2.2.1, .bool r2.2.2.2.2.1] <|
 ld (.l .bool) (fa (⟨b3, 0, none⟩) 4) fun (x4 : Bool) =>
 br (!x4)
 (st (⟨b1, 0, none⟩) [.int .i64 0, .int .i64 2] <|
 ld (.g [.int .i64, .int .i64]) (⟨b1, 0, none⟩) fun (x5 : LTs _) =>
 ret (.agg #[.int .i64 x5.1, .int .i64 x5.2.1]))
 (br (decide ((p2 : Int) < 0))
 (st (⟨b1, 0, none⟩) [.int .i64 0, .int .i64 1] <|
 ld (.g [.int .i64, .int .i64]) (⟨b1, 0, none⟩) fun (x5 : LTs _) =>
 ret (.agg #[.int .i64 x5.1, .int .i64 x5.2.1]))
 (ld (.l (.int .i64)) (fa (fa (⟨b3, 0, none⟩) 0) 2) fun (x5 : Int) =>
 br (decide ((p2 : Int) ≥ x5))
 (st (⟨b1, 0, none⟩) [.int .i64 0, .int .i64 1] <|
 ld (.g [.int .i64, .int .i64]) (⟨b1, 0, none⟩) fun (x6 : LTs _) =>
 ret (.agg #[.int .i64 x6.1, .int .i64 x6.2.1]))
 (nn p0 fun a6 =>
 ld (.l .ptr) (fa a6 0) fun (x7 : Option Addr) =>
 nn x7 fun a8 =>
 ld (.l .slice) (fa a8 0) fun (x9 : Slc) =>
 ix x9.a x9.n (IntKind.wrap .i64 ((IntKind.wrap .i64 (p1 + 1)) + p2)) 1 fun a10 =>
 ld (.l (.int .i64)) a10 fun (x11 : Int) =>
 st (⟨b1, 0, none⟩) [.int .i64 x11, .int .i64 0] <|
 ld (.g [.int .i64, .int .i64]) (⟨b1, 0, none⟩) fun (x12 : LTs _) =>
 ret (.agg #[.int .i64 x12.1, .int .i64 x12.2.1]))))
theorem F.gloamingref9.Heap.Field.calls (p0 : Option Addr) (p1 : Int) (p2 : Int) (h : F.gloamingref9.Heap.Field p0 p1 p2 Q w) : Calls Tryz.prog 56 #[.pointer p0, .int .i64 p1, .int .i64 p2] w (RetQ Q) :=
 Tryz.cd Tabs.z Tryz.func56 (by kernel_rfl) (es := [.va (.pointer p0), .va (.int .i64 p1), .va (.int .i64 p2)]) rfl (by kernel_rfl) h
def F.gloamingref9.Marks.All.T : Tabs := ⟨(fun
 | 3 => [(3, .slice), (4, .int .i64)]
 | _ => []),
 fun _ => none,
 fun _ => .quiet⟩
def F.gloamingref9.Marks.All (p0 : Slc) : Tree :=
 lp [.slice, .int .i64] (fun X1 u2 =>
 br (decide ((u2.2.1 : Int) < (p0.n : Nat)))
 (ix p0.a p0.n u2.2.1 1 fun a3 =>
 ld (.l .bool) a3 fun (x4 : Bool) =>
 br x4
 (nw 3 [.int .i64 u2.2.1] fun b5 =>
 opr Tryz.prog (Builtin.append_ #[24, 24] 24 #[.slice u2.1.a u2.1.n u2.1.c, .slice (some ⟨b5, 0, none⟩) 1 1]) (.one (.l .slice)) fun (r6 : Slc) =>
 X1 (⟨r6.a, r6.n, r6.c⟩, IntKind.wrap .i64 (u2.2.1 + 1), ()))
 (X1 (⟨u2.1.a, u2.1.n, u2.1.c⟩, IntKind.wrap .i64 (u2.2.1 + 1), ())))
 (ret (.slice u2.1.a u2.1.n u2.1.c))) (⟨none, 0, 0⟩, 0, ())
theorem F.gloamingref9.Marks.All.calls (p0 : Slc) (h : F.gloamingref9.Marks.All p0 Q w) : Calls Tryz.prog 57 #[.slice p0.a p0.n p0.c] w (RetQ Q) :=
 Tryz.cd F.gloamingref9.Marks.All.T Tryz.func57 (by kernel_rfl) (es := [.va (.slice p0.a p0.n p0.c)]) rfl (by kernel_rfl) h
def F.gloamingref9.Heap.May.T : Tabs := ⟨fun _ => [],
 fun _ => none,
 (fun
 | 4 => .quiet
 | 6 => .quiet
 | _ => .quiet)⟩
def F.gloamingref9.Heap.May (p0 : Option Addr) (p1 : LTs [.int .i64, .int .i64, .int .i64, .bool]) : Tree :=
 nw 49 [.int .i64 p1.1, .int .i64 p1.2.1, .int .i64 p1.2.2.1, .bool p1.2.2.2.1] fun b1 =>
 ld (.g [.int .i64, .int .i64, .int .i64, .bool]) (⟨b1, 0, none⟩) fun (x2 : LTs _) =>
 call Tryz.prog 115 [.agg #[.int .i64 x2.1, .int .i64 x2.2.1, .int .i64 x2.2.2.1, .bool x2.2.2.2.1]] (.one (.l .bool)) fun (r3 : Bool) =>
 br (!r3)
 (ret (.int .i64 1))
 (ld (.l .bool) (fa (⟨b1, 0, none⟩) 3) fun (x4 : Bool) =>
 br x4
 (ret (.int .i64 1))
 (ld (.l (.int .i64)) (fa (⟨b1, 0, none⟩) 0) fun (x5 : Int) =>
 br ((x5 : Int) == 1)
 (drw <|
 ld (.l (.int .i64)) (fa (⟨b1, 0, none⟩) 1) fun (x6 : Int) =>
 nn p0 fun a7 =>
 ld (.l .slice) (fa a7 1) fun (x8 : Slc) =>
 br (decide ((x6 : Int) > (x8.n : Nat)))
 (ret (.int .i64 2))
 (drw <|
 nn p0 fun a9 =>
 ld (.l .slice) (fa a9 1) fun (x10 : Slc) =>
 ld (.l (.int .i64)) (fa (⟨b1, 0, none⟩) 1) fun (x11 : Int) =>
 ix x10.a x10.n (IntKind.wrap .i64 (x11 - 1)) 2 fun a12 =>
 ld (.l (.int .i64)) (fa a12 0) fun (x13 : Int) =>
 ld (.l (.int .i64)) (fa (⟨b1, 0, none⟩) 2) fun (x14 : Int) =>
 br ((x13 : Int) != x14)
 (ret (.int .i64 1))
 (ret (.int .i64 0))))
 (ret (.int .i64 0))))
theorem F.gloamingref9.Heap.May.calls (p0 : Option Addr) (p1 : LTs [.int .i64, .int .i64, .int .i64, .bool]) (h : F.gloamingref9.Heap.May p0 p1 Q w) : Calls Tryz.prog 75 #[.pointer p0, .agg #[.int .i64 p1.1, .int .i64 p1.2.1, .int .i64 p1.2.2.1, .bool p1.2.2.2.1]] w (RetQ Q) :=
 Tryz.cd F.gloamingref9.Heap.May.T Tryz.func75 (by kernel_rfl) (es := [.va (.pointer p0), .va (.agg #[.int .i64 p1.1, .int .i64 p1.2.1, .int .i64 p1.2.2.1, .bool p1.2.2.2.1])]) rfl (by kernel_rfl) h
def F.gloamingref9.Heap.Refs.T : Tabs := ⟨(fun
 | 10 => [(6, .slice), (7, .int .i64)]
 | _ => []),
 fun _ => none,
 (fun
 | 6 => .quiet
 | _ => .quiet)⟩
def F.gloamingref9.Heap.Refs (p0 : Option Addr) (p1 : Int) : Tree :=
 call Tryz.prog 55 [.pointer p0, .int .i64 p1] (.one (.g [.int .i64, .int .i64, .int .i64, .bool, .bool])) fun (r1 : LTs _) =>
 nw 109 (zc Tryz.prog 109) fun b2 =>
 st (⟨b2, 0, none⟩) [.int .i64 r1.1, .int .i64 r1.2.1, .int .i64 r1.2.2.1, .bool r1.2.2.2.1, .bool r1.2.2.2.2.1] <|
 ld (.l .bool) (fa (⟨b2, 0, none⟩) 4) fun (x3 : Bool) =>
 br (!x3)
 (ret (.slice none 0 0))
 (ld (.l (.int .i64)) (fa (fa (⟨b2, 0, none⟩) 0) 0) fun (x4 : Int) =>
 br ((x4 : Int) == 1)
 (drw <|
 nn p0 fun a5 =>
 ld (.l .slice) (fa a5 1) fun (x6 : Slc) =>
 ld (.l (.int .i64)) (fa (fa (⟨b2, 0, none⟩) 0) 1) fun (x7 : Int) =>
 ix x6.a x6.n (IntKind.wrap .i64 (x7 - 1)) 2 fun a8 =>
 ld (.l .slice) (fa a8 1) fun (x9 : Slc) =>
 ret (.slice x9.a x9.n x9.c))
 (br ((x4 : Int) == 2)
 (lp [.slice, .int .i64] (fun X5 u6 =>
 ld (.l (.int .i64)) (fa (fa (⟨b2, 0, none⟩) 0) 2) fun (x7 : Int) =>
 br (decide ((u6.2.1 : Int) < x7))
 (nw 3 [.int .i64 u6.2.1] fun b8 =>
 opr Tryz.prog (Builtin.append_ #[24, 24] 24 #[.slice u6.1.a u6.1.n u6.1.c, .slice (some ⟨b8, 0, none⟩) 1 1]) (.one (.l .slice)) fun (r9 : Slc) =>
 X5 (⟨r9.a, r9.n, r9.c⟩, IntKind.wrap .i64 (u6.2.1 + 1), ()))
 (ret (.slice u6.1.a u6.1.n u6.1.c))) (⟨none, 0, 0⟩, 0, ()))
 (br ((x4 : Int) == 4)
 (nw 3 [.int .i64 2] fun b5 =>
 ret (.slice (some ⟨b5, 0, none⟩) 1 1))
 (ret (.slice none 0 0)))))
theorem F.gloamingref9.Heap.Refs.calls (p0 : Option Addr) (p1 : Int) (h : F.gloamingref9.Heap.Refs p0 p1 Q w) : Calls Tryz.prog 96 #[.pointer p0, .int .i64 p1] w (RetQ Q) :=
 Tryz.cd F.gloamingref9.Heap.Refs.T Tryz.func96 (by kernel_rfl) (es := [.va (.pointer p0), .va (.int .i64 p1)]) rfl (by kernel_rfl) h
def F.gloamingref9.Keep (p0 : Int) (p1 : Int) (p2 : Int) (p3 : Int) : Tree :=
 call Tryz.prog 131 [.int .i64 p0, .int .i64 p1] (.one (.l (.int .i64))) fun (r1 : Int) =>
 call Tryz.prog 132 [.int .i64 p2, .int .i64 p3] (.one (.l (.int .i64))) fun (r2 : Int) =>
 ret (.bool (decide ((r1 : Int) ≤ r2)))
theorem F.gloamingref9.Keep.calls (p0 : Int) (p1 : Int) (p2 : Int) (p3 : Int) (h : F.gloamingref9.Keep p0 p1 p2 p3 Q w) : Calls Tryz.prog 97 #[.int .i64 p0, .int .i64 p1, .int .i64 p2, .int .i64 p3] w (RetQ Q) :=
 Tryz.cd Tabs.z Tryz.func97 (by kernel_rfl) (es := [.va (.int .i64 p0), .va (.int .i64 p1), .va (.int .i64 p2), .va (.int .i64 p3)]) rfl (by kernel_rfl) h
def F.gloamingref9.Idle (p0 : Int) (p1 : Int) : Tree :=
 ret (.int .i64 (if (IntKind.wrap .i64 ((if (p0 : Int) > 0 then (p0 : Int) else 0) - (if (p1 : Int) > 0 then (p1 : Int) else 0)) : Int) > 0 then (IntKind.wrap .i64 ((if (p0 : Int) > 0 then (p0 : Int) else 0) - (if (p1 : Int) > 0 then (p1 : Int) else 0)) : Int) else 0))
theorem F.gloamingref9.Idle.calls (p0 : Int) (p1 : Int) (h : F.gloamingref9.Idle p0 p1 Q w) : Calls Tryz.prog 131 #[.int .i64 p0, .int .i64 p1] w (RetQ Q) :=
 Tryz.cd Tabs.z Tryz.func131 (by kernel_rfl) (es := [.va (.int .i64 p0), .va (.int .i64 p1)]) rfl (by kernel_rfl) h
def F.gloamingref9.Limit (p0 : Int) (p1 : Int) : Tree :=
 br (((if (p1 : Int) > 0 then (p1 : Int) else 0) : Int) != 0)
 (need (((if (p1 : Int) > 0 then (p1 : Int) else 0) : Int) ≠ 0) <|
 br (decide (((if (p0 : Int) > 0 then (p0 : Int) else 0) : Int) > (IntKind.wrap .i64 (Int.tdiv 9223372036854775807 (if (p1 : Int) > 0 then (p1 : Int) else 0)))))
 (ret (.int .i64 9223372036854775807))
 (ret (.int .i64 (IntKind.wrap .i64 ((if (p0 : Int) > 0 then (p0 : Int) else 0) * (if (p1 : Int) > 0 then (p1 : Int) else 0))))))
 (ret (.int .i64 (IntKind.wrap .i64 ((if (p0 : Int) > 0 then (p0 : Int) else 0) * (if (p1 : Int) > 0 then (p1 : Int) else 0)))))
theorem F.gloamingref9.Limit.calls (p0 : Int) (p1 : Int) (h : F.gloamingref9.Limit p0 p1 Q w) : Calls Tryz.prog 132 #[.int .i64 p0, .int .i64 p1] w (RetQ Q) :=
 Tryz.cd Tabs.z Tryz.func132 (by kernel_rfl) (es := [.va (.int .i64 p0), .va (.int .i64 p1)]) rfl (by kernel_rfl) h
end Go.Proofs.YtpefngbfgjfcgaaGreat
