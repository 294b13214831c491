import Derived.Test.YtpefngbfgjfcgaaGreatGsT
namespace Go.Proofs.YtpefngbfgjfcgaaGreat
open Go Go.Gl
set_option maxRecDepth 100000
set_option linter.unusedVariables false
variable {Q : Value → World → Prop} {w : World}
def F.gloamingref1.In.T : Tabs := ⟨(fun
 | 2 => [(5, .int .i64)]
 | _ => []),
 fun _ => none,
 fun _ => .quiet⟩
def F.gloamingref1.In (p0 : Slc) (p1 : Int) : Tree :=
 lp [.int .i64] (fun X1 u2 =>
 br (decide ((u2.1 : Int) < (p0.n : Nat)))
 (ix p0.a p0.n u2.1 1 fun a3 =>
 ld (.l (.int .i64)) a3 fun (x4 : Int) =>
 br ((x4 : Int) == p1)
 (ret (.bool true))
 (X1 (IntKind.wrap .i64 (u2.1 + 1), ())))
 (ret (.bool false))) (0, ())
theorem F.gloamingref1.In.calls (p0 : Slc) (p1 : Int) (h : F.gloamingref1.In p0 p1 Q w) : Calls Tryz.prog 27 #[.slice p0.a p0.n p0.c, .int .i64 p1] w (RetQ Q) :=
 Tryz.cd F.gloamingref1.In.T Tryz.func27 (by kernel_rfl) (es := [.va (.slice p0.a p0.n p0.c), .va (.int .i64 p1)]) rfl (by kernel_rfl) h
def F.gloamingref1.SameInts.T : Tabs := ⟨(fun
 | 4 => [(5, .int .i64)]
 | _ => []),
 fun _ => none,
 (fun
 | 6 => .quiet
 | _ => .quiet)⟩
def F.gloamingref1.SameInts (p0 : Slc) (p1 : Slc) : Tree :=
 br (((p0.n : Nat) : Int) != (p1.n : Nat))
 (ret (.bool false))
 (lp [.int .i64] (fun X1 u2 =>
 br (decide ((u2.1 : Int) < (p0.n : Nat)))
 (drw <|
 ix p0.a p0.n u2.1 1 fun a3 =>
 ld (.l (.int .i64)) a3 fun (x4 : Int) =>
 ix p1.a p1.n u2.1 1 fun a5 =>
 ld (.l (.int .i64)) a5 fun (x6 : Int) =>
 br ((x4 : Int) != x6)
 (ret (.bool false))
 (X1 (IntKind.wrap .i64 (u2.1 + 1), ())))
 (ret (.bool true))) (0, ()))
theorem F.gloamingref1.SameInts.calls (p0 : Slc) (p1 : Slc) (h : F.gloamingref1.SameInts p0 p1 Q w) : Calls Tryz.prog 30 #[.slice p0.a p0.n p0.c, .slice p1.a p1.n p1.c] w (RetQ Q) :=
 Tryz.cd F.gloamingref1.SameInts.T Tryz.func30 (by kernel_rfl) (es := [.va (.slice p0.a p0.n p0.c), .va (.slice p1.a p1.n p1.c)]) rfl (by kernel_rfl) h
def F.gloamingref1.Space.Each.T : Tabs := ⟨(fun
 | 3 => [(3, .slice), (4, .int .i64)]
 | 8 => [(3, .slice), (5, .int .i64)]
 | _ => []),
 fun _ => none,
 (fun
 | 11 => .held (some 17) (.go 0 false (.go 1 false (.go 2 false (.go 3 false (.go 5 false (.go 6 false (.go 7 false (.go 8 false (.go 9 false (.go 10 false (.go 11 false (.go 12 false (.go 4 false (.cut (.go 13 false (.go 14 false (.go 15 false (.go 16 false (.go 17 true (.go 18 false (.go 19 false .nil)))))))))))))))))))))
 | _ => .quiet)⟩
def F.gloamingref1.Space.Each (p0 : Option Addr) : Tree :=
 lp [.slice, .int .i64] (fun X1 u2 =>
 nn p0 fun a3 =>
 ld (.l .slice) (fa a3 1) fun (x4 : Slc) =>
 br (decide ((u2.2.1 : Int) < (x4.n : Nat)))
 (nn p0 fun a5 =>
 ld (.l .slice) (fa a5 1) fun (x6 : Slc) =>
 ix x6.a x6.n u2.2.1 1 fun a7 =>
 ld (.l (.int .i64)) a7 fun (x8 : Int) =>
 br ((x8 : Int) == 6)
 (nw 3 [.int .i64 (IntKind.wrap .i64 (u2.2.1 * 64))] fun b9 =>
 opr Tryz.prog (Builtin.append_ #[24, 24] 24 #[.slice u2.1.a u2.1.n u2.1.c, .slice (some ⟨b9, 0, none⟩) 1 1]) (.one (.l .slice)) fun (r10 : Slc) =>
 lp [.slice, .int .i64] (fun X11 u12 =>
 nn p0 fun a13 =>
 ld (.l .slice) (fa a13 3) fun (x14 : Slc) =>
 ix x14.a x14.n u2.2.1 1 fun a15 =>
 ld (.l .slice) a15 fun (x16 : Slc) =>
 br (decide ((u12.2.1 : Int) < (x16.n : Nat)))
 (nn p0 fun a17 =>
 ld (.l .slice) (fa a17 3) fun (x18 : Slc) =>
 ix x18.a x18.n u2.2.1 1 fun a19 =>
 ld (.l .slice) a19 fun (x20 : Slc) =>
 ix x20.a x20.n u12.2.1 1 fun a21 =>
 ld (.l .bool) a21 fun (x22 : Bool) =>
 br x22
 (drw <| held fun S23 =>
 nn p0 fun a24 =>
 ldS S23 (.l .slice) (fa a24 1) fun (x25 : Slc) =>
 ix x25.a x25.n u2.2.1 1 fun a26 =>
 ldS S23 (.l (.int .i64)) a26 fun (x27 : Int) =>
 call Tryz.prog 102 [] (.one (.l .slice)) fun (r28 : Slc) =>
 chk S23 <|
 narrow S23 fun S29 =>
 ix r28.a r28.n (IntKind.wrap .i64 (x27 - 1)) 1 fun a30 =>
 ldS S29 (.l (.int .i64)) a30 fun (x31 : Int) =>
 nw 3 [.int .i64 (IntKind.wrap .i64 ((IntKind.wrap .i64 (u2.2.1 * 64)) + (IntKind.wrap .i64 (u12.2.1 * x31))))] fun b32 =>
 opr Tryz.prog (Builtin.append_ #[24, 24] 24 #[.slice u12.1.a u12.1.n u12.1.c, .slice (some ⟨b32, 0, none⟩) 1 1]) (.one (.l .slice)) fun (r33 : Slc) =>
 X11 (⟨r33.a, r33.n, r33.c⟩, IntKind.wrap .i64 (u12.2.1 + 1), ()))
 (X11 (⟨u12.1.a, u12.1.n, u12.1.c⟩, IntKind.wrap .i64 (u12.2.1 + 1), ())))
 (X1 (⟨u12.1.a, u12.1.n, u12.1.c⟩, IntKind.wrap .i64 (u2.2.1 + 1), ()))) (⟨r10.a, r10.n, r10.c⟩, 0, ()))
 (lp [.slice, .int .i64] (fun X9 u10 =>
 nn p0 fun a11 =>
 ld (.l .slice) (fa a11 3) fun (x12 : Slc) =>
 ix x12.a x12.n u2.2.1 1 fun a13 =>
 ld (.l .slice) a13 fun (x14 : Slc) =>
 br (decide ((u10.2.1 : Int) < (x14.n : Nat)))
 (nn p0 fun a15 =>
 ld (.l .slice) (fa a15 3) fun (x16 : Slc) =>
 ix x16.a x16.n u2.2.1 1 fun a17 =>
 ld (.l .slice) a17 fun (x18 : Slc) =>
 ix x18.a x18.n u10.2.1 1 fun a19 =>
 ld (.l .bool) a19 fun (x20 : Bool) =>
 br x20
 (drw <| held fun S21 =>
 nn p0 fun a22 =>
 ldS S21 (.l .slice) (fa a22 1) fun (x23 : Slc) =>
 ix x23.a x23.n u2.2.1 1 fun a24 =>
 ldS S21 (.l (.int .i64)) a24 fun (x25 : Int) =>
 call Tryz.prog 102 [] (.one (.l .slice)) fun (r26 : Slc) =>
 chk S21 <|
 narrow S21 fun S27 =>
 ix r26.a r26.n (IntKind.wrap .i64 (x25 - 1)) 1 fun a28 =>
 ldS S27 (.l (.int .i64)) a28 fun (x29 : Int) =>
 nw 3 [.int .i64 (IntKind.wrap .i64 ((IntKind.wrap .i64 (u2.2.1 * 64)) + (IntKind.wrap .i64 (u10.2.1 * x29))))] fun b30 =>
 opr Tryz.prog (Builtin.append_ #[24, 24] 24 #[.slice u10.1.a u10.1.n u10.1.c, .slice (some ⟨b30, 0, none⟩) 1 1]) (.one (.l .slice)) fun (r31 : Slc) =>
 X9 (⟨r31.a, r31.n, r31.c⟩, IntKind.wrap .i64 (u10.2.1 + 1), ()))
 (X9 (⟨u10.1.a, u10.1.n, u10.1.c⟩, IntKind.wrap .i64 (u10.2.1 + 1), ())))
 (X1 (⟨u10.1.a, u10.1.n, u10.1.c⟩, IntKind.wrap .i64 (u2.2.1 + 1), ()))) (⟨u2.1.a, u2.1.n, u2.1.c⟩, 0, ())))
 (ret (.slice u2.1.a u2.1.n u2.1.c))) (⟨none, 0, 0⟩, 0, ())
theorem F.gloamingref1.Space.Each.calls (p0 : Option Addr) (h : F.gloamingref1.Space.Each p0 Q w) : Calls Tryz.prog 59 #[.pointer p0] w (RetQ Q) :=
 Tryz.cd F.gloamingref1.Space.Each.T Tryz.func59 (by kernel_rfl) (es := [.va (.pointer p0)]) rfl (by kernel_rfl) h
def F.gloamingref1.NewSpace.T : Tabs := ⟨fun _ => [],
 (fun
 | 2 => some [(3, .adr)]
 | _ => none),
 (fun
 | 1 => .held (some 4) (.go 0 false (.go 1 false (.go 3 false (.go 5 false (.go 7 false (.two (.go 2 false (.two (.go 4 true (.two (.go 6 false (.go 8 false (.go 9 false (.go 10 false (.go 11 false .nil))))) (.go 8 false (.go 6 false (.go 9 false (.go 10 false (.go 11 false .nil))))))) (.two (.go 6 false (.two (.go 4 true (.go 8 false (.go 9 false (.go 10 false (.go 11 false .nil))))) (.go 8 false (.go 4 true (.go 9 false (.go 10 false (.go 11 false .nil))))))) (.go 8 false (.two (.go 4 true (.go 6 false (.go 9 false (.go 10 false (.go 11 false .nil))))) (.go 6 false (.go 4 true (.go 9 false (.go 10 false (.go 11 false .nil)))))))))) (.two (.go 4 true (.two (.go 2 false (.two (.go 6 false (.go 8 false (.go 9 false (.go 10 false (.go 11 false .nil))))) (.go 8 false (.go 6 false (.go 9 false (.go 10 false (.go 11 false .nil))))))) (.two (.go 6 false (.two (.go 2 false (.go 8 false (.go 9 false (.go 10 false (.go 11 false .nil))))) (.go 8 false (.go 2 false (.go 9 false (.go 10 false (.go 11 false .nil))))))) (.go 8 false (.two (.go 2 false (.go 6 false (.go 9 false (.go 10 false (.go 11 false .nil))))) (.go 6 false (.go 2 false (.go 9 false (.go 10 false (.go 11 false .nil)))))))))) (.two (.go 6 false (.two (.go 2 false (.two (.go 4 true (.go 8 false (.go 9 false (.go 10 false (.go 11 false .nil))))) (.go 8 false (.go 4 true (.go 9 false (.go 10 false (.go 11 false .nil))))))) (.two (.go 4 true (.two (.go 2 false (.go 8 false (.go 9 false (.go 10 false (.go 11 false .nil))))) (.go 8 false (.go 2 false (.go 9 false (.go 10 false (.go 11 false .nil))))))) (.go 8 false (.two (.go 2 false (.go 4 true (.go 9 false (.go 10 false (.go 11 false .nil))))) (.go 4 true (.go 2 false (.go 9 false (.go 10 false (.go 11 false .nil)))))))))) (.go 8 false (.two (.go 2 false (.two (.go 4 true (.go 6 false (.go 9 false (.go 10 false (.go 11 false .nil))))) (.go 6 false (.go 4 true (.go 9 false (.go 10 false (.go 11 false .nil))))))) (.two (.go 4 true (.two (.go 2 false (.go 6 false (.go 9 false (.go 10 false (.go 11 false .nil))))) (.go 6 false (.go 2 false (.go 9 false (.go 10 false (.go 11 false .nil))))))) (.go 6 false (.two (.go 2 false (.go 4 true (.go 9 false (.go 10 false (.go 11 false .nil))))) (.go 4 true (.go 2 false (.go 9 false (.go 10 false (.go 11 false .nil))))))))))))))))))
 | _ => .quiet)⟩
def F.gloamingref1.NewSpace (p0 : Int) : Tree :=
 jn (fun (j2 : LTs [.adr]) =>
 ld (.l .slice) (fa j2.1 1) fun (x3 : Slc) =>
 ix x3.a x3.n 0 1 fun a4 =>
 st a4 [.int .i64 (-1)] <|
 ret (.pointer (some j2.1))) fun J1 =>
 drw <| held fun S5 =>
 both
 (opr Tryz.prog (Instr.makeSlice 24 (.int .i64 (IntKind.wrap .i64 (p0 * 64))) (.int .i64 (IntKind.wrap .i64 (p0 * 64)))) (.one (.l .slice)) fun (r6 : Slc) =>
 chk S5 <|
 both
 (opr Tryz.prog (Instr.makeSlice 24 (.int .i64 p0) (.int .i64 p0)) (.one (.l .slice)) fun (r7 : Slc) =>
 both
 (opr Tryz.prog (Instr.makeSlice 24 (.int .i64 p0) (.int .i64 p0)) (.one (.l .slice)) fun (r8 : Slc) =>
 opr Tryz.prog (Instr.makeSlice 118 (.int .i64 p0) (.int .i64 p0)) (.one (.l .slice)) fun (r9 : Slc) =>
 nw 120 [.slice r6.a r6.n r6.c, .slice r7.a r7.n r7.c, .slice r8.a r8.n r8.c, .slice r9.a r9.n r9.c] fun b10 =>
 J1 (⟨b10, 0, none⟩, ()))
 (opr Tryz.prog (Instr.makeSlice 118 (.int .i64 p0) (.int .i64 p0)) (.one (.l .slice)) fun (r11 : Slc) =>
 opr Tryz.prog (Instr.makeSlice 24 (.int .i64 p0) (.int .i64 p0)) (.one (.l .slice)) fun (r12 : Slc) =>
 nw 120 [.slice r6.a r6.n r6.c, .slice r7.a r7.n r7.c, .slice r12.a r12.n r12.c, .slice r11.a r11.n r11.c] fun b13 =>
 J1 (⟨b13, 0, none⟩, ())))
 (both
 (opr Tryz.prog (Instr.makeSlice 24 (.int .i64 p0) (.int .i64 p0)) (.one (.l .slice)) fun (r14 : Slc) =>
 chk S5 <|
 both
 (opr Tryz.prog (Instr.makeSlice 24 (.int .i64 p0) (.int .i64 p0)) (.one (.l .slice)) fun (r15 : Slc) =>
 opr Tryz.prog (Instr.makeSlice 118 (.int .i64 p0) (.int .i64 p0)) (.one (.l .slice)) fun (r16 : Slc) =>
 nw 120 [.slice r6.a r6.n r6.c, .slice r15.a r15.n r15.c, .slice r14.a r14.n r14.c, .slice r16.a r16.n r16.c] fun b17 =>
 J1 (⟨b17, 0, none⟩, ()))
 (opr Tryz.prog (Instr.makeSlice 118 (.int .i64 p0) (.int .i64 p0)) (.one (.l .slice)) fun (r18 : Slc) =>
 chk S5 <|
 opr Tryz.prog (Instr.makeSlice 24 (.int .i64 p0) (.int .i64 p0)) (.one (.l .slice)) fun (r19 : Slc) =>
 nw 120 [.slice r6.a r6.n r6.c, .slice r19.a r19.n r19.c, .slice r14.a r14.n r14.c, .slice r18.a r18.n r18.c] fun b20 =>
 J1 (⟨b20, 0, none⟩, ())))
 (opr Tryz.prog (Instr.makeSlice 118 (.int .i64 p0) (.int .i64 p0)) (.one (.l .slice)) fun (r21 : Slc) =>
 chk S5 <|
 both
 (opr Tryz.prog (Instr.makeSlice 24 (.int .i64 p0) (.int .i64 p0)) (.one (.l .slice)) fun (r22 : Slc) =>
 opr Tryz.prog (Instr.makeSlice 24 (.int .i64 p0) (.int .i64 p0)) (.one (.l .slice)) fun (r23 : Slc) =>
 nw 120 [.slice r6.a r6.n r6.c, .slice r22.a r22.n r22.c, .slice r23.a r23.n r23.c, .slice r21.a r21.n r21.c] fun b24 =>
 J1 (⟨b24, 0, none⟩, ()))
 (opr Tryz.prog (Instr.makeSlice 24 (.int .i64 p0) (.int .i64 p0)) (.one (.l .slice)) fun (r25 : Slc) =>
 chk S5 <|
 opr Tryz.prog (Instr.makeSlice 24 (.int .i64 p0) (.int .i64 p0)) (.one (.l .slice)) fun (r26 : Slc) =>
 nw 120 [.slice r6.a r6.n r6.c, .slice r26.a r26.n r26.c, .slice r25.a r25.n r25.c, .slice r21.a r21.n r21.c] fun b27 =>
 J1 (⟨b27, 0, none⟩, ())))))
 (both
 (opr Tryz.prog (Instr.makeSlice 24 (.int .i64 p0) (.int .i64 p0)) (.one (.l .slice)) fun (r28 : Slc) =>
 both
 (opr Tryz.prog (Instr.makeSlice 24 (.int .i64 (IntKind.wrap .i64 (p0 * 64))) (.int .i64 (IntKind.wrap .i64 (p0 * 64)))) (.one (.l .slice)) fun (r29 : Slc) =>
 both
 (opr Tryz.prog (Instr.makeSlice 24 (.int .i64 p0) (.int .i64 p0)) (.one (.l .slice)) fun (r30 : Slc) =>
 opr Tryz.prog (Instr.makeSlice 118 (.int .i64 p0) (.int .i64 p0)) (.one (.l .slice)) fun (r31 : Slc) =>
 nw 120 [.slice r29.a r29.n r29.c, .slice r28.a r28.n r28.c, .slice r30.a r30.n r30.c, .slice r31.a r31.n r31.c] fun b32 =>
 J1 (⟨b32, 0, none⟩, ()))
 (opr Tryz.prog (Instr.makeSlice 118 (.int .i64 p0) (.int .i64 p0)) (.one (.l .slice)) fun (r33 : Slc) =>
 opr Tryz.prog (Instr.makeSlice 24 (.int .i64 p0) (.int .i64 p0)) (.one (.l .slice)) fun (r34 : Slc) =>
 nw 120 [.slice r29.a r29.n r29.c, .slice r28.a r28.n r28.c, .slice r34.a r34.n r34.c, .slice r33.a r33.n r33.c] fun b35 =>
 J1 (⟨b35, 0, none⟩, ())))
 (both
 (opr Tryz.prog (Instr.makeSlice 24 (.int .i64 p0) (.int .i64 p0)) (.one (.l .slice)) fun (r36 : Slc) =>
 both
 (opr Tryz.prog (Instr.makeSlice 24 (.int .i64 (IntKind.wrap .i64 (p0 * 64))) (.int .i64 (IntKind.wrap .i64 (p0 * 64)))) (.one (.l .slice)) fun (r37 : Slc) =>
 opr Tryz.prog (Instr.makeSlice 118 (.int .i64 p0) (.int .i64 p0)) (.one (.l .slice)) fun (r38 : Slc) =>
 nw 120 [.slice r37.a r37.n r37.c, .slice r28.a r28.n r28.c, .slice r36.a r36.n r36.c, .slice r38.a r38.n r38.c] fun b39 =>
 J1 (⟨b39, 0, none⟩, ()))
 (opr Tryz.prog (Instr.makeSlice 118 (.int .i64 p0) (.int .i64 p0)) (.one (.l .slice)) fun (r40 : Slc) =>
 opr Tryz.prog (Instr.makeSlice 24 (.int .i64 (IntKind.wrap .i64 (p0 * 64))) (.int .i64 (IntKind.wrap .i64 (p0 * 64)))) (.one (.l .slice)) fun (r41 : Slc) =>
 nw 120 [.slice r41.a r41.n r41.c, .slice r28.a r28.n r28.c, .slice r36.a r36.n r36.c, .slice r40.a r40.n r40.c] fun b42 =>
 J1 (⟨b42, 0, none⟩, ())))
 (opr Tryz.prog (Instr.makeSlice 118 (.int .i64 p0) (.int .i64 p0)) (.one (.l .slice)) fun (r43 : Slc) =>
 both
 (opr Tryz.prog (Instr.makeSlice 24 (.int .i64 (IntKind.wrap .i64 (p0 * 64))) (.int .i64 (IntKind.wrap .i64 (p0 * 64)))) (.one (.l .slice)) fun (r44 : Slc) =>
 opr Tryz.prog (Instr.makeSlice 24 (.int .i64 p0) (.int .i64 p0)) (.one (.l .slice)) fun (r45 : Slc) =>
 nw 120 [.slice r44.a r44.n r44.c, .slice r28.a r28.n r28.c, .slice r45.a r45.n r45.c, .slice r43.a r43.n r43.c] fun b46 =>
 J1 (⟨b46, 0, none⟩, ()))
 (opr Tryz.prog (Instr.makeSlice 24 (.int .i64 p0) (.int .i64 p0)) (.one (.l .slice)) fun (r47 : Slc) =>
 opr Tryz.prog (Instr.makeSlice 24 (.int .i64 (IntKind.wrap .i64 (p0 * 64))) (.int .i64 (IntKind.wrap .i64 (p0 * 64)))) (.one (.l .slice)) fun (r48 : Slc) =>
 nw 120 [.slice r48.a r48.n r48.c, .slice r28.a r28.n r28.c, .slice r47.a r47.n r47.c, .slice r43.a r43.n r43.c] fun b49 =>
 J1 (⟨b49, 0, none⟩, ())))))
 (both
 (opr Tryz.prog (Instr.makeSlice 24 (.int .i64 p0) (.int .i64 p0)) (.one (.l .slice)) fun (r50 : Slc) =>
 chk S5 <|
 both
 (opr Tryz.prog (Instr.makeSlice 24 (.int .i64 (IntKind.wrap .i64 (p0 * 64))) (.int .i64 (IntKind.wrap .i64 (p0 * 64)))) (.one (.l .slice)) fun (r51 : Slc) =>
 chk S5 <|
 both
 (opr Tryz.prog (Instr.makeSlice 24 (.int .i64 p0) (.int .i64 p0)) (.one (.l .slice)) fun (r52 : Slc) =>
 opr Tryz.prog (Instr.makeSlice 118 (.int .i64 p0) (.int .i64 p0)) (.one (.l .slice)) fun (r53 : Slc) =>
 nw 120 [.slice r51.a r51.n r51.c, .slice r52.a r52.n r52.c, .slice r50.a r50.n r50.c, .slice r53.a r53.n r53.c] fun b54 =>
 J1 (⟨b54, 0, none⟩, ()))
 (opr Tryz.prog (Instr.makeSlice 118 (.int .i64 p0) (.int .i64 p0)) (.one (.l .slice)) fun (r55 : Slc) =>
 chk S5 <|
 opr Tryz.prog (Instr.makeSlice 24 (.int .i64 p0) (.int .i64 p0)) (.one (.l .slice)) fun (r56 : Slc) =>
 nw 120 [.slice r51.a r51.n r51.c, .slice r56.a r56.n r56.c, .slice r50.a r50.n r50.c, .slice r55.a r55.n r55.c] fun b57 =>
 J1 (⟨b57, 0, none⟩, ())))
 (both
 (opr Tryz.prog (Instr.makeSlice 24 (.int .i64 p0) (.int .i64 p0)) (.one (.l .slice)) fun (r58 : Slc) =>
 both
 (opr Tryz.prog (Instr.makeSlice 24 (.int .i64 (IntKind.wrap .i64 (p0 * 64))) (.int .i64 (IntKind.wrap .i64 (p0 * 64)))) (.one (.l .slice)) fun (r59 : Slc) =>
 opr Tryz.prog (Instr.makeSlice 118 (.int .i64 p0) (.int .i64 p0)) (.one (.l .slice)) fun (r60 : Slc) =>
 nw 120 [.slice r59.a r59.n r59.c, .slice r58.a r58.n r58.c, .slice r50.a r50.n r50.c, .slice r60.a r60.n r60.c] fun b61 =>
 J1 (⟨b61, 0, none⟩, ()))
 (opr Tryz.prog (Instr.makeSlice 118 (.int .i64 p0) (.int .i64 p0)) (.one (.l .slice)) fun (r62 : Slc) =>
 opr Tryz.prog (Instr.makeSlice 24 (.int .i64 (IntKind.wrap .i64 (p0 * 64))) (.int .i64 (IntKind.wrap .i64 (p0 * 64)))) (.one (.l .slice)) fun (r63 : Slc) =>
 nw 120 [.slice r63.a r63.n r63.c, .slice r58.a r58.n r58.c, .slice r50.a r50.n r50.c, .slice r62.a r62.n r62.c] fun b64 =>
 J1 (⟨b64, 0, none⟩, ())))
 (opr Tryz.prog (Instr.makeSlice 118 (.int .i64 p0) (.int .i64 p0)) (.one (.l .slice)) fun (r65 : Slc) =>
 chk S5 <|
 both
 (opr Tryz.prog (Instr.makeSlice 24 (.int .i64 (IntKind.wrap .i64 (p0 * 64))) (.int .i64 (IntKind.wrap .i64 (p0 * 64)))) (.one (.l .slice)) fun (r66 : Slc) =>
 chk S5 <|
 opr Tryz.prog (Instr.makeSlice 24 (.int .i64 p0) (.int .i64 p0)) (.one (.l .slice)) fun (r67 : Slc) =>
 nw 120 [.slice r66.a r66.n r66.c, .slice r67.a r67.n r67.c, .slice r50.a r50.n r50.c, .slice r65.a r65.n r65.c] fun b68 =>
 J1 (⟨b68, 0, none⟩, ()))
 (opr Tryz.prog (Instr.makeSlice 24 (.int .i64 p0) (.int .i64 p0)) (.one (.l .slice)) fun (r69 : Slc) =>
 opr Tryz.prog (Instr.makeSlice 24 (.int .i64 (IntKind.wrap .i64 (p0 * 64))) (.int .i64 (IntKind.wrap .i64 (p0 * 64)))) (.one (.l .slice)) fun (r70 : Slc) =>
 nw 120 [.slice r70.a r70.n r70.c, .slice r69.a r69.n r69.c, .slice r50.a r50.n r50.c, .slice r65.a r65.n r65.c] fun b71 =>
 J1 (⟨b71, 0, none⟩, ())))))
 (opr Tryz.prog (Instr.makeSlice 118 (.int .i64 p0) (.int .i64 p0)) (.one (.l .slice)) fun (r72 : Slc) =>
 chk S5 <|
 both
 (opr Tryz.prog (Instr.makeSlice 24 (.int .i64 (IntKind.wrap .i64 (p0 * 64))) (.int .i64 (IntKind.wrap .i64 (p0 * 64)))) (.one (.l .slice)) fun (r73 : Slc) =>
 chk S5 <|
 both
 (opr Tryz.prog (Instr.makeSlice 24 (.int .i64 p0) (.int .i64 p0)) (.one (.l .slice)) fun (r74 : Slc) =>
 opr Tryz.prog (Instr.makeSlice 24 (.int .i64 p0) (.int .i64 p0)) (.one (.l .slice)) fun (r75 : Slc) =>
 nw 120 [.slice r73.a r73.n r73.c, .slice r74.a r74.n r74.c, .slice r75.a r75.n r75.c, .slice r72.a r72.n r72.c] fun b76 =>
 J1 (⟨b76, 0, none⟩, ()))
 (opr Tryz.prog (Instr.makeSlice 24 (.int .i64 p0) (.int .i64 p0)) (.one (.l .slice)) fun (r77 : Slc) =>
 chk S5 <|
 opr Tryz.prog (Instr.makeSlice 24 (.int .i64 p0) (.int .i64 p0)) (.one (.l .slice)) fun (r78 : Slc) =>
 nw 120 [.slice r73.a r73.n r73.c, .slice r78.a r78.n r78.c, .slice r77.a r77.n r77.c, .slice r72.a r72.n r72.c] fun b79 =>
 J1 (⟨b79, 0, none⟩, ())))
 (both
 (opr Tryz.prog (Instr.makeSlice 24 (.int .i64 p0) (.int .i64 p0)) (.one (.l .slice)) fun (r80 : Slc) =>
 both
 (opr Tryz.prog (Instr.makeSlice 24 (.int .i64 (IntKind.wrap .i64 (p0 * 64))) (.int .i64 (IntKind.wrap .i64 (p0 * 64)))) (.one (.l .slice)) fun (r81 : Slc) =>
 opr Tryz.prog (Instr.makeSlice 24 (.int .i64 p0) (.int .i64 p0)) (.one (.l .slice)) fun (r82 : Slc) =>
 nw 120 [.slice r81.a r81.n r81.c, .slice r80.a r80.n r80.c, .slice r82.a r82.n r82.c, .slice r72.a r72.n r72.c] fun b83 =>
 J1 (⟨b83, 0, none⟩, ()))
 (opr Tryz.prog (Instr.makeSlice 24 (.int .i64 p0) (.int .i64 p0)) (.one (.l .slice)) fun (r84 : Slc) =>
 opr Tryz.prog (Instr.makeSlice 24 (.int .i64 (IntKind.wrap .i64 (p0 * 64))) (.int .i64 (IntKind.wrap .i64 (p0 * 64)))) (.one (.l .slice)) fun (r85 : Slc) =>
 nw 120 [.slice r85.a r85.n r85.c, .slice r80.a r80.n r80.c, .slice r84.a r84.n r84.c, .slice r72.a r72.n r72.c] fun b86 =>
 J1 (⟨b86, 0, none⟩, ())))
 (opr Tryz.prog (Instr.makeSlice 24 (.int .i64 p0) (.int .i64 p0)) (.one (.l .slice)) fun (r87 : Slc) =>
 chk S5 <|
 both
 (opr Tryz.prog (Instr.makeSlice 24 (.int .i64 (IntKind.wrap .i64 (p0 * 64))) (.int .i64 (IntKind.wrap .i64 (p0 * 64)))) (.one (.l .slice)) fun (r88 : Slc) =>
 chk S5 <|
 opr Tryz.prog (Instr.makeSlice 24 (.int .i64 p0) (.int .i64 p0)) (.one (.l .slice)) fun (r89 : Slc) =>
 nw 120 [.slice r88.a r88.n r88.c, .slice r89.a r89.n r89.c, .slice r87.a r87.n r87.c, .slice r72.a r72.n r72.c] fun b90 =>
 J1 (⟨b90, 0, none⟩, ()))
 (opr Tryz.prog (Instr.makeSlice 24 (.int .i64 p0) (.int .i64 p0)) (.one (.l .slice)) fun (r91 : Slc) =>
 opr Tryz.prog (Instr.makeSlice 24 (.int .i64 (IntKind.wrap .i64 (p0 * 64))) (.int .i64 (IntKind.wrap .i64 (p0 * 64)))) (.one (.l .slice)) fun (r92 : Slc) =>
 nw 120 [.slice r92.a r92.n r92.c, .slice r91.a r91.n r91.c, .slice r87.a r87.n r87.c, .slice r72.a r72.n r72.c] fun b93 =>
 J1 (⟨b93, 0, none⟩, ())))))))
theorem F.gloamingref1.NewSpace.calls (p0 : Int) (h : F.gloamingref1.NewSpace p0 Q w) : Calls Tryz.prog 73 #[.int .i64 p0] w (RetQ Q) :=
 Tryz.cd F.gloamingref1.NewSpace.T Tryz.func73 (by kernel_rfl) (es := [.va (.int .i64 p0)]) rfl (by kernel_rfl) h
def F.gloamingref1.MayClass.T : Tabs := ⟨(fun
 | 4 => [(3, .int .i64)]
 | _ => []),
 fun _ => none,
 (fun
 | 6 => .quiet
 | _ => .quiet)⟩
def F.gloamingref1.MayClass (p0 : LTs [.int .i64, .slice]) : Tree :=
 nw 83 [.int .i64 p0.1, .slice p0.2.1.a p0.2.1.n p0.2.1.c] fun b1 =>
 ld (.l (.int .i64)) (fa (⟨b1, 0, none⟩) 0) fun (x2 : Int) =>
 br (decide ((x2 : Int) < 0))
 (ret (.bool false))
 (ld (.l (.int .i64)) (fa (⟨b1, 0, none⟩) 0) fun (x3 : Int) =>
 br (decide ((x3 : Int) > 1023))
 (ret (.bool false))
 (lp [.int .i64] (fun X4 u5 =>
 ld (.l .slice) (fa (⟨b1, 0, none⟩) 1) fun (x6 : Slc) =>
 br (decide ((u5.1 : Int) < (x6.n : Nat)))
 (drw <|
 ld (.l .slice) (fa (⟨b1, 0, none⟩) 1) fun (x7 : Slc) =>
 ix x7.a x7.n u5.1 1 fun a8 =>
 ld (.l (.int .i64)) a8 fun (x9 : Int) =>
 br (decide ((x9 : Int) < 0))
 (ret (.bool false))
 (ld (.l .slice) (fa (⟨b1, 0, none⟩) 1) fun (x10 : Slc) =>
 ix x10.a x10.n u5.1 1 fun a11 =>
 ld (.l (.int .i64)) a11 fun (x12 : Int) =>
 ld (.l (.int .i64)) (fa (⟨b1, 0, none⟩) 0) fun (x13 : Int) =>
 br (decide ((x12 : Int) ≥ x13))
 (ret (.bool false))
 (br (decide ((u5.1 : Int) > 0))
 (ld (.l .slice) (fa (⟨b1, 0, none⟩) 1) fun (x14 : Slc) =>
 ix x14.a x14.n u5.1 1 fun a15 =>
 ld (.l (.int .i64)) a15 fun (x16 : Int) =>
 ld (.l .slice) (fa (⟨b1, 0, none⟩) 1) fun (x17 : Slc) =>
 ix x17.a x17.n (IntKind.wrap .i64 (u5.1 - 1)) 1 fun a18 =>
 ld (.l (.int .i64)) a18 fun (x19 : Int) =>
 br (decide ((x16 : Int) ≤ x19))
 (ret (.bool false))
 (X4 (IntKind.wrap .i64 (u5.1 + 1), ())))
 (X4 (IntKind.wrap .i64 (u5.1 + 1), ())))))
 (ret (.bool true))) (0, ())))
theorem F.gloamingref1.MayClass.calls (p0 : LTs [.int .i64, .slice]) (h : F.gloamingref1.MayClass p0 Q w) : Calls Tryz.prog 74 #[.agg #[.int .i64 p0.1, .slice p0.2.1.a p0.2.1.n p0.2.1.c]] w (RetQ Q) :=
 Tryz.cd F.gloamingref1.MayClass.T Tryz.func74 (by kernel_rfl) (es := [.va (.agg #[.int .i64 p0.1, .slice p0.2.1.a p0.2.1.n p0.2.1.c])]) rfl (by kernel_rfl) h
def F.gloamingref1.Space.Alloc.T : Tabs := ⟨(fun
 | 11 => [(9, .int .i64)]
 | 19 => [(10, .int .i64)]
 | _ => []),
 (fun
 | 21 => some [(10, .int .i64)]
 | _ => none),
 (fun
 | 26 => .held (some 9) (.go 0 false (.go 1 false (.go 2 false (.go 3 false (.go 4 false (.go 5 false (.go 6 false (.go 7 false (.go 8 false (.go 9 true .nil))))))))))
 | _ => .quiet)⟩
def F.gloamingref1.Space.Alloc (p0 : Option Addr) (p1 : Int) : Tree :=
 nw 80 (zc Tryz.prog 80) fun b1 =>
 call Tryz.prog 116 [.int .i64 p1] (.one (.l (.int .i64))) fun (r2 : Int) =>
 br ((r2 : Int) == 0)
 (st (⟨b1, 0, none⟩) [.int .i64 0, .int .i64 1] <|
 ld (.g [.int .i64, .int .i64]) (⟨b1, 0, none⟩) fun (x3 : LTs _) =>
 ret (.agg #[.int .i64 x3.1, .int .i64 x3.2.1]))
 (call Tryz.prog 117 [.int .i64 p1] (.one (.l (.int .i64))) fun (r3 : Int) =>
 br (decide ((r3 : Int) < 0))
 (need ((64 : Int) ≠ 0) <|
 call Tryz.prog 118 [.pointer p0] (.one (.l .slice)) fun (r4 : Slc) =>
 call Tryz.prog 119 [.slice r4.a r4.n r4.c, .int .i64 0, .int .i64 (IntKind.wrap .i64 (Int.tdiv r2 64))] (.one (.l (.int .i64))) fun (r5 : Int) =>
 br (decide ((r5 : Int) < 0))
 (st (⟨b1, 0, none⟩) [.int .i64 0, .int .i64 3] <|
 ld (.g [.int .i64, .int .i64]) (⟨b1, 0, none⟩) fun (x6 : LTs _) =>
 ret (.agg #[.int .i64 x6.1, .int .i64 x6.2.1]))
 (lp [.int .i64] (fun X6 u7 =>
 br (decide ((u7.1 : Int) < (IntKind.wrap .i64 (r5 + (IntKind.wrap .i64 (Int.tdiv r2 64))))))
 (nn p0 fun a8 =>
 ld (.l .slice) (fa a8 1) fun (x9 : Slc) =>
 ix x9.a x9.n u7.1 1 fun a10 =>
 st a10 [.int .i64 7] <|
 X6 (IntKind.wrap .i64 (u7.1 + 1), ()))
 (nn p0 fun a8 =>
 ld (.l .slice) (fa a8 1) fun (x9 : Slc) =>
 ix x9.a x9.n r5 1 fun a10 =>
 st a10 [.int .i64 6] <|
 nn p0 fun a11 =>
 ld (.l .slice) (fa a11 2) fun (x12 : Slc) =>
 ix x12.a x12.n r5 1 fun a13 =>
 st a13 [.int .i64 (IntKind.wrap .i64 (Int.tdiv r2 64))] <|
 call Tryz.prog 120 [.pointer p0, .int .i64 (IntKind.wrap .i64 (r5 * 64)), .int .i64 r2] (.many []) fun (r14 : KTs _) =>
 st (⟨b1, 0, none⟩) [.int .i64 (IntKind.wrap .i64 (r5 * 64)), .int .i64 0] <|
 ld (.g [.int .i64, .int .i64]) (⟨b1, 0, none⟩) fun (x15 : LTs _) =>
 ret (.agg #[.int .i64 x15.1, .int .i64 x15.2.1]))) (r5, ())))
 (jn (fun (j5 : LTs [.int .i64]) =>
 nn p0 fun a6 =>
 ld (.l .slice) (fa a6 1) fun (x7 : Slc) =>
 br ((j5.1 : Int) == (x7.n : Nat))
 (call Tryz.prog 118 [.pointer p0] (.one (.l .slice)) fun (r8 : Slc) =>
 call Tryz.prog 119 [.slice r8.a r8.n r8.c, .int .i64 0, .int .i64 1] (.one (.l (.int .i64))) fun (r9 : Int) =>
 br (decide ((r9 : Int) < 0))
 (st (⟨b1, 0, none⟩) [.int .i64 0, .int .i64 3] <|
 ld (.g [.int .i64, .int .i64]) (⟨b1, 0, none⟩) fun (x10 : LTs _) =>
 ret (.agg #[.int .i64 x10.1, .int .i64 x10.2.1]))
 (nn p0 fun a10 =>
 ld (.l .slice) (fa a10 1) fun (x11 : Slc) =>
 ix x11.a x11.n r9 1 fun a12 =>
 st a12 [.int .i64 (IntKind.wrap .i64 (r3 + 1))] <|
 drw <| held fun S13 =>
 nn p0 fun a14 =>
 ldS S13 (.l .slice) (fa a14 3) fun (x15 : Slc) =>
 need ((r2 : Int) ≠ 0) <|
 opr Tryz.prog (Instr.makeSlice 173 (.int .i64 (IntKind.wrap .i64 (Int.tdiv 64 r2))) (.int .i64 (IntKind.wrap .i64 (Int.tdiv 64 r2)))) (.one (.l .slice)) fun (r16 : Slc) =>
 chk S13 <|
 ix x15.a x15.n r9 1 fun a17 =>
 st a17 [.slice r16.a r16.n r16.c] <|
 nn p0 fun a18 =>
 ld (.l .slice) (fa a18 3) fun (x19 : Slc) =>
 ix x19.a x19.n r9 1 fun a20 =>
 ld (.l .slice) a20 fun (x21 : Slc) =>
 call Tryz.prog 121 [.slice x21.a x21.n x21.c, .int .i64 0, .bool false] (.one (.l (.int .i64))) fun (r22 : Int) =>
 nn p0 fun a23 =>
 ld (.l .slice) (fa a23 3) fun (x24 : Slc) =>
 ix x24.a x24.n r9 1 fun a25 =>
 ld (.l .slice) a25 fun (x26 : Slc) =>
 ix x26.a x26.n r22 1 fun a27 =>
 st a27 [.bool true] <|
 call Tryz.prog 120 [.pointer p0, .int .i64 (IntKind.wrap .i64 ((IntKind.wrap .i64 (r9 * 64)) + (IntKind.wrap .i64 (r22 * r2)))), .int .i64 r2] (.many []) fun (r28 : KTs _) =>
 st (⟨b1, 0, none⟩) [.int .i64 (IntKind.wrap .i64 ((IntKind.wrap .i64 (r9 * 64)) + (IntKind.wrap .i64 (r22 * r2)))), .int .i64 0] <|
 ld (.g [.int .i64, .int .i64]) (⟨b1, 0, none⟩) fun (x29 : LTs _) =>
 ret (.agg #[.int .i64 x29.1, .int .i64 x29.2.1])))
 (nn p0 fun a8 =>
 ld (.l .slice) (fa a8 3) fun (x9 : Slc) =>
 ix x9.a x9.n j5.1 1 fun a10 =>
 ld (.l .slice) a10 fun (x11 : Slc) =>
 call Tryz.prog 121 [.slice x11.a x11.n x11.c, .int .i64 0, .bool false] (.one (.l (.int .i64))) fun (r12 : Int) =>
 nn p0 fun a13 =>
 ld (.l .slice) (fa a13 3) fun (x14 : Slc) =>
 ix x14.a x14.n j5.1 1 fun a15 =>
 ld (.l .slice) a15 fun (x16 : Slc) =>
 ix x16.a x16.n r12 1 fun a17 =>
 st a17 [.bool true] <|
 call Tryz.prog 120 [.pointer p0, .int .i64 (IntKind.wrap .i64 ((IntKind.wrap .i64 (j5.1 * 64)) + (IntKind.wrap .i64 (r12 * r2)))), .int .i64 r2] (.many []) fun (r18 : KTs _) =>
 st (⟨b1, 0, none⟩) [.int .i64 (IntKind.wrap .i64 ((IntKind.wrap .i64 (j5.1 * 64)) + (IntKind.wrap .i64 (r12 * r2)))), .int .i64 0] <|
 ld (.g [.int .i64, .int .i64]) (⟨b1, 0, none⟩) fun (x19 : LTs _) =>
 ret (.agg #[.int .i64 x19.1, .int .i64 x19.2.1]))) fun J4 =>
 lp [.int .i64] (fun X20 u21 =>
 nn p0 fun a22 =>
 ld (.l .slice) (fa a22 1) fun (x23 : Slc) =>
 br (decide ((u21.1 : Int) < (x23.n : Nat)))
 (nn p0 fun a24 =>
 ld (.l .slice) (fa a24 1) fun (x25 : Slc) =>
 ix x25.a x25.n u21.1 1 fun a26 =>
 ld (.l (.int .i64)) a26 fun (x27 : Int) =>
 br ((x27 : Int) != (IntKind.wrap .i64 (r3 + 1)))
 (X20 (IntKind.wrap .i64 (u21.1 + 1), ()))
 (nn p0 fun a28 =>
 ld (.l .slice) (fa a28 3) fun (x29 : Slc) =>
 ix x29.a x29.n u21.1 1 fun a30 =>
 ld (.l .slice) a30 fun (x31 : Slc) =>
 call Tryz.prog 121 [.slice x31.a x31.n x31.c, .int .i64 0, .bool false] (.one (.l (.int .i64))) fun (r32 : Int) =>
 br (decide ((r32 : Int) < 0))
 (X20 (IntKind.wrap .i64 (u21.1 + 1), ()))
 (J4 (u21.1, ()))))
 (J4 (u21.1, ()))) (0, ())))
theorem F.gloamingref1.Space.Alloc.calls (p0 : Option Addr) (p1 : Int) (h : F.gloamingref1.Space.Alloc p0 p1 Q w) : Calls Tryz.prog 76 #[.pointer p0, .int .i64 p1] w (RetQ Q) :=
 Tryz.cd F.gloamingref1.Space.Alloc.T Tryz.func76 (by kernel_rfl) (es := [.va (.pointer p0), .va (.int .i64 p1)]) rfl (by kernel_rfl) h
def F.gloamingref1.PutHead (p0 : LTs [.int .i64, .int .i64, .int .i64, .bool]) : Tree :=
 nw 49 [.int .i64 p0.1, .int .i64 p0.2.1, .int .i64 p0.2.2.1, .bool p0.2.2.2.1] fun b1 =>
 ld (.l (.int .i64)) (fa (⟨b1, 0, none⟩) 0) fun (x2 : Int) =>
 ld (.l (.int .i64)) (fa (⟨b1, 0, none⟩) 1) fun (x3 : Int) =>
 ld (.l (.int .i64)) (fa (⟨b1, 0, none⟩) 2) fun (x4 : Int) =>
 ld (.l .bool) (fa (⟨b1, 0, none⟩) 3) fun (x5 : Bool) =>
 br x5
 (ret (.int .i64 (IntKind.wrap .i64 ((IntKind.wrap .i64 ((IntKind.wrap .i64 (x2 + (IntKind.wrap .i64 (16 * x3)))) + (IntKind.wrap .i64 (65536 * x4)))) + 8))))
 (ret (.int .i64 (IntKind.wrap .i64 ((IntKind.wrap .i64 (x2 + (IntKind.wrap .i64 (16 * x3)))) + (IntKind.wrap .i64 (65536 * x4))))))
theorem F.gloamingref1.PutHead.calls (p0 : LTs [.int .i64, .int .i64, .int .i64, .bool]) (h : F.gloamingref1.PutHead p0 Q w) : Calls Tryz.prog 77 #[.agg #[.int .i64 p0.1, .int .i64 p0.2.1, .int .i64 p0.2.2.1, .bool p0.2.2.2.1]] w (RetQ Q) :=
 Tryz.cd Tabs.z Tryz.func77 (by kernel_rfl) (es := [.va (.agg #[.int .i64 p0.1, .int .i64 p0.2.1, .int .i64 p0.2.2.1, .bool p0.2.2.2.1])]) rfl (by kernel_rfl) h
def F.gloamingref1.Space.Find.T : Tabs := ⟨(fun
 | 11 => [(5, .int .i64)]
 | _ => []),
 (fun
 | 11 => some []
 | _ => none),
 fun _ => .quiet⟩
def F.gloamingref1.Space.Find (p0 : Option Addr) (p1 : Int) : Tree :=
 nw 167 (zc Tryz.prog 167) fun b1 =>
 br (decide ((p1 : Int) < 0))
 (st (⟨b1, 0, none⟩) [.int .i64 0, .int .i64 0, .bool false] <|
 ld (.g [.int .i64, .int .i64, .bool]) (⟨b1, 0, none⟩) fun (x2 : LTs _) =>
 ret (.agg #[.int .i64 x2.1, .int .i64 x2.2.1, .bool x2.2.2.1]))
 (nn p0 fun a2 =>
 ld (.l .slice) (fa a2 0) fun (x3 : Slc) =>
 br (decide ((p1 : Int) ≥ (x3.n : Nat)))
 (st (⟨b1, 0, none⟩) [.int .i64 0, .int .i64 0, .bool false] <|
 ld (.g [.int .i64, .int .i64, .bool]) (⟨b1, 0, none⟩) fun (x4 : LTs _) =>
 ret (.agg #[.int .i64 x4.1, .int .i64 x4.2.1, .bool x4.2.2.1]))
 (need ((64 : Int) ≠ 0) <|
 nn p0 fun a4 =>
 ld (.l .slice) (fa a4 1) fun (x5 : Slc) =>
 ix x5.a x5.n (IntKind.wrap .i64 (Int.tdiv p1 64)) 1 fun a6 =>
 ld (.l (.int .i64)) a6 fun (x7 : Int) =>
 jn (fun (j9 : LTs []) => --
 lp [.int .i64] (fun X10 u11 =>
 br (decide ((u11.1 : Int) > 0))
 (nn p0 fun a12 =>
 ld (.l .slice) (fa a12 1) fun (x13 : Slc) =>
 ix x13.a x13.n u11.1 1 fun a14 =>
 ld (.l (.int .i64)) a14 fun (x15 : Int) =>
 br ((x15 : Int) == 7)
 (X10 (IntKind.wrap .i64 (u11.1 - 1), ()))
 (nn p0 fun a16 =>
 ld (.l .slice) (fa a16 1) fun (x17 : Slc) =>
 ix x17.a x17.n u11.1 1 fun a18 =>
 ld (.l (.int .i64)) a18 fun (x19 : Int) =>
 br ((x19 : Int) != 6)
 (st (⟨b1, 0, none⟩) [.int .i64 0, .int .i64 0, .bool false] <|
 ld (.g [.int .i64, .int .i64, .bool]) (⟨b1, 0, none⟩) fun (x20 : LTs _) =>
 ret (.agg #[.int .i64 x20.1, .int .i64 x20.2.1, .bool x20.2.2.1]))
 (nn p0 fun a20 =>
 ld (.l .slice) (fa a20 2) fun (x21 : Slc) =>
 ix x21.a x21.n u11.1 1 fun a22 =>
 ld (.l (.int .i64)) a22 fun (x23 : Int) =>
 st (⟨b1, 0, none⟩) [.int .i64 (IntKind.wrap .i64 (u11.1 * 64)), .int .i64 (IntKind.wrap .i64 (x23 * 64)), .bool true] <|
 ld (.g [.int .i64, .int .i64, .bool]) (⟨b1, 0, none⟩) fun (x24 : LTs _) =>
 ret (.agg #[.int .i64 x24.1, .int .i64 x24.2.1, .bool x24.2.2.1]))))
 (nn p0 fun a12 =>
 ld (.l .slice) (fa a12 1) fun (x13 : Slc) =>
 ix x13.a x13.n u11.1 1 fun a14 =>
 ld (.l (.int .i64)) a14 fun (x15 : Int) =>
 br ((x15 : Int) != 6)
 (st (⟨b1, 0, none⟩) [.int .i64 0, .int .i64 0, .bool false] <|
 ld (.g [.int .i64, .int .i64, .bool]) (⟨b1, 0, none⟩) fun (x16 : LTs _) =>
 ret (.agg #[.int .i64 x16.1, .int .i64 x16.2.1, .bool x16.2.2.1]))
 (nn p0 fun a16 =>
 ld (.l .slice) (fa a16 2) fun (x17 : Slc) =>
 ix x17.a x17.n u11.1 1 fun a18 =>
 ld (.l (.int .i64)) a18 fun (x19 : Int) =>
 st (⟨b1, 0, none⟩) [.int .i64 (IntKind.wrap .i64 (u11.1 * 64)), .int .i64 (IntKind.wrap .i64 (x19 * 64)), .bool true] <|
 ld (.g [.int .i64, .int .i64, .bool]) (⟨b1, 0, none⟩) fun (x20 : LTs _) =>
 ret (.agg #[.int .i64 x20.1, .int .i64 x20.2.1, .bool x20.2.2.1])))) (IntKind.wrap .i64 (Int.tdiv p1 64), ())) fun J8 =>
 br (decide ((x7 : Int) ≥ 1))
 (br (decide ((x7 : Int) ≤ 5))
 (call Tryz.prog 102 [] (.one (.l .slice)) fun (r21 : Slc) =>
 ix r21.a r21.n (IntKind.wrap .i64 (x7 - 1)) 1 fun a22 =>
 ld (.l (.int .i64)) a22 fun (x23 : Int) =>
 need ((64 : Int) ≠ 0) <|
 need ((x23 : Int) ≠ 0) <|
 nn p0 fun a24 =>
 ld (.l .slice) (fa a24 3) fun (x25 : Slc) =>
 ix x25.a x25.n (IntKind.wrap .i64 (Int.tdiv p1 64)) 1 fun a26 =>
 ld (.l .slice) a26 fun (x27 : Slc) =>
 ix x27.a x27.n (IntKind.wrap .i64 (Int.tdiv (Int.tmod p1 64) x23)) 1 fun a28 =>
 ld (.l .bool) a28 fun (x29 : Bool) =>
 br (!x29)
 (st (⟨b1, 0, none⟩) [.int .i64 0, .int .i64 0, .bool false] <|
 ld (.g [.int .i64, .int .i64, .bool]) (⟨b1, 0, none⟩) fun (x30 : LTs _) =>
 ret (.agg #[.int .i64 x30.1, .int .i64 x30.2.1, .bool x30.2.2.1]))
 (st (⟨b1, 0, none⟩) [.int .i64 (IntKind.wrap .i64 ((IntKind.wrap .i64 ((IntKind.wrap .i64 (Int.tdiv p1 64)) * 64)) + (IntKind.wrap .i64 ((IntKind.wrap .i64 (Int.tdiv (Int.tmod p1 64) x23)) * x23)))), .int .i64 x23, .bool true] <|
 ld (.g [.int .i64, .int .i64, .bool]) (⟨b1, 0, none⟩) fun (x30 : LTs _) =>
 ret (.agg #[.int .i64 x30.1, .int .i64 x30.2.1, .bool x30.2.2.1])))
 (J8 (())))
 (J8 (()))))
theorem F.gloamingref1.Space.Find.calls (p0 : Option Addr) (p1 : Int) (h : F.gloamingref1.Space.Find p0 p1 Q w) : Calls Tryz.prog 98 #[.pointer p0, .int .i64 p1] w (RetQ Q) :=
 Tryz.cd F.gloamingref1.Space.Find.T Tryz.func98 (by kernel_rfl) (es := [.va (.pointer p0), .va (.int .i64 p1)]) rfl (by kernel_rfl) h
def F.gloamingref1.GetHead (p0 : Int) : Tree :=
 nw 109 (zc Tryz.prog 109) fun b1 =>
 br (decide ((p0 : Int) < 0))
 (st (⟨b1, 0, none⟩) [.int .i64 0, .int .i64 0, .int .i64 0, .bool false, .bool false] <|
 ld (.g [.int .i64, .int .i64, .int .i64, .bool, .bool]) (⟨b1, 0, none⟩) fun (x2 : LTs _) =>
 ret (.agg #[.int .i64 x2.1, .int .i64 x2.2.1, .int .i64 x2.2.2.1, .bool x2.2.2.2.1, .bool x2.2.2.2.2.1]))
 (br (decide ((p0 : Int) ≥ 67108864))
 (st (⟨b1, 0, none⟩) [.int .i64 0, .int .i64 0, .int .i64 0, .bool false, .bool false] <|
 ld (.g [.int .i64, .int .i64, .int .i64, .bool, .bool]) (⟨b1, 0, none⟩) fun (x2 : LTs _) =>
 ret (.agg #[.int .i64 x2.1, .int .i64 x2.2.1, .int .i64 x2.2.2.1, .bool x2.2.2.2.1, .bool x2.2.2.2.2.1]))
 (need ((8 : Int) ≠ 0) <|
 need ((8 : Int) ≠ 0) <|
 need ((2 : Int) ≠ 0) <|
 need ((16 : Int) ≠ 0) <|
 need ((4096 : Int) ≠ 0) <|
 need ((65536 : Int) ≠ 0) <|
 nw 49 (zc Tryz.prog 49) fun b2 =>
 st (⟨b2, 0, none⟩) [.int .i64 (Int.tmod p0 8), .int .i64 (Int.tmod (IntKind.wrap .i64 (Int.tdiv p0 16)) 4096), .int .i64 (IntKind.wrap .i64 (Int.tdiv p0 65536)), .bool ((Int.tmod (IntKind.wrap .i64 (Int.tdiv p0 8)) 2 : Int) == 1)] <|
 ld (.g [.int .i64, .int .i64, .int .i64, .bool]) (⟨b2, 0, none⟩) fun (x3 : LTs _) =>
 call Tryz.prog 115 [.agg #[.int .i64 x3.1, .int .i64 x3.2.1, .int .i64 x3.2.2.1, .bool x3.2.2.2.1]] (.one (.l .bool)) fun (r4 : Bool) =>
 br (!r4)
 (st (⟨b1, 0, none⟩) [.int .i64 0, .int .i64 0, .int .i64 0, .bool false, .bool false] <|
 ld (.g [.int .i64, .int .i64, .int .i64, .bool, .bool]) (⟨b1, 0, none⟩) fun (x5 : LTs _) =>
 ret (.agg #[.int .i64 x5.1, .int .i64 x5.2.1, .int .i64 x5.2.2.1, .bool x5.2.2.2.1, .bool x5.2.2.2.2.1]))
 (ld (.g [.int .i64, .int .i64, .int .i64, .bool]) (⟨b2, 0, none⟩) fun (x5 : LTs _) =>
 st (⟨b1, 0, none⟩) [.int .i64 x5.1, .int .i64 x5.2.1, .int .i64 x5.2.2.1, .bool x5.2.2.2.1, .bool true] <|
 ld (.g [.int .i64, .int .i64, .int .i64, .bool, .bool]) (⟨b1, 0, none⟩) fun (x6 : LTs _) =>
 ret (.agg #[.int .i64 x6.1, .int .i64 x6.2.1, .int .i64 x6.2.2.1, .bool x6.2.2.2.1, .bool x6.2.2.2.2.1]))))
theorem F.gloamingref1.GetHead.calls (p0 : Int) (h : F.gloamingref1.GetHead p0 Q w) : Calls Tryz.prog 99 #[.int .i64 p0] w (RetQ Q) :=
 Tryz.cd Tabs.z Tryz.func99 (by kernel_rfl) (es := [.va (.int .i64 p0)]) rfl (by kernel_rfl) h
def F.gloamingref1.Sizes  : Tree :=
 nw 3 [.int .i64 2, .int .i64 4, .int .i64 8, .int .i64 16, .int .i64 32] fun b1 =>
 ret (.slice (some ⟨b1, 0, none⟩) 5 5)
theorem F.gloamingref1.Sizes.calls  (h : F.gloamingref1.Sizes Q w) : Calls Tryz.prog 102 #[] w (RetQ Q) :=
 Tryz.cd Tabs.z Tryz.func102 (by kernel_rfl) (es := []) rfl (by kernel_rfl) h
def F.gloamingref1.MayHead (p0 : LTs [.int .i64, .int .i64, .int .i64, .bool]) : Tree :=
 nw 49 [.int .i64 p0.1, .int .i64 p0.2.1, .int .i64 p0.2.2.1, .bool p0.2.2.2.1] fun b1 =>
 ld (.l (.int .i64)) (fa (⟨b1, 0, none⟩) 2) fun (x2 : Int) =>
 br (decide ((x2 : Int) < 0))
 (ret (.bool false))
 (ld (.l (.int .i64)) (fa (⟨b1, 0, none⟩) 2) fun (x3 : Int) =>
 br (decide ((x3 : Int) > 1023))
 (ret (.bool false))
 (ld (.l (.int .i64)) (fa (⟨b1, 0, none⟩) 0) fun (x4 : Int) =>
 br ((x4 : Int) == 1)
 (ld (.l (.int .i64)) (fa (⟨b1, 0, none⟩) 1) fun (x5 : Int) =>
 br (decide ((x5 : Int) ≥ 1))
 (ld (.l (.int .i64)) (fa (⟨b1, 0, none⟩) 1) fun (x6 : Int) =>
 ret (.bool (decide ((x6 : Int) ≤ 256))))
 (ret (.bool false)))
 (br ((x4 : Int) == 2)
 (br ((x4 : Int) == 2)
 (ld (.l (.int .i64)) (fa (⟨b1, 0, none⟩) 1) fun (x5 : Int) =>
 ret (.bool ((x5 : Int) == 0)))
 (br ((x4 : Int) == 4)
 (ld (.l (.int .i64)) (fa (⟨b1, 0, none⟩) 1) fun (x5 : Int) =>
 br (decide ((x5 : Int) ≥ 1))
 (ld (.l (.int .i64)) (fa (⟨b1, 0, none⟩) 1) fun (x6 : Int) =>
 br (decide ((x6 : Int) ≤ 3))
 (ld (.l (.int .i64)) (fa (⟨b1, 0, none⟩) 2) fun (x7 : Int) =>
 br ((x7 : Int) == 5)
 (ld (.l .bool) (fa (⟨b1, 0, none⟩) 3) fun (x8 : Bool) =>
 ret (.bool (!x8)))
 (ret (.bool false)))
 (ret (.bool false)))
 (ret (.bool false)))
 (ret (.bool false))))
 (br ((x4 : Int) == 3)
 (ld (.l (.int .i64)) (fa (⟨b1, 0, none⟩) 1) fun (x5 : Int) =>
 ret (.bool ((x5 : Int) == 0)))
 (br ((x4 : Int) == 4)
 (ld (.l (.int .i64)) (fa (⟨b1, 0, none⟩) 1) fun (x5 : Int) =>
 br (decide ((x5 : Int) ≥ 1))
 (ld (.l (.int .i64)) (fa (⟨b1, 0, none⟩) 1) fun (x6 : Int) =>
 br (decide ((x6 : Int) ≤ 3))
 (ld (.l (.int .i64)) (fa (⟨b1, 0, none⟩) 2) fun (x7 : Int) =>
 br ((x7 : Int) == 5)
 (ld (.l .bool) (fa (⟨b1, 0, none⟩) 3) fun (x8 : Bool) =>
 ret (.bool (!x8)))
 (ret (.bool false)))
 (ret (.bool false)))
 (ret (.bool false)))
 (ret (.bool false)))))))
theorem F.gloamingref1.MayHead.calls (p0 : LTs [.int .i64, .int .i64, .int .i64, .bool]) (h : F.gloamingref1.MayHead p0 Q w) : Calls Tryz.prog 115 #[.agg #[.int .i64 p0.1, .int .i64 p0.2.1, .int .i64 p0.2.2.1, .bool p0.2.2.2.1]] w (RetQ Q) :=
 Tryz.cd Tabs.z Tryz.func115 (by kernel_rfl) (es := [.va (.agg #[.int .i64 p0.1, .int .i64 p0.2.1, .int .i64 p0.2.2.1, .bool p0.2.2.2.1])]) rfl (by kernel_rfl) h
def F.gloamingref1.Block (p0 : Int) : Tree :=
 call Tryz.prog 117 [.int .i64 p0] (.one (.l (.int .i64))) fun (r1 : Int) =>
 br (decide ((r1 : Int) ≥ 0))
 (call Tryz.prog 102 [] (.one (.l .slice)) fun (r2 : Slc) =>
 ix r2.a r2.n r1 1 fun a3 =>
 ld (.l (.int .i64)) a3 fun (x4 : Int) =>
 ret (.int .i64 x4))
 (br (decide ((p0 : Int) < 1))
 (ret (.int .i64 0))
 (br (decide ((p0 : Int) > 1024))
 (ret (.int .i64 0))
 (need ((64 : Int) ≠ 0) <|
 ret (.int .i64 (IntKind.wrap .i64 ((IntKind.wrap .i64 (Int.tdiv (IntKind.wrap .i64 ((IntKind.wrap .i64 (p0 + 64)) - 1)) 64)) * 64))))))
theorem F.gloamingref1.Block.calls (p0 : Int) (h : F.gloamingref1.Block p0 Q w) : Calls Tryz.prog 116 #[.int .i64 p0] w (RetQ Q) :=
 Tryz.cd Tabs.z Tryz.func116 (by kernel_rfl) (es := [.va (.int .i64 p0)]) rfl (by kernel_rfl) h
def F.gloamingref1.Class.T : Tabs := ⟨(fun
 | 3 => [(4, .int .i64)]
 | _ => []),
 fun _ => none,
 fun _ => .quiet⟩
def F.gloamingref1.Class (p0 : Int) : Tree :=
 call Tryz.prog 102 [] (.one (.l .slice)) fun (r1 : Slc) =>
 lp [.int .i64] (fun X2 u3 =>
 br (decide ((u3.1 : Int) < (r1.n : Nat)))
 (br (decide ((p0 : Int) ≥ 1))
 (ix r1.a r1.n u3.1 1 fun a4 =>
 ld (.l (.int .i64)) a4 fun (x5 : Int) =>
 br (decide ((x5 : Int) ≥ p0))
 (ret (.int .i64 u3.1))
 (X2 (IntKind.wrap .i64 (u3.1 + 1), ())))
 (ret (.int .i64 (-1))))
 (ret (.int .i64 (-1)))) (0, ())
theorem F.gloamingref1.Class.calls (p0 : Int) (h : F.gloamingref1.Class p0 Q w) : Calls Tryz.prog 117 #[.int .i64 p0] w (RetQ Q) :=
 Tryz.cd F.gloamingref1.Class.T Tryz.func117 (by kernel_rfl) (es := [.va (.int .i64 p0)]) rfl (by kernel_rfl) h
def F.gloamingref1.Space.pages.T : Tabs := ⟨(fun
 | 3 => [(4, .int .i64)]
 | _ => []),
 fun _ => none,
 fun _ => .quiet⟩
def F.gloamingref1.Space.pages (p0 : Option Addr) : Tree :=
 nn p0 fun a1 =>
 ld (.l .slice) (fa a1 1) fun (x2 : Slc) =>
 opr Tryz.prog (Instr.makeSlice 173 (.int .i64 (x2.n : Nat)) (.int .i64 (x2.n : Nat))) (.one (.l .slice)) fun (r3 : Slc) =>
 lp [.int .i64] (fun X4 u5 =>
 br (decide ((u5.1 : Int) < (r3.n : Nat)))
 (nn p0 fun a6 =>
 ld (.l .slice) (fa a6 1) fun (x7 : Slc) =>
 ix x7.a x7.n u5.1 1 fun a8 =>
 ld (.l (.int .i64)) a8 fun (x9 : Int) =>
 ix r3.a r3.n u5.1 1 fun a10 =>
 st a10 [.bool ((x9 : Int) != 0)] <|
 X4 (IntKind.wrap .i64 (u5.1 + 1), ()))
 (ret (.slice r3.a r3.n r3.c))) (0, ())
theorem F.gloamingref1.Space.pages.calls (p0 : Option Addr) (h : F.gloamingref1.Space.pages p0 Q w) : Calls Tryz.prog 118 #[.pointer p0] w (RetQ Q) :=
 Tryz.cd F.gloamingref1.Space.pages.T Tryz.func118 (by kernel_rfl) (es := [.va (.pointer p0)]) rfl (by kernel_rfl) h
def F.gloamingref1.Bits.Run.T : Tabs := ⟨(fun
 | 4 => [(7, .int .i64)]
 | _ => []),
 fun _ => none,
 fun _ => .quiet⟩
def F.gloamingref1.Bits.Run (p0 : Slc) (p1 : Int) (p2 : Int) : Tree :=
 br (decide ((p2 : Int) < 1))
 (ret (.int .i64 (-1)))
 (br (decide ((p2 : Int) > (p0.n : Nat)))
 (ret (.int .i64 (-1)))
 (lp [.int .i64] (fun X1 u2 =>
 br (decide ((u2.1 : Int) ≤ (IntKind.wrap .i64 ((p0.n : Nat) - p2))))
 (call Tryz.prog 145 [.slice p0.a p0.n p0.c, .int .i64 u2.1, .int .i64 p2] (.one (.l .bool)) fun (r3 : Bool) =>
 br r3
 (ret (.int .i64 u2.1))
 (X1 (IntKind.wrap .i64 (u2.1 + 1), ())))
 (ret (.int .i64 (-1)))) ((if (0 : Int) > p1 then (0 : Int) else p1), ())))
theorem F.gloamingref1.Bits.Run.calls (p0 : Slc) (p1 : Int) (p2 : Int) (h : F.gloamingref1.Bits.Run p0 p1 p2 Q w) : Calls Tryz.prog 119 #[.slice p0.a p0.n p0.c, .int .i64 p1, .int .i64 p2] w (RetQ Q) :=
 Tryz.cd F.gloamingref1.Bits.Run.T Tryz.func119 (by kernel_rfl) (es := [.va (.slice p0.a p0.n p0.c), .va (.int .i64 p1), .va (.int .i64 p2)]) rfl (by kernel_rfl) h
def F.gloamingref1.Space.fill.T : Tabs := ⟨(fun
 | 1 => [(6, .int .i64)]
 | _ => []),
 fun _ => none,
 fun _ => .quiet⟩
def F.gloamingref1.Space.fill (p0 : Option Addr) (p1 : Int) (p2 : Int) : Tree :=
 lp [.int .i64] (fun X1 u2 =>
 br (decide ((u2.1 : Int) < (IntKind.wrap .i64 (p1 + p2))))
 (nn p0 fun a3 =>
 ld (.l .slice) (fa a3 0) fun (x4 : Slc) =>
 ix x4.a x4.n u2.1 1 fun a5 =>
 st a5 [.int .i64 0] <|
 X1 (IntKind.wrap .i64 (u2.1 + 1), ()))
 (ret (.tuple #[]))) (p1, ())
theorem F.gloamingref1.Space.fill.calls (p0 : Option Addr) (p1 : Int) (p2 : Int) (h : F.gloamingref1.Space.fill p0 p1 p2 Q w) : Calls Tryz.prog 120 #[.pointer p0, .int .i64 p1, .int .i64 p2] w (RetQ Q) :=
 Tryz.cd F.gloamingref1.Space.fill.T Tryz.func120 (by kernel_rfl) (es := [.va (.pointer p0), .va (.int .i64 p1), .va (.int .i64 p2)]) rfl (by kernel_rfl) h
def F.gloamingref1.Bits.Next.T : Tabs := ⟨(fun
 | 2 => [(7, .int .i64)]
 | _ => []),
 fun _ => none,
 fun _ => .quiet⟩
def F.gloamingref1.Bits.Next (p0 : Slc) (p1 : Int) (p2 : Bool) : Tree :=
 lp [.int .i64] (fun X1 u2 =>
 br (decide ((u2.1 : Int) < (p0.n : Nat)))
 (ix p0.a p0.n u2.1 1 fun a3 =>
 ld (.l .bool) a3 fun (x4 : Bool) =>
 br (x4 == p2)
 (ret (.int .i64 u2.1))
 (X1 (IntKind.wrap .i64 (u2.1 + 1), ())))
 (ret (.int .i64 (-1)))) ((if (0 : Int) > p1 then (0 : Int) else p1), ())
theorem F.gloamingref1.Bits.Next.calls (p0 : Slc) (p1 : Int) (p2 : Bool) (h : F.gloamingref1.Bits.Next p0 p1 p2 Q w) : Calls Tryz.prog 121 #[.slice p0.a p0.n p0.c, .int .i64 p1, .bool p2] w (RetQ Q) :=
 Tryz.cd F.gloamingref1.Bits.Next.T Tryz.func121 (by kernel_rfl) (es := [.va (.slice p0.a p0.n p0.c), .va (.int .i64 p1), .va (.bool p2)]) rfl (by kernel_rfl) h
def F.gloamingref1.Bits.clear.T : Tabs := ⟨(fun
 | 2 => [(7, .int .i64)]
 | _ => []),
 fun _ => none,
 fun _ => .quiet⟩
def F.gloamingref1.Bits.clear (p0 : Slc) (p1 : Int) (p2 : Int) : Tree :=
 lp [.int .i64] (fun X1 u2 =>
 br (decide ((u2.1 : Int) < (IntKind.wrap .i64 (p1 + p2))))
 (ix p0.a p0.n u2.1 1 fun a3 =>
 ld (.l .bool) a3 fun (x4 : Bool) =>
 br x4
 (ret (.bool false))
 (X1 (IntKind.wrap .i64 (u2.1 + 1), ())))
 (ret (.bool true))) (p1, ())
theorem F.gloamingref1.Bits.clear.calls (p0 : Slc) (p1 : Int) (p2 : Int) (h : F.gloamingref1.Bits.clear p0 p1 p2 Q w) : Calls Tryz.prog 145 #[.slice p0.a p0.n p0.c, .int .i64 p1, .int .i64 p2] w (RetQ Q) :=
 Tryz.cd F.gloamingref1.Bits.clear.T Tryz.func145 (by kernel_rfl) (es := [.va (.slice p0.a p0.n p0.c), .va (.int .i64 p1), .va (.int .i64 p2)]) rfl (by kernel_rfl) h
end Go.Proofs.YtpefngbfgjfcgaaGreat
