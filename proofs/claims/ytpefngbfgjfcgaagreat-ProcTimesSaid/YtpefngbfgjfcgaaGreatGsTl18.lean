import Derived.Test.YtpefngbfgjfcgaaGreatGsT
namespace Go.Proofs.YtpefngbfgjfcgaaGreat
open Go Go.Gl
set_option maxRecDepth 100000
set_option linter.unusedVariables false
variable {Q : Value → World → Prop} {w : World}
def F.gloaminglaw18.In (p0 : Slc) (p1 : Slc) (p2 : Slc) (p3 : Int) (p4 : Int) (p5 : Int) (p6 : Bool) (p7 : Int) : Tree :=
 nw 31 (zc Tryz.prog 31) fun b1 =>
 call Tryz.prog 42 [.slice p0.a p0.n p0.c, .slice p1.a p1.n p1.c, .int .i64 5] (.one (.l .slice)) fun (r2 : Slc) =>
 call Tryz.prog 42 [.slice p0.a p0.n p0.c, .slice p2.a p2.n p2.c, .int .i64 5] (.one (.l .slice)) fun (r3 : Slc) =>
 need ((20 : Int) ≠ 0) <|
 need ((9 : Int) ≠ 0) <|
 need ((9 : Int) ≠ 0) <|
 st (⟨b1, 0, none⟩) [.slice r2.a r2.n r2.c, .slice r3.a r3.n r3.c, .int .i64 (IntKind.wrap .i64 p3), .int .i64 (Int.tmod (IntKind.wrap .i64 p4) 20), .int .i64 (Int.tmod (IntKind.wrap .i64 p5) 9), .bool p6, .int .i64 (IntKind.wrap .i64 (1 + (Int.tmod (IntKind.wrap .i64 p7) 9)))] <|
 ld (.g [.slice, .slice, .int .i64, .int .i64, .int .i64, .bool, .int .i64]) (⟨b1, 0, none⟩) fun (x4 : LTs _) =>
 ret (.agg #[.slice x4.1.a x4.1.n x4.1.c, .slice x4.2.1.a x4.2.1.n x4.2.1.c, .int .i64 x4.2.2.1, .int .i64 x4.2.2.2.1, .int .i64 x4.2.2.2.2.1, .bool x4.2.2.2.2.2.1, .int .i64 x4.2.2.2.2.2.2.1])
theorem F.gloaminglaw18.In.calls (p0 : Slc) (p1 : Slc) (p2 : Slc) (p3 : Int) (p4 : Int) (p5 : Int) (p6 : Bool) (p7 : Int) (h : F.gloaminglaw18.In p0 p1 p2 p3 p4 p5 p6 p7 Q w) : Calls Tryz.prog 15 #[.slice p0.a p0.n p0.c, .slice p1.a p1.n p1.c, .slice p2.a p2.n p2.c, .int .u8 p3, .int .u8 p4, .int .u8 p5, .bool p6, .int .u8 p7] w (RetQ Q) :=
 Tryz.cd Tabs.z Tryz.func15 (by kernel_rfl) (es := [.va (.slice p0.a p0.n p0.c), .va (.slice p1.a p1.n p1.c), .va (.slice p2.a p2.n p2.c), .va (.int .u8 p3), .va (.int .u8 p4), .va (.int .u8 p5), .va (.bool p6), .va (.int .u8 p7)]) rfl (by kernel_rfl) h
def F.gloaminglaw18.awake  : Tree :=
 call Tryz.prog 13 [.slice none 0 0] (.many [.l .ptr, .l .slice]) fun (r1 : KTs _) =>
 call Tryz.prog 16 [.pointer r1.1, .agg #[.slice none 0 0, .slice none 0 0, .int .i64 0, .int .i64 0, .int .i64 0, .bool false, .int .i64 1]] (.many [.g [.slice, .slice, .slice, .slice], .l (.int .i64)]) fun (r2 : KTs _) =>
 nw 34 (zc Tryz.prog 34) fun b3 =>
 st (⟨b3, 0, none⟩) [.slice r2.1.1.a r2.1.1.n r2.1.1.c, .slice r2.1.2.1.a r2.1.2.1.n r2.1.2.1.c, .slice r2.1.2.2.1.a r2.1.2.2.1.n r2.1.2.2.1.c, .slice r2.1.2.2.2.1.a r2.1.2.2.2.1.n r2.1.2.2.2.1.c] <|
 br (Option.isNone r1.1)
 (ret (.bool false))
 (call Tryz.prog 17 [.int .i64 r2.2.1] (.one (.l (.int .i64))) fun (r4 : Int) =>
 br ((r4 : Int) != 0)
 (ret (.bool false))
 (ld (.l .slice) (fa (⟨b3, 0, none⟩) 3) fun (x5 : Slc) =>
 br (((x5.n : Nat) : Int) != 0)
 (ret (.bool false))
 (call Tryz.prog 36 [.pointer r1.1, .agg #[.int .i64 3, .int .i64 0, .int .i64 1, .bool false]] (.many [.l (.int .i64), .l (.int .i64)]) fun (r6 : KTs _) =>
 call Tryz.prog 36 [.pointer r1.1, .agg #[.int .i64 4, .int .i64 2, .int .i64 5, .bool false]] (.many [.l (.int .i64), .l (.int .i64)]) fun (r7 : KTs _) =>
 call Tryz.prog 31 [.pointer r1.1, .int .i64 r7.1, .int .i64 0, .int .i64 r6.1] (.one (.l (.int .i64))) fun (r8 : Int) =>
 nw 3 [.int .i64 r7.1] fun b9 =>
 call Tryz.prog 16 [.pointer r1.1, .agg #[.slice (some ⟨b9, 0, none⟩) 1 1, .slice none 0 0, .int .i64 0, .int .i64 0, .int .i64 0, .bool false, .int .i64 1]] (.many [.g [.slice, .slice, .slice, .slice], .l (.int .i64)]) fun (r10 : KTs _) =>
 st (⟨b3, 0, none⟩) [.slice r10.1.1.a r10.1.1.n r10.1.1.c, .slice r10.1.2.1.a r10.1.2.1.n r10.1.2.1.c, .slice r10.1.2.2.1.a r10.1.2.2.1.n r10.1.2.2.1.c, .slice r10.1.2.2.2.1.a r10.1.2.2.2.1.n r10.1.2.2.2.1.c] <|
 call Tryz.prog 17 [.int .i64 r10.2.1] (.one (.l (.int .i64))) fun (r11 : Int) =>
 call Tryz.prog 17 [.int .i64 r6.2.1] (.one (.l (.int .i64))) fun (r12 : Int) =>
 call Tryz.prog 17 [.int .i64 r7.2.1] (.one (.l (.int .i64))) fun (r13 : Int) =>
 br ((IntKind.wrap .i64 ((IntKind.wrap .i64 (r11 + r12)) + r13) : Int) == 0)
 (ld (.l .slice) (fa (⟨b3, 0, none⟩) 0) fun (x14 : Slc) =>
 br (((x14.n : Nat) : Int) == 1)
 (ld (.l .slice) (fa (⟨b3, 0, none⟩) 3) fun (x15 : Slc) =>
 br (((x15.n : Nat) : Int) == 1)
 (ld (.l .slice) (fa (⟨b3, 0, none⟩) 1) fun (x16 : Slc) =>
 ret (.bool (((x16.n : Nat) : Int) == 0)))
 (ret (.bool false)))
 (ret (.bool false)))
 (ret (.bool false)))))
theorem F.gloaminglaw18.awake.calls  (h : F.gloaminglaw18.awake Q w) : Calls Tryz.prog 23 #[] w (RetQ Q) :=
 Tryz.cd Tabs.z Tryz.func23 (by kernel_rfl) (es := []) rfl (by kernel_rfl) h
def F.gloaminglaw18.reach.T : Tabs := ⟨(fun
 | 4 => [(5, .slice), (6, .slice), (7, .int .i64)]
 | 12 => [(6, .slice), (12, .int .i64)]
 | _ => []),
 fun _ => none,
 fun _ => .quiet⟩
def F.gloaminglaw18.reach (p0 : Option Addr) (p1 : Slc) : Tree :=
 nw 3 [] fun b1 =>
 opr Tryz.prog (Builtin.append_ #[24, 24] 24 #[.slice (some ⟨b1, 0, none⟩) 0 0, .slice p1.a p1.n p1.c]) (.one (.l .slice)) fun (r2 : Slc) =>
 lp [.slice, .slice, .int .i64] (fun X3 u4 =>
 br (decide ((u4.2.2.1 : Int) < (u4.2.1.n : Nat)))
 (br (decide ((u4.2.2.1 : Int) < 5000))
 (ix u4.2.1.a u4.2.1.n u4.2.2.1 1 fun a5 =>
 ld (.l (.int .i64)) a5 fun (x6 : Int) =>
 call Tryz.prog 25 [.pointer p0, .int .i64 x6] (.many [.g [.int .i64, .int .i64, .int .i64, .bool], .l (.int .i64)]) fun (r7 : KTs _) =>
 nw 49 (zc Tryz.prog 49) fun b8 =>
 st (⟨b8, 0, none⟩) [.int .i64 r7.1.1, .int .i64 r7.1.2.1, .int .i64 r7.1.2.2.1, .bool r7.1.2.2.2.1] <|
 call Tryz.prog 17 [.int .i64 r7.2.1] (.one (.l (.int .i64))) fun (r9 : Int) =>
 br ((r9 : Int) != 0)
 (X3 (⟨u4.1.a, u4.1.n, u4.1.c⟩, ⟨u4.2.1.a, u4.2.1.n, u4.2.1.c⟩, IntKind.wrap .i64 (u4.2.2.1 + 1), ()))
 (call Tryz.prog 27 [.slice u4.1.a u4.1.n u4.1.c, .int .i64 x6] (.one (.l .bool)) fun (r10 : Bool) =>
 br r10
 (X3 (⟨u4.1.a, u4.1.n, u4.1.c⟩, ⟨u4.2.1.a, u4.2.1.n, u4.2.1.c⟩, IntKind.wrap .i64 (u4.2.2.1 + 1), ()))
 (nw 3 [.int .i64 x6] fun b11 =>
 opr Tryz.prog (Builtin.append_ #[24, 24] 24 #[.slice u4.1.a u4.1.n u4.1.c, .slice (some ⟨b11, 0, none⟩) 1 1]) (.one (.l .slice)) fun (r12 : Slc) =>
 call Tryz.prog 60 [.pointer p0, .int .i64 x6] (.one (.l .slice)) fun (r13 : Slc) =>
 lp [.slice, .int .i64] (fun X14 u15 =>
 br (decide ((u15.2.1 : Int) < (r13.n : Nat)))
 (ix r13.a r13.n u15.2.1 1 fun a16 =>
 ld (.l (.int .i64)) a16 fun (x17 : Int) =>
 call Tryz.prog 26 [.pointer p0, .int .i64 x6, .int .i64 x17] (.many [.l (.int .i64), .l (.int .i64)]) fun (r18 : KTs _) =>
 nw 3 [.int .i64 r18.1] fun b19 =>
 opr Tryz.prog (Builtin.append_ #[24, 24] 24 #[.slice u15.1.a u15.1.n u15.1.c, .slice (some ⟨b19, 0, none⟩) 1 1]) (.one (.l .slice)) fun (r20 : Slc) =>
 X14 (⟨r20.a, r20.n, r20.c⟩, IntKind.wrap .i64 (u15.2.1 + 1), ()))
 (X3 (⟨r12.a, r12.n, r12.c⟩, ⟨u15.1.a, u15.1.n, u15.1.c⟩, IntKind.wrap .i64 (u4.2.2.1 + 1), ()))) (⟨u4.2.1.a, u4.2.1.n, u4.2.1.c⟩, 0, ()))))
 (ret (.slice u4.1.a u4.1.n u4.1.c)))
 (ret (.slice u4.1.a u4.1.n u4.1.c))) (⟨none, 0, 0⟩, ⟨r2.a, r2.n, r2.c⟩, 0, ())
theorem F.gloaminglaw18.reach.calls (p0 : Option Addr) (p1 : Slc) (h : F.gloaminglaw18.reach p0 p1 Q w) : Calls Tryz.prog 24 #[.pointer p0, .slice p1.a p1.n p1.c] w (RetQ Q) :=
 Tryz.cd F.gloaminglaw18.reach.T Tryz.func24 (by kernel_rfl) (es := [.va (.pointer p0), .va (.slice p1.a p1.n p1.c)]) rfl (by kernel_rfl) h
def F.gloaminglaw18.box.T : Tabs := ⟨(fun
 | 5 => [(7, .int .i64)]
 | _ => []),
 fun _ => none,
 fun _ => .quiet⟩
def F.gloaminglaw18.box (p0 : Option Addr) (p1 : Slc) : Tree :=
 call Tryz.prog 36 [.pointer p0, .agg #[.int .i64 2, .int .i64 0, .int .i64 (if (1 : Int) > (p1.n : Nat) then (1 : Int) else (p1.n : Nat)), .bool false]] (.many [.l (.int .i64), .l (.int .i64)]) fun (r1 : KTs _) =>
 call Tryz.prog 17 [.int .i64 r1.2.1] (.one (.l (.int .i64))) fun (r2 : Int) =>
 br ((r2 : Int) != 0)
 (ret (.int .i64 0))
 (lp [.int .i64] (fun X3 u4 =>
 br (decide ((u4.1 : Int) < (p1.n : Nat)))
 (ix p1.a p1.n u4.1 1 fun a5 =>
 ld (.l (.int .i64)) a5 fun (x6 : Int) =>
 call Tryz.prog 31 [.pointer p0, .int .i64 r1.1, .int .i64 u4.1, .int .i64 x6] (.one (.l (.int .i64))) fun (r7 : Int) =>
 X3 (IntKind.wrap .i64 (u4.1 + 1), ()))
 (ret (.int .i64 r1.1))) (0, ()))
theorem F.gloaminglaw18.box.calls (p0 : Option Addr) (p1 : Slc) (h : F.gloaminglaw18.box p0 p1 Q w) : Calls Tryz.prog 28 #[.pointer p0, .slice p1.a p1.n p1.c] w (RetQ Q) :=
 Tryz.cd F.gloaminglaw18.box.T Tryz.func28 (by kernel_rfl) (es := [.va (.pointer p0), .va (.slice p1.a p1.n p1.c)]) rfl (by kernel_rfl) h
def F.gloaminglaw18.refer (p0 : Option Addr) (p1 : Int) (p2 : Int) (p3 : Int) (p4 : Int) (p5 : Int) : Tree :=
 call Tryz.prog 36 [.pointer p0, .agg #[.int .i64 4, .int .i64 p1, .int .i64 5, .bool false]] (.many [.l (.int .i64), .l (.int .i64)]) fun (r1 : KTs _) =>
 call Tryz.prog 17 [.int .i64 r1.2.1] (.one (.l (.int .i64))) fun (r2 : Int) =>
 br ((r2 : Int) != 0)
 (ret (.int .i64 0))
 (call Tryz.prog 31 [.pointer p0, .int .i64 r1.1, .int .i64 0, .int .i64 p2] (.one (.l (.int .i64))) fun (r3 : Int) =>
 call Tryz.prog 31 [.pointer p0, .int .i64 r1.1, .int .i64 1, .int .i64 p3] (.one (.l (.int .i64))) fun (r4 : Int) =>
 call Tryz.prog 31 [.pointer p0, .int .i64 r1.1, .int .i64 3, .int .i64 p4] (.one (.l (.int .i64))) fun (r5 : Int) =>
 call Tryz.prog 31 [.pointer p0, .int .i64 r1.1, .int .i64 4, .int .i64 p5] (.one (.l (.int .i64))) fun (r6 : Int) =>
 ret (.int .i64 r1.1))
theorem F.gloaminglaw18.refer.calls (p0 : Option Addr) (p1 : Int) (p2 : Int) (p3 : Int) (p4 : Int) (p5 : Int) (h : F.gloaminglaw18.refer p0 p1 p2 p3 p4 p5 Q w) : Calls Tryz.prog 29 #[.pointer p0, .int .i64 p1, .int .i64 p2, .int .i64 p3, .int .i64 p4, .int .i64 p5] w (RetQ Q) :=
 Tryz.cd Tabs.z Tryz.func29 (by kernel_rfl) (es := [.va (.pointer p0), .va (.int .i64 p1), .va (.int .i64 p2), .va (.int .i64 p3), .va (.int .i64 p4), .va (.int .i64 p5)]) rfl (by kernel_rfl) h
end Go.Proofs.YtpefngbfgjfcgaaGreat
