import Derived.Test.YtkljcopnaodfgaaGreatGsT
namespace Go.Proofs.YtkljcopnaodfgaaGreat
open Go Go.Gl
set_option maxRecDepth 100000
set_option linter.unusedVariables false
variable {Q : Value → World → Prop} {w : World}
def F.rt.New (p0 : LTs [.int .i64, .int .i64, .int .i64]) : Tree :=
 nw 44 [.int .i64 p0.1, .int .i64 p0.2.1, .int .i64 p0.2.2.1] fun b1 =>
 ld (.g [.int .i64, .int .i64, .int .i64]) (⟨b1, 0, none⟩) fun (x2 : LTs _) =>
 call Tryz.prog 27 [.agg #[.int .i64 x2.1, .int .i64 x2.2.1, .int .i64 x2.2.2.1]] (.many [.l .ptr, .l (.int .i64)]) fun (r3 : KTs _) =>
 br ((r3.2.1 : Int) != 0)
 (ret (.tuple #[.pointer none, .int .i64 r3.2.1]))
 (nw 57 [.pointer r3.1] fun b4 =>
 ret (.tuple #[.pointer (some (⟨b4, 0, none⟩)), .int .i64 0]))
theorem F.rt.New.calls (p0 : LTs [.int .i64, .int .i64, .int .i64]) (h : F.rt.New p0 Q w) : Calls Tryz.prog 20 #[.agg #[.int .i64 p0.1, .int .i64 p0.2.1, .int .i64 p0.2.2.1]] w (RetQ Q) :=
 Tryz.cd Tabs.z Tryz.func20 (by kernel_rfl) (es := [.va (.agg #[.int .i64 p0.1, .int .i64 p0.2.1, .int .i64 p0.2.2.1])]) rfl (by kernel_rfl) h
def F.rt.Runtime.Do.T : Tabs := ⟨fun _ => [],
 fun _ => none,
 (fun
 | 3 => .held (some 4) (.go 0 false (.go 2 false (.go 3 false (.go 1 false (.go 4 true (.go 5 false (.go 6 false (.go 7 false (.go 8 false (.go 9 false .nil))))))))))
 | _ => .quiet)⟩
def F.rt.Runtime.Do (p0 : Option Addr) (p1 : LTs [.int .i64, .int .i64, .int .i64, .int .i64]) : Tree :=
 nw 48 [.int .i64 p1.1, .int .i64 p1.2.1, .int .i64 p1.2.2.1, .int .i64 p1.2.2.2.1] fun b1 =>
 nw 26 (zc Tryz.prog 26) fun b2 =>
 br (Option.isNone p0)
 (st (⟨b2, 0, none⟩) [.int .i64 2, .int .i64 0] <|
 ld (.g [.int .i64, .int .i64]) (⟨b2, 0, none⟩) fun (x3 : LTs _) =>
 ret (.agg #[.int .i64 x3.1, .int .i64 x3.2.1]))
 (drw <| Gl.held fun S3 =>
 ldS S3 (.l (.int .i64)) (fa (⟨b1, 0, none⟩) 0) fun (x4 : Int) =>
 call Tryz.prog 29 [.pointer p0] (.one (.l .map)) fun (r5 : Option Nat) =>
 chk S3 <|
 opr Tryz.prog (Instr.lookup 69 (.map r5) (.int .i64 x4) true) (.many [.l .any, .l .bool]) fun (r6 : KTs _) =>
 br (!r6.2.1)
 (st (⟨b2, 0, none⟩) [.int .i64 1, .int .i64 0] <|
 ld (.g [.int .i64, .int .i64]) (⟨b2, 0, none⟩) fun (x7 : LTs _) =>
 ret (.agg #[.int .i64 x7.1, .int .i64 x7.2.1]))
 (ld (.g [.int .i64, .int .i64, .int .i64, .int .i64]) (⟨b1, 0, none⟩) fun (x7 : LTs _) =>
 callV Tryz.prog r6.1 [.agg #[.int .i64 x7.1, .int .i64 x7.2.1, .int .i64 x7.2.2.1, .int .i64 x7.2.2.2.1]] (.many [.l (.int .i64), .l (.int .i64)]) fun (r8 : KTs _) =>
 br ((r8.2.1 : Int) != 0)
 (st (⟨b2, 0, none⟩) [.int .i64 r8.2.1, .int .i64 0] <|
 ld (.g [.int .i64, .int .i64]) (⟨b2, 0, none⟩) fun (x9 : LTs _) =>
 ret (.agg #[.int .i64 x9.1, .int .i64 x9.2.1]))
 (st (⟨b2, 0, none⟩) [.int .i64 0, .int .i64 r8.1] <|
 ld (.g [.int .i64, .int .i64]) (⟨b2, 0, none⟩) fun (x9 : LTs _) =>
 ret (.agg #[.int .i64 x9.1, .int .i64 x9.2.1]))))
theorem F.rt.Runtime.Do.calls (p0 : Option Addr) (p1 : LTs [.int .i64, .int .i64, .int .i64, .int .i64]) (h : F.rt.Runtime.Do p0 p1 Q w) : Calls Tryz.prog 22 #[.pointer p0, .agg #[.int .i64 p1.1, .int .i64 p1.2.1, .int .i64 p1.2.2.1, .int .i64 p1.2.2.2.1]] w (RetQ Q) :=
 Tryz.cd F.rt.Runtime.Do.T Tryz.func22 (by kernel_rfl) (es := [.va (.pointer p0), .va (.agg #[.int .i64 p1.1, .int .i64 p1.2.1, .int .i64 p1.2.2.1, .int .i64 p1.2.2.2.1])]) rfl (by kernel_rfl) h
def F.fair.Settle.T : Tabs := ⟨(fun
 | 5 => [(5, .slice), (10, .int .i64)]
 | _ => []),
 fun _ => none,
 fun _ => .quiet⟩
def F.rt.Runtime.handlers (p0 : Option Addr) : Tree :=
 nwM fun b1 =>
 oprU Tryz.prog (Instr.mapUpdate 69 (.map (some b1)) (.int .i64 1) (.func (.func 46) #[.pointer p0] #[])) <|
 oprU Tryz.prog (Instr.mapUpdate 69 (.map (some b1)) (.int .i64 2) (.func (.func 47) #[.pointer p0] #[])) <|
 call Tryz.prog 48 [.pointer p0, .int .i64 2] (.one (.l .any)) fun (r2 : Value) =>
 oprU Tryz.prog (Instr.mapUpdate 69 (.map (some b1)) (.int .i64 3) (r2)) <|
 call Tryz.prog 48 [.pointer p0, .int .i64 3] (.one (.l .any)) fun (r3 : Value) =>
 oprU Tryz.prog (Instr.mapUpdate 69 (.map (some b1)) (.int .i64 4) (r3)) <|
 oprU Tryz.prog (Instr.mapUpdate 69 (.map (some b1)) (.int .i64 5) (.func (.func 49) #[.pointer p0] #[])) <|
 oprU Tryz.prog (Instr.mapUpdate 69 (.map (some b1)) (.int .i64 6) (.func (.func 50) #[.pointer p0] #[])) <|
 oprU Tryz.prog (Instr.mapUpdate 69 (.map (some b1)) (.int .i64 7) (.func (.func 51) #[.pointer p0] #[])) <|
 oprU Tryz.prog (Instr.mapUpdate 69 (.map (some b1)) (.int .i64 8) (.func (.func 52) #[.pointer p0] #[])) <|
 oprU Tryz.prog (Instr.mapUpdate 69 (.map (some b1)) (.int .i64 9) (.func (.func 53) #[.pointer p0] #[])) <|
 oprU Tryz.prog (Instr.mapUpdate 69 (.map (some b1)) (.int .i64 10) (.func (.func 54) #[.pointer p0] #[])) <|
 oprU Tryz.prog (Instr.mapUpdate 69 (.map (some b1)) (.int .i64 11) (.func (.func 55) #[.pointer p0] #[])) <|
 oprU Tryz.prog (Instr.mapUpdate 69 (.map (some b1)) (.int .i64 12) (.func (.func 56) #[.pointer p0] #[])) <|
 oprU Tryz.prog (Instr.mapUpdate 69 (.map (some b1)) (.int .i64 13) (.func (.func 57) #[.pointer p0] #[])) <|
 oprU Tryz.prog (Instr.mapUpdate 69 (.map (some b1)) (.int .i64 14) (.func (.func 58) #[.pointer p0] #[])) <|
 oprU Tryz.prog (Instr.mapUpdate 69 (.map (some b1)) (.int .i64 15) (.func (.func 59) #[.pointer p0] #[])) <|
 oprU Tryz.prog (Instr.mapUpdate 69 (.map (some b1)) (.int .i64 16) (.func (.func 60) #[.pointer p0] #[])) <|
 oprU Tryz.prog (Instr.mapUpdate 69 (.map (some b1)) (.int .i64 17) (.func (.func 61) #[.pointer p0] #[])) <|
 oprU Tryz.prog (Instr.mapUpdate 69 (.map (some b1)) (.int .i64 18) (.func (.func 62) #[.pointer p0] #[])) <|
 oprU Tryz.prog (Instr.mapUpdate 69 (.map (some b1)) (.int .i64 19) (.func (.func 63) #[.pointer p0] #[])) <|
 oprU Tryz.prog (Instr.mapUpdate 69 (.map (some b1)) (.int .i64 20) (.func (.func 64) #[.pointer p0] #[])) <|
 oprU Tryz.prog (Instr.mapUpdate 69 (.map (some b1)) (.int .i64 21) (.func (.func 65) #[.pointer p0] #[])) <|
 ret (.map (some b1))
theorem F.rt.Runtime.handlers.calls (p0 : Option Addr) (h : F.rt.Runtime.handlers p0 Q w) : Calls Tryz.prog 29 #[.pointer p0] w (RetQ Q) :=
 Tryz.cd Tabs.z Tryz.func29 (by kernel_rfl) (es := [.va (.pointer p0)]) rfl (by kernel_rfl) h
def F.rt.Runtime.class.T : Tabs := ⟨(fun
 | 5 => [(6, .slice), (16, .int .i64)]
 | _ => []),
 fun _ => none,
 (fun
 | 10 => .held (some 19) (.go 0 false (.go 1 false (.go 2 false (.go 3 false (.go 4 false (.go 5 false (.go 6 false (.go 7 false (.go 8 false (.go 9 false (.go 10 false (.go 11 false (.go 12 false (.go 13 false (.go 14 false (.go 15 false (.go 16 false (.go 17 false (.go 18 false (.go 19 true (.go 20 false (.go 21 false (.go 22 false (.go 23 false .nil))))))))))))))))))))))))
 | _ => .quiet)⟩
def F.rt.Runtime.class (p0 : Option Addr) (p1 : LTs [.int .i64, .int .i64, .int .i64, .int .i64]) : Tree :=
 nw 48 [.int .i64 p1.1, .int .i64 p1.2.1, .int .i64 p1.2.2.1, .int .i64 p1.2.2.2.1] fun b1 =>
 ld (.l (.int .i64)) (fa (⟨b1, 0, none⟩) 2) fun (x2 : Int) =>
 br (decide ((x2 : Int) < 0))
 (ret (.tuple #[.int .i64 0, .int .i64 1]))
 (ld (.l (.int .i64)) (fa (⟨b1, 0, none⟩) 2) fun (x3 : Int) =>
 br (decide ((x3 : Int) ≥ 4294967296))
 (ret (.tuple #[.int .i64 0, .int .i64 1]))
 (lp [.slice, .int .i64] (fun X4 u5 =>
 br (decide ((u5.2.1 : Int) < 32))
 (ld (.l (.int .i64)) (fa (⟨b1, 0, none⟩) 2) fun (x6 : Int) =>
 need ((0 : Int) ≤ u5.2.1) <|
 br ((ibits .and .i64 (Int.fdiv x6 (2 ^ (min (u5.2.1 : Int).toNat (IntKind.bits .i64)))) 1 : Int) == 1)
 (nw 3 [.int .i64 u5.2.1] fun b7 =>
 opr Tryz.prog (Builtin.append_ #[31, 31] 31 #[.slice u5.1.a u5.1.n u5.1.c, .slice (some ⟨b7, 0, none⟩) 1 1]) (.one (.l .slice)) fun (r8 : Slc) =>
 X4 (⟨r8.a, r8.n, r8.c⟩, IntKind.wrap .i64 (u5.2.1 + 1), ()))
 (X4 (⟨u5.1.a, u5.1.n, u5.1.c⟩, IntKind.wrap .i64 (u5.2.1 + 1), ())))
 (drw <| Gl.held fun S6 =>
 nn p0 fun a7 =>
 ldS S6 (.l .ptr) (fa a7 0) fun (x8 : Option Addr) =>
 nn x8 fun a9 =>
 ldS S6 (.l .ptr) (fa a9 0) fun (x10 : Option Addr) =>
 nn x10 fun a11 =>
 ldS S6 (.l .ptr) (fa a11 0) fun (x12 : Option Addr) =>
 nn x12 fun a13 =>
 ldS S6 (.l .ptr) (fa a13 0) fun (x14 : Option Addr) =>
 nn x14 fun a15 =>
 ldS S6 (.l .ptr) (fa a15 1) fun (x16 : Option Addr) =>
 ldS S6 (.l (.int .i64)) (fa (⟨b1, 0, none⟩) 1) fun (x17 : Int) =>
 call Tryz.prog 80 [.pointer x16, .int .i64 x17, .slice u5.1.a u5.1.n u5.1.c] (.many [.l (.int .i64), .l (.int .i64)]) fun (r18 : KTs _) =>
 ret (.tuple #[.int .i64 r18.1, .int .i64 r18.2.1]))) (⟨none, 0, 0⟩, 0, ())))
theorem F.rt.Runtime.class.calls (p0 : Option Addr) (p1 : LTs [.int .i64, .int .i64, .int .i64, .int .i64]) (h : F.rt.Runtime.class p0 p1 Q w) : Calls Tryz.prog 46 #[.pointer p0, .agg #[.int .i64 p1.1, .int .i64 p1.2.1, .int .i64 p1.2.2.1, .int .i64 p1.2.2.2.1]] w (RetQ Q) :=
 Tryz.cd F.rt.Runtime.class.T Tryz.func46 (by kernel_rfl) (es := [.va (.pointer p0), .va (.agg #[.int .i64 p1.1, .int .i64 p1.2.1, .int .i64 p1.2.2.1, .int .i64 p1.2.2.2.1])]) rfl (by kernel_rfl) h
def F.rt.Runtime.plain.T : Tabs := ⟨fun _ => [],
 fun _ => none,
 (fun
 | 1 => .held (some 18) (.go 0 false (.go 1 false (.go 2 false (.go 3 false (.go 4 false (.go 5 false (.go 6 false (.go 7 false (.go 8 false (.go 9 false (.go 10 false (.go 11 false (.go 12 false (.go 13 false (.go 14 false (.go 15 false (.go 16 false (.go 17 false (.two (.go 18 true (.go 19 false (.go 20 false (.go 21 false (.go 22 false (.go 23 false (.go 24 false .nil))))))) (.go 22 false (.go 18 true (.go 19 false (.go 20 false (.go 21 false (.go 23 false (.go 24 false .nil))))))))))))))))))))))))))
 | _ => .quiet)⟩
def F.rt.Runtime.plain (p0 : Option Addr) (p1 : LTs [.int .i64, .int .i64, .int .i64, .int .i64]) : Tree :=
 nw 48 [.int .i64 p1.1, .int .i64 p1.2.1, .int .i64 p1.2.2.1, .int .i64 p1.2.2.2.1] fun b1 =>
 drw <| Gl.held fun S2 =>
 nn p0 fun a3 =>
 ldS S2 (.l .ptr) (fa a3 0) fun (x4 : Option Addr) =>
 nn x4 fun a5 =>
 ldS S2 (.l .ptr) (fa a5 0) fun (x6 : Option Addr) =>
 nn x6 fun a7 =>
 ldS S2 (.l .ptr) (fa a7 0) fun (x8 : Option Addr) =>
 nn x8 fun a9 =>
 ldS S2 (.l .ptr) (fa a9 0) fun (x10 : Option Addr) =>
 nn x10 fun a11 =>
 ldS S2 (.l .ptr) (fa a11 1) fun (x12 : Option Addr) =>
 ldS S2 (.l (.int .i64)) (fa (⟨b1, 0, none⟩) 1) fun (x13 : Int) =>
 both
 (call Tryz.prog 81 [.pointer x12, .int .i64 x13] (.many [.g [.int .i64, .slice], .l (.int .i64)]) fun (r14 : KTs _) =>
 nw 146 (zc Tryz.prog 146) fun b15 =>
 st (⟨b15, 0, none⟩) [.int .i64 r14.1.1, .slice r14.1.2.1.a r14.1.2.1.n r14.1.2.1.c] <|
 br ((r14.2.1 : Int) != 0)
 (ret (.tuple #[.int .i64 0, .int .i64 2]))
 (ld (.l (.int .i64)) (fa (⟨b1, 0, none⟩) 1) fun (x16 : Int) =>
 ld (.l (.int .i64)) (fa (⟨b15, 0, none⟩) 0) fun (x17 : Int) =>
 call Tryz.prog 82 [.pointer p0, .agg #[.int .i64 1, .int .i64 x16, .int .i64 x17, .bool false]] (.many [.l (.int .i64), .l (.int .i64)]) fun (r18 : KTs _) =>
 ret (.tuple #[.int .i64 r18.1, .int .i64 r18.2.1])))
 (nw 146 (zc Tryz.prog 146) fun b19 =>
 chk S2 <|
 call Tryz.prog 81 [.pointer x12, .int .i64 x13] (.many [.g [.int .i64, .slice], .l (.int .i64)]) fun (r20 : KTs _) =>
 st (⟨b19, 0, none⟩) [.int .i64 r20.1.1, .slice r20.1.2.1.a r20.1.2.1.n r20.1.2.1.c] <|
 br ((r20.2.1 : Int) != 0)
 (ret (.tuple #[.int .i64 0, .int .i64 2]))
 (ld (.l (.int .i64)) (fa (⟨b1, 0, none⟩) 1) fun (x21 : Int) =>
 ld (.l (.int .i64)) (fa (⟨b19, 0, none⟩) 0) fun (x22 : Int) =>
 call Tryz.prog 82 [.pointer p0, .agg #[.int .i64 1, .int .i64 x21, .int .i64 x22, .bool false]] (.many [.l (.int .i64), .l (.int .i64)]) fun (r23 : KTs _) =>
 ret (.tuple #[.int .i64 r23.1, .int .i64 r23.2.1])))
theorem F.rt.Runtime.plain.calls (p0 : Option Addr) (p1 : LTs [.int .i64, .int .i64, .int .i64, .int .i64]) (h : F.rt.Runtime.plain p0 p1 Q w) : Calls Tryz.prog 47 #[.pointer p0, .agg #[.int .i64 p1.1, .int .i64 p1.2.1, .int .i64 p1.2.2.1, .int .i64 p1.2.2.2.1]] w (RetQ Q) :=
 Tryz.cd F.rt.Runtime.plain.T Tryz.func47 (by kernel_rfl) (es := [.va (.pointer p0), .va (.agg #[.int .i64 p1.1, .int .i64 p1.2.1, .int .i64 p1.2.2.1, .int .i64 p1.2.2.2.1])]) rfl (by kernel_rfl) h
def F.rt.Runtime.list (p0 : Option Addr) (p1 : Int) : Tree :=
 nw 22 [.pointer p0] fun b1 =>
 nw 3 [.int .i64 p1] fun b2 =>
 ret (.func (.func 83) #[] #[.pointer (some (⟨b1, 0, none⟩)), .pointer (some (⟨b2, 0, none⟩))])
theorem F.rt.Runtime.list.calls (p0 : Option Addr) (p1 : Int) (h : F.rt.Runtime.list p0 p1 Q w) : Calls Tryz.prog 48 #[.pointer p0, .int .i64 p1] w (RetQ Q) :=
 Tryz.cd Tabs.z Tryz.func48 (by kernel_rfl) (es := [.va (.pointer p0), .va (.int .i64 p1)]) rfl (by kernel_rfl) h
def F.rt.Runtime.put.T : Tabs := ⟨fun _ => [],
 fun _ => none,
 (fun
 | 9 => .tail 18
 | _ => .quiet)⟩
def F.rt.Runtime.put (p0 : Option Addr) (p1 : LTs [.int .i64, .int .i64, .int .i64, .int .i64]) : Tree :=
 nw 48 [.int .i64 p1.1, .int .i64 p1.2.1, .int .i64 p1.2.2.1, .int .i64 p1.2.2.2.1] fun b1 =>
 ld (.l (.int .i64)) (fa (⟨b1, 0, none⟩) 1) fun (x2 : Int) =>
 call Tryz.prog 84 [.pointer p0, .int .i64 x2, .bool false] (.many [.l (.int .i64), .l (.int .i64)]) fun (r3 : KTs _) =>
 br ((r3.2.1 : Int) != 0)
 (ret (.tuple #[.int .i64 0, .int .i64 r3.2.1]))
 (ld (.l (.int .i64)) (fa (⟨b1, 0, none⟩) 2) fun (x4 : Int) =>
 call Tryz.prog 85 [.pointer p0, .int .i64 r3.1, .int .i64 x4] (.many [.l (.int .i64), .l .bool, .l (.int .i64)]) fun (r5 : KTs _) =>
 br ((r5.2.2.1 : Int) != 0)
 (ret (.tuple #[.int .i64 0, .int .i64 r5.2.2.1]))
 (br r5.2.1
 (ret (.tuple #[.int .i64 0, .int .i64 5]))
 (drw <|
 nn p0 fun a6 =>
 ld (.l .ptr) (fa a6 0) fun (x7 : Option Addr) =>
 nn x7 fun a8 =>
 ld (.l .ptr) (fa a8 0) fun (x9 : Option Addr) =>
 nn x9 fun a10 =>
 ld (.l .ptr) (fa a10 0) fun (x11 : Option Addr) =>
 nn x11 fun a12 =>
 ld (.l .ptr) (fa a12 0) fun (x13 : Option Addr) =>
 ld (.l (.int .i64)) (fa (⟨b1, 0, none⟩) 2) fun (x14 : Int) =>
 ld (.l (.int .i64)) (fa (⟨b1, 0, none⟩) 3) fun (x15 : Int) =>
 call Tryz.prog 87 [.pointer x13, .int .i64 r3.1, .int .i64 x14, .int .i64 x15] (.one (.l (.int .i64))) fun (r16 : Int) =>
 ret (.tuple #[.int .i64 0, .int .i64 r16]))))
theorem F.rt.Runtime.put.calls (p0 : Option Addr) (p1 : LTs [.int .i64, .int .i64, .int .i64, .int .i64]) (h : F.rt.Runtime.put p0 p1 Q w) : Calls Tryz.prog 51 #[.pointer p0, .agg #[.int .i64 p1.1, .int .i64 p1.2.1, .int .i64 p1.2.2.1, .int .i64 p1.2.2.2.1]] w (RetQ Q) :=
 Tryz.cd F.rt.Runtime.put.T Tryz.func51 (by kernel_rfl) (es := [.va (.pointer p0), .va (.agg #[.int .i64 p1.1, .int .i64 p1.2.1, .int .i64 p1.2.2.1, .int .i64 p1.2.2.2.1])]) rfl (by kernel_rfl) h
def F.rt.Runtime.refer (p0 : Option Addr) (p1 : LTs [.int .i64, .int .i64, .int .i64, .int .i64]) : Tree :=
 nw 22 [.pointer p0] fun b1 =>
 nw 48 [.int .i64 p1.1, .int .i64 p1.2.1, .int .i64 p1.2.2.1, .int .i64 p1.2.2.2.1] fun b2 =>
 ld (.l .ptr) (⟨b1, 0, none⟩) fun (x3 : Option Addr) =>
 ld (.l (.int .i64)) (fa (⟨b2, 0, none⟩) 2) fun (x4 : Int) =>
 call Tryz.prog 84 [.pointer x3, .int .i64 x4, .bool false] (.many [.l (.int .i64), .l (.int .i64)]) fun (r5 : KTs _) =>
 nw 3 (zc Tryz.prog 3) fun b6 =>
 st (⟨b6, 0, none⟩) [.int .i64 r5.1] <|
 br ((r5.2.1 : Int) != 0)
 (ret (.tuple #[.int .i64 0, .int .i64 r5.2.1]))
 (ld (.l .ptr) (⟨b1, 0, none⟩) fun (x7 : Option Addr) =>
 ld (.g [.int .i64, .int .i64, .int .i64, .int .i64]) (⟨b2, 0, none⟩) fun (x8 : LTs _) =>
 call Tryz.prog 91 [.pointer x7, .agg #[.int .i64 x8.1, .int .i64 x8.2.1, .int .i64 x8.2.2.1, .int .i64 x8.2.2.2.1]] (.one (.l (.int .i64))) fun (r9 : Int) =>
 br ((r9 : Int) != 0)
 (ret (.tuple #[.int .i64 0, .int .i64 r9]))
 (ld (.l .ptr) (⟨b1, 0, none⟩) fun (x10 : Option Addr) =>
 call Tryz.prog 92 [.pointer x10, .func (.func 93) #[] #[.pointer (some (⟨b1, 0, none⟩)), .pointer (some (⟨b2, 0, none⟩)), .pointer (some (⟨b6, 0, none⟩))]] (.many [.l (.int .i64), .l (.int .i64)]) fun (r11 : KTs _) =>
 ret (.tuple #[.int .i64 r11.1, .int .i64 r11.2.1])))
theorem F.rt.Runtime.refer.calls (p0 : Option Addr) (p1 : LTs [.int .i64, .int .i64, .int .i64, .int .i64]) (h : F.rt.Runtime.refer p0 p1 Q w) : Calls Tryz.prog 55 #[.pointer p0, .agg #[.int .i64 p1.1, .int .i64 p1.2.1, .int .i64 p1.2.2.1, .int .i64 p1.2.2.2.1]] w (RetQ Q) :=
 Tryz.cd Tabs.z Tryz.func55 (by kernel_rfl) (es := [.va (.pointer p0), .va (.agg #[.int .i64 p1.1, .int .i64 p1.2.1, .int .i64 p1.2.2.1, .int .i64 p1.2.2.2.1])]) rfl (by kernel_rfl) h
def F.rt.Runtime.poll.T : Tabs := ⟨fun _ => [],
 fun _ => none,
 (fun
 | 1 => .held (some 12) (.go 0 false (.go 1 false (.go 2 false (.go 3 false (.go 4 false (.go 5 false (.go 6 false (.go 7 false (.go 8 false (.go 9 false (.go 10 false (.go 11 false (.go 12 true (.go 13 false (.go 14 false (.go 15 false (.go 16 false (.go 17 false .nil))))))))))))))))))
 | 8 => .held (some 12) (.go 0 false (.go 1 false (.go 2 false (.go 3 false (.go 4 false (.go 5 false (.go 6 false (.go 7 false (.go 8 false (.go 9 false (.go 10 false (.go 11 false (.go 12 true (.go 13 false (.go 14 false (.go 15 false (.go 16 false (.go 17 false .nil))))))))))))))))))
 | _ => .quiet)⟩
def F.rt.Runtime.poll (p0 : Option Addr) (p1 : LTs [.int .i64, .int .i64, .int .i64, .int .i64]) : Tree :=
 nw 48 [.int .i64 p1.1, .int .i64 p1.2.1, .int .i64 p1.2.2.1, .int .i64 p1.2.2.2.1] fun b1 =>
 drw <| Gl.held fun S2 =>
 nn p0 fun a3 =>
 ldS S2 (.l .ptr) (fa a3 0) fun (x4 : Option Addr) =>
 nn x4 fun a5 =>
 ldS S2 (.l .ptr) (fa a5 0) fun (x6 : Option Addr) =>
 nn x6 fun a7 =>
 ldS S2 (.l .ptr) (fa a7 0) fun (x8 : Option Addr) =>
 ldS S2 (.l (.int .i64)) (fa (⟨b1, 0, none⟩) 1) fun (x9 : Int) =>
 call Tryz.prog 72 [.pointer x8, .int .i64 x9] (.many [.l .slice, .l (.int .i64)]) fun (r10 : KTs _) =>
 br ((r10.2.1 : Int) != 0)
 (ret (.tuple #[.int .i64 0, .int .i64 r10.2.1]))
 (br (((r10.1.n : Nat) : Int) == 0)
 (ret (.tuple #[.int .i64 0, .int .i64 0]))
 (nn p0 fun a11 =>
 ld (.l .ptr) (fa a11 0) fun (x12 : Option Addr) =>
 nn x12 fun a13 =>
 ld (.l .ptr) (fa a13 1) fun (x14 : Option Addr) =>
 call Tryz.prog 96 [.pointer x14] (.one (.l (.int .i64))) fun (r15 : Int) =>
 br ((r15 : Int) == 0)
 (ret (.tuple #[.int .i64 0, .int .i64 3]))
 (drw <| Gl.held fun S16 =>
 nn p0 fun a17 =>
 ldS S16 (.l .ptr) (fa a17 0) fun (x18 : Option Addr) =>
 nn x18 fun a19 =>
 ldS S16 (.l .ptr) (fa a19 0) fun (x20 : Option Addr) =>
 nn x20 fun a21 =>
 ldS S16 (.l .ptr) (fa a21 0) fun (x22 : Option Addr) =>
 ldS S16 (.l (.int .i64)) (fa (⟨b1, 0, none⟩) 1) fun (x23 : Int) =>
 call Tryz.prog 101 [.pointer x22, .int .i64 x23] (.many [.l (.int .i64), .l (.int .i64)]) fun (r24 : KTs _) =>
 br ((r24.2.1 : Int) != 0)
 (ret (.tuple #[.int .i64 0, .int .i64 r24.2.1]))
 (call Tryz.prog 86 [.pointer p0, .int .i64 r24.1] (.many [.l (.int .i64), .l (.int .i64)]) fun (r25 : KTs _) =>
 ret (.tuple #[.int .i64 r25.1, .int .i64 r25.2.1])))))
theorem F.rt.Runtime.poll.calls (p0 : Option Addr) (p1 : LTs [.int .i64, .int .i64, .int .i64, .int .i64]) (h : F.rt.Runtime.poll p0 p1 Q w) : Calls Tryz.prog 60 #[.pointer p0, .agg #[.int .i64 p1.1, .int .i64 p1.2.1, .int .i64 p1.2.2.1, .int .i64 p1.2.2.2.1]] w (RetQ Q) :=
 Tryz.cd F.rt.Runtime.poll.T Tryz.func60 (by kernel_rfl) (es := [.va (.pointer p0), .va (.agg #[.int .i64 p1.1, .int .i64 p1.2.1, .int .i64 p1.2.2.1, .int .i64 p1.2.2.2.1])]) rfl (by kernel_rfl) h
def F.rt.Runtime.object (p0 : Option Addr) (p1 : LTs [.int .i64, .int .i64, .int .i64, .bool]) : Tree :=
 nw 22 [.pointer p0] fun b1 =>
 nw 108 [.int .i64 p1.1, .int .i64 p1.2.1, .int .i64 p1.2.2.1, .bool p1.2.2.2.1] fun b2 =>
 ld (.l .ptr) (⟨b1, 0, none⟩) fun (x3 : Option Addr) =>
 call Tryz.prog 92 [.pointer x3, .func (.func 125) #[] #[.pointer (some (⟨b1, 0, none⟩)), .pointer (some (⟨b2, 0, none⟩))]] (.many [.l (.int .i64), .l (.int .i64)]) fun (r4 : KTs _) =>
 ret (.tuple #[.int .i64 r4.1, .int .i64 r4.2.1])
theorem F.rt.Runtime.object.calls (p0 : Option Addr) (p1 : LTs [.int .i64, .int .i64, .int .i64, .bool]) (h : F.rt.Runtime.object p0 p1 Q w) : Calls Tryz.prog 82 #[.pointer p0, .agg #[.int .i64 p1.1, .int .i64 p1.2.1, .int .i64 p1.2.2.1, .bool p1.2.2.2.1]] w (RetQ Q) :=
 Tryz.cd Tabs.z Tryz.func82 (by kernel_rfl) (es := [.va (.pointer p0), .va (.agg #[.int .i64 p1.1, .int .i64 p1.2.1, .int .i64 p1.2.2.1, .bool p1.2.2.2.1])]) rfl (by kernel_rfl) h
def F.rt.Runtime.list_1 (p0 : LTs [.int .i64, .int .i64, .int .i64, .int .i64]) (c0 : Option Addr) (c1 : Option Addr) : Tree :=
 nw 48 [.int .i64 p0.1, .int .i64 p0.2.1, .int .i64 p0.2.2.1, .int .i64 p0.2.2.2.1] fun b1 =>
 ld (.l (.int .i64)) (fa (⟨b1, 0, none⟩) 1) fun (x2 : Int) =>
 br (decide ((x2 : Int) < 0))
 (ret (.tuple #[.int .i64 0, .int .i64 1]))
 (ld (.l (.int .i64)) (fa (⟨b1, 0, none⟩) 1) fun (x3 : Int) =>
 br (decide ((x3 : Int) > 1023))
 (ret (.tuple #[.int .i64 0, .int .i64 1]))
 (nn c0 fun a4 =>
 ld (.l .ptr) a4 fun (x5 : Option Addr) =>
 nn c1 fun a6 =>
 ld (.l (.int .i64)) a6 fun (x7 : Int) =>
 ld (.l (.int .i64)) (fa (⟨b1, 0, none⟩) 1) fun (x8 : Int) =>
 call Tryz.prog 82 [.pointer x5, .agg #[.int .i64 x7, .int .i64 0, .int .i64 x8, .bool false]] (.many [.l (.int .i64), .l (.int .i64)]) fun (r9 : KTs _) =>
 ret (.tuple #[.int .i64 r9.1, .int .i64 r9.2.1])))
theorem F.rt.Runtime.list_1.calls (p0 : LTs [.int .i64, .int .i64, .int .i64, .int .i64]) (c0 : Option Addr) (c1 : Option Addr) (h : F.rt.Runtime.list_1 p0 c0 c1 Q w) : Calls Tryz.prog 83 #[.agg #[.int .i64 p0.1, .int .i64 p0.2.1, .int .i64 p0.2.2.1, .int .i64 p0.2.2.2.1], .pointer c0, .pointer c1] w (RetQ Q) :=
 Tryz.cd Tabs.z Tryz.func83 (by kernel_rfl) (es := [.va (.agg #[.int .i64 p0.1, .int .i64 p0.2.1, .int .i64 p0.2.2.1, .int .i64 p0.2.2.2.1]), .va (.pointer c0), .va (.pointer c1)]) rfl (by kernel_rfl) h
def F.rt.Runtime.held (p0 : Option Addr) (p1 : Int) (p2 : Bool) : Tree :=
 br p2
 (br ((p1 : Int) == 0)
 (ret (.tuple #[.int .i64 0, .int .i64 0]))
 (nn p0 fun a1 =>
 ld (.l .ptr) (fa a1 0) fun (x2 : Option Addr) =>
 nn x2 fun a3 =>
 ld (.l .ptr) (fa a3 1) fun (x4 : Option Addr) =>
 call Tryz.prog 127 [.pointer x4, .int .i64 p1] (.many [.l (.int .i64), .l (.int .i64)]) fun (r5 : KTs _) =>
 ret (.tuple #[.int .i64 r5.1, .int .i64 r5.2.1])))
 (nn p0 fun a1 =>
 ld (.l .ptr) (fa a1 0) fun (x2 : Option Addr) =>
 nn x2 fun a3 =>
 ld (.l .ptr) (fa a3 1) fun (x4 : Option Addr) =>
 call Tryz.prog 127 [.pointer x4, .int .i64 p1] (.many [.l (.int .i64), .l (.int .i64)]) fun (r5 : KTs _) =>
 ret (.tuple #[.int .i64 r5.1, .int .i64 r5.2.1]))
theorem F.rt.Runtime.held.calls (p0 : Option Addr) (p1 : Int) (p2 : Bool) (h : F.rt.Runtime.held p0 p1 p2 Q w) : Calls Tryz.prog 84 #[.pointer p0, .int .i64 p1, .bool p2] w (RetQ Q) :=
 Tryz.cd Tabs.z Tryz.func84 (by kernel_rfl) (es := [.va (.pointer p0), .va (.int .i64 p1), .va (.bool p2)]) rfl (by kernel_rfl) h
def F.rt.Runtime.field (p0 : Option Addr) (p1 : Int) (p2 : Int) : Tree :=
 nn p0 fun a1 =>
 ld (.l .ptr) (fa a1 0) fun (x2 : Option Addr) =>
 nn x2 fun a3 =>
 ld (.l .ptr) (fa a3 0) fun (x4 : Option Addr) =>
 nn x4 fun a5 =>
 ld (.l .ptr) (fa a5 0) fun (x6 : Option Addr) =>
 nn x6 fun a7 =>
 ld (.l .ptr) (fa a7 0) fun (x8 : Option Addr) =>
 call Tryz.prog 67 [.pointer x8, .int .i64 p1] (.many [.g [.int .i64, .int .i64, .int .i64, .bool], .l (.int .i64)]) fun (r9 : KTs _) =>
 nw 108 (zc Tryz.prog 108) fun b10 =>
 st (⟨b10, 0, none⟩) [.int .i64 r9.1.1, .int .i64 r9.1.2.1, .int .i64 r9.1.2.2.1, .bool r9.1.2.2.2.1] <|
 br ((r9.2.1 : Int) != 0)
 (ret (.tuple #[.int .i64 0, .bool false, .int .i64 r9.2.1]))
 (ld (.l (.int .i64)) (fa (⟨b10, 0, none⟩) 0) fun (x11 : Int) =>
 br ((x11 : Int) == 4)
 (ret (.tuple #[.int .i64 0, .bool false, .int .i64 5]))
 (nn p0 fun a12 =>
 ld (.l .ptr) (fa a12 0) fun (x13 : Option Addr) =>
 nn x13 fun a14 =>
 ld (.l .ptr) (fa a14 0) fun (x15 : Option Addr) =>
 nn x15 fun a16 =>
 ld (.l .ptr) (fa a16 0) fun (x17 : Option Addr) =>
 nn x17 fun a18 =>
 ld (.l .ptr) (fa a18 0) fun (x19 : Option Addr) =>
 call Tryz.prog 68 [.pointer x19, .int .i64 p1, .int .i64 p2] (.many [.l (.int .i64), .l (.int .i64)]) fun (r20 : KTs _) =>
 br ((r20.2.1 : Int) != 0)
 (ret (.tuple #[.int .i64 0, .bool false, .int .i64 r20.2.1]))
 (nn p0 fun a21 =>
 ld (.l .ptr) (fa a21 0) fun (x22 : Option Addr) =>
 nn x22 fun a23 =>
 ld (.l .ptr) (fa a23 0) fun (x24 : Option Addr) =>
 nn x24 fun a25 =>
 ld (.l .ptr) (fa a25 0) fun (x26 : Option Addr) =>
 nn x26 fun a27 =>
 ld (.l .ptr) (fa a27 0) fun (x28 : Option Addr) =>
 call Tryz.prog 129 [.pointer x28, .int .i64 p1] (.one (.l .slice)) fun (r29 : Slc) =>
 call Tryz.prog 128 [.slice r29.a r29.n r29.c, .int .i64 p2] (.one (.l .bool)) fun (r30 : Bool) =>
 ret (.tuple #[.int .i64 r20.1, .bool r30, .int .i64 0]))))
theorem F.rt.Runtime.field.calls (p0 : Option Addr) (p1 : Int) (p2 : Int) (h : F.rt.Runtime.field p0 p1 p2 Q w) : Calls Tryz.prog 85 #[.pointer p0, .int .i64 p1, .int .i64 p2] w (RetQ Q) :=
 Tryz.cd Tabs.z Tryz.func85 (by kernel_rfl) (es := [.va (.pointer p0), .va (.int .i64 p1), .va (.int .i64 p2)]) rfl (by kernel_rfl) h
def F.rt.Runtime.given (p0 : Option Addr) (p1 : Int) : Tree :=
 br ((p1 : Int) == 0)
 (ret (.tuple #[.int .i64 0, .int .i64 0]))
 (nn p0 fun a1 =>
 ld (.l .ptr) (fa a1 0) fun (x2 : Option Addr) =>
 nn x2 fun a3 =>
 ld (.l .ptr) (fa a3 1) fun (x4 : Option Addr) =>
 call Tryz.prog 96 [.pointer x4] (.one (.l (.int .i64))) fun (r5 : Int) =>
 br ((r5 : Int) == 0)
 (ret (.tuple #[.int .i64 0, .int .i64 3]))
 (nn p0 fun a6 =>
 ld (.l .ptr) (fa a6 0) fun (x7 : Option Addr) =>
 nn x7 fun a8 =>
 ld (.l .ptr) (fa a8 1) fun (x9 : Option Addr) =>
 call Tryz.prog 130 [.pointer x9, .int .i64 p1] (.many [.l (.int .i64), .l (.int .i64)]) fun (r10 : KTs _) =>
 ret (.tuple #[.int .i64 r10.1, .int .i64 r10.2.1])))
theorem F.rt.Runtime.given.calls (p0 : Option Addr) (p1 : Int) (h : F.rt.Runtime.given p0 p1 Q w) : Calls Tryz.prog 86 #[.pointer p0, .int .i64 p1] w (RetQ Q) :=
 Tryz.cd Tabs.z Tryz.func86 (by kernel_rfl) (es := [.va (.pointer p0), .va (.int .i64 p1)]) rfl (by kernel_rfl) h
def F.rt.Runtime.refers.T : Tabs := ⟨fun _ => [],
 fun _ => none,
 (fun
 | 3 => .held none (.go 0 false (.go 1 false (.go 2 false (.go 3 false (.go 4 false (.go 5 false (.go 6 false (.go 7 false (.go 8 false (.go 9 false (.go 10 false (.go 11 false (.go 12 false (.go 13 false (.go 14 false (.go 15 false (.go 16 false (.go 17 false (.go 18 false (.go 19 false .nil))))))))))))))))))))
 | _ => .quiet)⟩
def F.rt.Runtime.refers (p0 : Option Addr) (p1 : LTs [.int .i64, .int .i64, .int .i64, .int .i64]) : Tree :=
 nw 48 [.int .i64 p1.1, .int .i64 p1.2.1, .int .i64 p1.2.2.1, .int .i64 p1.2.2.2.1] fun b1 =>
 ld (.l (.int .i64)) (fa (⟨b1, 0, none⟩) 1) fun (x2 : Int) =>
 br (decide ((x2 : Int) < 1))
 (ret (.int .i64 1))
 (ld (.l (.int .i64)) (fa (⟨b1, 0, none⟩) 1) fun (x3 : Int) =>
 br (decide ((x3 : Int) > 3))
 (ret (.int .i64 1))
 (drw <| Gl.held fun S4 =>
 ldS S4 (.l (.int .i64)) (fa (⟨b1, 0, none⟩) 3) fun (x5 : Int) =>
 br (decide ((x5 : Int) < (-1)))
 (ret (.int .i64 2))
 (ldS S4 (.l (.int .i64)) (fa (⟨b1, 0, none⟩) 3) fun (x6 : Int) =>
 nn p0 fun a7 =>
 ldS S4 (.l .ptr) (fa a7 0) fun (x8 : Option Addr) =>
 nn x8 fun a9 =>
 ldS S4 (.l .ptr) (fa a9 0) fun (x10 : Option Addr) =>
 nn x10 fun a11 =>
 ldS S4 (.l .ptr) (fa a11 0) fun (x12 : Option Addr) =>
 call Tryz.prog 71 [.pointer x12] (.one (.l (.int .i64))) fun (r13 : Int) =>
 chk S4 <|
 br (decide ((x6 : Int) ≥ r13))
 (ret (.int .i64 2))
 (ld (.l (.int .i64)) (fa (⟨b1, 0, none⟩) 1) fun (x14 : Int) =>
 br ((x14 : Int) == 3)
 (ld (.l (.int .i64)) (fa (⟨b1, 0, none⟩) 3) fun (x15 : Int) =>
 br (decide ((x15 : Int) < 0))
 (ret (.int .i64 1))
 (ret (.int .i64 0)))
 (ret (.int .i64 0))))))
theorem F.rt.Runtime.refers.calls (p0 : Option Addr) (p1 : LTs [.int .i64, .int .i64, .int .i64, .int .i64]) (h : F.rt.Runtime.refers p0 p1 Q w) : Calls Tryz.prog 91 #[.pointer p0, .agg #[.int .i64 p1.1, .int .i64 p1.2.1, .int .i64 p1.2.2.1, .int .i64 p1.2.2.2.1]] w (RetQ Q) :=
 Tryz.cd F.rt.Runtime.refers.T Tryz.func91 (by kernel_rfl) (es := [.va (.pointer p0), .va (.agg #[.int .i64 p1.1, .int .i64 p1.2.1, .int .i64 p1.2.2.1, .int .i64 p1.2.2.2.1])]) rfl (by kernel_rfl) h
def F.rt.Runtime.made.T : Tabs := ⟨(fun
 | 5 => [(6, .int .i64), (7, .int .i64), (26, .int .i64)]
 | _ => []),
 fun _ => none,
 fun _ => .quiet⟩
def F.rt.Runtime.made (p0 : Option Addr) (p1 : Value) : Tree :=
 nn p0 fun a1 =>
 ld (.l .ptr) (fa a1 0) fun (x2 : Option Addr) =>
 nn x2 fun a3 =>
 ld (.l .ptr) (fa a3 1) fun (x4 : Option Addr) =>
 call Tryz.prog 96 [.pointer x4] (.one (.l (.int .i64))) fun (r5 : Int) =>
 br ((r5 : Int) == 0)
 (ret (.tuple #[.int .i64 0, .int .i64 3]))
 (callV Tryz.prog p1 [] (.many [.l (.int .i64), .l (.int .i64)]) fun (r6 : KTs _) =>
 nw 4 [.bool false, .bool true] fun b7 =>
 lp [.int .i64, .int .i64, .int .i64] (fun X8 u9 =>
 br (decide ((u9.2.2.1 : Int) < (2 : Nat)))
 (ix (some ⟨b7, 0, none⟩) 2 u9.2.2.1 1 fun a10 =>
 ld (.l .bool) a10 fun (x11 : Bool) =>
 br ((u9.2.1 : Int) != 3)
 (br ((u9.2.1 : Int) != 0)
 (ret (.tuple #[.int .i64 0, .int .i64 u9.2.1]))
 (call Tryz.prog 86 [.pointer p0, .int .i64 u9.1] (.many [.l (.int .i64), .l (.int .i64)]) fun (r12 : KTs _) =>
 ret (.tuple #[.int .i64 r12.1, .int .i64 r12.2.1])))
 (nn p0 fun a12 =>
 ld (.l .ptr) (fa a12 0) fun (x13 : Option Addr) =>
 call Tryz.prog 74 [.pointer x13, .bool x11] (.many [.g [.slice, .slice, .slice, .slice], .l (.int .i64)]) fun (r14 : KTs _) =>
 callV Tryz.prog p1 [] (.many [.l (.int .i64), .l (.int .i64)]) fun (r15 : KTs _) =>
 X8 (r15.1, r15.2.1, IntKind.wrap .i64 (u9.2.2.1 + 1), ())))
 (br ((u9.2.1 : Int) != 0)
 (ret (.tuple #[.int .i64 0, .int .i64 u9.2.1]))
 (call Tryz.prog 86 [.pointer p0, .int .i64 u9.1] (.many [.l (.int .i64), .l (.int .i64)]) fun (r10 : KTs _) =>
 ret (.tuple #[.int .i64 r10.1, .int .i64 r10.2.1])))) (r6.1, r6.2.1, 0, ()))
theorem F.rt.Runtime.made.calls (p0 : Option Addr) (p1 : Value) (h : F.rt.Runtime.made p0 p1 Q w) : Calls Tryz.prog 92 #[.pointer p0, p1] w (RetQ Q) :=
 Tryz.cd F.rt.Runtime.made.T Tryz.func92 (by kernel_rfl) (es := [.va (.pointer p0), .op p1]) rfl (by kernel_rfl) h
def F.rt.Runtime.refer_1.T : Tabs := ⟨fun _ => [],
 fun _ => none,
 (fun
 | 1 => .held (some 17) (.go 0 false (.go 1 false (.go 2 false (.go 3 false (.go 4 false (.go 5 false (.go 6 false (.go 7 false (.go 8 false (.go 9 false (.go 10 false (.go 11 false (.go 12 false (.go 13 false (.go 14 false (.go 15 false (.go 16 false (.go 17 true (.go 18 false (.go 19 false (.go 20 false (.go 21 false .nil))))))))))))))))))))))
 | _ => .quiet)⟩
def F.rt.Runtime.refer_1 (c0 : Addr) (c1 : Addr) (c2 : Addr) : Tree :=
 drw <| Gl.held fun S1 =>
 ldS S1 (.l .ptr) c0 fun (x2 : Option Addr) =>
 nn x2 fun a3 =>
 ldS S1 (.l .ptr) (fa a3 0) fun (x4 : Option Addr) =>
 nn x4 fun a5 =>
 ldS S1 (.l .ptr) (fa a5 0) fun (x6 : Option Addr) =>
 ldS S1 (.l (.int .i64)) (fa c1 1) fun (x7 : Int) =>
 ldS S1 (.l (.int .i64)) c2 fun (x8 : Int) =>
 ldS S1 (.l (.int .i64)) (fa c1 3) fun (x9 : Int) =>
 ldS S1 (.l .ptr) c0 fun (x10 : Option Addr) =>
 nn x10 fun a11 =>
 ldS S1 (.l .ptr) (fa a11 0) fun (x12 : Option Addr) =>
 call Tryz.prog 95 [.pointer x12] (.one (.l (.int .i64))) fun (r13 : Int) =>
 chk S1 <|
 call Tryz.prog 94 [.pointer x6, .int .i64 x7, .int .i64 x8, .int .i64 x9, .int .i64 r13] (.many [.l (.int .i64), .l (.int .i64)]) fun (r14 : KTs _) =>
 ret (.tuple #[.int .i64 r14.1, .int .i64 r14.2.1])
theorem F.rt.Runtime.refer_1.calls (c0 : Addr) (c1 : Addr) (c2 : Addr) (h : F.rt.Runtime.refer_1 c0 c1 c2 Q w) : Calls Tryz.prog 93 #[.pointer (some c0), .pointer (some c1), .pointer (some c2)] w (RetQ Q) :=
 Tryz.cd F.rt.Runtime.refer_1.T Tryz.func93 (by kernel_rfl) (es := [.pa c0, .pa c1, .pa c2]) rfl (by kernel_rfl) h
def F.rt.Runtime.object_1.T : Tabs := ⟨fun _ => [],
 fun _ => none,
 (fun
 | 1 => .held (some 14) (.go 0 false (.go 1 false (.go 2 false (.go 3 false (.go 4 false (.go 5 false (.go 6 false (.go 7 false (.go 8 false (.go 9 false (.go 10 false (.go 11 false (.go 12 false (.go 13 false (.go 14 true (.go 15 false (.go 16 false (.go 17 false (.go 18 false .nil)))))))))))))))))))
 | _ => .quiet)⟩
def F.rt.Runtime.object_1 (c0 : Option Addr) (c1 : Option Addr) : Tree :=
 drw <| Gl.held fun S1 =>
 nn c0 fun a2 =>
 ldS S1 (.l .ptr) a2 fun (x3 : Option Addr) =>
 nn x3 fun a4 =>
 ldS S1 (.l .ptr) (fa a4 0) fun (x5 : Option Addr) =>
 nn x5 fun a6 =>
 ldS S1 (.l .ptr) (fa a6 0) fun (x7 : Option Addr) =>
 nn x7 fun a8 =>
 ldS S1 (.l .ptr) (fa a8 0) fun (x9 : Option Addr) =>
 nn x9 fun a10 =>
 ldS S1 (.l .ptr) (fa a10 0) fun (x11 : Option Addr) =>
 nn c1 fun a12 =>
 ldS S1 (.g [.int .i64, .int .i64, .int .i64, .bool]) a12 fun (x13 : LTs _) =>
 call Tryz.prog 126 [.pointer x11, .agg #[.int .i64 x13.1, .int .i64 x13.2.1, .int .i64 x13.2.2.1, .bool x13.2.2.2.1]] (.many [.l (.int .i64), .l (.int .i64)]) fun (r14 : KTs _) =>
 ret (.tuple #[.int .i64 r14.1, .int .i64 r14.2.1])
theorem F.rt.Runtime.object_1.calls (c0 : Option Addr) (c1 : Option Addr) (h : F.rt.Runtime.object_1 c0 c1 Q w) : Calls Tryz.prog 125 #[.pointer c0, .pointer c1] w (RetQ Q) :=
 Tryz.cd F.rt.Runtime.object_1.T Tryz.func125 (by kernel_rfl) (es := [.va (.pointer c0), .va (.pointer c1)]) rfl (by kernel_rfl) h
end Go.Proofs.YtkljcopnaodfgaaGreat
