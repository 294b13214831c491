import Derived.Test.YtfepdmpplahloaaGreatGsT
namespace Go.Proofs.YtfepdmpplahloaaGreat
open Go Go.Gl
set_option maxRecDepth 100000
set_option linter.unusedVariables false
variable{Q:Value→World→Prop}{w:World}
def F.rt.dc(p0:LTs [.int .i64,.int .i64,.int .i64]):Tree:=
 nw 39 [.int .i64 p0.1,.int .i64 p0.2.1,.int .i64 p0.2.2.1] fun b1=>
 ld (.g [.int .i64,.int .i64,.int .i64]) (⟨b1,0,none⟩) fun(x2:LTs _)=>
 call Tryz.prog 21 [.agg #[.int .i64 x2.1,.int .i64 x2.2.1,.int .i64 x2.2.2.1]] (.many [.l .ptr,.l (.int .i64)]) fun(r3:KTs _)=>
 br ((r3.2.1:Int) != 0)
 (ret (.tuple #[.pointer none,.int .i64 r3.2.1]))
 (nw 53 [.pointer r3.1] fun b4=>
 ret (.tuple #[.pointer (some (⟨b4,0,none⟩)),.int .i64 0]))
theorem F.rt.dc.calls(p0:LTs [.int .i64,.int .i64,.int .i64])(h:F.rt.dc p0 Q w):Calls Tryz.prog 14 #[.agg #[.int .i64 p0.1,.int .i64 p0.2.1,.int .i64 p0.2.2.1]] w (aC Q):=
 Tryz.cd az.z Tryz.func14 (by kernel_rfl) (es:=[.va (.agg #[.int .i64 p0.1,.int .i64 p0.2.1,.int .i64 p0.2.2.1])]) rfl (by kernel_rfl) h
def F.rt.Runtime.Do.T:az:=⟨fun _=>[],
 fun _=>none,
 (fun
 |3=> .held (some 4) (.go 0 false (.go 2 false (.go 3 false (.go 1 false (.go 4 true (.go 5 false (.go 6 false (.go 7 false (.go 8 false (.go 9 false .nil))))))))))
 |_=> .quiet)⟩
def F.rt.Runtime.Do(p0:Option Addr)(p1:LTs [.int .i64,.int .i64,.int .i64,.int .i64]):Tree:=
 nw 43 [.int .i64 p1.1,.int .i64 p1.2.1,.int .i64 p1.2.2.1,.int .i64 p1.2.2.2.1] fun b1=>
 nw 26 (zc Tryz.prog 26) fun b2=>
 br (Option.isNone p0)
 (st (⟨b2,0,none⟩) [.int .i64 2,.int .i64 0]<|
 ld (.g [.int .i64,.int .i64]) (⟨b2,0,none⟩) fun(x3:LTs _)=>
 ret (.agg #[.int .i64 x3.1,.int .i64 x3.2.1]))
 (dI<|Gl.held fun S3=>
 bm S3 (.l (.int .i64)) (fa (⟨b1,0,none⟩) 0) fun(x4:Int)=>
 call Tryz.prog 23 [.pointer p0] (.one (.l .map)) fun(r5:Option Nat)=>
 fX S3<|
 c9 Tryz.prog (Instr.lookup 64 (.map r5) (.int .i64 x4) true) (.many [.l .any,.l .bool]) fun(r6:KTs _)=>
 br (!r6.2.1)
 (st (⟨b2,0,none⟩) [.int .i64 1,.int .i64 0]<|
 ld (.g [.int .i64,.int .i64]) (⟨b2,0,none⟩) fun(x7:LTs _)=>
 ret (.agg #[.int .i64 x7.1,.int .i64 x7.2.1]))
 (ld (.g [.int .i64,.int .i64,.int .i64,.int .i64]) (⟨b1,0,none⟩) fun(x7:LTs _)=>
 gJ Tryz.prog r6.1 [.agg #[.int .i64 x7.1,.int .i64 x7.2.1,.int .i64 x7.2.2.1,.int .i64 x7.2.2.2.1]] (.many [.l (.int .i64),.l (.int .i64)]) fun(r8:KTs _)=>
 br ((r8.2.1:Int) != 0)
 (st (⟨b2,0,none⟩) [.int .i64 r8.2.1,.int .i64 0]<|
 ld (.g [.int .i64,.int .i64]) (⟨b2,0,none⟩) fun(x9:LTs _)=>
 ret (.agg #[.int .i64 x9.1,.int .i64 x9.2.1]))
 (st (⟨b2,0,none⟩) [.int .i64 0,.int .i64 r8.1]<|
 ld (.g [.int .i64,.int .i64]) (⟨b2,0,none⟩) fun(x9:LTs _)=>
 ret (.agg #[.int .i64 x9.1,.int .i64 x9.2.1]))))
theorem F.rt.Runtime.Do.calls(p0:Option Addr)(p1:LTs [.int .i64,.int .i64,.int .i64,.int .i64])(h:F.rt.Runtime.Do p0 p1 Q w):Calls Tryz.prog 16 #[.pointer p0,.agg #[.int .i64 p1.1,.int .i64 p1.2.1,.int .i64 p1.2.2.1,.int .i64 p1.2.2.2.1]] w (aC Q):=
 Tryz.cd F.rt.Runtime.Do.T Tryz.func16 (by kernel_rfl) (es:=[.va (.pointer p0),.va (.agg #[.int .i64 p1.1,.int .i64 p1.2.1,.int .i64 p1.2.2.1,.int .i64 p1.2.2.2.1])]) rfl (by kernel_rfl) h
def F.fair.ku.T:az:=⟨(fun
 |5=>[(5,.slice),(10,.int .i64)]
 |_=>[]),
 fun _=>none,
 fun _=> .quiet⟩
def F.fair.ku(p0:Option Addr)(p1:Int):Tree:=
 br (Option.isNone p0)
 (ret (.slice none 0 0))
 (lp [.slice,.int .i64] (fun X1 u2=>
 br (decide ((u2.2.1:Int)<(if(p1:Int)>0 then(p1:Int)else 0)))
 (call Tryz.prog 32 [.pointer p0] (.one (.l .slice)) fun(r3:ay)=>
 nw 46 [.slice r3.a r3.n r3.c] fun b4=>
 c9 Tryz.prog (Builtin.append_ #[47,47] 47 #[.slice u2.1.a u2.1.n u2.1.c,.slice (some ⟨b4,0,none⟩) 1 1]) (.one (.l .slice)) fun(r5:ay)=>
 X1 (⟨r5.a,r5.n,r5.c⟩,IntKind.wrap .i64 (u2.2.1+1),()))
 (ret (.slice u2.1.a u2.1.n u2.1.c))) (⟨none,0,0⟩,0,()))
theorem F.fair.ku.calls(p0:Option Addr)(p1:Int)(h:F.fair.ku p0 p1 Q w):Calls Tryz.prog 18 #[.pointer p0,.int .i64 p1] w (aC Q):=
 Tryz.cd F.fair.ku.T Tryz.func18 (by kernel_rfl) (es:=[.va (.pointer p0),.va (.int .i64 p1)]) rfl (by kernel_rfl) h
def F.rt.Runtime.handlers(p0:Option Addr):Tree:=
 Ej fun b1=>
 fz Tryz.prog (Instr.mapUpdate 64 (.map (some b1)) (.int .i64 1) (.func (.func 40) #[.pointer p0] #[]))<|
 fz Tryz.prog (Instr.mapUpdate 64 (.map (some b1)) (.int .i64 2) (.func (.func 41) #[.pointer p0] #[]))<|
 call Tryz.prog 42 [.pointer p0,.int .i64 2] (.one (.l .any)) fun(r2:Value)=>
 fz Tryz.prog (Instr.mapUpdate 64 (.map (some b1)) (.int .i64 3) (r2))<|
 call Tryz.prog 42 [.pointer p0,.int .i64 3] (.one (.l .any)) fun(r3:Value)=>
 fz Tryz.prog (Instr.mapUpdate 64 (.map (some b1)) (.int .i64 4) (r3))<|
 fz Tryz.prog (Instr.mapUpdate 64 (.map (some b1)) (.int .i64 5) (.func (.func 43) #[.pointer p0] #[]))<|
 fz Tryz.prog (Instr.mapUpdate 64 (.map (some b1)) (.int .i64 6) (.func (.func 44) #[.pointer p0] #[]))<|
 fz Tryz.prog (Instr.mapUpdate 64 (.map (some b1)) (.int .i64 7) (.func (.func 45) #[.pointer p0] #[]))<|
 fz Tryz.prog (Instr.mapUpdate 64 (.map (some b1)) (.int .i64 8) (.func (.func 46) #[.pointer p0] #[]))<|
 fz Tryz.prog (Instr.mapUpdate 64 (.map (some b1)) (.int .i64 9) (.func (.func 47) #[.pointer p0] #[]))<|
 fz Tryz.prog (Instr.mapUpdate 64 (.map (some b1)) (.int .i64 10) (.func (.func 48) #[.pointer p0] #[]))<|
 fz Tryz.prog (Instr.mapUpdate 64 (.map (some b1)) (.int .i64 11) (.func (.func 49) #[.pointer p0] #[]))<|
 fz Tryz.prog (Instr.mapUpdate 64 (.map (some b1)) (.int .i64 12) (.func (.func 50) #[.pointer p0] #[]))<|
 fz Tryz.prog (Instr.mapUpdate 64 (.map (some b1)) (.int .i64 13) (.func (.func 51) #[.pointer p0] #[]))<|
 fz Tryz.prog (Instr.mapUpdate 64 (.map (some b1)) (.int .i64 14) (.func (.func 52) #[.pointer p0] #[]))<|
 fz Tryz.prog (Instr.mapUpdate 64 (.map (some b1)) (.int .i64 15) (.func (.func 53) #[.pointer p0] #[]))<|
 fz Tryz.prog (Instr.mapUpdate 64 (.map (some b1)) (.int .i64 16) (.func (.func 54) #[.pointer p0] #[]))<|
 fz Tryz.prog (Instr.mapUpdate 64 (.map (some b1)) (.int .i64 17) (.func (.func 55) #[.pointer p0] #[]))<|
 fz Tryz.prog (Instr.mapUpdate 64 (.map (some b1)) (.int .i64 18) (.func (.func 56) #[.pointer p0] #[]))<|
 fz Tryz.prog (Instr.mapUpdate 64 (.map (some b1)) (.int .i64 19) (.func (.func 57) #[.pointer p0] #[]))<|
 fz Tryz.prog (Instr.mapUpdate 64 (.map (some b1)) (.int .i64 20) (.func (.func 58) #[.pointer p0] #[]))<|
 fz Tryz.prog (Instr.mapUpdate 64 (.map (some b1)) (.int .i64 21) (.func (.func 59) #[.pointer p0] #[]))<|
 ret (.map (some b1))
theorem F.rt.Runtime.handlers.calls(p0:Option Addr)(h:F.rt.Runtime.handlers p0 Q w):Calls Tryz.prog 23 #[.pointer p0] w (aC Q):=
 Tryz.cd az.z Tryz.func23 (by kernel_rfl) (es:=[.va (.pointer p0)]) rfl (by kernel_rfl) h
def F.fair.Round.T:az:=⟨(fun
 |8=>[(4,.slice),(24,.int .i64)]
 |_=>[]),
 fun _=>none,
 fun _=> .quiet⟩
def F.fair.Round(p0:Option Addr):Tree:=
 br (Option.isNone p0)
 (ret (.slice none 0 0))
 (nw 127 (zc Tryz.prog 127) fun b1=>
 st (⟨b1,0,none⟩) [.pointer p0]<|
 ld (.l .ptr) (fa (⟨b1,0,none⟩) 0) fun(x2:Option Addr)=>
 call Tryz.prog 68 [.pointer x2,.bool false] (.many [.g [.slice,.slice,.slice,.slice],.l (.int .i64)]) fun(r3:KTs _)=>
 ld (.g [.ptr]) (⟨b1,0,none⟩) fun(x4:LTs _)=>
 call Tryz.prog 69 [.agg #[.pointer x4.1]] (.many []) fun(r5:KTs _)=>
 ld (.l .ptr) (fa (⟨b1,0,none⟩) 0) fun(x6:Option Addr)=>
 nn x6 fun a7=>
 ld (.l .ptr) (fa a7 0) fun(x8:Option Addr)=>
 nn x8 fun a9=>
 ld (.l .ptr) (fa a9 0) fun(x10:Option Addr)=>
 call Tryz.prog 65 [.pointer x10] (.one (.l (.int .i64))) fun(r11:Int)=>
 lp [.slice,.int .i64] (fun X12 u13=>
 br (decide ((u13.2.1:Int)<r11))
 (ld (.g [.ptr]) (⟨b1,0,none⟩) fun(x14:LTs _)=>
 call Tryz.prog 70 [.agg #[.pointer x14.1],.int .i64 u13.2.1] (.one (.l .slice)) fun(r15:ay)=>
 c9 Tryz.prog (Builtin.append_ #[46,46] 46 #[.slice u13.1.a u13.1.n u13.1.c,.slice r15.a r15.n r15.c]) (.one (.l .slice)) fun(r16:ay)=>
 X12 (⟨r16.a,r16.n,r16.c⟩,IntKind.wrap .i64 (u13.2.1+1),()))
 (ret (.slice u13.1.a u13.1.n u13.1.c))) (⟨none,0,0⟩,0,()))
theorem F.fair.Round.calls(p0:Option Addr)(h:F.fair.Round p0 Q w):Calls Tryz.prog 32 #[.pointer p0] w (aC Q):=
 Tryz.cd F.fair.Round.T Tryz.func32 (by kernel_rfl) (es:=[.va (.pointer p0)]) rfl (by kernel_rfl) h
def F.rt.Runtime.class.T:az:=⟨(fun
 |5=>[(6,.slice),(16,.int .i64)]
 |_=>[]),
 fun _=>none,
 (fun
 |10=> .held (some 19) (.go 0 false (.go 1 false (.go 2 false (.go 3 false (.go 4 false (.go 5 false (.go 6 false (.go 7 false (.go 8 false (.go 9 false (.go 10 false (.go 11 false (.go 12 false (.go 13 false (.go 14 false (.go 15 false (.go 16 false (.go 17 false (.go 18 false (.go 19 true (.go 20 false (.go 21 false (.go 22 false (.go 23 false .nil))))))))))))))))))))))))
 |_=> .quiet)⟩
def F.rt.Runtime.class(p0:Option Addr)(p1:LTs [.int .i64,.int .i64,.int .i64,.int .i64]):Tree:=
 nw 43 [.int .i64 p1.1,.int .i64 p1.2.1,.int .i64 p1.2.2.1,.int .i64 p1.2.2.2.1] fun b1=>
 ld (.l (.int .i64)) (fa (⟨b1,0,none⟩) 2) fun(x2:Int)=>
 br (decide ((x2:Int)<0))
 (ret (.tuple #[.int .i64 0,.int .i64 1]))
 (ld (.l (.int .i64)) (fa (⟨b1,0,none⟩) 2) fun(x3:Int)=>
 br (decide ((x3:Int)≥4294967296))
 (ret (.tuple #[.int .i64 0,.int .i64 1]))
 (lp [.slice,.int .i64] (fun X4 u5=>
 br (decide ((u5.2.1:Int)<32))
 (ld (.l (.int .i64)) (fa (⟨b1,0,none⟩) 2) fun(x6:Int)=>
 bQ ((0:Int)≤u5.2.1)<|
 br ((dv .and .i64 (Int.fdiv x6 (2^(min (u5.2.1:Int).toNat (IntKind.bits .i64)))) 1:Int)==1)
 (nw 3 [.int .i64 u5.2.1] fun b7=>
 c9 Tryz.prog (Builtin.append_ #[46,46] 46 #[.slice u5.1.a u5.1.n u5.1.c,.slice (some ⟨b7,0,none⟩) 1 1]) (.one (.l .slice)) fun(r8:ay)=>
 X4 (⟨r8.a,r8.n,r8.c⟩,IntKind.wrap .i64 (u5.2.1+1),()))
 (X4 (⟨u5.1.a,u5.1.n,u5.1.c⟩,IntKind.wrap .i64 (u5.2.1+1),())))
 (dI<|Gl.held fun S6=>
 nn p0 fun a7=>
 bm S6 (.l .ptr) (fa a7 0) fun(x8:Option Addr)=>
 nn x8 fun a9=>
 bm S6 (.l .ptr) (fa a9 0) fun(x10:Option Addr)=>
 nn x10 fun a11=>
 bm S6 (.l .ptr) (fa a11 0) fun(x12:Option Addr)=>
 nn x12 fun a13=>
 bm S6 (.l .ptr) (fa a13 0) fun(x14:Option Addr)=>
 nn x14 fun a15=>
 bm S6 (.l .ptr) (fa a15 1) fun(x16:Option Addr)=>
 bm S6 (.l (.int .i64)) (fa (⟨b1,0,none⟩) 1) fun(x17:Int)=>
 call Tryz.prog 74 [.pointer x16,.int .i64 x17,.slice u5.1.a u5.1.n u5.1.c] (.many [.l (.int .i64),.l (.int .i64)]) fun(r18:KTs _)=>
 ret (.tuple #[.int .i64 r18.1,.int .i64 r18.2.1]))) (⟨none,0,0⟩,0,())))
theorem F.rt.Runtime.class.calls(p0:Option Addr)(p1:LTs [.int .i64,.int .i64,.int .i64,.int .i64])(h:F.rt.Runtime.class p0 p1 Q w):Calls Tryz.prog 40 #[.pointer p0,.agg #[.int .i64 p1.1,.int .i64 p1.2.1,.int .i64 p1.2.2.1,.int .i64 p1.2.2.2.1]] w (aC Q):=
 Tryz.cd F.rt.Runtime.class.T Tryz.func40 (by kernel_rfl) (es:=[.va (.pointer p0),.va (.agg #[.int .i64 p1.1,.int .i64 p1.2.1,.int .i64 p1.2.2.1,.int .i64 p1.2.2.2.1])]) rfl (by kernel_rfl) h
def F.rt.Runtime.plain.T:az:=⟨fun _=>[],
 fun _=>none,
 (fun
 |1=> .held (some 18) (.go 0 false (.go 1 false (.go 2 false (.go 3 false (.go 4 false (.go 5 false (.go 6 false (.go 7 false (.go 8 false (.go 9 false (.go 10 false (.go 11 false (.go 12 false (.go 13 false (.go 14 false (.go 15 false (.go 16 false (.go 17 false (.two (.go 18 true (.go 19 false (.go 20 false (.go 21 false (.go 22 false (.go 23 false (.go 24 false .nil))))))) (.go 22 false (.go 18 true (.go 19 false (.go 20 false (.go 21 false (.go 23 false (.go 24 false .nil))))))))))))))))))))))))))
 |_=> .quiet)⟩
def F.rt.Runtime.plain(p0:Option Addr)(p1:LTs [.int .i64,.int .i64,.int .i64,.int .i64]):Tree:=
 nw 43 [.int .i64 p1.1,.int .i64 p1.2.1,.int .i64 p1.2.2.1,.int .i64 p1.2.2.2.1] fun b1=>
 dI<|Gl.held fun S2=>
 nn p0 fun a3=>
 bm S2 (.l .ptr) (fa a3 0) fun(x4:Option Addr)=>
 nn x4 fun a5=>
 bm S2 (.l .ptr) (fa a5 0) fun(x6:Option Addr)=>
 nn x6 fun a7=>
 bm S2 (.l .ptr) (fa a7 0) fun(x8:Option Addr)=>
 nn x8 fun a9=>
 bm S2 (.l .ptr) (fa a9 0) fun(x10:Option Addr)=>
 nn x10 fun a11=>
 bm S2 (.l .ptr) (fa a11 1) fun(x12:Option Addr)=>
 bm S2 (.l (.int .i64)) (fa (⟨b1,0,none⟩) 1) fun(x13:Int)=>
 both
 (call Tryz.prog 75 [.pointer x12,.int .i64 x13] (.many [.g [.int .i64,.slice],.l (.int .i64)]) fun(r14:KTs _)=>
 nw 141 (zc Tryz.prog 141) fun b15=>
 st (⟨b15,0,none⟩) [.int .i64 r14.1.1,.slice r14.1.2.1.a r14.1.2.1.n r14.1.2.1.c]<|
 br ((r14.2.1:Int) != 0)
 (ret (.tuple #[.int .i64 0,.int .i64 2]))
 (ld (.l (.int .i64)) (fa (⟨b1,0,none⟩) 1) fun(x16:Int)=>
 ld (.l (.int .i64)) (fa (⟨b15,0,none⟩) 0) fun(x17:Int)=>
 call Tryz.prog 76 [.pointer p0,.agg #[.int .i64 1,.int .i64 x16,.int .i64 x17,.bool false]] (.many [.l (.int .i64),.l (.int .i64)]) fun(r18:KTs _)=>
 ret (.tuple #[.int .i64 r18.1,.int .i64 r18.2.1])))
 (nw 141 (zc Tryz.prog 141) fun b19=>
 fX S2<|
 call Tryz.prog 75 [.pointer x12,.int .i64 x13] (.many [.g [.int .i64,.slice],.l (.int .i64)]) fun(r20:KTs _)=>
 st (⟨b19,0,none⟩) [.int .i64 r20.1.1,.slice r20.1.2.1.a r20.1.2.1.n r20.1.2.1.c]<|
 br ((r20.2.1:Int) != 0)
 (ret (.tuple #[.int .i64 0,.int .i64 2]))
 (ld (.l (.int .i64)) (fa (⟨b1,0,none⟩) 1) fun(x21:Int)=>
 ld (.l (.int .i64)) (fa (⟨b19,0,none⟩) 0) fun(x22:Int)=>
 call Tryz.prog 76 [.pointer p0,.agg #[.int .i64 1,.int .i64 x21,.int .i64 x22,.bool false]] (.many [.l (.int .i64),.l (.int .i64)]) fun(r23:KTs _)=>
 ret (.tuple #[.int .i64 r23.1,.int .i64 r23.2.1])))
theorem F.rt.Runtime.plain.calls(p0:Option Addr)(p1:LTs [.int .i64,.int .i64,.int .i64,.int .i64])(h:F.rt.Runtime.plain p0 p1 Q w):Calls Tryz.prog 41 #[.pointer p0,.agg #[.int .i64 p1.1,.int .i64 p1.2.1,.int .i64 p1.2.2.1,.int .i64 p1.2.2.2.1]] w (aC Q):=
 Tryz.cd F.rt.Runtime.plain.T Tryz.func41 (by kernel_rfl) (es:=[.va (.pointer p0),.va (.agg #[.int .i64 p1.1,.int .i64 p1.2.1,.int .i64 p1.2.2.1,.int .i64 p1.2.2.2.1])]) rfl (by kernel_rfl) h
def F.rt.Runtime.list(p0:Option Addr)(p1:Int):Tree:=
 nw 22 [.pointer p0] fun b1=>
 nw 3 [.int .i64 p1] fun b2=>
 ret (.func (.func 77) #[] #[.pointer (some (⟨b1,0,none⟩)),.pointer (some (⟨b2,0,none⟩))])
theorem F.rt.Runtime.list.calls(p0:Option Addr)(p1:Int)(h:F.rt.Runtime.list p0 p1 Q w):Calls Tryz.prog 42 #[.pointer p0,.int .i64 p1] w (aC Q):=
 Tryz.cd az.z Tryz.func42 (by kernel_rfl) (es:=[.va (.pointer p0),.va (.int .i64 p1)]) rfl (by kernel_rfl) h
def F.rt.Runtime.get(p0:Option Addr)(p1:LTs [.int .i64,.int .i64,.int .i64,.int .i64]):Tree:=
 nw 43 [.int .i64 p1.1,.int .i64 p1.2.1,.int .i64 p1.2.2.1,.int .i64 p1.2.2.2.1] fun b1=>
 ld (.l (.int .i64)) (fa (⟨b1,0,none⟩) 1) fun(x2:Int)=>
 call Tryz.prog 78 [.pointer p0,.int .i64 x2,.bool false] (.many [.l (.int .i64),.l (.int .i64)]) fun(r3:KTs _)=>
 br ((r3.2.1:Int) != 0)
 (ret (.tuple #[.int .i64 0,.int .i64 r3.2.1]))
 (ld (.l (.int .i64)) (fa (⟨b1,0,none⟩) 2) fun(x4:Int)=>
 call Tryz.prog 79 [.pointer p0,.int .i64 r3.1,.int .i64 x4] (.many [.l (.int .i64),.l .bool,.l (.int .i64)]) fun(r5:KTs _)=>
 br ((r5.2.2.1:Int) != 0)
 (ret (.tuple #[.int .i64 r5.1,.int .i64 r5.2.2.1]))
 (br (!r5.2.1)
 (ret (.tuple #[.int .i64 r5.1,.int .i64 r5.2.2.1]))
 (call Tryz.prog 80 [.pointer p0,.int .i64 r5.1] (.many [.l (.int .i64),.l (.int .i64)]) fun(r6:KTs _)=>
 ret (.tuple #[.int .i64 r6.1,.int .i64 r6.2.1]))))
theorem F.rt.Runtime.get.calls(p0:Option Addr)(p1:LTs [.int .i64,.int .i64,.int .i64,.int .i64])(h:F.rt.Runtime.get p0 p1 Q w):Calls Tryz.prog 43 #[.pointer p0,.agg #[.int .i64 p1.1,.int .i64 p1.2.1,.int .i64 p1.2.2.1,.int .i64 p1.2.2.2.1]] w (aC Q):=
 Tryz.cd az.z Tryz.func43 (by kernel_rfl) (es:=[.va (.pointer p0),.va (.agg #[.int .i64 p1.1,.int .i64 p1.2.1,.int .i64 p1.2.2.1,.int .i64 p1.2.2.2.1])]) rfl (by kernel_rfl) h
def F.rt.Runtime.set.T:az:=⟨fun _=>[],
 fun _=>none,
 (fun
 |12=> .tail 17
 |_=> .quiet)⟩
def F.rt.Runtime.set(p0:Option Addr)(p1:LTs [.int .i64,.int .i64,.int .i64,.int .i64]):Tree:=
 nw 43 [.int .i64 p1.1,.int .i64 p1.2.1,.int .i64 p1.2.2.1,.int .i64 p1.2.2.2.1] fun b1=>
 ld (.l (.int .i64)) (fa (⟨b1,0,none⟩) 1) fun(x2:Int)=>
 call Tryz.prog 78 [.pointer p0,.int .i64 x2,.bool false] (.many [.l (.int .i64),.l (.int .i64)]) fun(r3:KTs _)=>
 br ((r3.2.1:Int) != 0)
 (ret (.tuple #[.int .i64 0,.int .i64 r3.2.1]))
 (ld (.l (.int .i64)) (fa (⟨b1,0,none⟩) 3) fun(x4:Int)=>
 call Tryz.prog 78 [.pointer p0,.int .i64 x4,.bool true] (.many [.l (.int .i64),.l (.int .i64)]) fun(r5:KTs _)=>
 br ((r5.2.1:Int) != 0)
 (ret (.tuple #[.int .i64 0,.int .i64 r5.2.1]))
 (ld (.l (.int .i64)) (fa (⟨b1,0,none⟩) 2) fun(x6:Int)=>
 call Tryz.prog 79 [.pointer p0,.int .i64 r3.1,.int .i64 x6] (.many [.l (.int .i64),.l .bool,.l (.int .i64)]) fun(r7:KTs _)=>
 br ((r7.2.2.1:Int) != 0)
 (ret (.tuple #[.int .i64 0,.int .i64 r7.2.2.1]))
 (br (!r7.2.1)
 (ret (.tuple #[.int .i64 0,.int .i64 5]))
 (dI<|
 nn p0 fun a8=>
 ld (.l .ptr) (fa a8 0) fun(x9:Option Addr)=>
 nn x9 fun a10=>
 ld (.l .ptr) (fa a10 0) fun(x11:Option Addr)=>
 nn x11 fun a12=>
 ld (.l .ptr) (fa a12 0) fun(x13:Option Addr)=>
 nn x13 fun a14=>
 ld (.l .ptr) (fa a14 0) fun(x15:Option Addr)=>
 ld (.l (.int .i64)) (fa (⟨b1,0,none⟩) 2) fun(x16:Int)=>
 call Tryz.prog 81 [.pointer x15,.int .i64 r3.1,.int .i64 x16,.int .i64 r5.1] (.one (.l (.int .i64))) fun(r17:Int)=>
 ret (.tuple #[.int .i64 0,.int .i64 r17])))))
theorem F.rt.Runtime.set.calls(p0:Option Addr)(p1:LTs [.int .i64,.int .i64,.int .i64,.int .i64])(h:F.rt.Runtime.set p0 p1 Q w):Calls Tryz.prog 44 #[.pointer p0,.agg #[.int .i64 p1.1,.int .i64 p1.2.1,.int .i64 p1.2.2.1,.int .i64 p1.2.2.2.1]] w (aC Q):=
 Tryz.cd F.rt.Runtime.set.T Tryz.func44 (by kernel_rfl) (es:=[.va (.pointer p0),.va (.agg #[.int .i64 p1.1,.int .i64 p1.2.1,.int .i64 p1.2.2.1,.int .i64 p1.2.2.2.1])]) rfl (by kernel_rfl) h
def F.rt.Runtime.put.T:az:=⟨fun _=>[],
 fun _=>none,
 (fun
 |9=> .tail 18
 |_=> .quiet)⟩
def F.rt.Runtime.put(p0:Option Addr)(p1:LTs [.int .i64,.int .i64,.int .i64,.int .i64]):Tree:=
 nw 43 [.int .i64 p1.1,.int .i64 p1.2.1,.int .i64 p1.2.2.1,.int .i64 p1.2.2.2.1] fun b1=>
 ld (.l (.int .i64)) (fa (⟨b1,0,none⟩) 1) fun(x2:Int)=>
 call Tryz.prog 78 [.pointer p0,.int .i64 x2,.bool false] (.many [.l (.int .i64),.l (.int .i64)]) fun(r3:KTs _)=>
 br ((r3.2.1:Int) != 0)
 (ret (.tuple #[.int .i64 0,.int .i64 r3.2.1]))
 (ld (.l (.int .i64)) (fa (⟨b1,0,none⟩) 2) fun(x4:Int)=>
 call Tryz.prog 79 [.pointer p0,.int .i64 r3.1,.int .i64 x4] (.many [.l (.int .i64),.l .bool,.l (.int .i64)]) fun(r5:KTs _)=>
 br ((r5.2.2.1:Int) != 0)
 (ret (.tuple #[.int .i64 0,.int .i64 r5.2.2.1]))
 (br r5.2.1
 (ret (.tuple #[.int .i64 0,.int .i64 5]))
 (dI<|
 nn p0 fun a6=>
 ld (.l .ptr) (fa a6 0) fun(x7:Option Addr)=>
 nn x7 fun a8=>
 ld (.l .ptr) (fa a8 0) fun(x9:Option Addr)=>
 nn x9 fun a10=>
 ld (.l .ptr) (fa a10 0) fun(x11:Option Addr)=>
 nn x11 fun a12=>
 ld (.l .ptr) (fa a12 0) fun(x13:Option Addr)=>
 ld (.l (.int .i64)) (fa (⟨b1,0,none⟩) 2) fun(x14:Int)=>
 ld (.l (.int .i64)) (fa (⟨b1,0,none⟩) 3) fun(x15:Int)=>
 call Tryz.prog 81 [.pointer x13,.int .i64 r3.1,.int .i64 x14,.int .i64 x15] (.one (.l (.int .i64))) fun(r16:Int)=>
 ret (.tuple #[.int .i64 0,.int .i64 r16]))))
theorem F.rt.Runtime.put.calls(p0:Option Addr)(p1:LTs [.int .i64,.int .i64,.int .i64,.int .i64])(h:F.rt.Runtime.put p0 p1 Q w):Calls Tryz.prog 45 #[.pointer p0,.agg #[.int .i64 p1.1,.int .i64 p1.2.1,.int .i64 p1.2.2.1,.int .i64 p1.2.2.2.1]] w (aC Q):=
 Tryz.cd F.rt.Runtime.put.T Tryz.func45 (by kernel_rfl) (es:=[.va (.pointer p0),.va (.agg #[.int .i64 p1.1,.int .i64 p1.2.1,.int .i64 p1.2.2.1,.int .i64 p1.2.2.2.1])]) rfl (by kernel_rfl) h
def F.rt.Runtime.drop.T:az:=⟨fun _=>[],
 fun _=>none,
 (fun
 |1=> .tail 9
 |_=> .quiet)⟩
def F.rt.Runtime.drop(p0:Option Addr)(p1:LTs [.int .i64,.int .i64,.int .i64,.int .i64]):Tree:=
 nw 43 [.int .i64 p1.1,.int .i64 p1.2.1,.int .i64 p1.2.2.1,.int .i64 p1.2.2.2.1] fun b1=>
 dI<|
 nn p0 fun a2=>
 ld (.l .ptr) (fa a2 0) fun(x3:Option Addr)=>
 nn x3 fun a4=>
 ld (.l .ptr) (fa a4 1) fun(x5:Option Addr)=>
 ld (.l (.int .i64)) (fa (⟨b1,0,none⟩) 1) fun(x6:Int)=>
 call Tryz.prog 82 [.pointer x5,.int .i64 x6] (.one (.l (.int .i64))) fun(r7:Int)=>
 ret (.tuple #[.int .i64 0,.int .i64 r7])
theorem F.rt.Runtime.drop.calls(p0:Option Addr)(p1:LTs [.int .i64,.int .i64,.int .i64,.int .i64])(h:F.rt.Runtime.drop p0 p1 Q w):Calls Tryz.prog 46 #[.pointer p0,.agg #[.int .i64 p1.1,.int .i64 p1.2.1,.int .i64 p1.2.2.1,.int .i64 p1.2.2.2.1]] w (aC Q):=
 Tryz.cd F.rt.Runtime.drop.T Tryz.func46 (by kernel_rfl) (es:=[.va (.pointer p0),.va (.agg #[.int .i64 p1.1,.int .i64 p1.2.1,.int .i64 p1.2.2.1,.int .i64 p1.2.2.2.1])]) rfl (by kernel_rfl) h
def F.rt.Runtime.root.T:az:=⟨fun _=>[],
 fun _=>none,
 (fun
 |4=> .tail 10
 |_=> .quiet)⟩
def F.rt.Runtime.root(p0:Option Addr)(p1:LTs [.int .i64,.int .i64,.int .i64,.int .i64]):Tree:=
 nw 43 [.int .i64 p1.1,.int .i64 p1.2.1,.int .i64 p1.2.2.1,.int .i64 p1.2.2.2.1] fun b1=>
 ld (.l (.int .i64)) (fa (⟨b1,0,none⟩) 2) fun(x2:Int)=>
 call Tryz.prog 78 [.pointer p0,.int .i64 x2,.bool true] (.many [.l (.int .i64),.l (.int .i64)]) fun(r3:KTs _)=>
 br ((r3.2.1:Int) != 0)
 (ret (.tuple #[.int .i64 0,.int .i64 r3.2.1]))
 (dI<|
 nn p0 fun a4=>
 ld (.l .ptr) (fa a4 0) fun(x5:Option Addr)=>
 nn x5 fun a6=>
 ld (.l .ptr) (fa a6 2) fun(x7:Option Addr)=>
 ld (.l (.int .i64)) (fa (⟨b1,0,none⟩) 1) fun(x8:Int)=>
 call Tryz.prog 83 [.pointer x7,.int .i64 x8,.int .i64 r3.1] (.one (.l (.int .i64))) fun(r9:Int)=>
 ret (.tuple #[.int .i64 0,.int .i64 r9]))
theorem F.rt.Runtime.root.calls(p0:Option Addr)(p1:LTs [.int .i64,.int .i64,.int .i64,.int .i64])(h:F.rt.Runtime.root p0 p1 Q w):Calls Tryz.prog 47 #[.pointer p0,.agg #[.int .i64 p1.1,.int .i64 p1.2.1,.int .i64 p1.2.2.1,.int .i64 p1.2.2.2.1]] w (aC Q):=
 Tryz.cd F.rt.Runtime.root.T Tryz.func47 (by kernel_rfl) (es:=[.va (.pointer p0),.va (.agg #[.int .i64 p1.1,.int .i64 p1.2.1,.int .i64 p1.2.2.1,.int .i64 p1.2.2.2.1])]) rfl (by kernel_rfl) h
def F.rt.Runtime.take.T:az:=⟨fun _=>[],
 fun _=>none,
 (fun
 |1=> .held (some 9) (.go 0 false (.go 1 false (.go 2 false (.go 3 false (.go 4 false (.go 5 false (.go 6 false (.go 7 false (.go 8 false (.go 9 true (.go 10 false (.go 11 false (.go 12 false (.go 13 false (.go 14 false .nil)))))))))))))))
 |_=> .quiet)⟩
def F.rt.Runtime.take(p0:Option Addr)(p1:LTs [.int .i64,.int .i64,.int .i64,.int .i64]):Tree:=
 nw 43 [.int .i64 p1.1,.int .i64 p1.2.1,.int .i64 p1.2.2.1,.int .i64 p1.2.2.2.1] fun b1=>
 dI<|Gl.held fun S2=>
 nn p0 fun a3=>
 bm S2 (.l .ptr) (fa a3 0) fun(x4:Option Addr)=>
 nn x4 fun a5=>
 bm S2 (.l .ptr) (fa a5 2) fun(x6:Option Addr)=>
 bm S2 (.l (.int .i64)) (fa (⟨b1,0,none⟩) 1) fun(x7:Int)=>
 call Tryz.prog 84 [.pointer x6,.int .i64 x7] (.many [.l (.int .i64),.l (.int .i64)]) fun(r8:KTs _)=>
 br ((r8.2.1:Int) != 0)
 (ret (.tuple #[.int .i64 0,.int .i64 r8.2.1]))
 (call Tryz.prog 80 [.pointer p0,.int .i64 r8.1] (.many [.l (.int .i64),.l (.int .i64)]) fun(r9:KTs _)=>
 ret (.tuple #[.int .i64 r9.1,.int .i64 r9.2.1]))
theorem F.rt.Runtime.take.calls(p0:Option Addr)(p1:LTs [.int .i64,.int .i64,.int .i64,.int .i64])(h:F.rt.Runtime.take p0 p1 Q w):Calls Tryz.prog 48 #[.pointer p0,.agg #[.int .i64 p1.1,.int .i64 p1.2.1,.int .i64 p1.2.2.1,.int .i64 p1.2.2.2.1]] w (aC Q):=
 Tryz.cd F.rt.Runtime.take.T Tryz.func48 (by kernel_rfl) (es:=[.va (.pointer p0),.va (.agg #[.int .i64 p1.1,.int .i64 p1.2.1,.int .i64 p1.2.2.1,.int .i64 p1.2.2.2.1])]) rfl (by kernel_rfl) h
def F.rt.Runtime.aY(p0:Option Addr)(p1:LTs [.int .i64,.int .i64,.int .i64,.int .i64]):Tree:=
 nw 22 [.pointer p0] fun b1=>
 nw 43 [.int .i64 p1.1,.int .i64 p1.2.1,.int .i64 p1.2.2.1,.int .i64 p1.2.2.2.1] fun b2=>
 ld (.l .ptr) (⟨b1,0,none⟩) fun(x3:Option Addr)=>
 ld (.l (.int .i64)) (fa (⟨b2,0,none⟩) 2) fun(x4:Int)=>
 call Tryz.prog 78 [.pointer x3,.int .i64 x4,.bool false] (.many [.l (.int .i64),.l (.int .i64)]) fun(r5:KTs _)=>
 nw 3 (zc Tryz.prog 3) fun b6=>
 st (⟨b6,0,none⟩) [.int .i64 r5.1]<|
 br ((r5.2.1:Int) != 0)
 (ret (.tuple #[.int .i64 0,.int .i64 r5.2.1]))
 (ld (.l .ptr) (⟨b1,0,none⟩) fun(x7:Option Addr)=>
 ld (.g [.int .i64,.int .i64,.int .i64,.int .i64]) (⟨b2,0,none⟩) fun(x8:LTs _)=>
 call Tryz.prog 85 [.pointer x7,.agg #[.int .i64 x8.1,.int .i64 x8.2.1,.int .i64 x8.2.2.1,.int .i64 x8.2.2.2.1]] (.one (.l (.int .i64))) fun(r9:Int)=>
 br ((r9:Int) != 0)
 (ret (.tuple #[.int .i64 0,.int .i64 r9]))
 (ld (.l .ptr) (⟨b1,0,none⟩) fun(x10:Option Addr)=>
 call Tryz.prog 86 [.pointer x10,.func (.func 87) #[] #[.pointer (some (⟨b1,0,none⟩)),.pointer (some (⟨b2,0,none⟩)),.pointer (some (⟨b6,0,none⟩))]] (.many [.l (.int .i64),.l (.int .i64)]) fun(r11:KTs _)=>
 ret (.tuple #[.int .i64 r11.1,.int .i64 r11.2.1])))
theorem F.rt.Runtime.aY.calls(p0:Option Addr)(p1:LTs [.int .i64,.int .i64,.int .i64,.int .i64])(h:F.rt.Runtime.aY p0 p1 Q w):Calls Tryz.prog 49 #[.pointer p0,.agg #[.int .i64 p1.1,.int .i64 p1.2.1,.int .i64 p1.2.2.1,.int .i64 p1.2.2.2.1]] w (aC Q):=
 Tryz.cd az.z Tryz.func49 (by kernel_rfl) (es:=[.va (.pointer p0),.va (.agg #[.int .i64 p1.1,.int .i64 p1.2.1,.int .i64 p1.2.2.1,.int .i64 p1.2.2.2.1])]) rfl (by kernel_rfl) h
def F.rt.Runtime.aG.T:az:=⟨fun _=>[],
 fun _=>none,
 (fun
 |14=> .held (some 13) (.go 0 false (.go 1 false (.go 2 false (.go 3 false (.go 4 false (.go 5 false (.go 6 false (.go 7 false (.go 8 false (.go 9 false (.go 10 false (.go 11 false (.go 12 false (.go 13 true (.go 14 false (.go 15 false (.go 16 false (.go 17 false (.go 18 false .nil)))))))))))))))))))
 |_=> .quiet)⟩
def F.rt.Runtime.aG(p0:Option Addr)(p1:LTs [.int .i64,.int .i64,.int .i64,.int .i64]):Tree:=
 nw 43 [.int .i64 p1.1,.int .i64 p1.2.1,.int .i64 p1.2.2.1,.int .i64 p1.2.2.2.1] fun b1=>
 ld (.l (.int .i64)) (fa (⟨b1,0,none⟩) 1) fun(x2:Int)=>
 call Tryz.prog 78 [.pointer p0,.int .i64 x2,.bool false] (.many [.l (.int .i64),.l (.int .i64)]) fun(r3:KTs _)=>
 br ((r3.2.1:Int) != 0)
 (ret (.tuple #[.int .i64 0,.int .i64 r3.2.1]))
 (nn p0 fun a4=>
 ld (.l .ptr) (fa a4 0) fun(x5:Option Addr)=>
 nn x5 fun a6=>
 ld (.l .ptr) (fa a6 0) fun(x7:Option Addr)=>
 nn x7 fun a8=>
 ld (.l .ptr) (fa a8 0) fun(x9:Option Addr)=>
 nn x9 fun a10=>
 ld (.l .ptr) (fa a10 0) fun(x11:Option Addr)=>
 call Tryz.prog 61 [.pointer x11,.int .i64 r3.1] (.many [.g [.int .i64,.int .i64,.int .i64,.bool],.l (.int .i64)]) fun(r12:KTs _)=>
 nw 103 (zc Tryz.prog 103) fun b13=>
 st (⟨b13,0,none⟩) [.int .i64 r12.1.1,.int .i64 r12.1.2.1,.int .i64 r12.1.2.2.1,.bool r12.1.2.2.2.1]<|
 br ((r12.2.1:Int) != 0)
 (ret (.tuple #[.int .i64 0,.int .i64 5]))
 (ld (.l (.int .i64)) (fa (⟨b13,0,none⟩) 0) fun(x14:Int)=>
 br ((x14:Int) != 4)
 (ret (.tuple #[.int .i64 0,.int .i64 5]))
 (ld (.l (.int .i64)) (fa (⟨b13,0,none⟩) 1) fun(x15:Int)=>
 br ((x15:Int)==3)
 (ret (.tuple #[.int .i64 0,.int .i64 0]))
 (nn p0 fun a16=>
 ld (.l .ptr) (fa a16 0) fun(x17:Option Addr)=>
 nn x17 fun a18=>
 ld (.l .ptr) (fa a18 0) fun(x19:Option Addr)=>
 nn x19 fun a20=>
 ld (.l .ptr) (fa a20 0) fun(x21:Option Addr)=>
 nn x21 fun a22=>
 ld (.l .ptr) (fa a22 0) fun(x23:Option Addr)=>
 call Tryz.prog 62 [.pointer x23,.int .i64 r3.1,.int .i64 0] (.many [.l (.int .i64),.l (.int .i64)]) fun(r24:KTs _)=>
 br ((r24.2.1:Int) != 0)
 (br ((r24.2.1:Int)==0)
 (br ((r24.1:Int) != 0)
 (ret (.tuple #[.int .i64 0,.int .i64 3]))
 (ret (.tuple #[.int .i64 0,.int .i64 r24.2.1])))
 (ret (.tuple #[.int .i64 0,.int .i64 r24.2.1])))
 (br ((r24.1:Int)==0)
 (br ((r24.2.1:Int)==0)
 (br ((r24.1:Int) != 0)
 (ret (.tuple #[.int .i64 0,.int .i64 3]))
 (ret (.tuple #[.int .i64 0,.int .i64 r24.2.1])))
 (ret (.tuple #[.int .i64 0,.int .i64 r24.2.1])))
 (nn p0 fun a25=>
 ld (.l .ptr) (fa a25 0) fun(x26:Option Addr)=>
 nn x26 fun a27=>
 ld (.l .ptr) (fa a27 1) fun(x28:Option Addr)=>
 call Tryz.prog 90 [.pointer x28] (.one (.l (.int .i64))) fun(r29:Int)=>
 br ((r29:Int)==0)
 (br ((r24.2.1:Int)==0)
 (br ((r24.1:Int) != 0)
 (ret (.tuple #[.int .i64 0,.int .i64 3]))
 (ret (.tuple #[.int .i64 0,.int .i64 r24.2.1])))
 (ret (.tuple #[.int .i64 0,.int .i64 r24.2.1])))
 (dI<|Gl.held fun S30=>
 nn p0 fun a31=>
 bm S30 (.l .ptr) (fa a31 0) fun(x32:Option Addr)=>
 nn x32 fun a33=>
 bm S30 (.l .ptr) (fa a33 0) fun(x34:Option Addr)=>
 nn p0 fun a35=>
 bm S30 (.l .ptr) (fa a35 0) fun(x36:Option Addr)=>
 call Tryz.prog 89 [.pointer x36] (.one (.l (.int .i64))) fun(r37:Int)=>
 fX S30<|
 call Tryz.prog 91 [.pointer x34,.int .i64 r3.1,.int .i64 r37] (.many [.l (.int .i64),.l (.int .i64)]) fun(r38:KTs _)=>
 br ((r38.2.1:Int) != 0)
 (ret (.tuple #[.int .i64 0,.int .i64 r38.2.1]))
 (call Tryz.prog 80 [.pointer p0,.int .i64 r38.1] (.many [.l (.int .i64),.l (.int .i64)]) fun(r39:KTs _)=>
 ret (.tuple #[.int .i64 r39.1,.int .i64 r39.2.1])))))))))
theorem F.rt.Runtime.aG.calls(p0:Option Addr)(p1:LTs [.int .i64,.int .i64,.int .i64,.int .i64])(h:F.rt.Runtime.aG p0 p1 Q w):Calls Tryz.prog 50 #[.pointer p0,.agg #[.int .i64 p1.1,.int .i64 p1.2.1,.int .i64 p1.2.2.1,.int .i64 p1.2.2.2.1]] w (aC Q):=
 Tryz.cd F.rt.Runtime.aG.T Tryz.func50 (by kernel_rfl) (es:=[.va (.pointer p0),.va (.agg #[.int .i64 p1.1,.int .i64 p1.2.1,.int .i64 p1.2.2.1,.int .i64 p1.2.2.2.1])]) rfl (by kernel_rfl) h
def F.rt.Runtime.clear(p0:Option Addr)(p1:LTs [.int .i64,.int .i64,.int .i64,.int .i64]):Tree:=
 nw 43 [.int .i64 p1.1,.int .i64 p1.2.1,.int .i64 p1.2.2.1,.int .i64 p1.2.2.2.1] fun b1=>
 ld (.l (.int .i64)) (fa (⟨b1,0,none⟩) 1) fun(x2:Int)=>
 call Tryz.prog 78 [.pointer p0,.int .i64 x2,.bool false] (.many [.l (.int .i64),.l (.int .i64)]) fun(r3:KTs _)=>
 br ((r3.2.1:Int) != 0)
 (ret (.tuple #[.int .i64 0,.int .i64 r3.2.1]))
 (nn p0 fun a4=>
 ld (.l .ptr) (fa a4 0) fun(x5:Option Addr)=>
 nn x5 fun a6=>
 ld (.l .ptr) (fa a6 0) fun(x7:Option Addr)=>
 nw 3 [.int .i64 r3.1] fun b8=>
 call Tryz.prog 92 [.pointer x7,.slice (some ⟨b8,0,none⟩) 1 1] (.one (.l (.int .i64))) fun(r9:Int)=>
 ret (.tuple #[.int .i64 0,.int .i64 r9]))
theorem F.rt.Runtime.clear.calls(p0:Option Addr)(p1:LTs [.int .i64,.int .i64,.int .i64,.int .i64])(h:F.rt.Runtime.clear p0 p1 Q w):Calls Tryz.prog 51 #[.pointer p0,.agg #[.int .i64 p1.1,.int .i64 p1.2.1,.int .i64 p1.2.2.1,.int .i64 p1.2.2.2.1]] w (aC Q):=
 Tryz.cd az.z Tryz.func51 (by kernel_rfl) (es:=[.va (.pointer p0),.va (.agg #[.int .i64 p1.1,.int .i64 p1.2.1,.int .i64 p1.2.2.1,.int .i64 p1.2.2.2.1])]) rfl (by kernel_rfl) h
def F.rt.Runtime.enqueue(p0:Option Addr)(p1:LTs [.int .i64,.int .i64,.int .i64,.int .i64]):Tree:=
 nw 43 [.int .i64 p1.1,.int .i64 p1.2.1,.int .i64 p1.2.2.1,.int .i64 p1.2.2.2.1] fun b1=>
 ld (.l (.int .i64)) (fa (⟨b1,0,none⟩) 1) fun(x2:Int)=>
 call Tryz.prog 78 [.pointer p0,.int .i64 x2,.bool false] (.many [.l (.int .i64),.l (.int .i64)]) fun(r3:KTs _)=>
 br ((r3.2.1:Int) != 0)
 (ret (.tuple #[.int .i64 0,.int .i64 r3.2.1]))
 (nn p0 fun a4=>
 ld (.l .ptr) (fa a4 0) fun(x5:Option Addr)=>
 nn x5 fun a6=>
 ld (.l .ptr) (fa a6 0) fun(x7:Option Addr)=>
 call Tryz.prog 93 [.pointer x7,.int .i64 r3.1] (.many [.l .bool,.l (.int .i64)]) fun(r8:KTs _)=>
 br ((r8.2.1:Int) != 0)
 (ret (.tuple #[.int .i64 0,.int .i64 r8.2.1]))
 (br (!r8.1)
 (ret (.tuple #[.int .i64 0,.int .i64 r8.2.1]))
 (ret (.tuple #[.int .i64 1,.int .i64 0]))))
theorem F.rt.Runtime.enqueue.calls(p0:Option Addr)(p1:LTs [.int .i64,.int .i64,.int .i64,.int .i64])(h:F.rt.Runtime.enqueue p0 p1 Q w):Calls Tryz.prog 52 #[.pointer p0,.agg #[.int .i64 p1.1,.int .i64 p1.2.1,.int .i64 p1.2.2.1,.int .i64 p1.2.2.2.1]] w (aC Q):=
 Tryz.cd az.z Tryz.func52 (by kernel_rfl) (es:=[.va (.pointer p0),.va (.agg #[.int .i64 p1.1,.int .i64 p1.2.1,.int .i64 p1.2.2.1,.int .i64 p1.2.2.2.1])]) rfl (by kernel_rfl) h
def F.rt.Runtime.open(p0:Option Addr)(p1:LTs [.int .i64,.int .i64,.int .i64,.int .i64]):Tree:=
 nw 43 [.int .i64 p1.1,.int .i64 p1.2.1,.int .i64 p1.2.2.1,.int .i64 p1.2.2.2.1] fun b1=>
 nn p0 fun a2=>
 ld (.l .ptr) (fa a2 0) fun(x3:Option Addr)=>
 nn x3 fun a4=>
 ld (.l .ptr) (fa a4 0) fun(x5:Option Addr)=>
 nn x5 fun a6=>
 ld (.l .ptr) (fa a6 0) fun(x7:Option Addr)=>
 call Tryz.prog 94 [.pointer x7] (.many [.l (.int .i64),.l (.int .i64)]) fun(r8:KTs _)=>
 ret (.tuple #[.int .i64 r8.1,.int .i64 r8.2.1])
theorem F.rt.Runtime.open.calls(p0:Option Addr)(p1:LTs [.int .i64,.int .i64,.int .i64,.int .i64])(h:F.rt.Runtime.open p0 p1 Q w):Calls Tryz.prog 53 #[.pointer p0,.agg #[.int .i64 p1.1,.int .i64 p1.2.1,.int .i64 p1.2.2.1,.int .i64 p1.2.2.2.1]] w (aC Q):=
 Tryz.cd az.z Tryz.func53 (by kernel_rfl) (es:=[.va (.pointer p0),.va (.agg #[.int .i64 p1.1,.int .i64 p1.2.1,.int .i64 p1.2.2.1,.int .i64 p1.2.2.2.1])]) rfl (by kernel_rfl) h
def F.rt.Runtime.eU.T:az:=⟨fun _=>[],
 fun _=>none,
 (fun
 |1=> .held (some 12) (.go 0 false (.go 1 false (.go 2 false (.go 3 false (.go 4 false (.go 5 false (.go 6 false (.go 7 false (.go 8 false (.go 9 false (.go 10 false (.go 11 false (.go 12 true (.go 13 false (.go 14 false (.go 15 false (.go 16 false (.go 17 false .nil))))))))))))))))))
 |8=> .held (some 12) (.go 0 false (.go 1 false (.go 2 false (.go 3 false (.go 4 false (.go 5 false (.go 6 false (.go 7 false (.go 8 false (.go 9 false (.go 10 false (.go 11 false (.go 12 true (.go 13 false (.go 14 false (.go 15 false (.go 16 false (.go 17 false .nil))))))))))))))))))
 |_=> .quiet)⟩
def F.rt.Runtime.eU(p0:Option Addr)(p1:LTs [.int .i64,.int .i64,.int .i64,.int .i64]):Tree:=
 nw 43 [.int .i64 p1.1,.int .i64 p1.2.1,.int .i64 p1.2.2.1,.int .i64 p1.2.2.2.1] fun b1=>
 dI<|Gl.held fun S2=>
 nn p0 fun a3=>
 bm S2 (.l .ptr) (fa a3 0) fun(x4:Option Addr)=>
 nn x4 fun a5=>
 bm S2 (.l .ptr) (fa a5 0) fun(x6:Option Addr)=>
 nn x6 fun a7=>
 bm S2 (.l .ptr) (fa a7 0) fun(x8:Option Addr)=>
 bm S2 (.l (.int .i64)) (fa (⟨b1,0,none⟩) 1) fun(x9:Int)=>
 call Tryz.prog 66 [.pointer x8,.int .i64 x9] (.many [.l .slice,.l (.int .i64)]) fun(r10:KTs _)=>
 br ((r10.2.1:Int) != 0)
 (ret (.tuple #[.int .i64 0,.int .i64 r10.2.1]))
 (br (((r10.1.n:Nat):Int)==0)
 (ret (.tuple #[.int .i64 0,.int .i64 0]))
 (nn p0 fun a11=>
 ld (.l .ptr) (fa a11 0) fun(x12:Option Addr)=>
 nn x12 fun a13=>
 ld (.l .ptr) (fa a13 1) fun(x14:Option Addr)=>
 call Tryz.prog 90 [.pointer x14] (.one (.l (.int .i64))) fun(r15:Int)=>
 br ((r15:Int)==0)
 (ret (.tuple #[.int .i64 0,.int .i64 3]))
 (dI<|Gl.held fun S16=>
 nn p0 fun a17=>
 bm S16 (.l .ptr) (fa a17 0) fun(x18:Option Addr)=>
 nn x18 fun a19=>
 bm S16 (.l .ptr) (fa a19 0) fun(x20:Option Addr)=>
 nn x20 fun a21=>
 bm S16 (.l .ptr) (fa a21 0) fun(x22:Option Addr)=>
 bm S16 (.l (.int .i64)) (fa (⟨b1,0,none⟩) 1) fun(x23:Int)=>
 call Tryz.prog 95 [.pointer x22,.int .i64 x23] (.many [.l (.int .i64),.l (.int .i64)]) fun(r24:KTs _)=>
 br ((r24.2.1:Int) != 0)
 (ret (.tuple #[.int .i64 0,.int .i64 r24.2.1]))
 (call Tryz.prog 80 [.pointer p0,.int .i64 r24.1] (.many [.l (.int .i64),.l (.int .i64)]) fun(r25:KTs _)=>
 ret (.tuple #[.int .i64 r25.1,.int .i64 r25.2.1])))))
theorem F.rt.Runtime.eU.calls(p0:Option Addr)(p1:LTs [.int .i64,.int .i64,.int .i64,.int .i64])(h:F.rt.Runtime.eU p0 p1 Q w):Calls Tryz.prog 54 #[.pointer p0,.agg #[.int .i64 p1.1,.int .i64 p1.2.1,.int .i64 p1.2.2.1,.int .i64 p1.2.2.2.1]] w (aC Q):=
 Tryz.cd F.rt.Runtime.eU.T Tryz.func54 (by kernel_rfl) (es:=[.va (.pointer p0),.va (.agg #[.int .i64 p1.1,.int .i64 p1.2.1,.int .i64 p1.2.2.1,.int .i64 p1.2.2.2.1])]) rfl (by kernel_rfl) h
def F.rt.Runtime.final(p0:Option Addr)(p1:LTs [.int .i64,.int .i64,.int .i64,.int .i64]):Tree:=
 nw 43 [.int .i64 p1.1,.int .i64 p1.2.1,.int .i64 p1.2.2.1,.int .i64 p1.2.2.2.1] fun b1=>
 ld (.l (.int .i64)) (fa (⟨b1,0,none⟩) 1) fun(x2:Int)=>
 call Tryz.prog 78 [.pointer p0,.int .i64 x2,.bool false] (.many [.l (.int .i64),.l (.int .i64)]) fun(r3:KTs _)=>
 br ((r3.2.1:Int) != 0)
 (ret (.tuple #[.int .i64 0,.int .i64 r3.2.1]))
 (nn p0 fun a4=>
 ld (.l .ptr) (fa a4 0) fun(x5:Option Addr)=>
 nn x5 fun a6=>
 ld (.l .ptr) (fa a6 3) fun(x7:Option Addr)=>
 call Tryz.prog 96 [.pointer x7,.int .i64 r3.1] (.one (.l (.int .i64))) fun(r8:Int)=>
 ret (.tuple #[.int .i64 0,.int .i64 r8]))
theorem F.rt.Runtime.final.calls(p0:Option Addr)(p1:LTs [.int .i64,.int .i64,.int .i64,.int .i64])(h:F.rt.Runtime.final p0 p1 Q w):Calls Tryz.prog 55 #[.pointer p0,.agg #[.int .i64 p1.1,.int .i64 p1.2.1,.int .i64 p1.2.2.1,.int .i64 p1.2.2.2.1]] w (aC Q):=
 Tryz.cd az.z Tryz.func55 (by kernel_rfl) (es:=[.va (.pointer p0),.va (.agg #[.int .i64 p1.1,.int .i64 p1.2.1,.int .i64 p1.2.2.1,.int .i64 p1.2.2.2.1])]) rfl (by kernel_rfl) h
def F.rt.Runtime.run.T:az:=⟨fun _=>[],
 (fun
 |8=>some []
 |_=>none),
 (fun
 |1=> .held (some 9) (.go 0 false (.go 1 false (.go 2 false (.go 3 false (.go 4 false (.go 5 false (.go 6 false (.go 7 false (.go 8 false (.go 9 true (.go 10 false (.go 11 false (.go 12 false (.go 13 false (.go 14 false .nil)))))))))))))))
 |2=> .held none (.go 0 false (.go 1 false (.go 2 false (.go 3 false (.go 4 false (.go 5 false (.go 6 false (.go 7 false (.go 8 false (.go 9 false (.go 10 false (.go 11 false (.go 12 false (.go 13 false (.cut (.go 14 false (.go 15 false (.go 16 false (.go 17 false (.go 18 false (.go 19 false (.go 20 false (.go 21 false (.go 22 false (.go 23 false (.go 24 false (.go 25 false (.go 26 false (.go 27 false .nil)))))))))))))))))))))))))))))
 |8=> .held (some 9) (.go 0 false (.go 1 false (.go 2 false (.go 3 false (.go 4 false (.go 5 false (.go 6 false (.go 7 false (.go 8 false (.go 9 true (.go 10 false (.go 11 false (.go 12 false (.go 13 false (.go 14 false .nil)))))))))))))))
 |12=> .tail 10
 |_=> .quiet)⟩
def F.rt.Runtime.run(p0:Option Addr)(p1:LTs [.int .i64,.int .i64,.int .i64,.int .i64]):Tree:=
 nw 43 [.int .i64 p1.1,.int .i64 p1.2.1,.int .i64 p1.2.2.1,.int .i64 p1.2.2.2.1] fun b1=>
 dI<|Gl.held fun S2=>
 nn p0 fun a3=>
 bm S2 (.l .ptr) (fa a3 0) fun(x4:Option Addr)=>
 nn x4 fun a5=>
 bm S2 (.l .ptr) (fa a5 2) fun(x6:Option Addr)=>
 bm S2 (.l (.int .i64)) (fa (⟨b1,0,none⟩) 3) fun(x7:Int)=>
 call Tryz.prog 84 [.pointer x6,.int .i64 x7] (.many [.l (.int .i64),.l (.int .i64)]) fun(r8:KTs _)=>
 jn (fun(j10:LTs [])=> --
 dI<|Gl.held fun S11=>
 nn p0 fun a12=>
 bm S11 (.l .ptr) (fa a12 0) fun(x13:Option Addr)=>
 nn x13 fun a14=>
 bm S11 (.l .ptr) (fa a14 3) fun(x15:Option Addr)=>
 bm S11 (.l (.int .i64)) (fa (⟨b1,0,none⟩) 1) fun(x16:Int)=>
 call Tryz.prog 97 [.pointer x15,.int .i64 x16] (.many [.l (.int .i64),.l (.int .i64)]) fun(r17:KTs _)=>
 br ((r17.2.1:Int) != 0)
 (ret (.tuple #[.int .i64 0,.int .i64 r17.2.1]))
 (ld (.l (.int .i64)) (fa (⟨b1,0,none⟩) 2) fun(x18:Int)=>
 br ((x18:Int)==1)
 (dI<|
 nn p0 fun a19=>
 ld (.l .ptr) (fa a19 0) fun(x20:Option Addr)=>
 nn x20 fun a21=>
 ld (.l .ptr) (fa a21 2) fun(x22:Option Addr)=>
 ld (.l (.int .i64)) (fa (⟨b1,0,none⟩) 3) fun(x23:Int)=>
 call Tryz.prog 83 [.pointer x22,.int .i64 x23,.int .i64 r17.1] (.one (.l (.int .i64))) fun(r24:Int)=>
 ret (.tuple #[.int .i64 0,.int .i64 r24]))
 (ld (.l (.int .i64)) (fa (⟨b1,0,none⟩) 2) fun(x19:Int)=>
 br ((x19:Int)==2)
 (call Tryz.prog 80 [.pointer p0,.int .i64 r17.1] (.many [.l (.int .i64),.l (.int .i64)]) fun(r20:KTs _)=>
 ret (.tuple #[.int .i64 r20.1,.int .i64 r20.2.1]))
 (ret (.tuple #[.int .i64 0,.int .i64 0]))))) fun J9=>
 dI<|Gl.held fun S20=>
 bm S20 (.l (.int .i64)) (fa (⟨b1,0,none⟩) 1) fun(x21:Int)=>
 br (decide ((x21:Int)<0))
 (narrow S20 fun S22=>
 ret (.tuple #[.int .i64 0,.int .i64 1]))
 (bm S20 (.l (.int .i64)) (fa (⟨b1,0,none⟩) 1) fun(x22:Int)=>
 nn p0 fun a23=>
 bm S20 (.l .ptr) (fa a23 0) fun(x24:Option Addr)=>
 nn x24 fun a25=>
 bm S20 (.l .ptr) (fa a25 3) fun(x26:Option Addr)=>
 call Tryz.prog 29 [.pointer x26] (.one (.l .slice)) fun(r27:ay)=>
 fX S20<|
 narrow S20 fun S28=>
 br (decide ((x22:Int)≥(r27.n:Nat)))
 (ret (.tuple #[.int .i64 0,.int .i64 1]))
 (bm S28 (.l (.int .i64)) (fa (⟨b1,0,none⟩) 2) fun(x29:Int)=>
 br (decide ((x29:Int)<0))
 (ret (.tuple #[.int .i64 0,.int .i64 1]))
 (bm S28 (.l (.int .i64)) (fa (⟨b1,0,none⟩) 2) fun(x30:Int)=>
 br (decide ((x30:Int)>2))
 (ret (.tuple #[.int .i64 0,.int .i64 1]))
 (ld (.l (.int .i64)) (fa (⟨b1,0,none⟩) 2) fun(x31:Int)=>
 br ((x31:Int)==1)
 (br ((r8.2.1:Int) != 0)
 (ret (.tuple #[.int .i64 0,.int .i64 1]))
 (ld (.l (.int .i64)) (fa (⟨b1,0,none⟩) 2) fun(x32:Int)=>
 br ((x32:Int)==2)
 (nn p0 fun a33=>
 ld (.l .ptr) (fa a33 0) fun(x34:Option Addr)=>
 nn x34 fun a35=>
 ld (.l .ptr) (fa a35 1) fun(x36:Option Addr)=>
 call Tryz.prog 90 [.pointer x36] (.one (.l (.int .i64))) fun(r37:Int)=>
 br ((r37:Int)==0)
 (ret (.tuple #[.int .i64 0,.int .i64 3]))
 (J9 (())))
 (J9 (()))))
 (ld (.l (.int .i64)) (fa (⟨b1,0,none⟩) 2) fun(x32:Int)=>
 br ((x32:Int)==2)
 (nn p0 fun a33=>
 ld (.l .ptr) (fa a33 0) fun(x34:Option Addr)=>
 nn x34 fun a35=>
 ld (.l .ptr) (fa a35 1) fun(x36:Option Addr)=>
 call Tryz.prog 90 [.pointer x36] (.one (.l (.int .i64))) fun(r37:Int)=>
 br ((r37:Int)==0)
 (ret (.tuple #[.int .i64 0,.int .i64 3]))
 (J9 (())))
 (J9 (())))))))
theorem F.rt.Runtime.run.calls(p0:Option Addr)(p1:LTs [.int .i64,.int .i64,.int .i64,.int .i64])(h:F.rt.Runtime.run p0 p1 Q w):Calls Tryz.prog 56 #[.pointer p0,.agg #[.int .i64 p1.1,.int .i64 p1.2.1,.int .i64 p1.2.2.1,.int .i64 p1.2.2.2.1]] w (aC Q):=
 Tryz.cd F.rt.Runtime.run.T Tryz.func56 (by kernel_rfl) (es:=[.va (.pointer p0),.va (.agg #[.int .i64 p1.1,.int .i64 p1.2.1,.int .i64 p1.2.2.1,.int .i64 p1.2.2.2.1])]) rfl (by kernel_rfl) h
def F.rt.Runtime.collect.T:az:=⟨fun _=>[],
 (fun
 |3=>some []
 |_=>none),
 (fun
 |4=> .held (some 7) (.go 0 false (.go 1 false (.go 2 false (.go 3 false (.go 4 false (.go 5 false (.go 6 false (.two (.go 7 true (.go 8 false (.go 9 false (.go 10 false (.go 11 false (.go 12 false (.go 13 false .nil))))))) (.go 11 false (.go 7 true (.go 8 false (.go 9 false (.go 10 false (.go 12 false (.go 13 false .nil)))))))))))))))
 |_=> .quiet)⟩
def F.rt.Runtime.collect(p0:Option Addr)(p1:LTs [.int .i64,.int .i64,.int .i64,.int .i64]):Tree:=
 nw 43 [.int .i64 p1.1,.int .i64 p1.2.1,.int .i64 p1.2.2.1,.int .i64 p1.2.2.2.1] fun b1=>
 jn (fun(j3:LTs [])=> --
 nn p0 fun a4=>
 ld (.l .ptr) (fa a4 0) fun(x5:Option Addr)=>
 nn x5 fun a6=>
 ld (.l .ptr) (fa a6 0) fun(x7:Option Addr)=>
 nn x7 fun a8=>
 ld (.l .ptr) (fa a8 0) fun(x9:Option Addr)=>
 nn x9 fun a10=>
 ld (.l .ptr) (fa a10 0) fun(x11:Option Addr)=>
 nn x11 fun a12=>
 ld (.l .ptr) (fa a12 0) fun(x13:Option Addr)=>
 call Tryz.prog 60 [.pointer x13] (.one (.l .slice)) fun(r14:ay)=>
 dI<|Gl.held fun S15=>
 nn p0 fun a16=>
 bm S15 (.l .ptr) (fa a16 0) fun(x17:Option Addr)=>
 bm S15 (.l (.int .i64)) (fa (⟨b1,0,none⟩) 1) fun(x18:Int)=>
 both
 (call Tryz.prog 68 [.pointer x17,.bool ((x18:Int)==1)] (.many [.g [.slice,.slice,.slice,.slice],.l (.int .i64)]) fun(r19:KTs _)=>
 nw 129 (zc Tryz.prog 129) fun b20=>
 st (⟨b20,0,none⟩) [.slice r19.1.1.a r19.1.1.n r19.1.1.c,.slice r19.1.2.1.a r19.1.2.1.n r19.1.2.1.c,.slice r19.1.2.2.1.a r19.1.2.2.1.n r19.1.2.2.1.c,.slice r19.1.2.2.2.1.a r19.1.2.2.2.1.n r19.1.2.2.2.1.c]<|
 br ((r19.2.1:Int) != 0)
 (ret (.tuple #[.int .i64 0,.int .i64 r19.2.1]))
 (nn p0 fun a21=>
 ld (.l .ptr) (fa a21 0) fun(x22:Option Addr)=>
 nn x22 fun a23=>
 ld (.l .ptr) (fa a23 0) fun(x24:Option Addr)=>
 nn x24 fun a25=>
 ld (.l .ptr) (fa a25 0) fun(x26:Option Addr)=>
 nn x26 fun a27=>
 ld (.l .ptr) (fa a27 0) fun(x28:Option Addr)=>
 nn x28 fun a29=>
 ld (.l .ptr) (fa a29 0) fun(x30:Option Addr)=>
 call Tryz.prog 60 [.pointer x30] (.one (.l .slice)) fun(r31:ay)=>
 ret (.tuple #[.int .i64 (IntKind.wrap .i64 ((r14.n:Nat)-(r31.n:Nat))),.int .i64 0])))
 (nw 129 (zc Tryz.prog 129) fun b32=>
 fX S15<|
 call Tryz.prog 68 [.pointer x17,.bool ((x18:Int)==1)] (.many [.g [.slice,.slice,.slice,.slice],.l (.int .i64)]) fun(r33:KTs _)=>
 st (⟨b32,0,none⟩) [.slice r33.1.1.a r33.1.1.n r33.1.1.c,.slice r33.1.2.1.a r33.1.2.1.n r33.1.2.1.c,.slice r33.1.2.2.1.a r33.1.2.2.1.n r33.1.2.2.1.c,.slice r33.1.2.2.2.1.a r33.1.2.2.2.1.n r33.1.2.2.2.1.c]<|
 br ((r33.2.1:Int) != 0)
 (ret (.tuple #[.int .i64 0,.int .i64 r33.2.1]))
 (nn p0 fun a34=>
 ld (.l .ptr) (fa a34 0) fun(x35:Option Addr)=>
 nn x35 fun a36=>
 ld (.l .ptr) (fa a36 0) fun(x37:Option Addr)=>
 nn x37 fun a38=>
 ld (.l .ptr) (fa a38 0) fun(x39:Option Addr)=>
 nn x39 fun a40=>
 ld (.l .ptr) (fa a40 0) fun(x41:Option Addr)=>
 nn x41 fun a42=>
 ld (.l .ptr) (fa a42 0) fun(x43:Option Addr)=>
 call Tryz.prog 60 [.pointer x43] (.one (.l .slice)) fun(r44:ay)=>
 ret (.tuple #[.int .i64 (IntKind.wrap .i64 ((r14.n:Nat)-(r44.n:Nat))),.int .i64 0])))) fun J2=>
 ld (.l (.int .i64)) (fa (⟨b1,0,none⟩) 1) fun(x45:Int)=>
 br ((x45:Int) != 0)
 (ld (.l (.int .i64)) (fa (⟨b1,0,none⟩) 1) fun(x46:Int)=>
 br ((x46:Int) != 1)
 (ret (.tuple #[.int .i64 0,.int .i64 1]))
 (J2 (())))
 (J2 (()))
theorem F.rt.Runtime.collect.calls(p0:Option Addr)(p1:LTs [.int .i64,.int .i64,.int .i64,.int .i64])(h:F.rt.Runtime.collect p0 p1 Q w):Calls Tryz.prog 57 #[.pointer p0,.agg #[.int .i64 p1.1,.int .i64 p1.2.1,.int .i64 p1.2.2.1,.int .i64 p1.2.2.2.1]] w (aC Q):=
 Tryz.cd F.rt.Runtime.collect.T Tryz.func57 (by kernel_rfl) (es:=[.va (.pointer p0),.va (.agg #[.int .i64 p1.1,.int .i64 p1.2.1,.int .i64 p1.2.2.1,.int .i64 p1.2.2.2.1])]) rfl (by kernel_rfl) h
def F.rt.Runtime.tick.T:az:=⟨fun _=>[],
 fun _=>none,
 (fun
 |3=> .tail 6
 |_=> .quiet)⟩
def F.rt.Runtime.tick(p0:Option Addr)(p1:LTs [.int .i64,.int .i64,.int .i64,.int .i64]):Tree:=
 nw 43 [.int .i64 p1.1,.int .i64 p1.2.1,.int .i64 p1.2.2.1,.int .i64 p1.2.2.2.1] fun b1=>
 ld (.l (.int .i64)) (fa (⟨b1,0,none⟩) 1) fun(x2:Int)=>
 br (decide ((x2:Int)<0))
 (ret (.tuple #[.int .i64 0,.int .i64 1]))
 (dI<|
 nn p0 fun a3=>
 ld (.l .ptr) (fa a3 0) fun(x4:Option Addr)=>
 ld (.l (.int .i64)) (fa (⟨b1,0,none⟩) 1) fun(x5:Int)=>
 call Tryz.prog 98 [.pointer x4,.int .i64 x5] (.many []) fun(r6:KTs _)=>
 ret (.tuple #[.int .i64 0,.int .i64 0]))
theorem F.rt.Runtime.tick.calls(p0:Option Addr)(p1:LTs [.int .i64,.int .i64,.int .i64,.int .i64])(h:F.rt.Runtime.tick p0 p1 Q w):Calls Tryz.prog 58 #[.pointer p0,.agg #[.int .i64 p1.1,.int .i64 p1.2.1,.int .i64 p1.2.2.1,.int .i64 p1.2.2.2.1]] w (aC Q):=
 Tryz.cd F.rt.Runtime.tick.T Tryz.func58 (by kernel_rfl) (es:=[.va (.pointer p0),.va (.agg #[.int .i64 p1.1,.int .i64 p1.2.1,.int .i64 p1.2.2.1,.int .i64 p1.2.2.2.1])]) rfl (by kernel_rfl) h
def F.rt.Runtime.count.T:az:=⟨fun _=>[],
 fun _=>none,
 (fun
 |2=> .held (some 51) (.go 0 false (.go 1 false (.go 2 false (.go 3 false (.go 4 false (.go 5 false (.go 6 false (.go 7 false (.go 8 false (.go 9 false (.go 10 false (.go 11 false (.go 12 false (.go 13 false (.go 14 false (.go 15 false (.go 16 false (.go 18 false (.go 20 false (.go 21 false (.go 22 false (.go 23 false (.go 24 false (.go 25 false (.go 26 false (.go 29 false (.go 30 false (.go 31 false (.go 32 false (.go 33 false (.go 34 false (.go 35 false (.go 36 false (.go 37 false (.go 38 false (.go 39 false (.go 40 false (.go 41 false (.go 42 false (.go 43 false (.go 44 false (.go 47 false (.go 48 false (.go 49 false (.go 50 false (.go 17 false (.go 19 false (.go 27 false (.go 28 false (.go 45 false (.go 46 false (.go 51 true (.go 52 false (.go 53 false .nil))))))))))))))))))))))))))))))))))))))))))))))))))))))
 |_=> .quiet)⟩
def F.rt.Runtime.count(p0:Option Addr)(p1:LTs [.int .i64,.int .i64,.int .i64,.int .i64]):Tree:=
 nw 43 [.int .i64 p1.1,.int .i64 p1.2.1,.int .i64 p1.2.2.1,.int .i64 p1.2.2.2.1] fun b1=>
 nn p0 fun a2=>
 ld (.l .ptr) (fa a2 0) fun(x3:Option Addr)=>
 nn x3 fun a4=>
 ld (.l .ptr) (fa a4 0) fun(x5:Option Addr)=>
 nn x5 fun a6=>
 ld (.l .ptr) (fa a6 0) fun(x7:Option Addr)=>
 nn x7 fun a8=>
 ld (.l .ptr) (fa a8 0) fun(x9:Option Addr)=>
 nn x9 fun a10=>
 ld (.l .ptr) (fa a10 0) fun(x11:Option Addr)=>
 call Tryz.prog 31 [.pointer x11] (.one (.l (.int .i64))) fun(r12:Int)=>
 dI<|Gl.held fun S13=>
 nn p0 fun a14=>
 bm S13 (.l .ptr) (fa a14 0) fun(x15:Option Addr)=>
 nn x15 fun a16=>
 bm S13 (.l .ptr) (fa a16 0) fun(x17:Option Addr)=>
 nn x17 fun a18=>
 bm S13 (.l .ptr) (fa a18 0) fun(x19:Option Addr)=>
 nn x19 fun a20=>
 bm S13 (.l .ptr) (fa a20 0) fun(x21:Option Addr)=>
 nn x21 fun a22=>
 bm S13 (.l .ptr) (fa a22 0) fun(x23:Option Addr)=>
 nn p0 fun a24=>
 bm S13 (.l .ptr) (fa a24 0) fun(x25:Option Addr)=>
 nn x25 fun a26=>
 bm S13 (.l .ptr) (fa a26 3) fun(x27:Option Addr)=>
 nn p0 fun a28=>
 bm S13 (.l .ptr) (fa a28 0) fun(x29:Option Addr)=>
 nn x29 fun a30=>
 bm S13 (.l .ptr) (fa a30 0) fun(x31:Option Addr)=>
 nn x31 fun a32=>
 bm S13 (.l .ptr) (fa a32 0) fun(x33:Option Addr)=>
 nn x33 fun a34=>
 bm S13 (.l .ptr) (fa a34 0) fun(x35:Option Addr)=>
 nn x35 fun a36=>
 bm S13 (.l .ptr) (fa a36 0) fun(x37:Option Addr)=>
 nn p0 fun a38=>
 bm S13 (.l .ptr) (fa a38 0) fun(x39:Option Addr)=>
 call Tryz.prog 99 [.pointer x23] (.one (.l (.int .i64))) fun(r40:Int)=>
 fX S13<|
 call Tryz.prog 29 [.pointer x27] (.one (.l .slice)) fun(r41:ay)=>
 fX S13<|
 call Tryz.prog 60 [.pointer x37] (.one (.l .slice)) fun(r42:ay)=>
 fX S13<|
 call Tryz.prog 33 [.pointer x39] (.one (.l (.int .i64))) fun(r43:Int)=>
 nw 3 [.int .i64 r12,.int .i64 (IntKind.wrap .i64 (r40-r12)),.int .i64 (r41.n:Nat),.int .i64 (r42.n:Nat),.int .i64 r43] fun b44=>
 ld (.l (.int .i64)) (fa (⟨b1,0,none⟩) 1) fun(x45:Int)=>
 br (decide ((x45:Int)<0))
 (ret (.tuple #[.int .i64 0,.int .i64 1]))
 (ld (.l (.int .i64)) (fa (⟨b1,0,none⟩) 1) fun(x46:Int)=>
 br (decide ((x46:Int)≥(5:Nat)))
 (ret (.tuple #[.int .i64 0,.int .i64 1]))
 (ld (.l (.int .i64)) (fa (⟨b1,0,none⟩) 1) fun(x47:Int)=>
 ix (some ⟨b44,0,none⟩) 5 x47 1 fun a48=>
 ld (.l (.int .i64)) a48 fun(x49:Int)=>
 ret (.tuple #[.int .i64 x49,.int .i64 0])))
theorem F.rt.Runtime.count.calls(p0:Option Addr)(p1:LTs [.int .i64,.int .i64,.int .i64,.int .i64])(h:F.rt.Runtime.count p0 p1 Q w):Calls Tryz.prog 59 #[.pointer p0,.agg #[.int .i64 p1.1,.int .i64 p1.2.1,.int .i64 p1.2.2.1,.int .i64 p1.2.2.2.1]] w (aC Q):=
 Tryz.cd F.rt.Runtime.count.T Tryz.func59 (by kernel_rfl) (es:=[.va (.pointer p0),.va (.agg #[.int .i64 p1.1,.int .i64 p1.2.1,.int .i64 p1.2.2.1,.int .i64 p1.2.2.2.1])]) rfl (by kernel_rfl) h
def F.fair.round.finish.T:az:=⟨(fun
 |1=>[]
 |_=>[]),
 fun _=>none,
 fun _=> .quiet⟩
def F.fair.round.finish(p0:LTs [.ptr]):Tree:=
 nw 127 [.pointer p0.1] fun b1=>
 lp [] (fun X2 u3=> --
 ld (.l .ptr) (fa (⟨b1,0,none⟩) 0) fun(x4:Option Addr)=>
 nn x4 fun a5=>
 ld (.l .ptr) (fa a5 3) fun(x6:Option Addr)=>
 call Tryz.prog 29 [.pointer x6] (.one (.l .slice)) fun(r7:ay)=>
 br (decide (((r7.n:Nat):Int)>0))
 (ld (.l .ptr) (fa (⟨b1,0,none⟩) 0) fun(x8:Option Addr)=>
 nn x8 fun a9=>
 ld (.l .ptr) (fa a9 3) fun(x10:Option Addr)=>
 call Tryz.prog 97 [.pointer x10,.int .i64 0] (.many [.l (.int .i64),.l (.int .i64)]) fun(r11:KTs _)=>
 br ((r11.2.1:Int) != 0)
 (ret (.tuple #[]))
 (X2 (())))
 (ret (.tuple #[]))) (())
theorem F.fair.round.finish.calls(p0:LTs [.ptr])(h:F.fair.round.finish p0 Q w):Calls Tryz.prog 69 #[.agg #[.pointer p0.1]] w (aC Q):=
 Tryz.cd F.fair.round.finish.T Tryz.func69 (by kernel_rfl) (es:=[.va (.agg #[.pointer p0.1])]) rfl (by kernel_rfl) h
def F.fair.round.polled.T:az:=⟨(fun
 |2=>[(5,.slice)]
 |_=>[]),
 fun _=>none,
 fun _=> .quiet⟩
def F.fair.round.polled(p0:LTs [.ptr])(p1:Int):Tree:=
 nw 127 [.pointer p0.1] fun b1=>
 lp [.slice] (fun X2 u3=>
 ld (.l .ptr) (fa (⟨b1,0,none⟩) 0) fun(x4:Option Addr)=>
 nn x4 fun a5=>
 ld (.l .ptr) (fa a5 0) fun(x6:Option Addr)=>
 nn x6 fun a7=>
 ld (.l .ptr) (fa a7 0) fun(x8:Option Addr)=>
 call Tryz.prog 95 [.pointer x8,.int .i64 p1] (.many [.l (.int .i64),.l (.int .i64)]) fun(r9:KTs _)=>
 br ((r9.2.1:Int) != 0)
 (ret (.slice u3.1.a u3.1.n u3.1.c))
 (br ((r9.1:Int)==0)
 (ret (.slice u3.1.a u3.1.n u3.1.c))
 (ld (.l .ptr) (fa (⟨b1,0,none⟩) 0) fun(x10:Option Addr)=>
 nn x10 fun a11=>
 ld (.l .ptr) (fa a11 0) fun(x12:Option Addr)=>
 nn x12 fun a13=>
 ld (.l .ptr) (fa a13 0) fun(x14:Option Addr)=>
 nn x14 fun a15=>
 ld (.l .ptr) (fa a15 0) fun(x16:Option Addr)=>
 call Tryz.prog 62 [.pointer x16,.int .i64 r9.1,.int .i64 4] (.many [.l (.int .i64),.l (.int .i64)]) fun(r17:KTs _)=>
 nw 3 [.int .i64 r17.1] fun b18=>
 c9 Tryz.prog (Builtin.append_ #[46,46] 46 #[.slice u3.1.a u3.1.n u3.1.c,.slice (some ⟨b18,0,none⟩) 1 1]) (.one (.l .slice)) fun(r19:ay)=>
 X2 (⟨r19.a,r19.n,r19.c⟩,())))) (⟨none,0,0⟩,())
theorem F.fair.round.polled.calls(p0:LTs [.ptr])(p1:Int)(h:F.fair.round.polled p0 p1 Q w):Calls Tryz.prog 70 #[.agg #[.pointer p0.1],.int .i64 p1] w (aC Q):=
 Tryz.cd F.fair.round.polled.T Tryz.func70 (by kernel_rfl) (es:=[.va (.agg #[.pointer p0.1]),.va (.int .i64 p1)]) rfl (by kernel_rfl) h
def F.rt.Runtime.object(p0:Option Addr)(p1:LTs [.int .i64,.int .i64,.int .i64,.bool]):Tree:=
 nw 22 [.pointer p0] fun b1=>
 nw 103 [.int .i64 p1.1,.int .i64 p1.2.1,.int .i64 p1.2.2.1,.bool p1.2.2.2.1] fun b2=>
 ld (.l .ptr) (⟨b1,0,none⟩) fun(x3:Option Addr)=>
 call Tryz.prog 86 [.pointer x3,.func (.func 119) #[] #[.pointer (some (⟨b1,0,none⟩)),.pointer (some (⟨b2,0,none⟩))]] (.many [.l (.int .i64),.l (.int .i64)]) fun(r4:KTs _)=>
 ret (.tuple #[.int .i64 r4.1,.int .i64 r4.2.1])
theorem F.rt.Runtime.object.calls(p0:Option Addr)(p1:LTs [.int .i64,.int .i64,.int .i64,.bool])(h:F.rt.Runtime.object p0 p1 Q w):Calls Tryz.prog 76 #[.pointer p0,.agg #[.int .i64 p1.1,.int .i64 p1.2.1,.int .i64 p1.2.2.1,.bool p1.2.2.2.1]] w (aC Q):=
 Tryz.cd az.z Tryz.func76 (by kernel_rfl) (es:=[.va (.pointer p0),.va (.agg #[.int .i64 p1.1,.int .i64 p1.2.1,.int .i64 p1.2.2.1,.bool p1.2.2.2.1])]) rfl (by kernel_rfl) h
def F.rt.Runtime.rD(p0:LTs [.int .i64,.int .i64,.int .i64,.int .i64])(c0:Option Addr)(c1:Option Addr):Tree:=
 nw 43 [.int .i64 p0.1,.int .i64 p0.2.1,.int .i64 p0.2.2.1,.int .i64 p0.2.2.2.1] fun b1=>
 ld (.l (.int .i64)) (fa (⟨b1,0,none⟩) 1) fun(x2:Int)=>
 br (decide ((x2:Int)<0))
 (ret (.tuple #[.int .i64 0,.int .i64 1]))
 (ld (.l (.int .i64)) (fa (⟨b1,0,none⟩) 1) fun(x3:Int)=>
 br (decide ((x3:Int)>1023))
 (ret (.tuple #[.int .i64 0,.int .i64 1]))
 (nn c0 fun a4=>
 ld (.l .ptr) a4 fun(x5:Option Addr)=>
 nn c1 fun a6=>
 ld (.l (.int .i64)) a6 fun(x7:Int)=>
 ld (.l (.int .i64)) (fa (⟨b1,0,none⟩) 1) fun(x8:Int)=>
 call Tryz.prog 76 [.pointer x5,.agg #[.int .i64 x7,.int .i64 0,.int .i64 x8,.bool false]] (.many [.l (.int .i64),.l (.int .i64)]) fun(r9:KTs _)=>
 ret (.tuple #[.int .i64 r9.1,.int .i64 r9.2.1])))
theorem F.rt.Runtime.rD.calls(p0:LTs [.int .i64,.int .i64,.int .i64,.int .i64])(c0:Option Addr)(c1:Option Addr)(h:F.rt.Runtime.rD p0 c0 c1 Q w):Calls Tryz.prog 77 #[.agg #[.int .i64 p0.1,.int .i64 p0.2.1,.int .i64 p0.2.2.1,.int .i64 p0.2.2.2.1],.pointer c0,.pointer c1] w (aC Q):=
 Tryz.cd az.z Tryz.func77 (by kernel_rfl) (es:=[.va (.agg #[.int .i64 p0.1,.int .i64 p0.2.1,.int .i64 p0.2.2.1,.int .i64 p0.2.2.2.1]),.va (.pointer c0),.va (.pointer c1)]) rfl (by kernel_rfl) h
def F.rt.Runtime.held(p0:Option Addr)(p1:Int)(p2:Bool):Tree:=
 br p2
 (br ((p1:Int)==0)
 (ret (.tuple #[.int .i64 0,.int .i64 0]))
 (nn p0 fun a1=>
 ld (.l .ptr) (fa a1 0) fun(x2:Option Addr)=>
 nn x2 fun a3=>
 ld (.l .ptr) (fa a3 1) fun(x4:Option Addr)=>
 call Tryz.prog 121 [.pointer x4,.int .i64 p1] (.many [.l (.int .i64),.l (.int .i64)]) fun(r5:KTs _)=>
 ret (.tuple #[.int .i64 r5.1,.int .i64 r5.2.1])))
 (nn p0 fun a1=>
 ld (.l .ptr) (fa a1 0) fun(x2:Option Addr)=>
 nn x2 fun a3=>
 ld (.l .ptr) (fa a3 1) fun(x4:Option Addr)=>
 call Tryz.prog 121 [.pointer x4,.int .i64 p1] (.many [.l (.int .i64),.l (.int .i64)]) fun(r5:KTs _)=>
 ret (.tuple #[.int .i64 r5.1,.int .i64 r5.2.1]))
theorem F.rt.Runtime.held.calls(p0:Option Addr)(p1:Int)(p2:Bool)(h:F.rt.Runtime.held p0 p1 p2 Q w):Calls Tryz.prog 78 #[.pointer p0,.int .i64 p1,.bool p2] w (aC Q):=
 Tryz.cd az.z Tryz.func78 (by kernel_rfl) (es:=[.va (.pointer p0),.va (.int .i64 p1),.va (.bool p2)]) rfl (by kernel_rfl) h
def F.rt.Runtime.field(p0:Option Addr)(p1:Int)(p2:Int):Tree:=
 nn p0 fun a1=>
 ld (.l .ptr) (fa a1 0) fun(x2:Option Addr)=>
 nn x2 fun a3=>
 ld (.l .ptr) (fa a3 0) fun(x4:Option Addr)=>
 nn x4 fun a5=>
 ld (.l .ptr) (fa a5 0) fun(x6:Option Addr)=>
 nn x6 fun a7=>
 ld (.l .ptr) (fa a7 0) fun(x8:Option Addr)=>
 call Tryz.prog 61 [.pointer x8,.int .i64 p1] (.many [.g [.int .i64,.int .i64,.int .i64,.bool],.l (.int .i64)]) fun(r9:KTs _)=>
 nw 103 (zc Tryz.prog 103) fun b10=>
 st (⟨b10,0,none⟩) [.int .i64 r9.1.1,.int .i64 r9.1.2.1,.int .i64 r9.1.2.2.1,.bool r9.1.2.2.2.1]<|
 br ((r9.2.1:Int) != 0)
 (ret (.tuple #[.int .i64 0,.bool false,.int .i64 r9.2.1]))
 (ld (.l (.int .i64)) (fa (⟨b10,0,none⟩) 0) fun(x11:Int)=>
 br ((x11:Int)==4)
 (ret (.tuple #[.int .i64 0,.bool false,.int .i64 5]))
 (nn p0 fun a12=>
 ld (.l .ptr) (fa a12 0) fun(x13:Option Addr)=>
 nn x13 fun a14=>
 ld (.l .ptr) (fa a14 0) fun(x15:Option Addr)=>
 nn x15 fun a16=>
 ld (.l .ptr) (fa a16 0) fun(x17:Option Addr)=>
 nn x17 fun a18=>
 ld (.l .ptr) (fa a18 0) fun(x19:Option Addr)=>
 call Tryz.prog 62 [.pointer x19,.int .i64 p1,.int .i64 p2] (.many [.l (.int .i64),.l (.int .i64)]) fun(r20:KTs _)=>
 br ((r20.2.1:Int) != 0)
 (ret (.tuple #[.int .i64 0,.bool false,.int .i64 r20.2.1]))
 (nn p0 fun a21=>
 ld (.l .ptr) (fa a21 0) fun(x22:Option Addr)=>
 nn x22 fun a23=>
 ld (.l .ptr) (fa a23 0) fun(x24:Option Addr)=>
 nn x24 fun a25=>
 ld (.l .ptr) (fa a25 0) fun(x26:Option Addr)=>
 nn x26 fun a27=>
 ld (.l .ptr) (fa a27 0) fun(x28:Option Addr)=>
 call Tryz.prog 123 [.pointer x28,.int .i64 p1] (.one (.l .slice)) fun(r29:ay)=>
 call Tryz.prog 122 [.slice r29.a r29.n r29.c,.int .i64 p2] (.one (.l .bool)) fun(r30:Bool)=>
 ret (.tuple #[.int .i64 r20.1,.bool r30,.int .i64 0]))))
theorem F.rt.Runtime.field.calls(p0:Option Addr)(p1:Int)(p2:Int)(h:F.rt.Runtime.field p0 p1 p2 Q w):Calls Tryz.prog 79 #[.pointer p0,.int .i64 p1,.int .i64 p2] w (aC Q):=
 Tryz.cd az.z Tryz.func79 (by kernel_rfl) (es:=[.va (.pointer p0),.va (.int .i64 p1),.va (.int .i64 p2)]) rfl (by kernel_rfl) h
def F.rt.Runtime.given(p0:Option Addr)(p1:Int):Tree:=
 br ((p1:Int)==0)
 (ret (.tuple #[.int .i64 0,.int .i64 0]))
 (nn p0 fun a1=>
 ld (.l .ptr) (fa a1 0) fun(x2:Option Addr)=>
 nn x2 fun a3=>
 ld (.l .ptr) (fa a3 1) fun(x4:Option Addr)=>
 call Tryz.prog 90 [.pointer x4] (.one (.l (.int .i64))) fun(r5:Int)=>
 br ((r5:Int)==0)
 (ret (.tuple #[.int .i64 0,.int .i64 3]))
 (nn p0 fun a6=>
 ld (.l .ptr) (fa a6 0) fun(x7:Option Addr)=>
 nn x7 fun a8=>
 ld (.l .ptr) (fa a8 1) fun(x9:Option Addr)=>
 call Tryz.prog 124 [.pointer x9,.int .i64 p1] (.many [.l (.int .i64),.l (.int .i64)]) fun(r10:KTs _)=>
 ret (.tuple #[.int .i64 r10.1,.int .i64 r10.2.1])))
theorem F.rt.Runtime.given.calls(p0:Option Addr)(p1:Int)(h:F.rt.Runtime.given p0 p1 Q w):Calls Tryz.prog 80 #[.pointer p0,.int .i64 p1] w (aC Q):=
 Tryz.cd az.z Tryz.func80 (by kernel_rfl) (es:=[.va (.pointer p0),.va (.int .i64 p1)]) rfl (by kernel_rfl) h
def F.rt.Runtime.nB.T:az:=⟨fun _=>[],
 fun _=>none,
 (fun
 |3=> .held none (.go 0 false (.go 1 false (.go 2 false (.go 3 false (.go 4 false (.go 5 false (.go 6 false (.go 7 false (.go 8 false (.go 9 false (.go 10 false (.go 11 false (.go 12 false (.go 13 false (.go 14 false (.go 15 false (.go 16 false (.go 17 false (.go 18 false (.go 19 false .nil))))))))))))))))))))
 |_=> .quiet)⟩
def F.rt.Runtime.nB(p0:Option Addr)(p1:LTs [.int .i64,.int .i64,.int .i64,.int .i64]):Tree:=
 nw 43 [.int .i64 p1.1,.int .i64 p1.2.1,.int .i64 p1.2.2.1,.int .i64 p1.2.2.2.1] fun b1=>
 ld (.l (.int .i64)) (fa (⟨b1,0,none⟩) 1) fun(x2:Int)=>
 br (decide ((x2:Int)<1))
 (ret (.int .i64 1))
 (ld (.l (.int .i64)) (fa (⟨b1,0,none⟩) 1) fun(x3:Int)=>
 br (decide ((x3:Int)>3))
 (ret (.int .i64 1))
 (dI<|Gl.held fun S4=>
 bm S4 (.l (.int .i64)) (fa (⟨b1,0,none⟩) 3) fun(x5:Int)=>
 br (decide ((x5:Int)<(-1)))
 (ret (.int .i64 2))
 (bm S4 (.l (.int .i64)) (fa (⟨b1,0,none⟩) 3) fun(x6:Int)=>
 nn p0 fun a7=>
 bm S4 (.l .ptr) (fa a7 0) fun(x8:Option Addr)=>
 nn x8 fun a9=>
 bm S4 (.l .ptr) (fa a9 0) fun(x10:Option Addr)=>
 nn x10 fun a11=>
 bm S4 (.l .ptr) (fa a11 0) fun(x12:Option Addr)=>
 call Tryz.prog 65 [.pointer x12] (.one (.l (.int .i64))) fun(r13:Int)=>
 fX S4<|
 br (decide ((x6:Int)≥r13))
 (ret (.int .i64 2))
 (ld (.l (.int .i64)) (fa (⟨b1,0,none⟩) 1) fun(x14:Int)=>
 br ((x14:Int)==3)
 (ld (.l (.int .i64)) (fa (⟨b1,0,none⟩) 3) fun(x15:Int)=>
 br (decide ((x15:Int)<0))
 (ret (.int .i64 1))
 (ret (.int .i64 0)))
 (ret (.int .i64 0))))))
theorem F.rt.Runtime.nB.calls(p0:Option Addr)(p1:LTs [.int .i64,.int .i64,.int .i64,.int .i64])(h:F.rt.Runtime.nB p0 p1 Q w):Calls Tryz.prog 85 #[.pointer p0,.agg #[.int .i64 p1.1,.int .i64 p1.2.1,.int .i64 p1.2.2.1,.int .i64 p1.2.2.2.1]] w (aC Q):=
 Tryz.cd F.rt.Runtime.nB.T Tryz.func85 (by kernel_rfl) (es:=[.va (.pointer p0),.va (.agg #[.int .i64 p1.1,.int .i64 p1.2.1,.int .i64 p1.2.2.1,.int .i64 p1.2.2.2.1])]) rfl (by kernel_rfl) h
def F.rt.Runtime.made.T:az:=⟨(fun
 |5=>[(6,.int .i64),(7,.int .i64),(26,.int .i64)]
 |_=>[]),
 fun _=>none,
 fun _=> .quiet⟩
def F.rt.Runtime.made(p0:Option Addr)(p1:Value):Tree:=
 nn p0 fun a1=>
 ld (.l .ptr) (fa a1 0) fun(x2:Option Addr)=>
 nn x2 fun a3=>
 ld (.l .ptr) (fa a3 1) fun(x4:Option Addr)=>
 call Tryz.prog 90 [.pointer x4] (.one (.l (.int .i64))) fun(r5:Int)=>
 br ((r5:Int)==0)
 (ret (.tuple #[.int .i64 0,.int .i64 3]))
 (gJ Tryz.prog p1 [] (.many [.l (.int .i64),.l (.int .i64)]) fun(r6:KTs _)=>
 nw 4 [.bool false,.bool true] fun b7=>
 lp [.int .i64,.int .i64,.int .i64] (fun X8 u9=>
 br (decide ((u9.2.2.1:Int)<(2:Nat)))
 (ix (some ⟨b7,0,none⟩) 2 u9.2.2.1 1 fun a10=>
 ld (.l .bool) a10 fun(x11:Bool)=>
 br ((u9.2.1:Int) != 3)
 (br ((u9.2.1:Int) != 0)
 (ret (.tuple #[.int .i64 0,.int .i64 u9.2.1]))
 (call Tryz.prog 80 [.pointer p0,.int .i64 u9.1] (.many [.l (.int .i64),.l (.int .i64)]) fun(r12:KTs _)=>
 ret (.tuple #[.int .i64 r12.1,.int .i64 r12.2.1])))
 (nn p0 fun a12=>
 ld (.l .ptr) (fa a12 0) fun(x13:Option Addr)=>
 call Tryz.prog 68 [.pointer x13,.bool x11] (.many [.g [.slice,.slice,.slice,.slice],.l (.int .i64)]) fun(r14:KTs _)=>
 gJ Tryz.prog p1 [] (.many [.l (.int .i64),.l (.int .i64)]) fun(r15:KTs _)=>
 X8 (r15.1,r15.2.1,IntKind.wrap .i64 (u9.2.2.1+1),())))
 (br ((u9.2.1:Int) != 0)
 (ret (.tuple #[.int .i64 0,.int .i64 u9.2.1]))
 (call Tryz.prog 80 [.pointer p0,.int .i64 u9.1] (.many [.l (.int .i64),.l (.int .i64)]) fun(r10:KTs _)=>
 ret (.tuple #[.int .i64 r10.1,.int .i64 r10.2.1])))) (r6.1,r6.2.1,0,()))
theorem F.rt.Runtime.made.calls(p0:Option Addr)(p1:Value)(h:F.rt.Runtime.made p0 p1 Q w):Calls Tryz.prog 86 #[.pointer p0,p1] w (aC Q):=
 Tryz.cd F.rt.Runtime.made.T Tryz.func86 (by kernel_rfl) (es:=[.va (.pointer p0),.op p1]) rfl (by kernel_rfl) h
def F.rt.Runtime.kQ.T:az:=⟨fun _=>[],
 fun _=>none,
 (fun
 |1=> .held (some 17) (.go 0 false (.go 1 false (.go 2 false (.go 3 false (.go 4 false (.go 5 false (.go 6 false (.go 7 false (.go 8 false (.go 9 false (.go 10 false (.go 11 false (.go 12 false (.go 13 false (.go 14 false (.go 15 false (.go 16 false (.go 17 true (.go 18 false (.go 19 false (.go 20 false (.go 21 false .nil))))))))))))))))))))))
 |_=> .quiet)⟩
def F.rt.Runtime.kQ(c0:Addr)(c1:Addr)(c2:Addr):Tree:=
 dI<|Gl.held fun S1=>
 bm S1 (.l .ptr) c0 fun(x2:Option Addr)=>
 nn x2 fun a3=>
 bm S1 (.l .ptr) (fa a3 0) fun(x4:Option Addr)=>
 nn x4 fun a5=>
 bm S1 (.l .ptr) (fa a5 0) fun(x6:Option Addr)=>
 bm S1 (.l (.int .i64)) (fa c1 1) fun(x7:Int)=>
 bm S1 (.l (.int .i64)) c2 fun(x8:Int)=>
 bm S1 (.l (.int .i64)) (fa c1 3) fun(x9:Int)=>
 bm S1 (.l .ptr) c0 fun(x10:Option Addr)=>
 nn x10 fun a11=>
 bm S1 (.l .ptr) (fa a11 0) fun(x12:Option Addr)=>
 call Tryz.prog 89 [.pointer x12] (.one (.l (.int .i64))) fun(r13:Int)=>
 fX S1<|
 call Tryz.prog 88 [.pointer x6,.int .i64 x7,.int .i64 x8,.int .i64 x9,.int .i64 r13] (.many [.l (.int .i64),.l (.int .i64)]) fun(r14:KTs _)=>
 ret (.tuple #[.int .i64 r14.1,.int .i64 r14.2.1])
theorem F.rt.Runtime.kQ.calls(c0:Addr)(c1:Addr)(c2:Addr)(h:F.rt.Runtime.kQ c0 c1 c2 Q w):Calls Tryz.prog 87 #[.pointer (some c0),.pointer (some c1),.pointer (some c2)] w (aC Q):=
 Tryz.cd F.rt.Runtime.kQ.T Tryz.func87 (by kernel_rfl) (es:=[.pa c0,.pa c1,.pa c2]) rfl (by kernel_rfl) h
def F.rt.Runtime.iQ.T:az:=⟨fun _=>[],
 fun _=>none,
 (fun
 |1=> .held (some 14) (.go 0 false (.go 1 false (.go 2 false (.go 3 false (.go 4 false (.go 5 false (.go 6 false (.go 7 false (.go 8 false (.go 9 false (.go 10 false (.go 11 false (.go 12 false (.go 13 false (.go 14 true (.go 15 false (.go 16 false (.go 17 false (.go 18 false .nil)))))))))))))))))))
 |_=> .quiet)⟩
def F.rt.Runtime.iQ(c0:Option Addr)(c1:Option Addr):Tree:=
 dI<|Gl.held fun S1=>
 nn c0 fun a2=>
 bm S1 (.l .ptr) a2 fun(x3:Option Addr)=>
 nn x3 fun a4=>
 bm S1 (.l .ptr) (fa a4 0) fun(x5:Option Addr)=>
 nn x5 fun a6=>
 bm S1 (.l .ptr) (fa a6 0) fun(x7:Option Addr)=>
 nn x7 fun a8=>
 bm S1 (.l .ptr) (fa a8 0) fun(x9:Option Addr)=>
 nn x9 fun a10=>
 bm S1 (.l .ptr) (fa a10 0) fun(x11:Option Addr)=>
 nn c1 fun a12=>
 bm S1 (.g [.int .i64,.int .i64,.int .i64,.bool]) a12 fun(x13:LTs _)=>
 call Tryz.prog 120 [.pointer x11,.agg #[.int .i64 x13.1,.int .i64 x13.2.1,.int .i64 x13.2.2.1,.bool x13.2.2.2.1]] (.many [.l (.int .i64),.l (.int .i64)]) fun(r14:KTs _)=>
 ret (.tuple #[.int .i64 r14.1,.int .i64 r14.2.1])
theorem F.rt.Runtime.iQ.calls(c0:Option Addr)(c1:Option Addr)(h:F.rt.Runtime.iQ c0 c1 Q w):Calls Tryz.prog 119 #[.pointer c0,.pointer c1] w (aC Q):=
 Tryz.cd F.rt.Runtime.iQ.T Tryz.func119 (by kernel_rfl) (es:=[.va (.pointer c0),.va (.pointer c1)]) rfl (by kernel_rfl) h
end Go.Proofs.YtfepdmpplahloaaGreat
