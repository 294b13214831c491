import Derived.Test.YtfepdmpplahloaaGreatGsT
namespace Go.Proofs.YtfepdmpplahloaaGreat
open Go Go.Gl
set_option maxRecDepth 100000
set_option linter.unusedVariables false
variable{Q:Value→World→Prop}{w:World}
def F.proc.Process.T:az:=⟨fun _=>[],
 fun _=>none,
 (fun
 |4=> .held (some 6) (.go 0 false (.go 1 false (.go 2 false (.go 3 false (.go 4 false (.go 5 false (.go 6 true (.go 7 false .nil))))))))
 |5=> .tail 6
 |10=> .held (some 5) (.go 0 false (.go 1 false (.go 2 false (.go 3 false (.go 4 false (.go 5 true (.go 6 false (.go 7 false .nil))))))))
 |_=> .quiet)⟩
def F.proc.Process(p0:Option Addr)(p1:LTs [.slice,.slice,.int .i64,.int .i64,.int .i64,.bool,.int .i64]):Tree:=
 nw 180 [.slice p1.1.a p1.1.n p1.1.c,.slice p1.2.1.a p1.2.1.n p1.2.1.c,.int .i64 p1.2.2.1,.int .i64 p1.2.2.2.1,.int .i64 p1.2.2.2.2.1,.bool p1.2.2.2.2.2.1,.int .i64 p1.2.2.2.2.2.2.1] fun b1=>
 nw 129 (zc Tryz.prog 129) fun b2=>
 ld (.l (.int .i64)) (fa (⟨b1,0,none⟩) 6) fun(x3:Int)=>
 call Tryz.prog 141 [.pointer p0,.int .i64 x3] (.many [.l .ptr,.l (.int .i64)]) fun(r4:KTs _)=>
 br ((r4.2.1:Int) != 0)
 (st (⟨b2,0,none⟩) [.slice none 0 0,.slice none 0 0,.slice none 0 0,.slice none 0 0]<|
 ld (.g [.slice,.slice,.slice,.slice]) (⟨b2,0,none⟩) fun(x5:LTs _)=>
 ret (.tuple #[.agg #[.slice x5.1.a x5.1.n x5.1.c,.slice x5.2.1.a x5.2.1.n x5.2.1.c,.slice x5.2.2.1.a x5.2.2.1.n x5.2.2.1.c,.slice x5.2.2.2.1.a x5.2.2.2.1.n x5.2.2.2.1.c],.int .i64 r4.2.1]))
 (dI<|Gl.held fun S5=>
 bm S5 (.g [.slice,.slice,.int .i64,.int .i64,.int .i64,.bool,.int .i64]) (⟨b1,0,none⟩) fun(x6:LTs _)=>
 call Tryz.prog 142 [.pointer p0] (.one (.l .slice)) fun(r7:ay)=>
 fX S5<|
 nw 218 [.pointer r4.1,.pointer p0,.slice x6.1.a x6.1.n x6.1.c,.slice x6.2.1.a x6.2.1.n x6.2.1.c,.int .i64 x6.2.2.1,.int .i64 x6.2.2.2.1,.int .i64 x6.2.2.2.2.1,.bool x6.2.2.2.2.2.1,.int .i64 x6.2.2.2.2.2.2.1,.slice r7.a r7.n r7.c] fun b8=>
 dI<|
 ld (.l .ptr) (fa (⟨b8,0,none⟩) 0) fun(x9:Option Addr)=>
 ld (.l .slice) (fa (⟨b1,0,none⟩) 0) fun(x10:ay)=>
 call Tryz.prog 143 [.pointer x9,.slice x10.a x10.n x10.c] (.many []) fun(r11:KTs _)=>
 call Tryz.prog 144 [.agg #[.pointer (some (⟨b8,0,none⟩))]] (.many []) fun(r12:KTs _)=>
 nw 129 (zc Tryz.prog 129) fun b13=>
 nw 3 [.int .i64 1,.int .i64 2] fun b14=>
 call Tryz.prog 145 [.pointer (some (⟨b8,0,none⟩)),.slice (some ⟨b14,0,none⟩) 2 2] (.one (.l .slice)) fun(r15:ay)=>
 st (fa (⟨b13,0,none⟩) 0) [.slice r15.a r15.n r15.c]<|
 call Tryz.prog 146 [.agg #[.pointer (some (⟨b8,0,none⟩))]] (.one (.l .slice)) fun(r16:ay)=>
 st (fa (⟨b13,0,none⟩) 2) [.slice r16.a r16.n r16.c]<|
 dI<|Gl.held fun S17=>
 bm S17 (.l .slice) (fa (⟨b13,0,none⟩) 0) fun(x18:ay)=>
 nw 3 [.int .i64 3] fun b19=>
 fX S17<|
 call Tryz.prog 145 [.pointer (some (⟨b8,0,none⟩)),.slice (some ⟨b19,0,none⟩) 1 1] (.one (.l .slice)) fun(r20:ay)=>
 fX S17<|
 c9 Tryz.prog (Builtin.append_ #[46,46] 46 #[.slice x18.a x18.n x18.c,.slice r20.a r20.n r20.c]) (.one (.l .slice)) fun(r21:ay)=>
 st (fa (⟨b13,0,none⟩) 0) [.slice r21.a r21.n r21.c]<|
 ld (.l .slice) (fa (⟨b13,0,none⟩) 0) fun(x22:ay)=>
 call Tryz.prog 147 [.pointer (some (⟨b8,0,none⟩)),.slice x22.a x22.n x22.c] (.one (.l .slice)) fun(r23:ay)=>
 st (fa (⟨b13,0,none⟩) 1) [.slice r23.a r23.n r23.c]<|
 ld (.l .ptr) (fa (⟨b8,0,none⟩) 0) fun(x24:Option Addr)=>
 call Tryz.prog 148 [.pointer x24] (.one (.l .slice)) fun(r25:ay)=>
 st (fa (⟨b13,0,none⟩) 3) [.slice r25.a r25.n r25.c]<|
 ld (.g [.slice,.slice,.slice,.slice]) (⟨b13,0,none⟩) fun(x26:LTs _)=>
 st (⟨b2,0,none⟩) [.slice x26.1.a x26.1.n x26.1.c,.slice x26.2.1.a x26.2.1.n x26.2.1.c,.slice x26.2.2.1.a x26.2.2.1.n x26.2.2.1.c,.slice x26.2.2.2.1.a x26.2.2.2.1.n x26.2.2.2.1.c]<|
 ld (.g [.slice,.slice,.slice,.slice]) (⟨b2,0,none⟩) fun(x27:LTs _)=>
 ret (.tuple #[.agg #[.slice x27.1.a x27.1.n x27.1.c,.slice x27.2.1.a x27.2.1.n x27.2.1.c,.slice x27.2.2.1.a x27.2.2.1.n x27.2.2.1.c,.slice x27.2.2.2.1.a x27.2.2.2.1.n x27.2.2.2.1.c],.int .i64 0]))
theorem F.proc.Process.calls(p0:Option Addr)(p1:LTs [.slice,.slice,.int .i64,.int .i64,.int .i64,.bool,.int .i64])(h:F.proc.Process p0 p1 Q w):Calls Tryz.prog 110 #[.pointer p0,.agg #[.slice p1.1.a p1.1.n p1.1.c,.slice p1.2.1.a p1.2.1.n p1.2.1.c,.int .i64 p1.2.2.1,.int .i64 p1.2.2.2.1,.int .i64 p1.2.2.2.2.1,.bool p1.2.2.2.2.2.1,.int .i64 p1.2.2.2.2.2.2.1]] w (aC Q):=
 Tryz.cd F.proc.Process.T Tryz.func110 (by kernel_rfl) (es:=[.va (.pointer p0),.va (.agg #[.slice p1.1.a p1.1.n p1.1.c,.slice p1.2.1.a p1.2.1.n p1.2.1.c,.int .i64 p1.2.2.1,.int .i64 p1.2.2.2.1,.int .i64 p1.2.2.2.2.1,.bool p1.2.2.2.2.2.1,.int .i64 p1.2.2.2.2.2.2.1])]) rfl (by kernel_rfl) h
def F.soft.rp.T:az:=⟨(fun
 |3=>[(0,.int .i64),(11,.int .i64)]
 |_=>[]),
 fun _=>none,
 fun _=> .quiet⟩
def F.soft.rp(p0:Int)(p1:ay):Tree:=
 call Tryz.prog 159 [.int .i64 p0] (.one (.l (.int .i64))) fun(r1:Int)=>
 lp [.int .i64,.int .i64] (fun X2 u3=>
 br (decide ((u3.2.1:Int)<(p1.n:Nat)))
 (ix p1.a p1.n u3.2.1 1 fun a4=>
 ld (.l (.int .i64)) a4 fun(x5:Int)=>
 call Tryz.prog 159 [.int .i64 x5] (.one (.l (.int .i64))) fun(r6:Int)=>
 X2 (IntKind.wrap .i64 (u3.1+(if(IntKind.wrap .i64 (9223372036854775807-u3.1):Int)<r6 then(IntKind.wrap .i64 (9223372036854775807-u3.1):Int)else r6)),IntKind.wrap .i64 (u3.2.1+1),()))
 (ret (.int .i64 u3.1))) (r1,0,())
theorem F.soft.rp.calls(p0:Int)(p1:ay)(h:F.soft.rp p0 p1 Q w):Calls Tryz.prog 134 #[.int .i64 p0,.slice p1.a p1.n p1.c] w (aC Q):=
 Tryz.cd F.soft.rp.T Tryz.func134 (by kernel_rfl) (es:=[.va (.int .i64 p0),.va (.slice p1.a p1.n p1.c)]) rfl (by kernel_rfl) h
def F.proc.refs.T:az:=⟨(fun
 |3=>[(3,.slice),(10,.int .i64)]
 |_=>[]),
 fun _=>none,
 (fun
 |7=> .held (some 19) (.go 0 false (.go 1 false (.go 2 false (.go 3 false (.go 4 false (.go 5 false (.go 6 false (.go 7 false (.go 8 false (.go 9 false (.go 10 false (.go 11 false (.go 12 false (.go 13 false (.go 14 false (.go 15 false (.go 16 false (.go 17 false (.go 18 false (.go 19 true (.go 20 false (.go 21 false .nil))))))))))))))))))))))
 |_=> .quiet)⟩
def F.proc.refs(p0:Option Addr):Tree:=
 call Tryz.prog 24 [.pointer p0] (.one (.l .slice)) fun(r1:ay)=>
 lp [.slice,.int .i64] (fun X2 u3=>
 br (decide ((u3.2.1:Int)<(r1.n:Nat)))
 (ix r1.a r1.n u3.2.1 6 fun a4=>
 ld (.g [.int .i64,.int .i64,.int .i64,.int .i64,.bool,.slice]) a4 fun(x5:LTs _)=>
 nw 105 (zc Tryz.prog 105) fun b6=>
 st (⟨b6,0,none⟩) [.int .i64 x5.1,.int .i64 x5.2.1,.int .i64 x5.2.2.1,.int .i64 x5.2.2.2.1,.bool x5.2.2.2.2.1,.slice x5.2.2.2.2.2.1.a x5.2.2.2.2.2.1.n x5.2.2.2.2.2.1.c]<|
 ld (.l (.int .i64)) (fa (fa (⟨b6,0,none⟩) 1) 0) fun(x7:Int)=>
 br ((x7:Int)==4)
 (ld (.l .slice) (fa (⟨b6,0,none⟩) 5) fun(x8:ay)=>
 dI<|Gl.held fun S9=>
 bm S9 (.l (.int .i64)) (fa (⟨b6,0,none⟩) 0) fun(x10:Int)=>
 bm S9 (.l (.int .i64)) (fa (fa (⟨b6,0,none⟩) 1) 1) fun(x11:Int)=>
 ix x8.a x8.n 0 1 fun a12=>
 bm S9 (.l (.int .i64)) a12 fun(x13:Int)=>
 ix x8.a x8.n 1 1 fun a14=>
 bm S9 (.l (.int .i64)) a14 fun(x15:Int)=>
 ix x8.a x8.n 3 1 fun a16=>
 bm S9 (.l (.int .i64)) a16 fun(x17:Int)=>
 ix x8.a x8.n 4 1 fun a18=>
 bm S9 (.l (.int .i64)) a18 fun(x19:Int)=>
 nw 250 [.int .i64 x10,.int .i64 x11,.int .i64 x13,.int .i64 x15,.int .i64 x17,.int .i64 x19] fun b20=>
 c9 Tryz.prog (Builtin.append_ #[215,215] 215 #[.slice u3.1.a u3.1.n u3.1.c,.slice (some ⟨b20,0,none⟩) 1 1]) (.one (.l .slice)) fun(r21:ay)=>
 X2 (⟨r21.a,r21.n,r21.c⟩,IntKind.wrap .i64 (u3.2.1+1),()))
 (X2 (⟨u3.1.a,u3.1.n,u3.1.c⟩,IntKind.wrap .i64 (u3.2.1+1),())))
 (call Tryz.prog 172 [.slice u3.1.a u3.1.n u3.1.c,.func (.func 173) #[] #[]] (.many []) fun(r4:KTs _)=>
 ret (.slice u3.1.a u3.1.n u3.1.c))) (⟨none,0,0⟩,0,())
theorem F.proc.refs.calls(p0:Option Addr)(h:F.proc.refs p0 Q w):Calls Tryz.prog 142 #[.pointer p0] w (aC Q):=
 Tryz.cd F.proc.refs.T Tryz.func142 (by kernel_rfl) (es:=[.va (.pointer p0)]) rfl (by kernel_rfl) h
def F.proc.fq.run.T:az:=⟨(fun
 |1=>[]
 |_=>[]),
 fun _=>none,
 (fun
 |1=> .tail 7
 |3=> .held (some 15) (.go 0 false (.go 1 false (.go 2 false (.go 3 false (.go 4 false (.go 5 false (.go 6 false (.go 7 false (.go 8 false (.go 9 false (.go 10 false (.go 11 false (.go 12 false (.go 13 false (.go 14 false (.go 15 true .nil))))))))))))))))
 |_=> .quiet)⟩
def F.proc.fq.run(p0:LTs [.ptr]):Tree:=
 nw 220 [.pointer p0.1] fun b1=>
 lp [] (fun X2 u3=> --
 dI<|
 ld (.l .ptr) (fa (⟨b1,0,none⟩) 0) fun(x4:Option Addr)=>
 nn x4 fun a5=>
 ld (.l .slice) (fa a5 9) fun(x6:ay)=>
 ld (.g [.ptr]) (⟨b1,0,none⟩) fun(x7:LTs _)=>
 call Tryz.prog 180 [.slice x6.a x6.n x6.c,.func (.func 181) #[.agg #[.pointer x7.1]] #[]] (.one (.l (.int .i64))) fun(r8:Int)=>
 br (decide ((r8:Int)<0))
 (ret (.tuple #[]))
 (dI<|Gl.held fun S9=>
 bm S9 (.l .ptr) (fa (⟨b1,0,none⟩) 0) fun(x10:Option Addr)=>
 nn x10 fun a11=>
 bm S9 (.l .ptr) (fa a11 0) fun(x12:Option Addr)=>
 bm S9 (.l .ptr) (fa (⟨b1,0,none⟩) 0) fun(x13:Option Addr)=>
 nn x13 fun a14=>
 bm S9 (.l .slice) (fa a14 9) fun(x15:ay)=>
 ix x15.a x15.n r8 6 fun a16=>
 bm S9 (.l (.int .i64)) (fa a16 2) fun(x17:Int)=>
 nw 3 [.int .i64 x17] fun b18=>
 fX S9<|
 call Tryz.prog 143 [.pointer x12,.slice (some ⟨b18,0,none⟩) 1 1] (.many []) fun(r19:KTs _)=>
 X2 (()))) (())
theorem F.proc.fq.run.calls(p0:LTs [.ptr])(h:F.proc.fq.run p0 Q w):Calls Tryz.prog 144 #[.agg #[.pointer p0.1]] w (aC Q):=
 Tryz.cd F.proc.fq.run.T Tryz.func144 (by kernel_rfl) (es:=[.va (.agg #[.pointer p0.1])]) rfl (by kernel_rfl) h
def F.proc.common.hP.T:az:=⟨(fun
 |3=>[(5,.slice),(13,.int .i64)]
 |_=>[]),
 fun _=>none,
 fun _=> .quiet⟩
def F.proc.common.hP(p0:Option Addr)(p1:ay):Tree:=
 nn p0 fun a1=>
 ld (.l .slice) (fa a1 9) fun(x2:ay)=>
 lp [.slice,.int .i64] (fun X3 u4=>
 br (decide ((u4.2.1:Int)<(x2.n:Nat)))
 (ix x2.a x2.n u4.2.1 6 fun a5=>
 ld (.g [.int .i64,.int .i64,.int .i64,.int .i64,.int .i64,.int .i64]) a5 fun(x6:LTs _)=>
 nw 250 (zc Tryz.prog 250) fun b7=>
 st (⟨b7,0,none⟩) [.int .i64 x6.1,.int .i64 x6.2.1,.int .i64 x6.2.2.1,.int .i64 x6.2.2.2.1,.int .i64 x6.2.2.2.2.1,.int .i64 x6.2.2.2.2.2.1]<|
 ld (.l (.int .i64)) (fa (⟨b7,0,none⟩) 1) fun(x8:Int)=>
 call Tryz.prog 122 [.slice p1.a p1.n p1.c,.int .i64 x8] (.one (.l .bool)) fun(r9:Bool)=>
 br r9
 (ld (.g [.int .i64,.int .i64,.int .i64,.int .i64,.int .i64,.int .i64]) (⟨b7,0,none⟩) fun(x10:LTs _)=>
 call Tryz.prog 182 [.pointer p0,.agg #[.int .i64 x10.1,.int .i64 x10.2.1,.int .i64 x10.2.2.1,.int .i64 x10.2.2.2.1,.int .i64 x10.2.2.2.2.1,.int .i64 x10.2.2.2.2.2.1]] (.one (.l .bool)) fun(r11:Bool)=>
 br r11
 (ld (.l (.int .i64)) (fa (⟨b7,0,none⟩) 0) fun(x12:Int)=>
 nw 3 [.int .i64 x12] fun b13=>
 c9 Tryz.prog (Builtin.append_ #[46,46] 46 #[.slice u4.1.a u4.1.n u4.1.c,.slice (some ⟨b13,0,none⟩) 1 1]) (.one (.l .slice)) fun(r14:ay)=>
 X3 (⟨r14.a,r14.n,r14.c⟩,IntKind.wrap .i64 (u4.2.1+1),()))
 (X3 (⟨u4.1.a,u4.1.n,u4.1.c⟩,IntKind.wrap .i64 (u4.2.1+1),())))
 (X3 (⟨u4.1.a,u4.1.n,u4.1.c⟩,IntKind.wrap .i64 (u4.2.1+1),())))
 (ret (.slice u4.1.a u4.1.n u4.1.c))) (⟨none,0,0⟩,0,())
theorem F.proc.common.hP.calls(p0:Option Addr)(p1:ay)(h:F.proc.common.hP p0 p1 Q w):Calls Tryz.prog 145 #[.pointer p0,.slice p1.a p1.n p1.c] w (aC Q):=
 Tryz.cd F.proc.common.hP.T Tryz.func145 (by kernel_rfl) (es:=[.va (.pointer p0),.va (.slice p1.a p1.n p1.c)]) rfl (by kernel_rfl) h
def F.proc.nx.run.T:az:=⟨(fun
 |3=>[(3,.slice),(13,.int .i64)]
 |_=>[]),
 fun _=>none,
 fun _=> .quiet⟩
def F.proc.nx.run(p0:LTs [.ptr]):Tree:=
 nw 222 [.pointer p0.1] fun b1=>
 ld (.l .ptr) (fa (⟨b1,0,none⟩) 0) fun(x2:Option Addr)=>
 nn x2 fun a3=>
 ld (.l .slice) (fa (fa a3 2) 1) fun(x4:ay)=>
 lp [.slice,.int .i64] (fun X5 u6=>
 br (decide ((u6.2.1:Int)<(x4.n:Nat)))
 (ix x4.a x4.n u6.2.1 1 fun a7=>
 ld (.l (.int .i64)) a7 fun(x8:Int)=>
 ld (.l .ptr) (fa (⟨b1,0,none⟩) 0) fun(x9:Option Addr)=>
 call Tryz.prog 182 [.pointer x9,.agg #[.int .i64 0,.int .i64 0,.int .i64 x8,.int .i64 0,.int .i64 0,.int .i64 0]] (.one (.l .bool)) fun(r10:Bool)=>
 br r10
 (call Tryz.prog 122 [.slice u6.1.a u6.1.n u6.1.c,.int .i64 x8] (.one (.l .bool)) fun(r11:Bool)=>
 br (!r11)
 (nw 3 [.int .i64 x8] fun b12=>
 c9 Tryz.prog (Builtin.append_ #[46,46] 46 #[.slice u6.1.a u6.1.n u6.1.c,.slice (some ⟨b12,0,none⟩) 1 1]) (.one (.l .slice)) fun(r13:ay)=>
 X5 (⟨r13.a,r13.n,r13.c⟩,IntKind.wrap .i64 (u6.2.1+1),()))
 (X5 (⟨u6.1.a,u6.1.n,u6.1.c⟩,IntKind.wrap .i64 (u6.2.1+1),())))
 (X5 (⟨u6.1.a,u6.1.n,u6.1.c⟩,IntKind.wrap .i64 (u6.2.1+1),())))
 (ld (.l .ptr) (fa (⟨b1,0,none⟩) 0) fun(x7:Option Addr)=>
 nn x7 fun a8=>
 ld (.l .ptr) (fa a8 0) fun(x9:Option Addr)=>
 call Tryz.prog 143 [.pointer x9,.slice u6.1.a u6.1.n u6.1.c] (.many []) fun(r10:KTs _)=>
 ret (.slice u6.1.a u6.1.n u6.1.c))) (⟨none,0,0⟩,0,())
theorem F.proc.nx.run.calls(p0:LTs [.ptr])(h:F.proc.nx.run p0 Q w):Calls Tryz.prog 146 #[.agg #[.pointer p0.1]] w (aC Q):=
 Tryz.cd F.proc.nx.run.T Tryz.func146 (by kernel_rfl) (es:=[.va (.agg #[.pointer p0.1])]) rfl (by kernel_rfl) h
def F.proc.common.put.T:az:=⟨(fun
 |3=>[(5,.slice),(11,.int .i64)]
 |_=>[]),
 fun _=>none,
 (fun
 |6=> .held none (.go 0 false (.go 1 false (.go 2 false (.go 3 false (.go 4 false (.go 5 false (.cut (.go 6 false (.go 7 false (.go 8 false (.go 9 false (.go 10 false (.go 11 false (.go 12 false (.go 13 false (.go 14 false (.go 15 false (.go 16 false .nil))))))))))))))))))
 |_=> .quiet)⟩
def F.proc.common.put(p0:Option Addr)(p1:ay):Tree:=
 lp [.slice,.int .i64] (fun X1 u2=>
 br (decide ((u2.2.1:Int)<(p1.n:Nat)))
 (ix p1.a p1.n u2.2.1 1 fun a3=>
 ld (.l (.int .i64)) a3 fun(x4:Int)=>
 nw 3 (zc Tryz.prog 3) fun b5=>
 st (⟨b5,0,none⟩) [.int .i64 x4]<|
 nn p0 fun a6=>
 ld (.l .slice) (fa a6 9) fun(x7:ay)=>
 call Tryz.prog 180 [.slice x7.a x7.n x7.c,.func (.func 183) #[] #[.pointer (some (⟨b5,0,none⟩))]] (.one (.l (.int .i64))) fun(r8:Int)=>
 dI<|Gl.held fun S9=>
 nn p0 fun a10=>
 bm S9 (.l .ptr) (fa a10 0) fun(x11:Option Addr)=>
 bm S9 (.l (.int .i64)) (⟨b5,0,none⟩) fun(x12:Int)=>
 call Tryz.prog 184 [.pointer x11,.int .i64 x12] (.one (.l .bool)) fun(r13:Bool)=>
 fX S9<|
 narrow S9 fun S14=>
 br r13
 (nn p0 fun a15=>
 bm S14 (.l .slice) (fa a15 9) fun(x16:ay)=>
 ix x16.a x16.n r8 6 fun a17=>
 bm S14 (.l (.int .i64)) (fa a17 3) fun(x18:Int)=>
 br (decide ((x18:Int)>0))
 (ld (.l (.int .i64)) (⟨b5,0,none⟩) fun(x19:Int)=>
 nw 3 [.int .i64 x19] fun b20=>
 c9 Tryz.prog (Builtin.append_ #[46,46] 46 #[.slice u2.1.a u2.1.n u2.1.c,.slice (some ⟨b20,0,none⟩) 1 1]) (.one (.l .slice)) fun(r21:ay)=>
 X1 (⟨r21.a,r21.n,r21.c⟩,IntKind.wrap .i64 (u2.2.1+1),()))
 (X1 (⟨u2.1.a,u2.1.n,u2.1.c⟩,IntKind.wrap .i64 (u2.2.1+1),())))
 (X1 (⟨u2.1.a,u2.1.n,u2.1.c⟩,IntKind.wrap .i64 (u2.2.1+1),())))
 (ret (.slice u2.1.a u2.1.n u2.1.c))) (⟨none,0,0⟩,0,())
theorem F.proc.common.put.calls(p0:Option Addr)(p1:ay)(h:F.proc.common.put p0 p1 Q w):Calls Tryz.prog 147 #[.pointer p0,.slice p1.a p1.n p1.c] w (aC Q):=
 Tryz.cd F.proc.common.put.T Tryz.func147 (by kernel_rfl) (es:=[.va (.pointer p0),.va (.slice p1.a p1.n p1.c)]) rfl (by kernel_rfl) h
def F.soft.none(p0:Int):Tree:=
 ret (.int .i64 (if(p0:Int)>0 then(p0:Int)else 0))
theorem F.soft.none.calls(p0:Int)(h:F.soft.none p0 Q w):Calls Tryz.prog 159 #[.int .i64 p0] w (aC Q):=
 Tryz.cd az.z Tryz.func159 (by kernel_rfl) (es:=[.va (.int .i64 p0)]) rfl (by kernel_rfl) h
def F.proc.sI(p0:LTs [.int .i64,.int .i64,.int .i64,.int .i64,.int .i64,.int .i64])(p1:LTs [.int .i64,.int .i64,.int .i64,.int .i64,.int .i64,.int .i64]):Tree:=
 nw 250 [.int .i64 p0.1,.int .i64 p0.2.1,.int .i64 p0.2.2.1,.int .i64 p0.2.2.2.1,.int .i64 p0.2.2.2.2.1,.int .i64 p0.2.2.2.2.2.1] fun b1=>
 nw 250 [.int .i64 p1.1,.int .i64 p1.2.1,.int .i64 p1.2.2.1,.int .i64 p1.2.2.2.1,.int .i64 p1.2.2.2.2.1,.int .i64 p1.2.2.2.2.2.1] fun b2=>
 ld (.l (.int .i64)) (fa (⟨b1,0,none⟩) 5) fun(x3:Int)=>
 ld (.l (.int .i64)) (fa (⟨b2,0,none⟩) 5) fun(x4:Int)=>
 call Tryz.prog 174 [.int .i64 x3,.int .i64 x4] (.one (.l (.int .i64))) fun(r5:Int)=>
 ret (.int .i64 r5)
theorem F.proc.sI.calls(p0:LTs [.int .i64,.int .i64,.int .i64,.int .i64,.int .i64,.int .i64])(p1:LTs [.int .i64,.int .i64,.int .i64,.int .i64,.int .i64,.int .i64])(h:F.proc.sI p0 p1 Q w):Calls Tryz.prog 173 #[.agg #[.int .i64 p0.1,.int .i64 p0.2.1,.int .i64 p0.2.2.1,.int .i64 p0.2.2.2.1,.int .i64 p0.2.2.2.2.1,.int .i64 p0.2.2.2.2.2.1],.agg #[.int .i64 p1.1,.int .i64 p1.2.1,.int .i64 p1.2.2.1,.int .i64 p1.2.2.2.1,.int .i64 p1.2.2.2.2.1,.int .i64 p1.2.2.2.2.2.1]] w (aC Q):=
 Tryz.cd az.z Tryz.func173 (by kernel_rfl) (es:=[.va (.agg #[.int .i64 p0.1,.int .i64 p0.2.1,.int .i64 p0.2.2.1,.int .i64 p0.2.2.2.1,.int .i64 p0.2.2.2.2.1,.int .i64 p0.2.2.2.2.2.1]),.va (.agg #[.int .i64 p1.1,.int .i64 p1.2.1,.int .i64 p1.2.2.1,.int .i64 p1.2.2.2.1,.int .i64 p1.2.2.2.2.1,.int .i64 p1.2.2.2.2.2.1])]) rfl (by kernel_rfl) h
def F.proc.fq.kept.T:az:=⟨fun _=>[],
 fun _=>none,
 (fun
 |1=> .held (some 49) (.go 0 false (.go 1 false (.go 2 false (.go 3 false (.go 4 false (.go 5 false (.go 6 false (.go 7 false (.go 8 false (.go 9 false (.go 10 false (.go 11 false (.go 12 false (.go 13 false (.go 14 false (.go 15 false (.go 16 false (.go 17 false (.go 18 false (.go 19 false (.go 20 false (.cut (.go 21 false (.go 22 false (.go 23 false (.go 24 false (.go 25 false (.go 26 false (.cut (.go 27 false (.go 28 false (.go 29 false (.go 30 false (.go 31 false (.go 32 false (.go 33 false (.go 34 false (.go 35 false (.go 36 false (.go 37 false (.go 38 false (.go 39 false (.go 40 false (.go 41 false (.go 42 false (.go 43 false (.go 44 false (.go 45 false (.go 46 false (.go 47 false (.go 48 false (.go 49 true (.go 50 false (.go 51 false .nil))))))))))))))))))))))))))))))))))))))))))))))))))))))
 |_=> .quiet)⟩
def F.proc.fq.kept(p0:LTs [.ptr])(p1:LTs [.int .i64,.int .i64,.int .i64,.int .i64,.int .i64,.int .i64]):Tree:=
 nw 220 [.pointer p0.1] fun b1=>
 nw 250 [.int .i64 p1.1,.int .i64 p1.2.1,.int .i64 p1.2.2.1,.int .i64 p1.2.2.2.1,.int .i64 p1.2.2.2.2.1,.int .i64 p1.2.2.2.2.2.1] fun b2=>
 dI<|Gl.held fun S3=>
 bm S3 (.l (.int .i64)) (fa (⟨b2,0,none⟩) 1) fun(x4:Int)=>
 br ((x4:Int)==1)
 (bm S3 (.l .ptr) (fa (⟨b1,0,none⟩) 0) fun(x5:Option Addr)=>
 nn x5 fun a6=>
 bm S3 (.l .bool) (fa (fa a6 2) 5) fun(x7:Bool)=>
 br (!x7)
 (bm S3 (.l .ptr) (fa (⟨b1,0,none⟩) 0) fun(x8:Option Addr)=>
 nn x8 fun a9=>
 bm S3 (.l .ptr) (fa a9 0) fun(x10:Option Addr)=>
 bm S3 (.l (.int .i64)) (fa (⟨b2,0,none⟩) 0) fun(x11:Int)=>
 call Tryz.prog 184 [.pointer x10,.int .i64 x11] (.one (.l .bool)) fun(r12:Bool)=>
 fX S3<|
 narrow S3 fun S13=>
 br r12
 (bm S13 (.l .ptr) (fa (⟨b1,0,none⟩) 0) fun(x14:Option Addr)=>
 bm S13 (.g [.int .i64,.int .i64,.int .i64,.int .i64,.int .i64,.int .i64]) (⟨b2,0,none⟩) fun(x15:LTs _)=>
 call Tryz.prog 182 [.pointer x14,.agg #[.int .i64 x15.1,.int .i64 x15.2.1,.int .i64 x15.2.2.1,.int .i64 x15.2.2.2.1,.int .i64 x15.2.2.2.2.1,.int .i64 x15.2.2.2.2.2.1]] (.one (.l .bool)) fun(r16:Bool)=>
 fX S13<|
 narrow S13 fun S17=>
 br r16
 (bm S17 (.l .ptr) (fa (⟨b1,0,none⟩) 0) fun(x18:Option Addr)=>
 nn x18 fun a19=>
 bm S17 (.l (.int .i64)) (fa (fa a19 2) 2) fun(x20:Int)=>
 bm S17 (.l (.int .i64)) (fa (⟨b2,0,none⟩) 4) fun(x21:Int)=>
 bm S17 (.l .ptr) (fa (⟨b1,0,none⟩) 0) fun(x22:Option Addr)=>
 nn x22 fun a23=>
 bm S17 (.l (.int .i64)) (fa (fa a23 2) 3) fun(x24:Int)=>
 bm S17 (.l .ptr) (fa (⟨b1,0,none⟩) 0) fun(x25:Option Addr)=>
 nn x25 fun a26=>
 bm S17 (.l (.int .i64)) (fa (fa a26 2) 4) fun(x27:Int)=>
 call Tryz.prog 208 [.int .i64 x20,.int .i64 x21,.int .i64 x24,.int .i64 x27] (.one (.l .bool)) fun(r28:Bool)=>
 ret (.bool r28))
 (ret (.bool false)))
 (narrow S13 fun S14=>
 ret (.bool false)))
 (narrow S3 fun S8=>
 narrow S8 fun S9=>
 ret (.bool false)))
 (narrow S3 fun S5=>
 narrow S5 fun S6=>
 ret (.bool false))
theorem F.proc.fq.kept.calls(p0:LTs [.ptr])(p1:LTs [.int .i64,.int .i64,.int .i64,.int .i64,.int .i64,.int .i64])(h:F.proc.fq.kept p0 p1 Q w):Calls Tryz.prog 181 #[.agg #[.pointer p0.1],.agg #[.int .i64 p1.1,.int .i64 p1.2.1,.int .i64 p1.2.2.1,.int .i64 p1.2.2.2.1,.int .i64 p1.2.2.2.2.1,.int .i64 p1.2.2.2.2.2.1]] w (aC Q):=
 Tryz.cd F.proc.fq.kept.T Tryz.func181 (by kernel_rfl) (es:=[.va (.agg #[.pointer p0.1]),.va (.agg #[.int .i64 p1.1,.int .i64 p1.2.1,.int .i64 p1.2.2.1,.int .i64 p1.2.2.2.1,.int .i64 p1.2.2.2.2.1,.int .i64 p1.2.2.2.2.2.1])]) rfl (by kernel_rfl) h
def F.proc.common.lost.T:az:=⟨fun _=>[],
 fun _=>none,
 (fun
 |1=> .held (some 6) (.go 0 false (.go 1 false (.go 2 false (.go 3 false (.go 4 false (.go 5 false (.two (.go 6 true (.go 7 false (.go 8 false (.go 9 false (.go 10 false (.go 11 false (.go 12 false .nil))))))) (.go 10 false (.go 6 true (.go 7 false (.go 8 false (.go 9 false (.go 11 false (.go 12 false .nil))))))))))))))
 |2=> .tail 9
 |_=> .quiet)⟩
def F.proc.common.lost(p0:Option Addr)(p1:LTs [.int .i64,.int .i64,.int .i64,.int .i64,.int .i64,.int .i64]):Tree:=
 nw 250 [.int .i64 p1.1,.int .i64 p1.2.1,.int .i64 p1.2.2.1,.int .i64 p1.2.2.2.1,.int .i64 p1.2.2.2.2.1,.int .i64 p1.2.2.2.2.2.1] fun b1=>
 dI<|Gl.held fun S2=>
 nn p0 fun a3=>
 bm S2 (.l .ptr) (fa a3 1) fun(x4:Option Addr)=>
 bm S2 (.l (.int .i64)) (fa (⟨b1,0,none⟩) 2) fun(x5:Int)=>
 both
 (call Tryz.prog 61 [.pointer x4,.int .i64 x5] (.many [.g [.int .i64,.int .i64,.int .i64,.bool],.l (.int .i64)]) fun(r6:KTs _)=>
 nw 103 (zc Tryz.prog 103) fun b7=>
 st (⟨b7,0,none⟩) [.int .i64 r6.1.1,.int .i64 r6.1.2.1,.int .i64 r6.1.2.2.1,.bool r6.1.2.2.2.1]<|
 dI<|
 br ((r6.2.1:Int)==0)
 (nn p0 fun a8=>
 ld (.l .ptr) (fa a8 0) fun(x9:Option Addr)=>
 ld (.l (.int .i64)) (fa (⟨b1,0,none⟩) 2) fun(x10:Int)=>
 call Tryz.prog 184 [.pointer x9,.int .i64 x10] (.one (.l .bool)) fun(r11:Bool)=>
 ret (.bool (!r11)))
 (ret (.bool false)))
 (nw 103 (zc Tryz.prog 103) fun b8=>
 fX S2<|
 call Tryz.prog 61 [.pointer x4,.int .i64 x5] (.many [.g [.int .i64,.int .i64,.int .i64,.bool],.l (.int .i64)]) fun(r9:KTs _)=>
 st (⟨b8,0,none⟩) [.int .i64 r9.1.1,.int .i64 r9.1.2.1,.int .i64 r9.1.2.2.1,.bool r9.1.2.2.2.1]<|
 dI<|
 br ((r9.2.1:Int)==0)
 (nn p0 fun a10=>
 ld (.l .ptr) (fa a10 0) fun(x11:Option Addr)=>
 ld (.l (.int .i64)) (fa (⟨b1,0,none⟩) 2) fun(x12:Int)=>
 call Tryz.prog 184 [.pointer x11,.int .i64 x12] (.one (.l .bool)) fun(r13:Bool)=>
 ret (.bool (!r13)))
 (ret (.bool false)))
theorem F.proc.common.lost.calls(p0:Option Addr)(p1:LTs [.int .i64,.int .i64,.int .i64,.int .i64,.int .i64,.int .i64])(h:F.proc.common.lost p0 p1 Q w):Calls Tryz.prog 182 #[.pointer p0,.agg #[.int .i64 p1.1,.int .i64 p1.2.1,.int .i64 p1.2.2.1,.int .i64 p1.2.2.2.1,.int .i64 p1.2.2.2.2.1,.int .i64 p1.2.2.2.2.2.1]] w (aC Q):=
 Tryz.cd F.proc.common.lost.T Tryz.func182 (by kernel_rfl) (es:=[.va (.pointer p0),.va (.agg #[.int .i64 p1.1,.int .i64 p1.2.1,.int .i64 p1.2.2.1,.int .i64 p1.2.2.2.1,.int .i64 p1.2.2.2.2.1,.int .i64 p1.2.2.2.2.2.1])]) rfl (by kernel_rfl) h
def F.proc.common.wh(p0:LTs [.int .i64,.int .i64,.int .i64,.int .i64,.int .i64,.int .i64])(c0:Option Addr):Tree:=
 nw 250 [.int .i64 p0.1,.int .i64 p0.2.1,.int .i64 p0.2.2.1,.int .i64 p0.2.2.2.1,.int .i64 p0.2.2.2.2.1,.int .i64 p0.2.2.2.2.2.1] fun b1=>
 ld (.l (.int .i64)) (fa (⟨b1,0,none⟩) 0) fun(x2:Int)=>
 nn c0 fun a3=>
 ld (.l (.int .i64)) a3 fun(x4:Int)=>
 ret (.bool ((x2:Int)==x4))
theorem F.proc.common.wh.calls(p0:LTs [.int .i64,.int .i64,.int .i64,.int .i64,.int .i64,.int .i64])(c0:Option Addr)(h:F.proc.common.wh p0 c0 Q w):Calls Tryz.prog 183 #[.agg #[.int .i64 p0.1,.int .i64 p0.2.1,.int .i64 p0.2.2.1,.int .i64 p0.2.2.2.1,.int .i64 p0.2.2.2.2.1,.int .i64 p0.2.2.2.2.2.1],.pointer c0] w (aC Q):=
 Tryz.cd az.z Tryz.func183 (by kernel_rfl) (es:=[.va (.agg #[.int .i64 p0.1,.int .i64 p0.2.1,.int .i64 p0.2.2.1,.int .i64 p0.2.2.2.1,.int .i64 p0.2.2.2.2.1,.int .i64 p0.2.2.2.2.2.1]),.va (.pointer c0)]) rfl (by kernel_rfl) h
def F.soft.Cl(p0:Int)(p1:Int)(p2:Int)(p3:Int):Tree:=
 call Tryz.prog 222 [.int .i64 p0,.int .i64 p1] (.one (.l (.int .i64))) fun(r1:Int)=>
 call Tryz.prog 223 [.int .i64 p2,.int .i64 p3] (.one (.l (.int .i64))) fun(r2:Int)=>
 ret (.bool (decide ((r1:Int)≤r2)))
theorem F.soft.Cl.calls(p0:Int)(p1:Int)(p2:Int)(p3:Int)(h:F.soft.Cl p0 p1 p2 p3 Q w):Calls Tryz.prog 208 #[.int .i64 p0,.int .i64 p1,.int .i64 p2,.int .i64 p3] w (aC Q):=
 Tryz.cd az.z Tryz.func208 (by kernel_rfl) (es:=[.va (.int .i64 p0),.va (.int .i64 p1),.va (.int .i64 p2),.va (.int .i64 p3)]) rfl (by kernel_rfl) h
def F.soft.Idle(p0:Int)(p1:Int):Tree:=
 call Tryz.prog 159 [.int .i64 p0] (.one (.l (.int .i64))) fun(r1:Int)=>
 call Tryz.prog 159 [.int .i64 p1] (.one (.l (.int .i64))) fun(r2:Int)=>
 call Tryz.prog 159 [.int .i64 (IntKind.wrap .i64 (r1-r2))] (.one (.l (.int .i64))) fun(r3:Int)=>
 ret (.int .i64 r3)
theorem F.soft.Idle.calls(p0:Int)(p1:Int)(h:F.soft.Idle p0 p1 Q w):Calls Tryz.prog 222 #[.int .i64 p0,.int .i64 p1] w (aC Q):=
 Tryz.cd az.z Tryz.func222 (by kernel_rfl) (es:=[.va (.int .i64 p0),.va (.int .i64 p1)]) rfl (by kernel_rfl) h
def F.soft.wg(p0:Int)(p1:Int):Tree:=
 call Tryz.prog 159 [.int .i64 p0] (.one (.l (.int .i64))) fun(r1:Int)=>
 call Tryz.prog 159 [.int .i64 p1] (.one (.l (.int .i64))) fun(r2:Int)=>
 call Tryz.prog 228 [.int .u64 (IntKind.wrap .u64 r1),.int .u64 (IntKind.wrap .u64 r2)] (.many [.l (.int .u64),.l (.int .u64)]) fun(r3:KTs _)=>
 br (decide ((r3.1:Int)>0))
 (ret (.int .i64 9223372036854775807))
 (br (decide ((r3.2.1:Int)>9223372036854775807))
 (ret (.int .i64 9223372036854775807))
 (ret (.int .i64 (IntKind.wrap .i64 r3.2.1))))
theorem F.soft.wg.calls(p0:Int)(p1:Int)(h:F.soft.wg p0 p1 Q w):Calls Tryz.prog 223 #[.int .i64 p0,.int .i64 p1] w (aC Q):=
 Tryz.cd az.z Tryz.func223 (by kernel_rfl) (es:=[.va (.int .i64 p0),.va (.int .i64 p1)]) rfl (by kernel_rfl) h
end Go.Proofs.YtfepdmpplahloaaGreat
