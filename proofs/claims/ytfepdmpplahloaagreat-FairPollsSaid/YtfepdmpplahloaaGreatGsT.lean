import Derived.Test.YtfepdmpplahloaaGreatProg
import Derived.Test.YtfepdmpplahloaaGreatGsSnd6
import Derived.KernelRfl
namespace Go.Proofs.YtfepdmpplahloaaGreat
open Go Go.Gl
theorem Tryz.Eg:cy Tryz.prog=true:=by kernel_rfl
theorem Tryz.mixed:Tryz.prog.follows .mixedOrders=true:=by kernel_rfl
theorem Tryz.cd(T:az){f:FuncId}{fn:Func}(hf:Tryz.prog.funcs[f]? =some fn)(hB:(fn.body.map (oo T)).getD false=true){es:List E1}{args:List Value}(hes:E1.vs es=some args){t:Tree}(hd:CG Tryz.prog T fn es=t){Q:Value→World→Prop}{w:World}(h:t Q w):Calls Tryz.prog f args.toArray w (aC Q):=
 se Tryz.Eg Tryz.mixed T hf hB hes (by rw[hd];exact h)
set_option maxRecDepth 100000
set_option linter.unusedVariables false
variable{Q:Value→World→Prop}{w:World}
def F.object.ch.kT.T:az:=⟨(fun
 |5=>[(3,.slice),(18,.int .i64)]
 |10=>[(34,.int .i64)]
 |_=>[]),
 fun _=>none,
 fun _=> .quiet⟩
def F.object.ch.kT(p0:Option Addr):Tree:=
 br (Option.isNone p0)
 (ret (.slice none 0 0))
 (nn p0 fun a1=>
 ld (.l .ptr) (fa a1 0) fun(x2:Option Addr)=>
 call Tryz.prog 60 [.pointer x2] (.one (.l .slice)) fun(r3:ay)=>
 lp [.slice,.int .i64] (fun X4 u5=>
 br (decide ((u5.2.1:Int)<(r3.n:Nat)))
 (ix r3.a r3.n u5.2.1 1 fun a6=>
 ld (.l (.int .i64)) a6 fun(x7:Int)=>
 nw 105 (zc Tryz.prog 105) fun b8=>
 st (⟨b8,0,none⟩) [.int .i64 x7,.int .i64 0,.int .i64 0,.int .i64 0,.bool false,.slice none 0 0]<|
 call Tryz.prog 61 [.pointer p0,.int .i64 x7] (.many [.g [.int .i64,.int .i64,.int .i64,.bool],.l (.int .i64)]) fun(r9:KTs _)=>
 st (fa (⟨b8,0,none⟩) 1) [.int .i64 r9.1.1,.int .i64 r9.1.2.1,.int .i64 r9.1.2.2.1,.bool r9.1.2.2.2.1]<|
 ld (.l (.int .i64)) (fa (fa (⟨b8,0,none⟩) 1) 2) fun(x10:Int)=>
 lp [.int .i64] (fun X11 u12=>
 br (decide ((u12.1:Int)<x10))
 (call Tryz.prog 62 [.pointer p0,.int .i64 x7,.int .i64 u12.1] (.many [.l (.int .i64),.l (.int .i64)]) fun(r13:KTs _)=>
 ld (.l .slice) (fa (⟨b8,0,none⟩) 5) fun(x14:ay)=>
 nw 3 [.int .i64 r13.1] fun b15=>
 c9 Tryz.prog (Builtin.append_ #[46,46] 46 #[.slice x14.a x14.n x14.c,.slice (some ⟨b15,0,none⟩) 1 1]) (.one (.l .slice)) fun(r16:ay)=>
 st (fa (⟨b8,0,none⟩) 5) [.slice r16.a r16.n r16.c]<|
 X11 (IntKind.wrap .i64 (u12.1+1),()))
 (ld (.g [.int .i64,.int .i64,.int .i64,.int .i64,.bool,.slice]) (⟨b8,0,none⟩) fun(x13:LTs _)=>
 nw 105 [.int .i64 x13.1,.int .i64 x13.2.1,.int .i64 x13.2.2.1,.int .i64 x13.2.2.2.1,.bool x13.2.2.2.2.1,.slice x13.2.2.2.2.2.1.a x13.2.2.2.2.2.1.n x13.2.2.2.2.2.1.c] fun b14=>
 c9 Tryz.prog (Builtin.append_ #[44,44] 44 #[.slice u5.1.a u5.1.n u5.1.c,.slice (some ⟨b14,0,none⟩) 1 1]) (.one (.l .slice)) fun(r15:ay)=>
 X4 (⟨r15.a,r15.n,r15.c⟩,IntKind.wrap .i64 (u5.2.1+1),()))) (0,()))
 (ret (.slice u5.1.a u5.1.n u5.1.c))) (⟨none,0,0⟩,0,()))
theorem F.object.ch.kT.calls(p0:Option Addr)(h:F.object.ch.kT p0 Q w):Calls Tryz.prog 24 #[.pointer p0] w (aC Q):=
 Tryz.cd F.object.ch.kT.T Tryz.func24 (by kernel_rfl) (es:=[.va (.pointer p0)]) rfl (by kernel_rfl) h
def F.space.bn.Used.T:az:=⟨(fun
 |3=>[(3,.int .i64),(12,.int .i64)]
 |_=>[]),
 fun _=>none,
 fun _=> .quiet⟩
def F.space.bn.Used(p0:Option Addr):Tree:=
 call Tryz.prog 60 [.pointer p0] (.one (.l .slice)) fun(r1:ay)=>
 lp [.int .i64,.int .i64] (fun X2 u3=>
 br (decide ((u3.2.1:Int)<(r1.n:Nat)))
 (ix r1.a r1.n u3.2.1 1 fun a4=>
 ld (.l (.int .i64)) a4 fun(x5:Int)=>
 call Tryz.prog 67 [.pointer p0,.int .i64 x5] (.many [.l (.int .i64),.l (.int .i64),.l .bool]) fun(r6:KTs _)=>
 X2 (IntKind.wrap .i64 (u3.1+r6.2.1),IntKind.wrap .i64 (u3.2.1+1),()))
 (ret (.int .i64 u3.1))) (0,0,())
theorem F.space.bn.Used.calls(p0:Option Addr)(h:F.space.bn.Used p0 Q w):Calls Tryz.prog 31 #[.pointer p0] w (aC Q):=
 Tryz.cd F.space.bn.Used.T Tryz.func31 (by kernel_rfl) (es:=[.va (.pointer p0)]) rfl (by kernel_rfl) h
def F.object.dc(p0:Int):Tree:=
 call Tryz.prog 71 [.int .i64 p0] (.many [.l .ptr,.l (.int .i64)]) fun(r1:KTs _)=>
 br ((r1.2.1:Int) != 0)
 (ret (.tuple #[.pointer none,.int .i64 r1.2.1]))
 (call Tryz.prog 72 [] (.one (.l .ptr)) fun(r2:Option Addr)=>
 nw 82 [.pointer r1.1,.pointer r2] fun b3=>
 ret (.tuple #[.pointer (some (⟨b3,0,none⟩)),.int .i64 0]))
theorem F.object.dc.calls(p0:Int)(h:F.object.dc p0 Q w):Calls Tryz.prog 34 #[.int .i64 p0] w (aC Q):=
 Tryz.cd az.z Tryz.func34 (by kernel_rfl) (es:=[.va (.int .i64 p0)]) rfl (by kernel_rfl) h
def F.space.bn.yj.T:az:=⟨(fun
 |5=>[(3,.slice)]
 |8=>[(3,.slice),(6,.int .i64)]
 |12=>[(3,.slice)]
 |_=>[]),
 fun _=>none,
 fun _=> .quiet⟩
def F.space.bn.yj(p0:Option Addr):Tree:=
 br (Option.isNone p0)
 (ret (.slice none 0 0))
 (nn p0 fun a1=>
 ld (.l .map) (fa a1 2) fun(x2:Option Nat)=>
 c9 Tryz.prog (Instr.range 162 (.map x2)) (.one (.l .ptr)) fun(r3:Option Addr)=>
 lp [.slice] (fun X4 u5=>
 ES Tryz.prog (Instr.next (.pointer r3) false 0) (.l (.int .i64)) (.l .ptr)
 (nn p0 fun a8=>
 ld (.l .map) (fa a8 3) fun(x9:Option Nat)=>
 c9 Tryz.prog (Instr.range 163 (.map x9)) (.one (.l .ptr)) fun(r10:Option Addr)=>
 lp [.slice] (fun X11 u12=>
 ES Tryz.prog (Instr.next (.pointer r10) false 0) (.l (.int .i64)) (.l (.int .i64))
 (call Tryz.prog 102 [.slice u12.1.a u12.1.n u12.1.c] (.many []) fun(r15:KTs _)=>
 ret (.slice u12.1.a u12.1.n u12.1.c))
 (fun(k13:Int) (v14:Int)=>
 c9 Tryz.prog (Instr.entry (.pointer r10)) (.many [.l (.int .i64),.l (.int .i64)]) fun(r16:KTs _)=>
 nw 3 [.int .i64 (IntKind.wrap .i64 (r16.1*64))] fun b17=>
 c9 Tryz.prog (Builtin.append_ #[46,46] 46 #[.slice u12.1.a u12.1.n u12.1.c,.slice (some ⟨b17,0,none⟩) 1 1]) (.one (.l .slice)) fun(r18:ay)=>
 X11 (⟨r18.a,r18.n,r18.c⟩,()))) (⟨u5.1.a,u5.1.n,u5.1.c⟩,()))
 (fun(k6:Int) (v7:Option Addr)=>
 c9 Tryz.prog (Instr.entry (.pointer r3)) (.many [.l (.int .i64),.l .ptr]) fun(r19:KTs _)=>
 nn r19.2.1 fun a20=>
 ld (.l .ptr) (fa a20 0) fun(x21:Option Addr)=>
 call Tryz.prog 100 [.pointer x21,.int .i64 0,.bool true] (.one (.l (.int .i64))) fun(r22:Int)=>
 lp [.slice,.int .i64] (fun X23 u24=>
 br (decide ((u24.2.1:Int)≥0))
 (call Tryz.prog 101 [.pointer r19.2.1] (.one (.l (.int .i64))) fun(r25:Int)=>
 nw 3 [.int .i64 (IntKind.wrap .i64 ((IntKind.wrap .i64 (r19.1*64))+(IntKind.wrap .i64 (u24.2.1*r25))))] fun b26=>
 c9 Tryz.prog (Builtin.append_ #[46,46] 46 #[.slice u24.1.a u24.1.n u24.1.c,.slice (some ⟨b26,0,none⟩) 1 1]) (.one (.l .slice)) fun(r27:ay)=>
 nn r19.2.1 fun a28=>
 ld (.l .ptr) (fa a28 0) fun(x29:Option Addr)=>
 call Tryz.prog 100 [.pointer x29,.int .i64 (IntKind.wrap .i64 (u24.2.1+1)),.bool true] (.one (.l (.int .i64))) fun(r30:Int)=>
 X23 (⟨r27.a,r27.n,r27.c⟩,r30,()))
 (X4 (⟨u24.1.a,u24.1.n,u24.1.c⟩,()))) (⟨u5.1.a,u5.1.n,u5.1.c⟩,r22,()))) (⟨none,0,0⟩,()))
theorem F.space.bn.yj.calls(p0:Option Addr)(h:F.space.bn.yj p0 Q w):Calls Tryz.prog 60 #[.pointer p0] w (aC Q):=
 Tryz.cd F.space.bn.yj.T Tryz.func60 (by kernel_rfl) (es:=[.va (.pointer p0)]) rfl (by kernel_rfl) h
def F.object.ch.Head(p0:Option Addr)(p1:Int):Tree:=
 nw 103 (zc Tryz.prog 103) fun b1=>
 br (Option.isNone p0)
 (st (⟨b1,0,none⟩) [.int .i64 0,.int .i64 0,.int .i64 0,.bool false]<|
 ld (.g [.int .i64,.int .i64,.int .i64,.bool]) (⟨b1,0,none⟩) fun(x2:LTs _)=>
 ret (.tuple #[.agg #[.int .i64 x2.1,.int .i64 x2.2.1,.int .i64 x2.2.2.1,.bool x2.2.2.2.1],.int .i64 2]))
 (nn p0 fun a2=>
 ld (.l .ptr) (fa a2 0) fun(x3:Option Addr)=>
 call Tryz.prog 67 [.pointer x3,.int .i64 p1] (.many [.l (.int .i64),.l (.int .i64),.l .bool]) fun(r4:KTs _)=>
 br (!r4.2.2.1)
 (st (⟨b1,0,none⟩) [.int .i64 0,.int .i64 0,.int .i64 0,.bool false]<|
 ld (.g [.int .i64,.int .i64,.int .i64,.bool]) (⟨b1,0,none⟩) fun(x5:LTs _)=>
 ret (.tuple #[.agg #[.int .i64 x5.1,.int .i64 x5.2.1,.int .i64 x5.2.2.1,.bool x5.2.2.2.1],.int .i64 2]))
 (br ((r4.1:Int) != p1)
 (st (⟨b1,0,none⟩) [.int .i64 0,.int .i64 0,.int .i64 0,.bool false]<|
 ld (.g [.int .i64,.int .i64,.int .i64,.bool]) (⟨b1,0,none⟩) fun(x5:LTs _)=>
 ret (.tuple #[.agg #[.int .i64 x5.1,.int .i64 x5.2.1,.int .i64 x5.2.2.1,.bool x5.2.2.2.1],.int .i64 2]))
 (nn p0 fun a5=>
 ld (.l .ptr) (fa a5 0) fun(x6:Option Addr)=>
 nn x6 fun a7=>
 ld (.l .ptr) (fa a7 0) fun(x8:Option Addr)=>
 call Tryz.prog 103 [.pointer x8,.int .i64 p1] (.many [.l (.int .i64),.l (.int .i64)]) fun(r9:KTs _)=>
 br ((r9.2.1:Int) != 0)
 (st (⟨b1,0,none⟩) [.int .i64 0,.int .i64 0,.int .i64 0,.bool false]<|
 ld (.g [.int .i64,.int .i64,.int .i64,.bool]) (⟨b1,0,none⟩) fun(x10:LTs _)=>
 ret (.tuple #[.agg #[.int .i64 x10.1,.int .i64 x10.2.1,.int .i64 x10.2.2.1,.bool x10.2.2.2.1],.int .i64 r9.2.1]))
 (call Tryz.prog 104 [.int .i64 r9.1] (.many [.g [.int .i64,.int .i64,.int .i64,.bool],.l .bool]) fun(r10:KTs _)=>
 nw 103 (zc Tryz.prog 103) fun b11=>
 st (⟨b11,0,none⟩) [.int .i64 r10.1.1,.int .i64 r10.1.2.1,.int .i64 r10.1.2.2.1,.bool r10.1.2.2.2.1]<|
 br (!r10.2.1)
 (st (⟨b1,0,none⟩) [.int .i64 0,.int .i64 0,.int .i64 0,.bool false]<|
 ld (.g [.int .i64,.int .i64,.int .i64,.bool]) (⟨b1,0,none⟩) fun(x12:LTs _)=>
 ret (.tuple #[.agg #[.int .i64 x12.1,.int .i64 x12.2.1,.int .i64 x12.2.2.1,.bool x12.2.2.2.1],.int .i64 2]))
 (ld (.g [.int .i64,.int .i64,.int .i64,.bool]) (⟨b11,0,none⟩) fun(x12:LTs _)=>
 st (⟨b1,0,none⟩) [.int .i64 x12.1,.int .i64 x12.2.1,.int .i64 x12.2.2.1,.bool x12.2.2.2.1]<|
 ld (.g [.int .i64,.int .i64,.int .i64,.bool]) (⟨b1,0,none⟩) fun(x13:LTs _)=>
 ret (.tuple #[.agg #[.int .i64 x13.1,.int .i64 x13.2.1,.int .i64 x13.2.2.1,.bool x13.2.2.2.1],.int .i64 0]))))))
theorem F.object.ch.Head.calls(p0:Option Addr)(p1:Int)(h:F.object.ch.Head p0 p1 Q w):Calls Tryz.prog 61 #[.pointer p0,.int .i64 p1] w (aC Q):=
 Tryz.cd az.z Tryz.func61 (by kernel_rfl) (es:=[.va (.pointer p0),.va (.int .i64 p1)]) rfl (by kernel_rfl) h
def F.object.ch.Field(p0:Option Addr)(p1:Int)(p2:Int):Tree:=
 call Tryz.prog 105 [.pointer p0,.int .i64 p1,.int .i64 p2] (.many [.l (.int .i64),.l (.int .i64)]) fun(r1:KTs _)=>
 br ((r1.2.1:Int) != 0)
 (ret (.tuple #[.int .i64 0,.int .i64 r1.2.1]))
 (nn p0 fun a2=>
 ld (.l .ptr) (fa a2 0) fun(x3:Option Addr)=>
 nn x3 fun a4=>
 ld (.l .ptr) (fa a4 0) fun(x5:Option Addr)=>
 call Tryz.prog 103 [.pointer x5,.int .i64 r1.1] (.many [.l (.int .i64),.l (.int .i64)]) fun(r6:KTs _)=>
 ret (.tuple #[.int .i64 r6.1,.int .i64 r6.2.1]))
theorem F.object.ch.Field.calls(p0:Option Addr)(p1:Int)(p2:Int)(h:F.object.ch.Field p0 p1 p2 Q w):Calls Tryz.prog 62 #[.pointer p0,.int .i64 p1,.int .i64 p2] w (aC Q):=
 Tryz.cd az.z Tryz.func62 (by kernel_rfl) (es:=[.va (.pointer p0),.va (.int .i64 p1),.va (.int .i64 p2)]) rfl (by kernel_rfl) h
def F.av.wL(p0:ay):Tree:=
 br (Option.isNone p0.a)
 (ret (.slice none 0 0))
 (nw 3 [] fun b1=>
 c9 Tryz.prog (Builtin.append_ #[46,46] 46 #[.slice (some ⟨b1,0,none⟩) 0 0,.slice p0.a p0.n p0.c]) (.one (.l .slice)) fun(r2:ay)=>
 ret (.slice r2.a r2.n r2.c))
theorem F.av.wL.calls(p0:ay)(h:F.av.wL p0 Q w):Calls Tryz.prog 64 #[.slice p0.a p0.n p0.c] w (aC Q):=
 Tryz.cd az.z Tryz.func64 (by kernel_rfl) (es:=[.va (.slice p0.a p0.n p0.c)]) rfl (by kernel_rfl) h
def F.space.bn.Find.T:az:=⟨(fun
 |11=>[]
 |_=>[]),
 fun _=>none,
 fun _=> .quiet⟩
def F.space.bn.Find(p0:Option Addr)(p1:Int):Tree:=
 br (Option.isNone p0)
 (ret (.tuple #[.int .i64 0,.int .i64 0,.bool false]))
 (br (decide ((p1:Int)<0))
 (ret (.tuple #[.int .i64 0,.int .i64 0,.bool false]))
 (nn p0 fun a1=>
 ld (.l .ptr) (fa a1 0) fun(x2:Option Addr)=>
 call Tryz.prog 108 [.pointer x2] (.one (.l (.int .i64))) fun(r3:Int)=>
 br (decide ((p1:Int)≥r3))
 (ret (.tuple #[.int .i64 0,.int .i64 0,.bool false]))
 (bQ ((64:Int)≠0)<|
 nn p0 fun a4=>
 ld (.l .map) (fa a4 2) fun(x5:Option Nat)=>
 c9 Tryz.prog (Instr.lookup 162 (.map x5) (.int .i64 (IntKind.wrap .i64 (Int.tdiv p1 64))) true) (.many [.l .ptr,.l .bool]) fun(r6:KTs _)=>
 br r6.2.1
 (bQ ((64:Int)≠0)<|
 call Tryz.prog 101 [.pointer r6.1] (.one (.l (.int .i64))) fun(r7:Int)=>
 bQ ((r7:Int)≠0)<|
 nn r6.1 fun a8=>
 ld (.l .ptr) (fa a8 0) fun(x9:Option Addr)=>
 call Tryz.prog 109 [.pointer x9,.int .i64 (IntKind.wrap .i64 (Int.tdiv (Int.tmod p1 64) r7))] (.one (.l .bool)) fun(r10:Bool)=>
 br (!r10)
 (ret (.tuple #[.int .i64 0,.int .i64 0,.bool false]))
 (call Tryz.prog 101 [.pointer r6.1] (.one (.l (.int .i64))) fun(r11:Int)=>
 call Tryz.prog 101 [.pointer r6.1] (.one (.l (.int .i64))) fun(r12:Int)=>
 ret (.tuple #[.int .i64 (IntKind.wrap .i64 ((IntKind.wrap .i64 ((IntKind.wrap .i64 (Int.tdiv p1 64))*64))+(IntKind.wrap .i64 ((IntKind.wrap .i64 (Int.tdiv (Int.tmod p1 64) r7))*r11)))),.int .i64 r12,.bool true])))
 (nn p0 fun a7=>
 ld (.l .map) (fa a7 3) fun(x8:Option Nat)=>
 c9 Tryz.prog (Instr.range 163 (.map x8)) (.one (.l .ptr)) fun(r9:Option Addr)=>
 lp [] (fun X10 u11=> --
 ES Tryz.prog (Instr.next (.pointer r9) false 0) (.l (.int .i64)) (.l (.int .i64))
 (ret (.tuple #[.int .i64 0,.int .i64 0,.bool false]))
 (fun(k12:Int) (v13:Int)=>
 c9 Tryz.prog (Instr.entry (.pointer r9)) (.many [.l (.int .i64),.l (.int .i64)]) fun(r14:KTs _)=>
 br (decide ((IntKind.wrap .i64 (Int.tdiv p1 64):Int)≥r14.1))
 (br (decide ((IntKind.wrap .i64 (Int.tdiv p1 64):Int)<(IntKind.wrap .i64 (r14.1+r14.2.1))))
 (ret (.tuple #[.int .i64 (IntKind.wrap .i64 (r14.1*64)),.int .i64 (IntKind.wrap .i64 (r14.2.1*64)),.bool true]))
 (X10 (())))
 (X10 (())))) (())))))
theorem F.space.bn.Find.calls(p0:Option Addr)(p1:Int)(h:F.space.bn.Find p0 p1 Q w):Calls Tryz.prog 67 #[.pointer p0,.int .i64 p1] w (aC Q):=
 Tryz.cd F.space.bn.Find.T Tryz.func67 (by kernel_rfl) (es:=[.va (.pointer p0),.va (.int .i64 p1)]) rfl (by kernel_rfl) h
def F.space.dc(p0:Int):Tree:=
 call Tryz.prog 114 [.int .i64 p0] (.many [.l .ptr,.l (.int .i64)]) fun(r1:KTs _)=>
 br ((r1.2.1:Int) != 0)
 (ret (.tuple #[.pointer none,.int .i64 r1.2.1]))
 (call Tryz.prog 115 [.int .i64 p0] (.many [.l .ptr,.l (.int .i64)]) fun(r2:KTs _)=>
 br ((r2.2.1:Int) != 0)
 (ret (.tuple #[.pointer none,.int .i64 r2.2.1]))
 (Ej fun b3=>
 Ej fun b4=>
 nw 165 [.pointer r1.1,.pointer r2.1,.map (some b3),.map (some b4)] fun b5=>
 ret (.tuple #[.pointer (some (⟨b5,0,none⟩)),.int .i64 0])))
theorem F.space.dc.calls(p0:Int)(h:F.space.dc p0 Q w):Calls Tryz.prog 71 #[.int .i64 p0] w (aC Q):=
 Tryz.cd az.z Tryz.func71 (by kernel_rfl) (es:=[.va (.int .i64 p0)]) rfl (by kernel_rfl) h
def F.class.dc:Tree:=
 nw 190 [.slice none 0 0] fun b1=>
 ret (.pointer (some (⟨b1,0,none⟩)))
theorem F.class.dc.calls(h:F.class.dc Q w):Calls Tryz.prog 72 #[] w (aC Q):=
 Tryz.cd az.z Tryz.func72 (by kernel_rfl) (es:=[]) rfl (by kernel_rfl) h
def F.class.Table.Of(p0:Option Addr)(p1:Int)(p2:ay):Tree:=
 call Tryz.prog 116 [.pointer p0,.agg #[.int .i64 p1,.slice p2.a p2.n p2.c]] (.many [.l (.int .i64),.l (.int .i64)]) fun(r1:KTs _)=>
 ret (.tuple #[.int .i64 r1.1,.int .i64 r1.2.1])
theorem F.class.Table.Of.calls(p0:Option Addr)(p1:Int)(p2:ay)(h:F.class.Table.Of p0 p1 p2 Q w):Calls Tryz.prog 74 #[.pointer p0,.int .i64 p1,.slice p2.a p2.n p2.c] w (aC Q):=
 Tryz.cd az.z Tryz.func74 (by kernel_rfl) (es:=[.va (.pointer p0),.va (.int .i64 p1),.va (.slice p2.a p2.n p2.c)]) rfl (by kernel_rfl) h
def F.class.Table.Class(p0:Option Addr)(p1:Int):Tree:=
 nw 141 (zc Tryz.prog 141) fun b1=>
 br (decide ((p1:Int)<1))
 (st (⟨b1,0,none⟩) [.int .i64 0,.slice none 0 0]<|
 ld (.g [.int .i64,.slice]) (⟨b1,0,none⟩) fun(x2:LTs _)=>
 ret (.tuple #[.agg #[.int .i64 x2.1,.slice x2.2.1.a x2.2.1.n x2.2.1.c],.int .i64 2]))
 (call Tryz.prog 117 [.pointer p0] (.one (.l (.int .i64))) fun(r2:Int)=>
 br (decide ((p1:Int)>r2))
 (st (⟨b1,0,none⟩) [.int .i64 0,.slice none 0 0]<|
 ld (.g [.int .i64,.slice]) (⟨b1,0,none⟩) fun(x3:LTs _)=>
 ret (.tuple #[.agg #[.int .i64 x3.1,.slice x3.2.1.a x3.2.1.n x3.2.1.c],.int .i64 2]))
 (nn p0 fun a3=>
 ld (.l .slice) (fa a3 0) fun(x4:ay)=>
 ix x4.a x4.n (IntKind.wrap .i64 (p1-1)) 2 fun a5=>
 ld (.g [.int .i64,.slice]) a5 fun(x6:LTs _)=>
 call Tryz.prog 118 [.agg #[.int .i64 x6.1,.slice x6.2.1.a x6.2.1.n x6.2.1.c]] (.one (.g [.int .i64,.slice])) fun(r7:LTs _)=>
 st (⟨b1,0,none⟩) [.int .i64 r7.1,.slice r7.2.1.a r7.2.1.n r7.2.1.c]<|
 ld (.g [.int .i64,.slice]) (⟨b1,0,none⟩) fun(x8:LTs _)=>
 ret (.tuple #[.agg #[.int .i64 x8.1,.slice x8.2.1.a x8.2.1.n x8.2.1.c],.int .i64 0])))
theorem F.class.Table.Class.calls(p0:Option Addr)(p1:Int)(h:F.class.Table.Class p0 p1 Q w):Calls Tryz.prog 75 #[.pointer p0,.int .i64 p1] w (aC Q):=
 Tryz.cd az.z Tryz.func75 (by kernel_rfl) (es:=[.va (.pointer p0),.va (.int .i64 p1)]) rfl (by kernel_rfl) h
def F.object.ch.CV(p0:Option Addr)(p1:Int)(p2:Int)(p3:Int):Tree:=
 call Tryz.prog 105 [.pointer p0,.int .i64 p1,.int .i64 p2] (.many [.l (.int .i64),.l (.int .i64)]) fun(r1:KTs _)=>
 br ((r1.2.1:Int) != 0)
 (ret (.int .i64 r1.2.1))
 (nn p0 fun a2=>
 ld (.l .ptr) (fa a2 0) fun(x3:Option Addr)=>
 nn x3 fun a4=>
 ld (.l .ptr) (fa a4 0) fun(x5:Option Addr)=>
 call Tryz.prog 125 [.pointer x5,.int .i64 r1.1,.int .i64 p3] (.one (.l (.int .i64))) fun(r6:Int)=>
 ret (.int .i64 r6))
theorem F.object.ch.CV.calls(p0:Option Addr)(p1:Int)(p2:Int)(p3:Int)(h:F.object.ch.CV p0 p1 p2 p3 Q w):Calls Tryz.prog 81 #[.pointer p0,.int .i64 p1,.int .i64 p2,.int .i64 p3] w (aC Q):=
 Tryz.cd az.z Tryz.func81 (by kernel_rfl) (es:=[.va (.pointer p0),.va (.int .i64 p1),.va (.int .i64 p2),.va (.int .i64 p3)]) rfl (by kernel_rfl) h
def F.space.bn.Cap(p0:Option Addr):Tree:=
 br (Option.isNone p0)
 (ret (.int .i64 0))
 (nn p0 fun a1=>
 ld (.l .ptr) (fa a1 0) fun(x2:Option Addr)=>
 call Tryz.prog 108 [.pointer x2] (.one (.l (.int .i64))) fun(r3:Int)=>
 ret (.int .i64 (IntKind.wrap .i64 (r3-64))))
theorem F.space.bn.Cap.calls(p0:Option Addr)(h:F.space.bn.Cap p0 Q w):Calls Tryz.prog 99 #[.pointer p0] w (aC Q):=
 Tryz.cd az.z Tryz.func99 (by kernel_rfl) (es:=[.va (.pointer p0)]) rfl (by kernel_rfl) h
def F.bits.Bits.Next.T:az:=⟨(fun
 |2=>[(7,.int .i64)]
 |_=>[]),
 fun _=>none,
 fun _=> .quiet⟩
def F.bits.Bits.Next(p0:Option Addr)(p1:Int)(p2:Bool):Tree:=
 lp [.int .i64] (fun X1 u2=>
 call Tryz.prog 135 [.pointer p0] (.one (.l (.int .i64))) fun(r3:Int)=>
 br (decide ((u2.1:Int)<r3))
 (nn p0 fun a4=>
 ld (.l .slice) (fa a4 0) fun(x5:ay)=>
 ix x5.a x5.n u2.1 1 fun a6=>
 ld (.l .bool) a6 fun(x7:Bool)=>
 br (x7==p2)
 (ret (.int .i64 u2.1))
 (X1 (IntKind.wrap .i64 (u2.1+1),())))
 (ret (.int .i64 (-1)))) ((if(p1:Int)>0 then(p1:Int)else 0),())
theorem F.bits.Bits.Next.calls(p0:Option Addr)(p1:Int)(p2:Bool)(h:F.bits.Bits.Next p0 p1 p2 Q w):Calls Tryz.prog 100 #[.pointer p0,.int .i64 p1,.bool p2] w (aC Q):=
 Tryz.cd F.bits.Bits.Next.T Tryz.func100 (by kernel_rfl) (es:=[.va (.pointer p0),.va (.int .i64 p1),.va (.bool p2)]) rfl (by kernel_rfl) h
def F.block.fR.Words(p0:Option Addr):Tree:=
 br (Option.isNone p0)
 (ret (.int .i64 0))
 (nn p0 fun a1=>
 ld (.l (.int .i64)) (fa a1 1) fun(x2:Int)=>
 ret (.int .i64 x2))
theorem F.block.fR.Words.calls(p0:Option Addr)(h:F.block.fR.Words p0 Q w):Calls Tryz.prog 101 #[.pointer p0] w (aC Q):=
 Tryz.cd az.z Tryz.func101 (by kernel_rfl) (es:=[.va (.pointer p0)]) rfl (by kernel_rfl) h
def F.cI.eD.CB(p0:Option Addr)(p1:Int):Tree:=
 br (Option.isNone p0)
 (ret (.tuple #[.int .i64 0,.int .i64 2]))
 (nn p0 fun a1=>
 call Tryz.prog 138 [.pointer (some (fa a1 0)),.int .i64 p1] (.one (.l .bool)) fun(r2:Bool)=>
 br (!r2)
 (ret (.tuple #[.int .i64 0,.int .i64 2]))
 (nn p0 fun a3=>
 ld (.l .slice) (fa (fa a3 0) 0) fun(x4:ay)=>
 ix x4.a x4.n p1 1 fun a5=>
 ld (.l (.int .i64)) a5 fun(x6:Int)=>
 ret (.tuple #[.int .i64 x6,.int .i64 0])))
theorem F.cI.eD.CB.calls(p0:Option Addr)(p1:Int)(h:F.cI.eD.CB p0 p1 Q w):Calls Tryz.prog 103 #[.pointer p0,.int .i64 p1] w (aC Q):=
 Tryz.cd az.z Tryz.func103 (by kernel_rfl) (es:=[.va (.pointer p0),.va (.int .i64 p1)]) rfl (by kernel_rfl) h
def F.head.EY(p0:Int):Tree:=
 nw 103 (zc Tryz.prog 103) fun b1=>
 br (decide ((p0:Int)<0))
 (st (⟨b1,0,none⟩) [.int .i64 0,.int .i64 0,.int .i64 0,.bool false]<|
 ld (.g [.int .i64,.int .i64,.int .i64,.bool]) (⟨b1,0,none⟩) fun(x2:LTs _)=>
 ret (.tuple #[.agg #[.int .i64 x2.1,.int .i64 x2.2.1,.int .i64 x2.2.2.1,.bool x2.2.2.2.1],.bool false]))
 (bQ ((8:Int)≠0)<|
 bQ ((8:Int)≠0)<|
 bQ ((2:Int)≠0)<|
 bQ ((65536:Int)≠0)<|
 bQ ((16:Int)≠0)<|
 bQ ((65536:Int)≠0)<|
 nw 103 (zc Tryz.prog 103) fun b2=>
 st (⟨b2,0,none⟩) [.int .i64 (Int.tmod p0 8),.int .i64 (IntKind.wrap .i64 (Int.tdiv (Int.tmod p0 65536) 16)),.int .i64 (IntKind.wrap .i64 (Int.tdiv p0 65536)),.bool ((Int.tmod (IntKind.wrap .i64 (Int.tdiv p0 8)) 2:Int)==1)]<|
 ld (.g [.int .i64,.int .i64,.int .i64,.bool]) (⟨b2,0,none⟩) fun(x3:LTs _)=>
 call Tryz.prog 139 [.agg #[.int .i64 x3.1,.int .i64 x3.2.1,.int .i64 x3.2.2.1,.bool x3.2.2.2.1]] (.many [.l (.int .i64),.l .bool]) fun(r4:KTs _)=>
 br (!r4.2.1)
 (st (⟨b1,0,none⟩) [.int .i64 0,.int .i64 0,.int .i64 0,.bool false]<|
 ld (.g [.int .i64,.int .i64,.int .i64,.bool]) (⟨b1,0,none⟩) fun(x5:LTs _)=>
 ret (.tuple #[.agg #[.int .i64 x5.1,.int .i64 x5.2.1,.int .i64 x5.2.2.1,.bool x5.2.2.2.1],.bool false]))
 (br ((r4.1:Int) != p0)
 (st (⟨b1,0,none⟩) [.int .i64 0,.int .i64 0,.int .i64 0,.bool false]<|
 ld (.g [.int .i64,.int .i64,.int .i64,.bool]) (⟨b1,0,none⟩) fun(x5:LTs _)=>
 ret (.tuple #[.agg #[.int .i64 x5.1,.int .i64 x5.2.1,.int .i64 x5.2.2.1,.bool x5.2.2.2.1],.bool false]))
 (ld (.g [.int .i64,.int .i64,.int .i64,.bool]) (⟨b2,0,none⟩) fun(x5:LTs _)=>
 st (⟨b1,0,none⟩) [.int .i64 x5.1,.int .i64 x5.2.1,.int .i64 x5.2.2.1,.bool x5.2.2.2.1]<|
 ld (.g [.int .i64,.int .i64,.int .i64,.bool]) (⟨b1,0,none⟩) fun(x6:LTs _)=>
 ret (.tuple #[.agg #[.int .i64 x6.1,.int .i64 x6.2.1,.int .i64 x6.2.2.1,.bool x6.2.2.2.1],.bool true]))))
theorem F.head.EY.calls(p0:Int)(h:F.head.EY p0 Q w):Calls Tryz.prog 104 #[.int .i64 p0] w (aC Q):=
 Tryz.cd az.z Tryz.func104 (by kernel_rfl) (es:=[.va (.int .i64 p0)]) rfl (by kernel_rfl) h
def F.object.ch.field(p0:Option Addr)(p1:Int)(p2:Int):Tree:=
 call Tryz.prog 61 [.pointer p0,.int .i64 p1] (.many [.g [.int .i64,.int .i64,.int .i64,.bool],.l (.int .i64)]) fun(r1:KTs _)=>
 nw 103 (zc Tryz.prog 103) fun b2=>
 st (⟨b2,0,none⟩) [.int .i64 r1.1.1,.int .i64 r1.1.2.1,.int .i64 r1.1.2.2.1,.bool r1.1.2.2.2.1]<|
 br ((r1.2.1:Int) != 0)
 (ret (.tuple #[.int .i64 0,.int .i64 r1.2.1]))
 (br (decide ((p2:Int)<0))
 (ret (.tuple #[.int .i64 0,.int .i64 1]))
 (ld (.l (.int .i64)) (fa (⟨b2,0,none⟩) 2) fun(x3:Int)=>
 br (decide ((p2:Int)≥x3))
 (ret (.tuple #[.int .i64 0,.int .i64 1]))
 (ret (.tuple #[.int .i64 (IntKind.wrap .i64 ((IntKind.wrap .i64 (p1+1))+p2)),.int .i64 0]))))
theorem F.object.ch.field.calls(p0:Option Addr)(p1:Int)(p2:Int)(h:F.object.ch.field p0 p1 p2 Q w):Calls Tryz.prog 105 #[.pointer p0,.int .i64 p1,.int .i64 p2] w (aC Q):=
 Tryz.cd az.z Tryz.func105 (by kernel_rfl) (es:=[.va (.pointer p0),.va (.int .i64 p1),.va (.int .i64 p2)]) rfl (by kernel_rfl) h
def F.cI.eD.Len(p0:Option Addr):Tree:=
 br (Option.isNone p0)
 (ret (.int .i64 0))
 (nn p0 fun a1=>
 ld (.l .slice) (fa (fa a1 0) 0) fun(x2:ay)=>
 ret (.int .i64 (x2.n:Nat)))
theorem F.cI.eD.Len.calls(p0:Option Addr)(h:F.cI.eD.Len p0 Q w):Calls Tryz.prog 108 #[.pointer p0] w (aC Q):=
 Tryz.cd az.z Tryz.func108 (by kernel_rfl) (es:=[.va (.pointer p0)]) rfl (by kernel_rfl) h
def F.bits.Bits.Has(p0:Option Addr)(p1:Int):Tree:=
 call Tryz.prog 140 [.pointer p0,.int .i64 p1] (.one (.l .bool)) fun(r1:Bool)=>
 br r1
 (nn p0 fun a2=>
 ld (.l .slice) (fa a2 0) fun(x3:ay)=>
 ix x3.a x3.n p1 1 fun a4=>
 ld (.l .bool) a4 fun(x5:Bool)=>
 ret (.bool x5))
 (ret (.bool false))
theorem F.bits.Bits.Has.calls(p0:Option Addr)(p1:Int)(h:F.bits.Bits.Has p0 p1 Q w):Calls Tryz.prog 109 #[.pointer p0,.int .i64 p1] w (aC Q):=
 Tryz.cd az.z Tryz.func109 (by kernel_rfl) (es:=[.va (.pointer p0),.va (.int .i64 p1)]) rfl (by kernel_rfl) h
def F.cz.pz.T:az:=⟨(fun
 |3=>[(5,.int .i64),(12,.int .i64)]
 |_=>[]),
 fun _=>none,
 fun _=> .quiet⟩
def F.cz.pz(p0:Option Addr)(p1:ay):Tree:=
 call Tryz.prog 151 [.pointer p0,.slice p1.a p1.n p1.c] (.one (.l .slice)) fun(r1:ay)=>
 lp [.int .i64,.int .i64] (fun X2 u3=>
 br (decide ((u3.2.1:Int)<(r1.n:Nat)))
 (ix r1.a r1.n u3.2.1 1 fun a4=>
 ld (.l (.int .i64)) a4 fun(x5:Int)=>
 nn p0 fun a6=>
 ld (.l .ptr) (fa a6 0) fun(x7:Option Addr)=>
 call Tryz.prog 152 [.pointer x7,.int .i64 x5] (.one (.l (.int .i64))) fun(r8:Int)=>
 br ((r8:Int)==0)
 (X2 (IntKind.wrap .i64 (u3.1+1),IntKind.wrap .i64 (u3.2.1+1),()))
 (X2 (u3.1,IntKind.wrap .i64 (u3.2.1+1),())))
 (ret (.int .i64 u3.1))) (0,0,())
theorem F.cz.pz.calls(p0:Option Addr)(p1:ay)(h:F.cz.pz p0 p1 Q w):Calls Tryz.prog 113 #[.pointer p0,.slice p1.a p1.n p1.c] w (aC Q):=
 Tryz.cd F.cz.pz.T Tryz.func113 (by kernel_rfl) (es:=[.va (.pointer p0),.va (.slice p1.a p1.n p1.c)]) rfl (by kernel_rfl) h
def F.cI.dc(p0:Int):Tree:=
 br (decide ((p0:Int)<1))
 (ret (.tuple #[.pointer none,.int .i64 1]))
 (br (decide ((p0:Int)>256))
 (ret (.tuple #[.pointer none,.int .i64 1]))
 (c9 Tryz.prog (Instr.makeSlice 46 (.int .i64 (IntKind.wrap .i64 (p0*64))) (.int .i64 (IntKind.wrap .i64 (p0*64)))) (.one (.l .slice)) fun(r1:ay)=>
 nw 208 [.slice r1.a r1.n r1.c] fun b2=>
 ret (.tuple #[.pointer (some (⟨b2,0,none⟩)),.int .i64 0])))
theorem F.cI.dc.calls(p0:Int)(h:F.cI.dc p0 Q w):Calls Tryz.prog 114 #[.int .i64 p0] w (aC Q):=
 Tryz.cd az.z Tryz.func114 (by kernel_rfl) (es:=[.va (.int .i64 p0)]) rfl (by kernel_rfl) h
def F.dj.dc(p0:Int):Tree:=
 br (decide ((p0:Int)<1))
 (ret (.tuple #[.pointer none,.int .i64 1]))
 (br (decide ((p0:Int)>256))
 (ret (.tuple #[.pointer none,.int .i64 1]))
 (call Tryz.prog 153 [.int .i64 p0] (.many [.l .ptr,.l (.int .i64)]) fun(r1:KTs _)=>
 br ((r1.2.1:Int) != 0)
 (ret (.tuple #[.pointer none,.int .i64 r1.2.1]))
 (nw 3 [.int .i64 0] fun b2=>
 call Tryz.prog 154 [.pointer r1.1,.bool true,.slice (some ⟨b2,0,none⟩) 1 1] (.one (.l (.int .i64))) fun(r3:Int)=>
 nw 230 [.pointer r1.1] fun b4=>
 ret (.tuple #[.pointer (some (⟨b4,0,none⟩)),.int .i64 0]))))
theorem F.dj.dc.calls(p0:Int)(h:F.dj.dc p0 Q w):Calls Tryz.prog 115 #[.int .i64 p0] w (aC Q):=
 Tryz.cd az.z Tryz.func115 (by kernel_rfl) (es:=[.va (.int .i64 p0)]) rfl (by kernel_rfl) h
def F.class.Table.Add.T:az:=⟨fun _=>[],
 fun _=>none,
 (fun
 |7=> .held (some 8) (.go 0 false (.go 1 false (.go 2 false (.go 3 false (.go 4 false (.go 5 false (.go 6 false (.go 7 false (.go 8 true (.go 9 false (.go 10 false (.go 11 false .nil))))))))))))
 |_=> .quiet)⟩
def F.class.Table.Add(p0:Option Addr)(p1:LTs [.int .i64,.slice]):Tree:=
 nw 141 [.int .i64 p1.1,.slice p1.2.1.a p1.2.1.n p1.2.1.c] fun b1=>
 br (Option.isNone p0)
 (ret (.tuple #[.int .i64 0,.int .i64 2]))
 (ld (.g [.int .i64,.slice]) (⟨b1,0,none⟩) fun(x2:LTs _)=>
 call Tryz.prog 155 [.agg #[.int .i64 x2.1,.slice x2.2.1.a x2.2.1.n x2.2.1.c]] (.one (.l .bool)) fun(r3:Bool)=>
 br (!r3)
 (ret (.tuple #[.int .i64 0,.int .i64 1]))
 (nn p0 fun a4=>
 ld (.l .slice) (fa a4 0) fun(x5:ay)=>
 br (decide (((x5.n:Nat):Int)≥256))
 (ret (.tuple #[.int .i64 0,.int .i64 3]))
 (dI<|Gl.held fun S6=>
 nn p0 fun a7=>
 bm S6 (.l .slice) (fa a7 0) fun(x8:ay)=>
 bm S6 (.g [.int .i64,.slice]) (⟨b1,0,none⟩) fun(x9:LTs _)=>
 call Tryz.prog 118 [.agg #[.int .i64 x9.1,.slice x9.2.1.a x9.2.1.n x9.2.1.c]] (.one (.g [.int .i64,.slice])) fun(r10:LTs _)=>
 fX S6<|
 nw 141 [.int .i64 r10.1,.slice r10.2.1.a r10.2.1.n r10.2.1.c] fun b11=>
 fX S6<|
 c9 Tryz.prog (Builtin.append_ #[188,188] 188 #[.slice x8.a x8.n x8.c,.slice (some ⟨b11,0,none⟩) 1 1]) (.one (.l .slice)) fun(r12:ay)=>
 nn p0 fun a13=>
 st (fa a13 0) [.slice r12.a r12.n r12.c]<|
 nn p0 fun a14=>
 ld (.l .slice) (fa a14 0) fun(x15:ay)=>
 ret (.tuple #[.int .i64 (x15.n:Nat),.int .i64 0]))))
theorem F.class.Table.Add.calls(p0:Option Addr)(p1:LTs [.int .i64,.slice])(h:F.class.Table.Add p0 p1 Q w):Calls Tryz.prog 116 #[.pointer p0,.agg #[.int .i64 p1.1,.slice p1.2.1.a p1.2.1.n p1.2.1.c]] w (aC Q):=
 Tryz.cd F.class.Table.Add.T Tryz.func116 (by kernel_rfl) (es:=[.va (.pointer p0),.va (.agg #[.int .i64 p1.1,.slice p1.2.1.a p1.2.1.n p1.2.1.c])]) rfl (by kernel_rfl) h
def F.class.Table.Classes(p0:Option Addr):Tree:=
 br (Option.isNone p0)
 (ret (.int .i64 0))
 (nn p0 fun a1=>
 ld (.l .slice) (fa a1 0) fun(x2:ay)=>
 ret (.int .i64 (x2.n:Nat)))
theorem F.class.Table.Classes.calls(p0:Option Addr)(h:F.class.Table.Classes p0 Q w):Calls Tryz.prog 117 #[.pointer p0] w (aC Q):=
 Tryz.cd az.z Tryz.func117 (by kernel_rfl) (es:=[.va (.pointer p0)]) rfl (by kernel_rfl) h
def F.class.own.T:az:=⟨fun _=>[],
 fun _=>none,
 (fun
 |1=> .held (some 6) (.go 0 false (.go 1 false (.go 2 false (.go 3 false (.go 4 false (.go 5 false (.go 6 true .nil)))))))
 |_=> .quiet)⟩
def F.class.own(p0:LTs [.int .i64,.slice]):Tree:=
 nw 141 [.int .i64 p0.1,.slice p0.2.1.a p0.2.1.n p0.2.1.c] fun b1=>
 nw 141 (zc Tryz.prog 141) fun b2=>
 dI<|Gl.held fun S3=>
 bm S3 (.l (.int .i64)) (fa (⟨b1,0,none⟩) 0) fun(x4:Int)=>
 bm S3 (.l .slice) (fa (⟨b1,0,none⟩) 1) fun(x5:ay)=>
 call Tryz.prog 64 [.slice x5.a x5.n x5.c] (.one (.l .slice)) fun(r6:ay)=>
 fX S3<|
 st (⟨b2,0,none⟩) [.int .i64 x4,.slice r6.a r6.n r6.c]<|
 ld (.g [.int .i64,.slice]) (⟨b2,0,none⟩) fun(x7:LTs _)=>
 ret (.agg #[.int .i64 x7.1,.slice x7.2.1.a x7.2.1.n x7.2.1.c])
theorem F.class.own.calls(p0:LTs [.int .i64,.slice])(h:F.class.own p0 Q w):Calls Tryz.prog 118 #[.agg #[.int .i64 p0.1,.slice p0.2.1.a p0.2.1.n p0.2.1.c]] w (aC Q):=
 Tryz.cd F.class.own.T Tryz.func118 (by kernel_rfl) (es:=[.va (.agg #[.int .i64 p0.1,.slice p0.2.1.a p0.2.1.n p0.2.1.c])]) rfl (by kernel_rfl) h
def F.object.ch.Make.T:az:=⟨fun _=>[],
 fun _=>none,
 (fun
 |6=> .held (some 7) (.go 0 false (.go 1 false (.go 2 false (.go 3 false (.go 4 false (.go 5 false (.go 6 false (.go 7 true (.go 8 false (.go 9 false (.go 10 false (.go 11 false (.go 12 false .nil)))))))))))))
 |_=> .quiet)⟩
def F.object.ch.Make(p0:Option Addr)(p1:LTs [.int .i64,.int .i64,.int .i64,.bool]):Tree:=
 nw 103 [.int .i64 p1.1,.int .i64 p1.2.1,.int .i64 p1.2.2.1,.bool p1.2.2.2.1] fun b1=>
 br (Option.isNone p0)
 (ret (.tuple #[.int .i64 0,.int .i64 2]))
 (ld (.g [.int .i64,.int .i64,.int .i64,.bool]) (⟨b1,0,none⟩) fun(x2:LTs _)=>
 call Tryz.prog 156 [.pointer p0,.agg #[.int .i64 x2.1,.int .i64 x2.2.1,.int .i64 x2.2.2.1,.bool x2.2.2.2.1]] (.one (.l (.int .i64))) fun(r3:Int)=>
 br ((r3:Int) != 0)
 (ret (.tuple #[.int .i64 0,.int .i64 r3]))
 (dI<|Gl.held fun S4=>
 nn p0 fun a5=>
 bm S4 (.l .ptr) (fa a5 0) fun(x6:Option Addr)=>
 bm S4 (.l (.int .i64)) (fa (⟨b1,0,none⟩) 2) fun(x7:Int)=>
 call Tryz.prog 157 [.pointer x6,.int .i64 (IntKind.wrap .i64 (x7+1))] (.many [.l (.int .i64),.l (.int .i64)]) fun(r8:KTs _)=>
 br ((r8.2.1:Int) != 0)
 (ret (.tuple #[.int .i64 0,.int .i64 r8.2.1]))
 (ld (.g [.int .i64,.int .i64,.int .i64,.bool]) (⟨b1,0,none⟩) fun(x9:LTs _)=>
 call Tryz.prog 139 [.agg #[.int .i64 x9.1,.int .i64 x9.2.1,.int .i64 x9.2.2.1,.bool x9.2.2.2.1]] (.many [.l (.int .i64),.l .bool]) fun(r10:KTs _)=>
 nn p0 fun a11=>
 ld (.l .ptr) (fa a11 0) fun(x12:Option Addr)=>
 nn x12 fun a13=>
 ld (.l .ptr) (fa a13 0) fun(x14:Option Addr)=>
 call Tryz.prog 125 [.pointer x14,.int .i64 r8.1,.int .i64 r10.1] (.one (.l (.int .i64))) fun(r15:Int)=>
 ret (.tuple #[.int .i64 r8.1,.int .i64 r15]))))
theorem F.object.ch.Make.calls(p0:Option Addr)(p1:LTs [.int .i64,.int .i64,.int .i64,.bool])(h:F.object.ch.Make p0 p1 Q w):Calls Tryz.prog 120 #[.pointer p0,.agg #[.int .i64 p1.1,.int .i64 p1.2.1,.int .i64 p1.2.2.1,.bool p1.2.2.2.1]] w (aC Q):=
 Tryz.cd F.object.ch.Make.T Tryz.func120 (by kernel_rfl) (es:=[.va (.pointer p0),.va (.agg #[.int .i64 p1.1,.int .i64 p1.2.1,.int .i64 p1.2.2.1,.bool p1.2.2.2.1])]) rfl (by kernel_rfl) h
def F.object.ch.Refs.T:az:=⟨fun _=>[],
 fun _=>none,
 (fun
 |6=> .held (some 6) (.go 0 false (.go 1 false (.go 2 false (.go 3 false (.go 4 false (.go 5 false (.two (.go 6 true (.go 7 false (.go 8 false (.go 9 false (.go 10 false (.go 11 false (.go 12 false .nil))))))) (.go 10 false (.go 6 true (.go 7 false (.go 8 false (.go 9 false (.go 11 false (.go 12 false .nil))))))))))))))
 |_=> .quiet)⟩
def F.object.ch.Refs(p0:Option Addr)(p1:Int):Tree:=
 call Tryz.prog 61 [.pointer p0,.int .i64 p1] (.many [.g [.int .i64,.int .i64,.int .i64,.bool],.l (.int .i64)]) fun(r1:KTs _)=>
 nw 103 (zc Tryz.prog 103) fun b2=>
 st (⟨b2,0,none⟩) [.int .i64 r1.1.1,.int .i64 r1.1.2.1,.int .i64 r1.1.2.2.1,.bool r1.1.2.2.2.1]<|
 br ((r1.2.1:Int) != 0)
 (ret (.slice none 0 0))
 (ld (.l (.int .i64)) (fa (⟨b2,0,none⟩) 0) fun(x3:Int)=>
 br ((x3:Int)==1)
 (dI<|Gl.held fun S4=>
 nn p0 fun a5=>
 bm S4 (.l .ptr) (fa a5 1) fun(x6:Option Addr)=>
 bm S4 (.l (.int .i64)) (fa (⟨b2,0,none⟩) 1) fun(x7:Int)=>
 both
 (call Tryz.prog 75 [.pointer x6,.int .i64 x7] (.many [.g [.int .i64,.slice],.l (.int .i64)]) fun(r8:KTs _)=>
 nw 141 (zc Tryz.prog 141) fun b9=>
 st (⟨b9,0,none⟩) [.int .i64 r8.1.1,.slice r8.1.2.1.a r8.1.2.1.n r8.1.2.1.c]<|
 ld (.l .slice) (fa (⟨b9,0,none⟩) 1) fun(x10:ay)=>
 ret (.slice x10.a x10.n x10.c))
 (nw 141 (zc Tryz.prog 141) fun b11=>
 fX S4<|
 call Tryz.prog 75 [.pointer x6,.int .i64 x7] (.many [.g [.int .i64,.slice],.l (.int .i64)]) fun(r12:KTs _)=>
 st (⟨b11,0,none⟩) [.int .i64 r12.1.1,.slice r12.1.2.1.a r12.1.2.1.n r12.1.2.1.c]<|
 ld (.l .slice) (fa (⟨b11,0,none⟩) 1) fun(x13:ay)=>
 ret (.slice x13.a x13.n x13.c)))
 (br ((x3:Int)==2)
 (ld (.l (.int .i64)) (fa (⟨b2,0,none⟩) 2) fun(x4:Int)=>
 call Tryz.prog 158 [.int .i64 x4] (.one (.l .slice)) fun(r5:ay)=>
 ret (.slice r5.a r5.n r5.c))
 (br ((x3:Int)==4)
 (nw 3 [.int .i64 2] fun b4=>
 ret (.slice (some ⟨b4,0,none⟩) 1 1))
 (ret (.slice none 0 0)))))
theorem F.object.ch.Refs.calls(p0:Option Addr)(p1:Int)(h:F.object.ch.Refs p0 p1 Q w):Calls Tryz.prog 123 #[.pointer p0,.int .i64 p1] w (aC Q):=
 Tryz.cd F.object.ch.Refs.T Tryz.func123 (by kernel_rfl) (es:=[.va (.pointer p0),.va (.int .i64 p1)]) rfl (by kernel_rfl) h
def F.cI.eD.wJ(p0:Option Addr)(p1:Int)(p2:Int):Tree:=
 br (Option.isNone p0)
 (ret (.int .i64 2))
 (nn p0 fun a1=>
 call Tryz.prog 138 [.pointer (some (fa a1 0)),.int .i64 p1] (.one (.l .bool)) fun(r2:Bool)=>
 br (!r2)
 (ret (.int .i64 2))
 (nn p0 fun a3=>
 ld (.l .slice) (fa (fa a3 0) 0) fun(x4:ay)=>
 ix x4.a x4.n p1 1 fun a5=>
 st a5 [.int .i64 p2]<|
 ret (.int .i64 0)))
theorem F.cI.eD.wJ.calls(p0:Option Addr)(p1:Int)(p2:Int)(h:F.cI.eD.wJ p0 p1 p2 Q w):Calls Tryz.prog 125 #[.pointer p0,.int .i64 p1,.int .i64 p2] w (aC Q):=
 Tryz.cd az.z Tryz.func125 (by kernel_rfl) (es:=[.va (.pointer p0),.va (.int .i64 p1),.va (.int .i64 p2)]) rfl (by kernel_rfl) h
def F.object.ch.wW(p0:Option Addr)(p1:Int):Tree:=
 call Tryz.prog 61 [.pointer p0,.int .i64 p1] (.many [.g [.int .i64,.int .i64,.int .i64,.bool],.l (.int .i64)]) fun(r1:KTs _)=>
 nw 103 (zc Tryz.prog 103) fun b2=>
 st (⟨b2,0,none⟩) [.int .i64 r1.1.1,.int .i64 r1.1.2.1,.int .i64 r1.1.2.2.1,.bool r1.1.2.2.2.1]<|
 br ((r1.2.1:Int) != 0)
 (ret (.int .i64 r1.2.1))
 (ld (.l (.int .i64)) (fa (⟨b2,0,none⟩) 0) fun(x3:Int)=>
 br ((x3:Int)==4)
 (ret (.int .i64 5))
 (ld (.l .bool) (fa (⟨b2,0,none⟩) 3) fun(x4:Bool)=>
 br x4
 (ret (.int .i64 4))
 (st (fa (⟨b2,0,none⟩) 3) [.bool true]<|
 ld (.g [.int .i64,.int .i64,.int .i64,.bool]) (⟨b2,0,none⟩) fun(x5:LTs _)=>
 call Tryz.prog 139 [.agg #[.int .i64 x5.1,.int .i64 x5.2.1,.int .i64 x5.2.2.1,.bool x5.2.2.2.1]] (.many [.l (.int .i64),.l .bool]) fun(r6:KTs _)=>
 nn p0 fun a7=>
 ld (.l .ptr) (fa a7 0) fun(x8:Option Addr)=>
 nn x8 fun a9=>
 ld (.l .ptr) (fa a9 0) fun(x10:Option Addr)=>
 call Tryz.prog 125 [.pointer x10,.int .i64 p1,.int .i64 r6.1] (.one (.l (.int .i64))) fun(r11:Int)=>
 ret (.int .i64 r11))))
theorem F.object.ch.wW.calls(p0:Option Addr)(p1:Int)(h:F.object.ch.wW p0 p1 Q w):Calls Tryz.prog 132 #[.pointer p0,.int .i64 p1] w (aC Q):=
 Tryz.cd az.z Tryz.func132 (by kernel_rfl) (es:=[.va (.pointer p0),.va (.int .i64 p1)]) rfl (by kernel_rfl) h
def F.bits.Bits.Bs(p0:Option Addr):Tree:=
 br (Option.isNone p0)
 (ret (.int .i64 0))
 (nn p0 fun a1=>
 ld (.l .slice) (fa a1 0) fun(x2:ay)=>
 ret (.int .i64 (x2.n:Nat)))
theorem F.bits.Bits.Bs.calls(p0:Option Addr)(h:F.bits.Bits.Bs p0 Q w):Calls Tryz.prog 135 #[.pointer p0] w (aC Q):=
 Tryz.cd az.z Tryz.func135 (by kernel_rfl) (es:=[.va (.pointer p0)]) rfl (by kernel_rfl) h
def F.cI.words.has(p0:Option Addr)(p1:Int):Tree:=
 br (decide ((p1:Int)≥0))
 (nn p0 fun a1=>
 ld (.l .slice) (fa a1 0) fun(x2:ay)=>
 ret (.bool (decide ((p1:Int)<(x2.n:Nat)))))
 (ret (.bool false))
theorem F.cI.words.has.calls(p0:Option Addr)(p1:Int)(h:F.cI.words.has p0 p1 Q w):Calls Tryz.prog 138 #[.pointer p0,.int .i64 p1] w (aC Q):=
 Tryz.cd az.z Tryz.func138 (by kernel_rfl) (es:=[.va (.pointer p0),.va (.int .i64 p1)]) rfl (by kernel_rfl) h
def F.head.CV(p0:LTs [.int .i64,.int .i64,.int .i64,.bool]):Tree:=
 nw 103 [.int .i64 p0.1,.int .i64 p0.2.1,.int .i64 p0.2.2.1,.bool p0.2.2.2.1] fun b1=>
 ld (.g [.int .i64,.int .i64,.int .i64,.bool]) (⟨b1,0,none⟩) fun(x2:LTs _)=>
 call Tryz.prog 171 [.agg #[.int .i64 x2.1,.int .i64 x2.2.1,.int .i64 x2.2.2.1,.bool x2.2.2.2.1]] (.one (.l .bool)) fun(r3:Bool)=>
 br (!r3)
 (ret (.tuple #[.int .i64 0,.bool false]))
 (ld (.l (.int .i64)) (fa (⟨b1,0,none⟩) 0) fun(x4:Int)=>
 ld (.l (.int .i64)) (fa (⟨b1,0,none⟩) 1) fun(x5:Int)=>
 ld (.l (.int .i64)) (fa (⟨b1,0,none⟩) 2) fun(x6:Int)=>
 ld (.l .bool) (fa (⟨b1,0,none⟩) 3) fun(x7:Bool)=>
 br x7
 (ret (.tuple #[.int .i64 (IntKind.wrap .i64 ((IntKind.wrap .i64 ((IntKind.wrap .i64 (x4+(IntKind.wrap .i64 (16*x5))))+(IntKind.wrap .i64 (65536*x6))))+8)),.bool true]))
 (ret (.tuple #[.int .i64 (IntKind.wrap .i64 ((IntKind.wrap .i64 (x4+(IntKind.wrap .i64 (16*x5))))+(IntKind.wrap .i64 (65536*x6)))),.bool true])))
theorem F.head.CV.calls(p0:LTs [.int .i64,.int .i64,.int .i64,.bool])(h:F.head.CV p0 Q w):Calls Tryz.prog 139 #[.agg #[.int .i64 p0.1,.int .i64 p0.2.1,.int .i64 p0.2.2.1,.bool p0.2.2.2.1]] w (aC Q):=
 Tryz.cd az.z Tryz.func139 (by kernel_rfl) (es:=[.va (.agg #[.int .i64 p0.1,.int .i64 p0.2.1,.int .i64 p0.2.2.1,.bool p0.2.2.2.1])]) rfl (by kernel_rfl) h
def F.bits.Bits.place(p0:Option Addr)(p1:Int):Tree:=
 br (decide ((p1:Int)≥0))
 (call Tryz.prog 135 [.pointer p0] (.one (.l (.int .i64))) fun(r1:Int)=>
 ret (.bool (decide ((p1:Int)<r1))))
 (ret (.bool false))
theorem F.bits.Bits.place.calls(p0:Option Addr)(p1:Int)(h:F.bits.Bits.place p0 p1 Q w):Calls Tryz.prog 140 #[.pointer p0,.int .i64 p1] w (aC Q):=
 Tryz.cd az.z Tryz.func140 (by kernel_rfl) (es:=[.va (.pointer p0),.va (.int .i64 p1)]) rfl (by kernel_rfl) h
def F.cz.uS.T:az:=⟨(fun
 |5=>[(16,.int .i64)]
 |11=>[(8,.slice),(29,.int .i64)]
 |_=>[]),
 fun _=>none,
 fun _=> .quiet⟩
def F.cz.uS(p0:Option Addr)(p1:ay):Tree:=
 br (Option.isNone p0)
 (ret (.slice none 0 0))
 (Ej fun b1=>
 lp [.int .i64] (fun X2 u3=>
 br (decide ((u3.1:Int)<(p1.n:Nat)))
 (ix p1.a p1.n u3.1 1 fun a4=>
 ld (.l (.int .i64)) a4 fun(x5:Int)=>
 fz Tryz.prog (Instr.mapUpdate 257 (.map (some b1)) (.int .i64 x5) (.bool true))<|
 X2 (IntKind.wrap .i64 (u3.1+1),()))
 (nn p0 fun a4=>
 ld (.l .ptr) (fa a4 0) fun(x5:Option Addr)=>
 call Tryz.prog 60 [.pointer x5] (.one (.l .slice)) fun(r6:ay)=>
 lp [.slice,.int .i64] (fun X7 u8=>
 br (decide ((u8.2.1:Int)<(r6.n:Nat)))
 (ix r6.a r6.n u8.2.1 1 fun a9=>
 ld (.l (.int .i64)) a9 fun(x10:Int)=>
 c9 Tryz.prog (Instr.lookup 257 (.map (some b1)) (.int .i64 x10) false) (.one (.l .bool)) fun(r11:Bool)=>
 br (!r11)
 (nw 3 [.int .i64 x10] fun b12=>
 c9 Tryz.prog (Builtin.append_ #[46,46] 46 #[.slice u8.1.a u8.1.n u8.1.c,.slice (some ⟨b12,0,none⟩) 1 1]) (.one (.l .slice)) fun(r13:ay)=>
 X7 (⟨r13.a,r13.n,r13.c⟩,IntKind.wrap .i64 (u8.2.1+1),()))
 (X7 (⟨u8.1.a,u8.1.n,u8.1.c⟩,IntKind.wrap .i64 (u8.2.1+1),())))
 (ret (.slice u8.1.a u8.1.n u8.1.c))) (⟨none,0,0⟩,0,()))) (0,()))
theorem F.cz.uS.calls(p0:Option Addr)(p1:ay)(h:F.cz.uS p0 p1 Q w):Calls Tryz.prog 151 #[.pointer p0,.slice p1.a p1.n p1.c] w (aC Q):=
 Tryz.cd F.cz.uS.T Tryz.func151 (by kernel_rfl) (es:=[.va (.pointer p0),.va (.slice p1.a p1.n p1.c)]) rfl (by kernel_rfl) h
def F.space.bn.CI(p0:Option Addr)(p1:Int):Tree:=
 call Tryz.prog 67 [.pointer p0,.int .i64 p1] (.many [.l (.int .i64),.l (.int .i64),.l .bool]) fun(r1:KTs _)=>
 br (!r1.2.2.1)
 (ret (.int .i64 2))
 (br ((r1.1:Int) != p1)
 (ret (.int .i64 2))
 (bQ ((64:Int)≠0)<|
 nn p0 fun a2=>
 ld (.l .map) (fa a2 2) fun(x3:Option Nat)=>
 c9 Tryz.prog (Instr.lookup 162 (.map x3) (.int .i64 (IntKind.wrap .i64 (Int.tdiv p1 64))) true) (.many [.l .ptr,.l .bool]) fun(r4:KTs _)=>
 br (!r4.2.1)
 (nn p0 fun a5=>
 ld (.l .map) (fa a5 3) fun(x6:Option Nat)=>
 c9 Tryz.prog (Instr.lookup 163 (.map x6) (.int .i64 (IntKind.wrap .i64 (Int.tdiv p1 64))) false) (.one (.l (.int .i64))) fun(r7:Int)=>
 nn p0 fun a8=>
 ld (.l .map) (fa a8 3) fun(x9:Option Nat)=>
 c9 Tryz.prog (Builtin.delete_ #[163,3] 0 #[.map x9,.int .i64 (IntKind.wrap .i64 (Int.tdiv p1 64))]) (.many []) fun(r10:KTs _)=>
 nn p0 fun a11=>
 ld (.l .ptr) (fa a11 1) fun(x12:Option Addr)=>
 call Tryz.prog 189 [.pointer x12,.int .i64 (IntKind.wrap .i64 (Int.tdiv p1 64)),.int .i64 r7] (.one (.l (.int .i64))) fun(r13:Int)=>
 ret (.int .i64 r13))
 (bQ ((64:Int)≠0)<|
 call Tryz.prog 101 [.pointer r4.1] (.one (.l (.int .i64))) fun(r5:Int)=>
 bQ ((r5:Int)≠0)<|
 call Tryz.prog 190 [.pointer r4.1,.int .i64 (IntKind.wrap .i64 (Int.tdiv (Int.tmod p1 64) r5))] (.one (.l (.int .i64))) fun(r6:Int)=>
 br ((r6:Int) != 0)
 (ret (.int .i64 r6))
 (call Tryz.prog 191 [.pointer r4.1] (.one (.l .bool)) fun(r7:Bool)=>
 br (!r7)
 (ret (.int .i64 r6))
 (nn p0 fun a8=>
 ld (.l .map) (fa a8 2) fun(x9:Option Nat)=>
 c9 Tryz.prog (Builtin.delete_ #[162,3] 0 #[.map x9,.int .i64 (IntKind.wrap .i64 (Int.tdiv p1 64))]) (.many []) fun(r10:KTs _)=>
 nn p0 fun a11=>
 ld (.l .ptr) (fa a11 1) fun(x12:Option Addr)=>
 call Tryz.prog 189 [.pointer x12,.int .i64 (IntKind.wrap .i64 (Int.tdiv p1 64)),.int .i64 1] (.one (.l (.int .i64))) fun(r13:Int)=>
 ret (.int .i64 r13))))))
theorem F.space.bn.CI.calls(p0:Option Addr)(p1:Int)(h:F.space.bn.CI p0 p1 Q w):Calls Tryz.prog 152 #[.pointer p0,.int .i64 p1] w (aC Q):=
 Tryz.cd az.z Tryz.func152 (by kernel_rfl) (es:=[.va (.pointer p0),.va (.int .i64 p1)]) rfl (by kernel_rfl) h
def F.bits.dc(p0:Int):Tree:=
 br (decide ((p0:Int)<0))
 (ret (.tuple #[.pointer none,.int .i64 1]))
 (br (decide ((p0:Int)>16384))
 (ret (.tuple #[.pointer none,.int .i64 1]))
 (c9 Tryz.prog (Instr.makeSlice 195 (.int .i64 p0) (.int .i64 p0)) (.one (.l .slice)) fun(r1:ay)=>
 nw 201 [.slice r1.a r1.n r1.c] fun b2=>
 ret (.tuple #[.pointer (some (⟨b2,0,none⟩)),.int .i64 0])))
theorem F.bits.dc.calls(p0:Int)(h:F.bits.dc p0 Q w):Calls Tryz.prog 153 #[.int .i64 p0] w (aC Q):=
 Tryz.cd az.z Tryz.func153 (by kernel_rfl) (es:=[.va (.int .i64 p0)]) rfl (by kernel_rfl) h
def F.bits.Bits.Set.T:az:=⟨(fun
 |4=>[(18,.int .i64)]
 |_=>[]),
 fun _=>none,
 fun _=> .quiet⟩
def F.bits.Bits.Set(p0:Option Addr)(p1:Bool)(p2:ay):Tree:=
 nw 168 [.pointer p0] fun b1=>
 ld (.l .ptr) (⟨b1,0,none⟩) fun(x2:Option Addr)=>
 br (Option.isNone x2)
 (ret (.int .i64 2))
 (call Tryz.prog 192 [.slice p2.a p2.n p2.c,.func (.func 193) #[] #[.pointer (some (⟨b1,0,none⟩))]] (.one (.l .bool)) fun(r3:Bool)=>
 br r3
 (ret (.int .i64 2))
 (lp [.int .i64] (fun X4 u5=>
 br (decide ((u5.1:Int)<(p2.n:Nat)))
 (ix p2.a p2.n u5.1 1 fun a6=>
 ld (.l (.int .i64)) a6 fun(x7:Int)=>
 ld (.l .ptr) (⟨b1,0,none⟩) fun(x8:Option Addr)=>
 nn x8 fun a9=>
 ld (.l .slice) (fa a9 0) fun(x10:ay)=>
 ix x10.a x10.n x7 1 fun a11=>
 st a11 [.bool p1]<|
 X4 (IntKind.wrap .i64 (u5.1+1),()))
 (ret (.int .i64 0))) (0,())))
theorem F.bits.Bits.Set.calls(p0:Option Addr)(p1:Bool)(p2:ay)(h:F.bits.Bits.Set p0 p1 p2 Q w):Calls Tryz.prog 154 #[.pointer p0,.bool p1,.slice p2.a p2.n p2.c] w (aC Q):=
 Tryz.cd F.bits.Bits.Set.T Tryz.func154 (by kernel_rfl) (es:=[.va (.pointer p0),.va (.bool p1),.va (.slice p2.a p2.n p2.c)]) rfl (by kernel_rfl) h
def F.class.may.T:az:=⟨(fun
 |5=>[(3,.int .i64),(17,.int .i64)]
 |_=>[]),
 fun _=>none,
 fun _=> .quiet⟩
def F.class.may(p0:LTs [.int .i64,.slice]):Tree:=
 nw 141 [.int .i64 p0.1,.slice p0.2.1.a p0.2.1.n p0.2.1.c] fun b1=>
 ld (.l (.int .i64)) (fa (⟨b1,0,none⟩) 0) fun(x2:Int)=>
 br (decide ((x2:Int)<0))
 (ret (.bool false))
 (ld (.l (.int .i64)) (fa (⟨b1,0,none⟩) 0) fun(x3:Int)=>
 br (decide ((x3:Int)>1023))
 (ret (.bool false))
 (ld (.l .slice) (fa (⟨b1,0,none⟩) 1) fun(x4:ay)=>
 lp [.int .i64,.int .i64] (fun X5 u6=>
 br (decide ((u6.2.1:Int)<(x4.n:Nat)))
 (ix x4.a x4.n u6.2.1 1 fun a7=>
 ld (.l (.int .i64)) a7 fun(x8:Int)=>
 br (decide ((x8:Int)≤u6.1))
 (ret (.bool false))
 (ld (.l (.int .i64)) (fa (⟨b1,0,none⟩) 0) fun(x9:Int)=>
 br (decide ((x8:Int)≥x9))
 (ret (.bool false))
 (X5 (x8,IntKind.wrap .i64 (u6.2.1+1),()))))
 (ret (.bool true))) ((-1),0,())))
theorem F.class.may.calls(p0:LTs [.int .i64,.slice])(h:F.class.may p0 Q w):Calls Tryz.prog 155 #[.agg #[.int .i64 p0.1,.slice p0.2.1.a p0.2.1.n p0.2.1.c]] w (aC Q):=
 Tryz.cd F.class.may.T Tryz.func155 (by kernel_rfl) (es:=[.va (.agg #[.int .i64 p0.1,.slice p0.2.1.a p0.2.1.n p0.2.1.c])]) rfl (by kernel_rfl) h
def F.object.ch.may.T:az:=⟨fun _=>[],
 fun _=>none,
 (fun
 |5=> .held (some 6) (.go 0 false (.go 1 false (.go 2 false (.go 3 false (.go 4 false (.go 5 false (.two (.go 6 true (.go 7 false (.go 8 false (.go 9 false (.go 10 false (.go 11 false (.go 12 false .nil))))))) (.go 10 false (.go 6 true (.go 7 false (.go 8 false (.go 9 false (.go 11 false (.go 12 false .nil))))))))))))))
 |_=> .quiet)⟩
def F.object.ch.may(p0:Option Addr)(p1:LTs [.int .i64,.int .i64,.int .i64,.bool]):Tree:=
 nw 103 [.int .i64 p1.1,.int .i64 p1.2.1,.int .i64 p1.2.2.1,.bool p1.2.2.2.1] fun b1=>
 ld (.g [.int .i64,.int .i64,.int .i64,.bool]) (⟨b1,0,none⟩) fun(x2:LTs _)=>
 call Tryz.prog 171 [.agg #[.int .i64 x2.1,.int .i64 x2.2.1,.int .i64 x2.2.2.1,.bool x2.2.2.2.1]] (.one (.l .bool)) fun(r3:Bool)=>
 br (!r3)
 (ret (.int .i64 1))
 (ld (.l .bool) (fa (⟨b1,0,none⟩) 3) fun(x4:Bool)=>
 br x4
 (ret (.int .i64 1))
 (ld (.l (.int .i64)) (fa (⟨b1,0,none⟩) 0) fun(x5:Int)=>
 br ((x5:Int) != 1)
 (ret (.int .i64 0))
 (dI<|Gl.held fun S6=>
 nn p0 fun a7=>
 bm S6 (.l .ptr) (fa a7 1) fun(x8:Option Addr)=>
 bm S6 (.l (.int .i64)) (fa (⟨b1,0,none⟩) 1) fun(x9:Int)=>
 both
 (call Tryz.prog 75 [.pointer x8,.int .i64 x9] (.many [.g [.int .i64,.slice],.l (.int .i64)]) fun(r10:KTs _)=>
 nw 141 (zc Tryz.prog 141) fun b11=>
 st (⟨b11,0,none⟩) [.int .i64 r10.1.1,.slice r10.1.2.1.a r10.1.2.1.n r10.1.2.1.c]<|
 br ((r10.2.1:Int) != 0)
 (ret (.int .i64 2))
 (ld (.l (.int .i64)) (fa (⟨b11,0,none⟩) 0) fun(x12:Int)=>
 ld (.l (.int .i64)) (fa (⟨b1,0,none⟩) 2) fun(x13:Int)=>
 br ((x12:Int) != x13)
 (ret (.int .i64 1))
 (ret (.int .i64 0))))
 (nw 141 (zc Tryz.prog 141) fun b14=>
 fX S6<|
 call Tryz.prog 75 [.pointer x8,.int .i64 x9] (.many [.g [.int .i64,.slice],.l (.int .i64)]) fun(r15:KTs _)=>
 st (⟨b14,0,none⟩) [.int .i64 r15.1.1,.slice r15.1.2.1.a r15.1.2.1.n r15.1.2.1.c]<|
 br ((r15.2.1:Int) != 0)
 (ret (.int .i64 2))
 (ld (.l (.int .i64)) (fa (⟨b14,0,none⟩) 0) fun(x16:Int)=>
 ld (.l (.int .i64)) (fa (⟨b1,0,none⟩) 2) fun(x17:Int)=>
 br ((x16:Int) != x17)
 (ret (.int .i64 1))
 (ret (.int .i64 0)))))))
theorem F.object.ch.may.calls(p0:Option Addr)(p1:LTs [.int .i64,.int .i64,.int .i64,.bool])(h:F.object.ch.may p0 p1 Q w):Calls Tryz.prog 156 #[.pointer p0,.agg #[.int .i64 p1.1,.int .i64 p1.2.1,.int .i64 p1.2.2.1,.bool p1.2.2.2.1]] w (aC Q):=
 Tryz.cd F.object.ch.may.T Tryz.func156 (by kernel_rfl) (es:=[.va (.pointer p0),.va (.agg #[.int .i64 p1.1,.int .i64 p1.2.1,.int .i64 p1.2.2.1,.bool p1.2.2.2.1])]) rfl (by kernel_rfl) h
def F.space.bn.Alloc(p0:Option Addr)(p1:Int):Tree:=
 call Tryz.prog 194 [.int .i64 p1] (.one (.l (.int .i64))) fun(r1:Int)=>
 br (Option.isNone p0)
 (ret (.tuple #[.int .i64 0,.int .i64 2]))
 (br ((r1:Int)==0)
 (ret (.tuple #[.int .i64 0,.int .i64 1]))
 (call Tryz.prog 195 [.pointer p0,.int .i64 p1] (.many [.l (.int .i64),.l (.int .i64)]) fun(r2:KTs _)=>
 br ((r2.2.1:Int) != 0)
 (ret (.tuple #[.int .i64 0,.int .i64 r2.2.1]))
 (nn p0 fun a3=>
 ld (.l .ptr) (fa a3 0) fun(x4:Option Addr)=>
 call Tryz.prog 196 [.pointer x4,.int .i64 r2.1,.int .i64 r1] (.one (.l (.int .i64))) fun(r5:Int)=>
 ret (.tuple #[.int .i64 r2.1,.int .i64 r5]))))
theorem F.space.bn.Alloc.calls(p0:Option Addr)(p1:Int)(h:F.space.bn.Alloc p0 p1 Q w):Calls Tryz.prog 157 #[.pointer p0,.int .i64 p1] w (aC Q):=
 Tryz.cd az.z Tryz.func157 (by kernel_rfl) (es:=[.va (.pointer p0),.va (.int .i64 p1)]) rfl (by kernel_rfl) h
def F.object.all.T:az:=⟨(fun
 |3=>[(3,.slice),(6,.int .i64)]
 |_=>[]),
 fun _=>none,
 fun _=> .quiet⟩
def F.object.all(p0:Int):Tree:=
 lp [.slice,.int .i64] (fun X1 u2=>
 br (decide ((u2.2.1:Int)<p0))
 (nw 3 [.int .i64 u2.2.1] fun b3=>
 c9 Tryz.prog (Builtin.append_ #[46,46] 46 #[.slice u2.1.a u2.1.n u2.1.c,.slice (some ⟨b3,0,none⟩) 1 1]) (.one (.l .slice)) fun(r4:ay)=>
 X1 (⟨r4.a,r4.n,r4.c⟩,IntKind.wrap .i64 (u2.2.1+1),()))
 (ret (.slice u2.1.a u2.1.n u2.1.c))) (⟨none,0,0⟩,0,())
theorem F.object.all.calls(p0:Int)(h:F.object.all p0 Q w):Calls Tryz.prog 158 #[.int .i64 p0] w (aC Q):=
 Tryz.cd F.object.all.T Tryz.func158 (by kernel_rfl) (es:=[.va (.int .i64 p0)]) rfl (by kernel_rfl) h
def F.head.EZ(p0:LTs [.int .i64,.int .i64,.int .i64,.bool]):Tree:=
 nw 103 [.int .i64 p0.1,.int .i64 p0.2.1,.int .i64 p0.2.2.1,.bool p0.2.2.2.1] fun b1=>
 ld (.l (.int .i64)) (fa (⟨b1,0,none⟩) 2) fun(x2:Int)=>
 nw 3 [.int .i64 0,.int .i64 1023] fun b3=>
 call Tryz.prog 203 [.int .i64 x2,.slice (some ⟨b3,0,none⟩) 2 2] (.one (.l .bool)) fun(r4:Bool)=>
 br (!r4)
 (ret (.bool false))
 (ld (.l (.int .i64)) (fa (⟨b1,0,none⟩) 0) fun(x5:Int)=>
 br ((x5:Int)==1)
 (ld (.l (.int .i64)) (fa (⟨b1,0,none⟩) 1) fun(x6:Int)=>
 nw 3 [.int .i64 1,.int .i64 256] fun b7=>
 call Tryz.prog 203 [.int .i64 x6,.slice (some ⟨b7,0,none⟩) 2 2] (.one (.l .bool)) fun(r8:Bool)=>
 ret (.bool r8))
 (br ((x5:Int)==2)
 (br ((x5:Int)==2)
 (ld (.l (.int .i64)) (fa (⟨b1,0,none⟩) 1) fun(x6:Int)=>
 nw 3 [.int .i64 0,.int .i64 0] fun b7=>
 call Tryz.prog 203 [.int .i64 x6,.slice (some ⟨b7,0,none⟩) 2 2] (.one (.l .bool)) fun(r8:Bool)=>
 ret (.bool r8))
 (br ((x5:Int)==4)
 (ld (.l (.int .i64)) (fa (⟨b1,0,none⟩) 1) fun(x6:Int)=>
 nw 3 [.int .i64 1,.int .i64 3] fun b7=>
 call Tryz.prog 203 [.int .i64 x6,.slice (some ⟨b7,0,none⟩) 2 2] (.one (.l .bool)) fun(r8:Bool)=>
 br r8
 (ld (.l (.int .i64)) (fa (⟨b1,0,none⟩) 2) fun(x9:Int)=>
 br ((x9:Int)==5)
 (ld (.l .bool) (fa (⟨b1,0,none⟩) 3) fun(x10:Bool)=>
 ret (.bool (!x10)))
 (ret (.bool false)))
 (ret (.bool false)))
 (ret (.bool false))))
 (br ((x5:Int)==3)
 (ld (.l (.int .i64)) (fa (⟨b1,0,none⟩) 1) fun(x6:Int)=>
 nw 3 [.int .i64 0,.int .i64 0] fun b7=>
 call Tryz.prog 203 [.int .i64 x6,.slice (some ⟨b7,0,none⟩) 2 2] (.one (.l .bool)) fun(r8:Bool)=>
 ret (.bool r8))
 (br ((x5:Int)==4)
 (ld (.l (.int .i64)) (fa (⟨b1,0,none⟩) 1) fun(x6:Int)=>
 nw 3 [.int .i64 1,.int .i64 3] fun b7=>
 call Tryz.prog 203 [.int .i64 x6,.slice (some ⟨b7,0,none⟩) 2 2] (.one (.l .bool)) fun(r8:Bool)=>
 br r8
 (ld (.l (.int .i64)) (fa (⟨b1,0,none⟩) 2) fun(x9:Int)=>
 br ((x9:Int)==5)
 (ld (.l .bool) (fa (⟨b1,0,none⟩) 3) fun(x10:Bool)=>
 ret (.bool (!x10)))
 (ret (.bool false)))
 (ret (.bool false)))
 (ret (.bool false))))))
theorem F.head.EZ.calls(p0:LTs [.int .i64,.int .i64,.int .i64,.bool])(h:F.head.EZ p0 Q w):Calls Tryz.prog 171 #[.agg #[.int .i64 p0.1,.int .i64 p0.2.1,.int .i64 p0.2.2.1,.bool p0.2.2.2.1]] w (aC Q):=
 Tryz.cd az.z Tryz.func171 (by kernel_rfl) (es:=[.va (.agg #[.int .i64 p0.1,.int .i64 p0.2.1,.int .i64 p0.2.2.1,.bool p0.2.2.2.1])]) rfl (by kernel_rfl) h
def F.dj.fj.qo.T:az:=⟨fun _=>[],
 fun _=>none,
 (fun
 |10=> .held (some 7) (.go 0 false (.go 1 false (.go 2 false (.go 3 false (.go 4 false (.go 5 false (.go 6 false (.go 7 true (.go 8 false .nil)))))))))
 |_=> .quiet)⟩
def F.dj.fj.qo(p0:Option Addr)(p1:Int)(p2:Int):Tree:=
 br (Option.isNone p0)
 (ret (.int .i64 2))
 (br (decide ((p2:Int)<1))
 (ret (.int .i64 1))
 (br (decide ((p1:Int)<1))
 (ret (.int .i64 1))
 (nn p0 fun a1=>
 ld (.l .ptr) (fa a1 0) fun(x2:Option Addr)=>
 call Tryz.prog 135 [.pointer x2] (.one (.l (.int .i64))) fun(r3:Int)=>
 br (decide ((p1:Int)>r3))
 (ret (.int .i64 2))
 (nn p0 fun a4=>
 ld (.l .ptr) (fa a4 0) fun(x5:Option Addr)=>
 call Tryz.prog 135 [.pointer x5] (.one (.l (.int .i64))) fun(r6:Int)=>
 br (decide ((p2:Int)>(IntKind.wrap .i64 (r6-p1))))
 (ret (.int .i64 2))
 (nn p0 fun a7=>
 ld (.l .ptr) (fa a7 0) fun(x8:Option Addr)=>
 call Tryz.prog 100 [.pointer x8,.int .i64 p1,.bool false] (.one (.l (.int .i64))) fun(r9:Int)=>
 br (decide ((r9:Int)≥0))
 (br (decide ((r9:Int)<(IntKind.wrap .i64 (p1+p2))))
 (ret (.int .i64 2))
 (dI<|Gl.held fun S10=>
 nn p0 fun a11=>
 bm S10 (.l .ptr) (fa a11 0) fun(x12:Option Addr)=>
 call Tryz.prog 211 [.int .i64 p1,.int .i64 p2] (.one (.l .slice)) fun(r13:ay)=>
 fX S10<|
 call Tryz.prog 154 [.pointer x12,.bool false,.slice r13.a r13.n r13.c] (.one (.l (.int .i64))) fun(r14:Int)=>
 ret (.int .i64 r14)))
 (dI<|Gl.held fun S10=>
 nn p0 fun a11=>
 bm S10 (.l .ptr) (fa a11 0) fun(x12:Option Addr)=>
 call Tryz.prog 211 [.int .i64 p1,.int .i64 p2] (.one (.l .slice)) fun(r13:ay)=>
 fX S10<|
 call Tryz.prog 154 [.pointer x12,.bool false,.slice r13.a r13.n r13.c] (.one (.l (.int .i64))) fun(r14:Int)=>
 ret (.int .i64 r14)))))))
theorem F.dj.fj.qo.calls(p0:Option Addr)(p1:Int)(p2:Int)(h:F.dj.fj.qo p0 p1 p2 Q w):Calls Tryz.prog 189 #[.pointer p0,.int .i64 p1,.int .i64 p2] w (aC Q):=
 Tryz.cd F.dj.fj.qo.T Tryz.func189 (by kernel_rfl) (es:=[.va (.pointer p0),.va (.int .i64 p1),.va (.int .i64 p2)]) rfl (by kernel_rfl) h
def F.block.fR.qo(p0:Option Addr)(p1:Int):Tree:=
 br (Option.isNone p0)
 (ret (.int .i64 2))
 (nn p0 fun a1=>
 ld (.l .ptr) (fa a1 0) fun(x2:Option Addr)=>
 call Tryz.prog 109 [.pointer x2,.int .i64 p1] (.one (.l .bool)) fun(r3:Bool)=>
 br (!r3)
 (ret (.int .i64 2))
 (nn p0 fun a4=>
 ld (.l .ptr) (fa a4 0) fun(x5:Option Addr)=>
 nw 3 [.int .i64 p1] fun b6=>
 call Tryz.prog 154 [.pointer x5,.bool false,.slice (some ⟨b6,0,none⟩) 1 1] (.one (.l (.int .i64))) fun(r7:Int)=>
 ret (.int .i64 r7)))
theorem F.block.fR.qo.calls(p0:Option Addr)(p1:Int)(h:F.block.fR.qo p0 p1 Q w):Calls Tryz.prog 190 #[.pointer p0,.int .i64 p1] w (aC Q):=
 Tryz.cd az.z Tryz.func190 (by kernel_rfl) (es:=[.va (.pointer p0),.va (.int .i64 p1)]) rfl (by kernel_rfl) h
def F.block.fR.Empty(p0:Option Addr):Tree:=
 br (!(Option.isNone p0))
 (nn p0 fun a1=>
 ld (.l .ptr) (fa a1 0) fun(x2:Option Addr)=>
 call Tryz.prog 212 [.pointer x2] (.one (.l (.int .i64))) fun(r3:Int)=>
 ret (.bool ((r3:Int)==0)))
 (ret (.bool false))
theorem F.block.fR.Empty.calls(p0:Option Addr)(h:F.block.fR.Empty p0 Q w):Calls Tryz.prog 191 #[.pointer p0] w (aC Q):=
 Tryz.cd az.z Tryz.func191 (by kernel_rfl) (es:=[.va (.pointer p0)]) rfl (by kernel_rfl) h
def F.av.gn(p0:ay)(p1:Value):Tree:=
 call Tryz.prog 210 [.slice p0.a p0.n p0.c,p1] (.one (.l (.int .i64))) fun(r1:Int)=>
 ret (.bool (decide ((r1:Int)≥0)))
theorem F.av.gn.calls(p0:ay)(p1:Value)(h:F.av.gn p0 p1 Q w):Calls Tryz.prog 192 #[.slice p0.a p0.n p0.c,p1] w (aC Q):=
 Tryz.cd az.z Tryz.func192 (by kernel_rfl) (es:=[.va (.slice p0.a p0.n p0.c),.op p1]) rfl (by kernel_rfl) h
def F.bits.Bits.wu(p0:Int)(c0:Option Addr):Tree:=
 nn c0 fun a1=>
 ld (.l .ptr) a1 fun(x2:Option Addr)=>
 call Tryz.prog 140 [.pointer x2,.int .i64 p0] (.one (.l .bool)) fun(r3:Bool)=>
 ret (.bool (!r3))
theorem F.bits.Bits.wu.calls(p0:Int)(c0:Option Addr)(h:F.bits.Bits.wu p0 c0 Q w):Calls Tryz.prog 193 #[.int .i64 p0,.pointer c0] w (aC Q):=
 Tryz.cd az.z Tryz.func193 (by kernel_rfl) (es:=[.va (.int .i64 p0),.va (.pointer c0)]) rfl (by kernel_rfl) h
def F.size.Block(p0:Int):Tree:=
 call Tryz.prog 213 [.int .i64 p0] (.one (.l (.int .i64))) fun(r1:Int)=>
 br (decide ((r1:Int)≥0))
 (call Tryz.prog 214 [] (.one (.l .slice)) fun(r2:ay)=>
 ix r2.a r2.n r1 1 fun a3=>
 ld (.l (.int .i64)) a3 fun(x4:Int)=>
 ret (.int .i64 x4))
 (call Tryz.prog 215 [.int .i64 p0] (.one (.l (.int .i64))) fun(r2:Int)=>
 ret (.int .i64 (IntKind.wrap .i64 (r2*64))))
theorem F.size.Block.calls(p0:Int)(h:F.size.Block p0 Q w):Calls Tryz.prog 194 #[.int .i64 p0] w (aC Q):=
 Tryz.cd az.z Tryz.func194 (by kernel_rfl) (es:=[.va (.int .i64 p0)]) rfl (by kernel_rfl) h
def F.space.bn.place(p0:Option Addr)(p1:Int):Tree:=
 call Tryz.prog 213 [.int .i64 p1] (.one (.l (.int .i64))) fun(r1:Int)=>
 br (decide ((r1:Int)<0))
 (call Tryz.prog 215 [.int .i64 p1] (.one (.l (.int .i64))) fun(r2:Int)=>
 nn p0 fun a3=>
 ld (.l .ptr) (fa a3 1) fun(x4:Option Addr)=>
 call Tryz.prog 216 [.pointer x4,.int .i64 r2] (.many [.l (.int .i64),.l (.int .i64)]) fun(r5:KTs _)=>
 br ((r5.2.1:Int) != 0)
 (ret (.tuple #[.int .i64 0,.int .i64 r5.2.1]))
 (nn p0 fun a6=>
 ld (.l .map) (fa a6 3) fun(x7:Option Nat)=>
 fz Tryz.prog (Instr.mapUpdate 163 (.map x7) (.int .i64 r5.1) (.int .i64 r2))<|
 ret (.tuple #[.int .i64 (IntKind.wrap .i64 (r5.1*64)),.int .i64 0])))
 (call Tryz.prog 217 [.pointer p0,.int .i64 r1] (.many [.l (.int .i64),.l (.int .i64)]) fun(r2:KTs _)=>
 br ((r2.2.1:Int) != 0)
 (ret (.tuple #[.int .i64 0,.int .i64 r2.2.1]))
 (nn p0 fun a3=>
 ld (.l .map) (fa a3 2) fun(x4:Option Nat)=>
 c9 Tryz.prog (Instr.lookup 162 (.map x4) (.int .i64 r2.1) false) (.one (.l .ptr)) fun(r5:Option Addr)=>
 call Tryz.prog 218 [.pointer r5] (.many [.l (.int .i64),.l (.int .i64)]) fun(r6:KTs _)=>
 br ((r6.2.1:Int) != 0)
 (ret (.tuple #[.int .i64 0,.int .i64 r6.2.1]))
 (nn p0 fun a7=>
 ld (.l .map) (fa a7 2) fun(x8:Option Nat)=>
 c9 Tryz.prog (Instr.lookup 162 (.map x8) (.int .i64 r2.1) false) (.one (.l .ptr)) fun(r9:Option Addr)=>
 call Tryz.prog 101 [.pointer r9] (.one (.l (.int .i64))) fun(r10:Int)=>
 ret (.tuple #[.int .i64 (IntKind.wrap .i64 ((IntKind.wrap .i64 (r2.1*64))+(IntKind.wrap .i64 (r6.1*r10)))),.int .i64 0]))))
theorem F.space.bn.place.calls(p0:Option Addr)(p1:Int)(h:F.space.bn.place p0 p1 Q w):Calls Tryz.prog 195 #[.pointer p0,.int .i64 p1] w (aC Q):=
 Tryz.cd az.z Tryz.func195 (by kernel_rfl) (es:=[.va (.pointer p0),.va (.int .i64 p1)]) rfl (by kernel_rfl) h
def F.cI.eD.CW(p0:Option Addr)(p1:Int)(p2:Int):Tree:=
 br (Option.isNone p0)
 (ret (.int .i64 2))
 (br (decide ((p2:Int)<0))
 (ret (.int .i64 1))
 (br (decide ((p1:Int)<0))
 (ret (.int .i64 2))
 (nn p0 fun a1=>
 ld (.l .slice) (fa (fa a1 0) 0) fun(x2:ay)=>
 br (decide ((p2:Int)>(if(IntKind.wrap .i64 ((x2.n:Nat)-p1):Int)>0 then(IntKind.wrap .i64 ((x2.n:Nat)-p1):Int)else 0)))
 (ret (.int .i64 2))
 (br (decide ((p2:Int)>0))
 (nn p0 fun a3=>
 ld (.l .slice) (fa (fa a3 0) 0) fun(x4:ay)=>
 sS x4.a x4.c p1 (IntKind.wrap .i64 (p1+p2)) 1 fun s5=>
 c9 Tryz.prog (Builtin.clear_ #[46] 0 #[.slice s5.a s5.n s5.c]) (.many []) fun(r6:KTs _)=>
 ret (.int .i64 0))
 (ret (.int .i64 0))))))
theorem F.cI.eD.CW.calls(p0:Option Addr)(p1:Int)(p2:Int)(h:F.cI.eD.CW p0 p1 p2 Q w):Calls Tryz.prog 196 #[.pointer p0,.int .i64 p1,.int .i64 p2] w (aC Q):=
 Tryz.cd az.z Tryz.func196 (by kernel_rfl) (es:=[.va (.pointer p0),.va (.int .i64 p1),.va (.int .i64 p2)]) rfl (by kernel_rfl) h
def F.head.in.T:az:=⟨(fun
 |2=>[(5,.int .i64)]
 |_=>[]),
 fun _=>none,
 fun _=> .quiet⟩
def F.head.in(p0:Int)(p1:ay):Tree:=
 lp [.int .i64] (fun X1 u2=>
 br (decide ((IntKind.wrap .i64 (u2.1+1):Int)<(p1.n:Nat)))
 (ix p1.a p1.n u2.1 1 fun a3=>
 ld (.l (.int .i64)) a3 fun(x4:Int)=>
 br (decide ((p0:Int)≥x4))
 (ix p1.a p1.n (IntKind.wrap .i64 (u2.1+1)) 1 fun a5=>
 ld (.l (.int .i64)) a5 fun(x6:Int)=>
 br (decide ((p0:Int)≤x6))
 (ret (.bool true))
 (X1 (IntKind.wrap .i64 (u2.1+2),())))
 (X1 (IntKind.wrap .i64 (u2.1+2),())))
 (ret (.bool false))) (0,())
theorem F.head.in.calls(p0:Int)(p1:ay)(h:F.head.in p0 p1 Q w):Calls Tryz.prog 203 #[.int .i64 p0,.slice p1.a p1.n p1.c] w (aC Q):=
 Tryz.cd F.head.in.T Tryz.func203 (by kernel_rfl) (es:=[.va (.int .i64 p0),.va (.slice p1.a p1.n p1.c)]) rfl (by kernel_rfl) h
def F.av.eK.T:az:=⟨(fun
 |2=>[(8,.int .i64)]
 |_=>[]),
 fun _=>none,
 fun _=> .quiet⟩
def F.av.eK(p0:ay)(p1:Value):Tree:=
 lp [.int .i64] (fun X1 u2=>
 br (decide ((u2.1:Int)<(p0.n:Nat)))
 (ix p0.a p0.n u2.1 1 fun a3=>
 ld (.l (.int .i64)) a3 fun(x4:Int)=>
 gJ Tryz.prog p1 [.int .i64 x4] (.one (.l .bool)) fun(r5:Bool)=>
 br r5
 (ret (.int .i64 u2.1))
 (X1 (IntKind.wrap .i64 (u2.1+1),())))
 (ret (.int .i64 (-1)))) (0,())
theorem F.av.eK.calls(p0:ay)(p1:Value)(h:F.av.eK p0 p1 Q w):Calls Tryz.prog 210 #[.slice p0.a p0.n p0.c,p1] w (aC Q):=
 Tryz.cd F.av.eK.T Tryz.func210 (by kernel_rfl) (es:=[.va (.slice p0.a p0.n p0.c),.op p1]) rfl (by kernel_rfl) h
def F.dj.row.T:az:=⟨(fun
 |3=>[(5,.slice),(8,.int .i64)]
 |_=>[]),
 fun _=>none,
 fun _=> .quiet⟩
def F.dj.row(p0:Int)(p1:Int):Tree:=
 lp [.slice,.int .i64] (fun X1 u2=>
 br (decide ((u2.2.1:Int)<p1))
 (nw 3 [.int .i64 (IntKind.wrap .i64 (p0+u2.2.1))] fun b3=>
 c9 Tryz.prog (Builtin.append_ #[46,46] 46 #[.slice u2.1.a u2.1.n u2.1.c,.slice (some ⟨b3,0,none⟩) 1 1]) (.one (.l .slice)) fun(r4:ay)=>
 X1 (⟨r4.a,r4.n,r4.c⟩,IntKind.wrap .i64 (u2.2.1+1),()))
 (ret (.slice u2.1.a u2.1.n u2.1.c))) (⟨none,0,0⟩,0,())
theorem F.dj.row.calls(p0:Int)(p1:Int)(h:F.dj.row p0 p1 Q w):Calls Tryz.prog 211 #[.int .i64 p0,.int .i64 p1] w (aC Q):=
 Tryz.cd F.dj.row.T Tryz.func211 (by kernel_rfl) (es:=[.va (.int .i64 p0),.va (.int .i64 p1)]) rfl (by kernel_rfl) h
def F.bits.Bits.Count.T:az:=⟨(fun
 |3=>[(3,.int .i64),(4,.int .i64)]
 |_=>[]),
 fun _=>none,
 fun _=> .quiet⟩
def F.bits.Bits.Count(p0:Option Addr):Tree:=
 call Tryz.prog 100 [.pointer p0,.int .i64 0,.bool true] (.one (.l (.int .i64))) fun(r1:Int)=>
 lp [.int .i64,.int .i64] (fun X2 u3=>
 br (decide ((u3.2.1:Int)≥0))
 (call Tryz.prog 100 [.pointer p0,.int .i64 (IntKind.wrap .i64 (u3.2.1+1)),.bool true] (.one (.l (.int .i64))) fun(r4:Int)=>
 X2 (IntKind.wrap .i64 (u3.1+1),r4,()))
 (ret (.int .i64 u3.1))) (0,r1,())
theorem F.bits.Bits.Count.calls(p0:Option Addr)(h:F.bits.Bits.Count p0 Q w):Calls Tryz.prog 212 #[.pointer p0] w (aC Q):=
 Tryz.cd F.bits.Bits.Count.T Tryz.func212 (by kernel_rfl) (es:=[.va (.pointer p0)]) rfl (by kernel_rfl) h
def F.size.Class.T:az:=⟨(fun
 |4=>[(9,.int .i64)]
 |_=>[]),
 fun _=>none,
 fun _=> .quiet⟩
def F.size.Class(p0:Int):Tree:=
 br (decide ((p0:Int)<1))
 (ret (.int .i64 (-1)))
 (call Tryz.prog 214 [] (.one (.l .slice)) fun(r1:ay)=>
 lp [.int .i64] (fun X2 u3=>
 br (decide ((u3.1:Int)<(r1.n:Nat)))
 (ix r1.a r1.n u3.1 1 fun a4=>
 ld (.l (.int .i64)) a4 fun(x5:Int)=>
 br (decide ((x5:Int)≥p0))
 (ret (.int .i64 u3.1))
 (X2 (IntKind.wrap .i64 (u3.1+1),())))
 (ret (.int .i64 (-1)))) (0,()))
theorem F.size.Class.calls(p0:Int)(h:F.size.Class p0 Q w):Calls Tryz.prog 213 #[.int .i64 p0] w (aC Q):=
 Tryz.cd F.size.Class.T Tryz.func213 (by kernel_rfl) (es:=[.va (.int .i64 p0)]) rfl (by kernel_rfl) h
def F.size.wk:Tree:=
 nw 3 [.int .i64 2,.int .i64 4,.int .i64 8,.int .i64 16,.int .i64 32] fun b1=>
 ret (.slice (some ⟨b1,0,none⟩) 5 5)
theorem F.size.wk.calls(h:F.size.wk Q w):Calls Tryz.prog 214 #[] w (aC Q):=
 Tryz.cd az.z Tryz.func214 (by kernel_rfl) (es:=[]) rfl (by kernel_rfl) h
def F.size.fj(p0:Int):Tree:=
 br (decide ((p0:Int)<1))
 (ret (.int .i64 0))
 (br (decide ((p0:Int)>1024))
 (ret (.int .i64 0))
 (call Tryz.prog 213 [.int .i64 p0] (.one (.l (.int .i64))) fun(r1:Int)=>
 br (decide ((r1:Int)≥0))
 (ret (.int .i64 0))
 (bQ ((64:Int)≠0)<|
 ret (.int .i64 (IntKind.wrap .i64 (Int.tdiv (IntKind.wrap .i64 ((IntKind.wrap .i64 (p0+64))-1)) 64))))))
theorem F.size.fj.calls(p0:Int)(h:F.size.fj p0 Q w):Calls Tryz.prog 215 #[.int .i64 p0] w (aC Q):=
 Tryz.cd az.z Tryz.func215 (by kernel_rfl) (es:=[.va (.int .i64 p0)]) rfl (by kernel_rfl) h
def F.dj.fj.Take.T:az:=⟨fun _=>[],
 fun _=>none,
 (fun
 |8=> .held (some 7) (.go 0 false (.go 1 false (.go 2 false (.go 3 false (.go 4 false (.go 5 false (.go 6 false (.go 7 true .nil))))))))
 |_=> .quiet)⟩
def F.dj.fj.Take(p0:Option Addr)(p1:Int):Tree:=
 br (Option.isNone p0)
 (ret (.tuple #[.int .i64 0,.int .i64 2]))
 (br (decide ((p1:Int)<1))
 (ret (.tuple #[.int .i64 0,.int .i64 1]))
 (nn p0 fun a1=>
 ld (.l .ptr) (fa a1 0) fun(x2:Option Addr)=>
 call Tryz.prog 224 [.pointer x2,.int .i64 0,.int .i64 p1] (.one (.l (.int .i64))) fun(r3:Int)=>
 br (decide ((r3:Int)<0))
 (ret (.tuple #[.int .i64 0,.int .i64 3]))
 (dI<|Gl.held fun S4=>
 nn p0 fun a5=>
 bm S4 (.l .ptr) (fa a5 0) fun(x6:Option Addr)=>
 call Tryz.prog 211 [.int .i64 r3,.int .i64 p1] (.one (.l .slice)) fun(r7:ay)=>
 fX S4<|
 call Tryz.prog 154 [.pointer x6,.bool true,.slice r7.a r7.n r7.c] (.one (.l (.int .i64))) fun(r8:Int)=>
 ret (.tuple #[.int .i64 r3,.int .i64 0]))))
theorem F.dj.fj.Take.calls(p0:Option Addr)(p1:Int)(h:F.dj.fj.Take p0 p1 Q w):Calls Tryz.prog 216 #[.pointer p0,.int .i64 p1] w (aC Q):=
 Tryz.cd F.dj.fj.Take.T Tryz.func216 (by kernel_rfl) (es:=[.va (.pointer p0),.va (.int .i64 p1)]) rfl (by kernel_rfl) h
def F.space.bn.first(p0:Option Addr)(p1:Int):Tree:=
 call Tryz.prog 225 [.pointer p0,.int .i64 p1] (.many [.l (.int .i64),.l .bool]) fun(r1:KTs _)=>
 br r1.2.1
 (ret (.tuple #[.int .i64 r1.1,.int .i64 0]))
 (nn p0 fun a2=>
 ld (.l .ptr) (fa a2 1) fun(x3:Option Addr)=>
 call Tryz.prog 216 [.pointer x3,.int .i64 1] (.many [.l (.int .i64),.l (.int .i64)]) fun(r4:KTs _)=>
 br ((r4.2.1:Int) != 0)
 (ret (.tuple #[.int .i64 0,.int .i64 r4.2.1]))
 (call Tryz.prog 226 [.int .i64 p1] (.many [.l .ptr,.l (.int .i64)]) fun(r5:KTs _)=>
 br ((r5.2.1:Int) != 0)
 (ret (.tuple #[.int .i64 0,.int .i64 r5.2.1]))
 (nn p0 fun a6=>
 ld (.l .map) (fa a6 2) fun(x7:Option Nat)=>
 fz Tryz.prog (Instr.mapUpdate 162 (.map x7) (.int .i64 r4.1) (.pointer r5.1))<|
 ret (.tuple #[.int .i64 r4.1,.int .i64 0]))))
theorem F.space.bn.first.calls(p0:Option Addr)(p1:Int)(h:F.space.bn.first p0 p1 Q w):Calls Tryz.prog 217 #[.pointer p0,.int .i64 p1] w (aC Q):=
 Tryz.cd az.z Tryz.func217 (by kernel_rfl) (es:=[.va (.pointer p0),.va (.int .i64 p1)]) rfl (by kernel_rfl) h
def F.block.fR.Take(p0:Option Addr):Tree:=
 br (Option.isNone p0)
 (ret (.tuple #[.int .i64 0,.int .i64 2]))
 (nn p0 fun a1=>
 ld (.l .ptr) (fa a1 0) fun(x2:Option Addr)=>
 call Tryz.prog 100 [.pointer x2,.int .i64 0,.bool false] (.one (.l (.int .i64))) fun(r3:Int)=>
 br (decide ((r3:Int)<0))
 (ret (.tuple #[.int .i64 0,.int .i64 3]))
 (nn p0 fun a4=>
 ld (.l .ptr) (fa a4 0) fun(x5:Option Addr)=>
 nw 3 [.int .i64 r3] fun b6=>
 call Tryz.prog 154 [.pointer x5,.bool true,.slice (some ⟨b6,0,none⟩) 1 1] (.one (.l (.int .i64))) fun(r7:Int)=>
 ret (.tuple #[.int .i64 r3,.int .i64 r7])))
theorem F.block.fR.Take.calls(p0:Option Addr)(h:F.block.fR.Take p0 Q w):Calls Tryz.prog 218 #[.pointer p0] w (aC Q):=
 Tryz.cd az.z Tryz.func218 (by kernel_rfl) (es:=[.va (.pointer p0)]) rfl (by kernel_rfl) h
def F.bits.Bits.Et.T:az:=⟨(fun
 |5=>[(7,.int .i64),(8,.int .i64)]
 |_=>[]),
 fun _=>none,
 fun _=> .quiet⟩
def F.bits.Bits.Et(p0:Option Addr)(p1:Int)(p2:Int):Tree:=
 br (decide ((p2:Int)<1))
 (ret (.int .i64 (-1)))
 (lp [.int .i64,.int .i64] (fun X1 u2=>
 call Tryz.prog 135 [.pointer p0] (.one (.l (.int .i64))) fun(r3:Int)=>
 br (decide ((u2.2.1:Int)<r3))
 (nn p0 fun a4=>
 ld (.l .slice) (fa a4 0) fun(x5:ay)=>
 ix x5.a x5.n u2.2.1 1 fun a6=>
 ld (.l .bool) a6 fun(x7:Bool)=>
 br x7
 (br ((0:Int)==p2)
 (ret (.int .i64 (IntKind.wrap .i64 ((IntKind.wrap .i64 (u2.2.1+1))-p2))))
 (X1 (0,IntKind.wrap .i64 (u2.2.1+1),())))
 (br ((IntKind.wrap .i64 (u2.1+1):Int)==p2)
 (ret (.int .i64 (IntKind.wrap .i64 ((IntKind.wrap .i64 (u2.2.1+1))-p2))))
 (X1 (IntKind.wrap .i64 (u2.1+1),IntKind.wrap .i64 (u2.2.1+1),()))))
 (ret (.int .i64 (-1)))) (0,(if(p1:Int)>0 then(p1:Int)else 0),()))
theorem F.bits.Bits.Et.calls(p0:Option Addr)(p1:Int)(p2:Int)(h:F.bits.Bits.Et p0 p1 p2 Q w):Calls Tryz.prog 224 #[.pointer p0,.int .i64 p1,.int .i64 p2] w (aC Q):=
 Tryz.cd F.bits.Bits.Et.T Tryz.func224 (by kernel_rfl) (es:=[.va (.pointer p0),.va (.int .i64 p1),.va (.int .i64 p2)]) rfl (by kernel_rfl) h
def F.space.bn.open.T:az:=⟨(fun
 |3=>[(21,.int .i64)]
 |_=>[]),
 fun _=>none,
 fun _=> .quiet⟩
def F.space.bn.open(p0:Option Addr)(p1:Int):Tree:=
 call Tryz.prog 214 [] (.one (.l .slice)) fun(r1:ay)=>
 ix r1.a r1.n p1 1 fun a2=>
 ld (.l (.int .i64)) a2 fun(x3:Int)=>
 nn p0 fun a4=>
 ld (.l .map) (fa a4 2) fun(x5:Option Nat)=>
 call Tryz.prog 230 [.map x5] (.one (.l .any)) fun(r6:Value)=>
 call Tryz.prog 229 [r6] (.one (.l .slice)) fun(r7:ay)=>
 lp [.int .i64] (fun X8 u9=>
 br (decide ((u9.1:Int)<(r7.n:Nat)))
 (ix r7.a r7.n u9.1 1 fun a10=>
 ld (.l (.int .i64)) a10 fun(x11:Int)=>
 nn p0 fun a12=>
 ld (.l .map) (fa a12 2) fun(x13:Option Nat)=>
 c9 Tryz.prog (Instr.lookup 162 (.map x13) (.int .i64 x11) false) (.one (.l .ptr)) fun(r14:Option Addr)=>
 call Tryz.prog 101 [.pointer r14] (.one (.l (.int .i64))) fun(r15:Int)=>
 br ((r15:Int)==x3)
 (call Tryz.prog 231 [.pointer r14] (.one (.l .bool)) fun(r16:Bool)=>
 br (!r16)
 (ret (.tuple #[.int .i64 x11,.bool true]))
 (X8 (IntKind.wrap .i64 (u9.1+1),())))
 (X8 (IntKind.wrap .i64 (u9.1+1),())))
 (ret (.tuple #[.int .i64 0,.bool false]))) (0,())
theorem F.space.bn.open.calls(p0:Option Addr)(p1:Int)(h:F.space.bn.open p0 p1 Q w):Calls Tryz.prog 225 #[.pointer p0,.int .i64 p1] w (aC Q):=
 Tryz.cd F.space.bn.open.T Tryz.func225 (by kernel_rfl) (es:=[.va (.pointer p0),.va (.int .i64 p1)]) rfl (by kernel_rfl) h
def F.block.dc(p0:Int):Tree:=
 call Tryz.prog 214 [] (.one (.l .slice)) fun(r1:ay)=>
 br (decide ((p0:Int)<0))
 (ret (.tuple #[.pointer none,.int .i64 1]))
 (br (decide ((p0:Int)≥(r1.n:Nat)))
 (ret (.tuple #[.pointer none,.int .i64 1]))
 (ix r1.a r1.n p0 1 fun a2=>
 ld (.l (.int .i64)) a2 fun(x3:Int)=>
 bQ ((x3:Int)≠0)<|
 call Tryz.prog 153 [.int .i64 (IntKind.wrap .i64 (Int.tdiv 64 x3))] (.many [.l .ptr,.l (.int .i64)]) fun(r4:KTs _)=>
 br ((r4.2.1:Int) != 0)
 (ret (.tuple #[.pointer none,.int .i64 r4.2.1]))
 (ix r1.a r1.n p0 1 fun a5=>
 ld (.l (.int .i64)) a5 fun(x6:Int)=>
 nw 170 [.pointer r4.1,.int .i64 x6] fun b7=>
 ret (.tuple #[.pointer (some (⟨b7,0,none⟩)),.int .i64 0]))))
theorem F.block.dc.calls(p0:Int)(h:F.block.dc p0 Q w):Calls Tryz.prog 226 #[.int .i64 p0] w (aC Q):=
 Tryz.cd az.z Tryz.func226 (by kernel_rfl) (es:=[.va (.int .i64 p0)]) rfl (by kernel_rfl) h
def F.block.fR.Full.T:az:=⟨fun _=>[],
 fun _=>none,
 (fun
 |1=> .held (some 12) (.go 0 false (.go 1 false (.go 2 false (.go 3 false (.go 4 false (.go 5 false (.go 6 false (.go 8 false (.go 9 false (.go 10 false (.go 11 false (.go 7 false (.go 12 true (.go 13 false (.go 14 false (.go 15 false .nil))))))))))))))))
 |_=> .quiet)⟩
def F.block.fR.Full(p0:Option Addr):Tree:=
 dI<|Gl.held fun S1=>
 br (!(Option.isNone p0))
 (nn p0 fun a2=>
 bm S1 (.l .ptr) (fa a2 0) fun(x3:Option Addr)=>
 nn p0 fun a4=>
 bm S1 (.l .ptr) (fa a4 0) fun(x5:Option Addr)=>
 call Tryz.prog 212 [.pointer x3] (.one (.l (.int .i64))) fun(r6:Int)=>
 fX S1<|
 call Tryz.prog 135 [.pointer x5] (.one (.l (.int .i64))) fun(r7:Int)=>
 ret (.bool ((r6:Int)==r7)))
 (ret (.bool false))
theorem F.block.fR.Full.calls(p0:Option Addr)(h:F.block.fR.Full p0 Q w):Calls Tryz.prog 231 #[.pointer p0] w (aC Q):=
 Tryz.cd F.block.fR.Full.T Tryz.func231 (by kernel_rfl) (es:=[.va (.pointer p0)]) rfl (by kernel_rfl) h
end Go.Proofs.YtfepdmpplahloaaGreat
