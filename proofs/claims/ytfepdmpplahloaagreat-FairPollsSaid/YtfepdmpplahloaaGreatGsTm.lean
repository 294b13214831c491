import Derived.Test.YtfepdmpplahloaaGreatGsT
namespace Go.Proofs.YtfepdmpplahloaaGreat
open Go Go.Gl
set_option maxRecDepth 100000
set_option linter.unusedVariables false
variable{Q:Value→World→Prop}{w:World}
def F.stack.dc(p0:Int):Tree:=
 br (decide ((p0:Int)<1))
 (ret (.tuple #[.pointer none,.int .i64 1]))
 (br (decide ((p0:Int)>4096))
 (ret (.tuple #[.pointer none,.int .i64 1]))
 (nw 137 [.slice none 0 0,.int .i64 p0,.bool false] fun b1=>
 ret (.tuple #[.pointer (some (⟨b1,0,none⟩)),.int .i64 0])))
theorem F.stack.dc.calls(p0:Int)(h:F.stack.dc p0 Q w):Calls Tryz.prog 35 #[.int .i64 p0] w (aC Q):=
 Tryz.cd az.z Tryz.func35 (by kernel_rfl) (es:=[.va (.int .i64 p0)]) rfl (by kernel_rfl) h
def F.mark.dc(p0:Option Addr)(p1:Int):Tree:=
 br (Option.isNone p0)
 (ret (.tuple #[.pointer none,.int .i64 2]))
 (call Tryz.prog 35 [.int .i64 p1] (.many [.l .ptr,.l (.int .i64)]) fun(r1:KTs _)=>
 br ((r1.2.1:Int) != 0)
 (ret (.tuple #[.pointer none,.int .i64 r1.2.1]))
 (nn p0 fun a2=>
 ld (.l .ptr) (fa a2 0) fun(x3:Option Addr)=>
 nn x3 fun a4=>
 ld (.l .ptr) (fa a4 0) fun(x5:Option Addr)=>
 call Tryz.prog 108 [.pointer x5] (.one (.l (.int .i64))) fun(r6:Int)=>
 call Tryz.prog 153 [.int .i64 r6] (.many [.l .ptr,.l (.int .i64)]) fun(r7:KTs _)=>
 br ((r7.2.1:Int) != 0)
 (ret (.tuple #[.pointer none,.int .i64 r7.2.1]))
 (nw 248 [.pointer r7.1,.pointer p0,.pointer r1.1,.int .i64 0] fun b8=>
 ret (.tuple #[.pointer (some (⟨b8,0,none⟩)),.int .i64 0]))))
theorem F.mark.dc.calls(p0:Option Addr)(p1:Int)(h:F.mark.dc p0 p1 Q w):Calls Tryz.prog 141 #[.pointer p0,.int .i64 p1] w (aC Q):=
 Tryz.cd az.z Tryz.func141 (by kernel_rfl) (es:=[.va (.pointer p0),.va (.int .i64 p1)]) rfl (by kernel_rfl) h
def F.mark.bl.Mark.T:az:=⟨(fun
 |2=>[(12,.int .i64)]
 |7=>[]
 |10=>[(35,.int .i64)]
 |_=>[]),
 fun _=>none,
 fun _=> .quiet⟩
def F.mark.bl.Mark(p0:Option Addr)(p1:ay):Tree:=
 br (Option.isNone p0)
 (ret (.tuple #[]))
 (lp [.int .i64] (fun X1 u2=>
 br (decide ((u2.1:Int)<(p1.n:Nat)))
 (ix p1.a p1.n u2.1 1 fun a3=>
 ld (.l (.int .i64)) a3 fun(x4:Int)=>
 call Tryz.prog 175 [.pointer p0,.int .i64 x4] (.many []) fun(r5:KTs _)=>
 call Tryz.prog 176 [.pointer p0] (.many []) fun(r6:KTs _)=>
 X1 (IntKind.wrap .i64 (u2.1+1),()))
 (lp [] (fun X3 u4=> --
 nn p0 fun a5=>
 ld (.l .ptr) (fa a5 2) fun(x6:Option Addr)=>
 call Tryz.prog 177 [.pointer x6] (.one (.l .bool)) fun(r7:Bool)=>
 br r7
 (nn p0 fun a8=>
 ld (.l .ptr) (fa a8 2) fun(x9:Option Addr)=>
 call Tryz.prog 178 [.pointer x9] (.many []) fun(r10:KTs _)=>
 call Tryz.prog 148 [.pointer p0] (.one (.l .slice)) fun(r11:ay)=>
 lp [.int .i64] (fun X12 u13=>
 br (decide ((u13.1:Int)<(r11.n:Nat)))
 (ix r11.a r11.n u13.1 1 fun a14=>
 ld (.l (.int .i64)) a14 fun(x15:Int)=>
 call Tryz.prog 179 [.pointer p0,.int .i64 x15] (.many []) fun(r16:KTs _)=>
 call Tryz.prog 176 [.pointer p0] (.many []) fun(r17:KTs _)=>
 X12 (IntKind.wrap .i64 (u13.1+1),()))
 (X3 (()))) (0,()))
 (ret (.tuple #[]))) (()))) (0,()))
theorem F.mark.bl.Mark.calls(p0:Option Addr)(p1:ay)(h:F.mark.bl.Mark p0 p1 Q w):Calls Tryz.prog 143 #[.pointer p0,.slice p1.a p1.n p1.c] w (aC Q):=
 Tryz.cd F.mark.bl.Mark.T Tryz.func143 (by kernel_rfl) (es:=[.va (.pointer p0),.va (.slice p1.a p1.n p1.c)]) rfl (by kernel_rfl) h
def F.mark.bl.wX.T:az:=⟨(fun
 |5=>[(3,.slice),(4,.int .i64)]
 |_=>[]),
 fun _=>none,
 fun _=> .quiet⟩
def F.mark.bl.wX(p0:Option Addr):Tree:=
 br (Option.isNone p0)
 (ret (.slice none 0 0))
 (nn p0 fun a1=>
 ld (.l .ptr) (fa a1 0) fun(x2:Option Addr)=>
 call Tryz.prog 100 [.pointer x2,.int .i64 0,.bool true] (.one (.l (.int .i64))) fun(r3:Int)=>
 lp [.slice,.int .i64] (fun X4 u5=>
 br (decide ((u5.2.1:Int)≥0))
 (nw 3 [.int .i64 u5.2.1] fun b6=>
 c9 Tryz.prog (Builtin.append_ #[46,46] 46 #[.slice u5.1.a u5.1.n u5.1.c,.slice (some ⟨b6,0,none⟩) 1 1]) (.one (.l .slice)) fun(r7:ay)=>
 nn p0 fun a8=>
 ld (.l .ptr) (fa a8 0) fun(x9:Option Addr)=>
 call Tryz.prog 100 [.pointer x9,.int .i64 (IntKind.wrap .i64 (u5.2.1+1)),.bool true] (.one (.l (.int .i64))) fun(r10:Int)=>
 X4 (⟨r7.a,r7.n,r7.c⟩,r10,()))
 (ret (.slice u5.1.a u5.1.n u5.1.c))) (⟨none,0,0⟩,r3,()))
theorem F.mark.bl.wX.calls(p0:Option Addr)(h:F.mark.bl.wX p0 Q w):Calls Tryz.prog 148 #[.pointer p0] w (aC Q):=
 Tryz.cd F.mark.bl.wX.T Tryz.func148 (by kernel_rfl) (es:=[.va (.pointer p0)]) rfl (by kernel_rfl) h
def F.mark.bl.one.T:az:=⟨fun _=>[],
 fun _=>none,
 (fun
 |5=> .held (some 13) (.go 0 false (.go 1 false (.go 2 false (.go 3 false (.go 4 false (.go 5 false (.go 6 false (.go 7 false (.go 8 false (.go 9 false (.go 10 false (.go 11 false (.go 12 false (.go 13 true .nil))))))))))))))
 |_=> .quiet)⟩
def F.mark.bl.one(p0:Option Addr)(p1:Int):Tree:=
 nn p0 fun a1=>
 ld (.l .ptr) (fa a1 0) fun(x2:Option Addr)=>
 call Tryz.prog 109 [.pointer x2,.int .i64 p1] (.one (.l .bool)) fun(r3:Bool)=>
 br r3
 (ret (.tuple #[]))
 (nn p0 fun a4=>
 ld (.l .ptr) (fa a4 1) fun(x5:Option Addr)=>
 call Tryz.prog 61 [.pointer x5,.int .i64 p1] (.many [.g [.int .i64,.int .i64,.int .i64,.bool],.l (.int .i64)]) fun(r6:KTs _)=>
 nw 103 (zc Tryz.prog 103) fun b7=>
 st (⟨b7,0,none⟩) [.int .i64 r6.1.1,.int .i64 r6.1.2.1,.int .i64 r6.1.2.2.1,.bool r6.1.2.2.2.1]<|
 br ((r6.2.1:Int) != 0)
 (ret (.tuple #[]))
 (nn p0 fun a8=>
 ld (.l .ptr) (fa a8 0) fun(x9:Option Addr)=>
 nw 3 [.int .i64 p1] fun b10=>
 call Tryz.prog 154 [.pointer x9,.bool true,.slice (some ⟨b10,0,none⟩) 1 1] (.one (.l (.int .i64))) fun(r11:Int)=>
 nn p0 fun a12=>
 ld (.l .ptr) (fa a12 2) fun(x13:Option Addr)=>
 nw 3 [.int .i64 p1] fun b14=>
 call Tryz.prog 205 [.pointer x13,.slice (some ⟨b14,0,none⟩) 1 1] (.one (.l (.int .i64))) fun(r15:Int)=>
 dI<|Gl.held fun S16=>
 nn p0 fun a17=>
 bm S16 (.l (.int .i64)) (fa a17 3) fun(x18:Int)=>
 nn p0 fun a19=>
 bm S16 (.l .ptr) (fa a19 2) fun(x20:Option Addr)=>
 call Tryz.prog 206 [.pointer x20] (.one (.l (.int .i64))) fun(r21:Int)=>
 fX S16<|
 nn p0 fun a22=>
 st (fa a22 3) [.int .i64 (if(r21:Int)>x18 then(r21:Int)else x18)]<|
 ret (.tuple #[])))
theorem F.mark.bl.one.calls(p0:Option Addr)(p1:Int)(h:F.mark.bl.one p0 p1 Q w):Calls Tryz.prog 175 #[.pointer p0,.int .i64 p1] w (aC Q):=
 Tryz.cd F.mark.bl.one.T Tryz.func175 (by kernel_rfl) (es:=[.va (.pointer p0),.va (.int .i64 p1)]) rfl (by kernel_rfl) h
def F.mark.bl.drain.T:az:=⟨(fun
 |1=>[(2,.int .i64),(3,.bool)]
 |_=>[]),
 fun _=>none,
 fun _=> .quiet⟩
def F.mark.bl.drain(p0:Option Addr):Tree:=
 nn p0 fun a1=>
 ld (.l .ptr) (fa a1 2) fun(x2:Option Addr)=>
 call Tryz.prog 207 [.pointer x2] (.many [.l (.int .i64),.l .bool]) fun(r3:KTs _)=>
 lp [.int .i64,.bool] (fun X4 u5=>
 br u5.2.1
 (call Tryz.prog 179 [.pointer p0,.int .i64 u5.1] (.many []) fun(r6:KTs _)=>
 nn p0 fun a7=>
 ld (.l .ptr) (fa a7 2) fun(x8:Option Addr)=>
 call Tryz.prog 207 [.pointer x8] (.many [.l (.int .i64),.l .bool]) fun(r9:KTs _)=>
 X4 (r9.1,r9.2.1,()))
 (ret (.tuple #[]))) (r3.1,r3.2.1,())
theorem F.mark.bl.drain.calls(p0:Option Addr)(h:F.mark.bl.drain p0 Q w):Calls Tryz.prog 176 #[.pointer p0] w (aC Q):=
 Tryz.cd F.mark.bl.drain.T Tryz.func176 (by kernel_rfl) (es:=[.va (.pointer p0)]) rfl (by kernel_rfl) h
def F.stack.Stack.Over(p0:Option Addr):Tree:=
 br (!(Option.isNone p0))
 (nn p0 fun a1=>
 ld (.l .bool) (fa a1 2) fun(x2:Bool)=>
 ret (.bool x2))
 (ret (.bool false))
theorem F.stack.Stack.Over.calls(p0:Option Addr)(h:F.stack.Stack.Over p0 Q w):Calls Tryz.prog 177 #[.pointer p0] w (aC Q):=
 Tryz.cd az.z Tryz.func177 (by kernel_rfl) (es:=[.va (.pointer p0)]) rfl (by kernel_rfl) h
def F.stack.Stack.wH(p0:Option Addr):Tree:=
 br (!(Option.isNone p0))
 (nn p0 fun a1=>
 st (fa a1 2) [.bool false]<|
 ret (.tuple #[]))
 (ret (.tuple #[]))
theorem F.stack.Stack.wH.calls(p0:Option Addr)(h:F.stack.Stack.wH p0 Q w):Calls Tryz.prog 178 #[.pointer p0] w (aC Q):=
 Tryz.cd az.z Tryz.func178 (by kernel_rfl) (es:=[.va (.pointer p0)]) rfl (by kernel_rfl) h
def F.mark.bl.fields.T:az:=⟨(fun
 |1=>[(15,.int .i64)]
 |_=>[]),
 fun _=>none,
 fun _=> .quiet⟩
def F.mark.bl.fields(p0:Option Addr)(p1:Int):Tree:=
 nn p0 fun a1=>
 ld (.l .ptr) (fa a1 1) fun(x2:Option Addr)=>
 call Tryz.prog 123 [.pointer x2,.int .i64 p1] (.one (.l .slice)) fun(r3:ay)=>
 lp [.int .i64] (fun X4 u5=>
 br (decide ((u5.1:Int)<(r3.n:Nat)))
 (ix r3.a r3.n u5.1 1 fun a6=>
 ld (.l (.int .i64)) a6 fun(x7:Int)=>
 nn p0 fun a8=>
 ld (.l .ptr) (fa a8 1) fun(x9:Option Addr)=>
 call Tryz.prog 62 [.pointer x9,.int .i64 p1,.int .i64 x7] (.many [.l (.int .i64),.l (.int .i64)]) fun(r10:KTs _)=>
 br ((r10.2.1:Int)==0)
 (call Tryz.prog 175 [.pointer p0,.int .i64 r10.1] (.many []) fun(r11:KTs _)=>
 X4 (IntKind.wrap .i64 (u5.1+1),()))
 (X4 (IntKind.wrap .i64 (u5.1+1),())))
 (ret (.tuple #[]))) (0,())
theorem F.mark.bl.fields.calls(p0:Option Addr)(p1:Int)(h:F.mark.bl.fields p0 p1 Q w):Calls Tryz.prog 179 #[.pointer p0,.int .i64 p1] w (aC Q):=
 Tryz.cd F.mark.bl.fields.T Tryz.func179 (by kernel_rfl) (es:=[.va (.pointer p0),.va (.int .i64 p1)]) rfl (by kernel_rfl) h
def F.mark.bl.rE(p0:Option Addr)(p1:Int):Tree:=
 br (!(Option.isNone p0))
 (nn p0 fun a1=>
 ld (.l .ptr) (fa a1 0) fun(x2:Option Addr)=>
 call Tryz.prog 109 [.pointer x2,.int .i64 p1] (.one (.l .bool)) fun(r3:Bool)=>
 ret (.bool r3))
 (ret (.bool false))
theorem F.mark.bl.rE.calls(p0:Option Addr)(p1:Int)(h:F.mark.bl.rE p0 p1 Q w):Calls Tryz.prog 184 #[.pointer p0,.int .i64 p1] w (aC Q):=
 Tryz.cd az.z Tryz.func184 (by kernel_rfl) (es:=[.va (.pointer p0),.va (.int .i64 p1)]) rfl (by kernel_rfl) h
def F.stack.Stack.qd.T:az:=⟨fun _=>[],
 fun _=>none,
 (fun
 |3=> .quiet
 |4=> .held (some 8) (.go 0 false (.go 1 false (.go 2 false (.go 3 false (.go 4 false (.go 5 false (.go 6 false (.go 7 false (.go 8 true (.go 9 false (.go 10 false (.go 11 false .nil))))))))))))
 |_=> .quiet)⟩
def F.stack.Stack.qd(p0:Option Addr)(p1:ay):Tree:=
 br (Option.isNone p0)
 (ret (.int .i64 0))
 (dI<|
 nn p0 fun a1=>
 ld (.l (.int .i64)) (fa a1 1) fun(x2:Int)=>
 nn p0 fun a3=>
 ld (.l .slice) (fa a3 0) fun(x4:ay)=>
 dI<|Gl.held fun S5=>
 nn p0 fun a6=>
 bm S5 (.l .slice) (fa a6 0) fun(x7:ay)=>
 sS p1.a p1.c 0 (if(IntKind.wrap .i64 (x2-(x4.n:Nat)):Int)<(p1.n:Nat)then(IntKind.wrap .i64 (x2-(x4.n:Nat)):Int)else(p1.n:Nat)) 1 fun s8=>
 c9 Tryz.prog (Builtin.append_ #[46,46] 46 #[.slice x7.a x7.n x7.c,.slice s8.a s8.n s8.c]) (.one (.l .slice)) fun(r9:ay)=>
 nn p0 fun a10=>
 st (fa a10 0) [.slice r9.a r9.n r9.c]<|
 nn p0 fun a11=>
 ld (.l .bool) (fa a11 2) fun(x12:Bool)=>
 br x12
 (nn p0 fun a13=>
 st (fa a13 2) [.bool true]<|
 ret (.int .i64 (if(IntKind.wrap .i64 (x2-(x4.n:Nat)):Int)<(p1.n:Nat)then(IntKind.wrap .i64 (x2-(x4.n:Nat)):Int)else(p1.n:Nat))))
 (nn p0 fun a13=>
 st (fa a13 2) [.bool (decide (((if(IntKind.wrap .i64 (x2-(x4.n:Nat)):Int)<(p1.n:Nat)then(IntKind.wrap .i64 (x2-(x4.n:Nat)):Int)else(p1.n:Nat)):Int)<(p1.n:Nat)))]<|
 ret (.int .i64 (if(IntKind.wrap .i64 (x2-(x4.n:Nat)):Int)<(p1.n:Nat)then(IntKind.wrap .i64 (x2-(x4.n:Nat)):Int)else(p1.n:Nat)))))
theorem F.stack.Stack.qd.calls(p0:Option Addr)(p1:ay)(h:F.stack.Stack.qd p0 p1 Q w):Calls Tryz.prog 205 #[.pointer p0,.slice p1.a p1.n p1.c] w (aC Q):=
 Tryz.cd F.stack.Stack.qd.T Tryz.func205 (by kernel_rfl) (es:=[.va (.pointer p0),.va (.slice p1.a p1.n p1.c)]) rfl (by kernel_rfl) h
def F.stack.Stack.w5(p0:Option Addr):Tree:=
 br (Option.isNone p0)
 (ret (.int .i64 0))
 (nn p0 fun a1=>
 ld (.l .slice) (fa a1 0) fun(x2:ay)=>
 ret (.int .i64 (x2.n:Nat)))
theorem F.stack.Stack.w5.calls(p0:Option Addr)(h:F.stack.Stack.w5 p0 Q w):Calls Tryz.prog 206 #[.pointer p0] w (aC Q):=
 Tryz.cd az.z Tryz.func206 (by kernel_rfl) (es:=[.va (.pointer p0)]) rfl (by kernel_rfl) h
def F.stack.Stack.Ew.T:az:=⟨fun _=>[],
 fun _=>none,
 (fun
 |3=> .quiet
 |4=> .tail 14
 |_=> .quiet)⟩
def F.stack.Stack.Ew(p0:Option Addr):Tree:=
 call Tryz.prog 206 [.pointer p0] (.one (.l (.int .i64))) fun(r1:Int)=>
 br ((r1:Int)==0)
 (ret (.tuple #[.int .i64 0,.bool false]))
 (dI<|
 nn p0 fun a2=>
 ld (.l .slice) (fa a2 0) fun(x3:ay)=>
 nn p0 fun a4=>
 ld (.l .slice) (fa a4 0) fun(x5:ay)=>
 ix x3.a x3.n (IntKind.wrap .i64 ((x5.n:Nat)-1)) 1 fun a6=>
 ld (.l (.int .i64)) a6 fun(x7:Int)=>
 dI<|
 nn p0 fun a8=>
 ld (.l .slice) (fa a8 0) fun(x9:ay)=>
 nn p0 fun a10=>
 ld (.l .slice) (fa a10 0) fun(x11:ay)=>
 sS x9.a x9.c 0 (IntKind.wrap .i64 ((x11.n:Nat)-1)) 1 fun s12=>
 nn p0 fun a13=>
 st (fa a13 0) [.slice s12.a s12.n s12.c]<|
 ret (.tuple #[.int .i64 x7,.bool true]))
theorem F.stack.Stack.Ew.calls(p0:Option Addr)(h:F.stack.Stack.Ew p0 Q w):Calls Tryz.prog 207 #[.pointer p0] w (aC Q):=
 Tryz.cd F.stack.Stack.Ew.T Tryz.func207 (by kernel_rfl) (es:=[.va (.pointer p0)]) rfl (by kernel_rfl) h
end Go.Proofs.YtfepdmpplahloaaGreat
