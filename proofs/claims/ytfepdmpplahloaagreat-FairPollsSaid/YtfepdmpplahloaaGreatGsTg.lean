import Derived.Test.YtfepdmpplahloaaGreatGsT
namespace Go.Proofs.YtfepdmpplahloaaGreat
open Go Go.Gl
set_option maxRecDepth 100000
set_option linter.unusedVariables false
variable{Q:Value→World→Prop}{w:World}
def F.gc.bY.View.T:az:=⟨fun _=>[],
 fun _=>none,
 (fun
 |3=> .held (some 49) (.go 0 false (.go 1 false (.go 2 false (.go 3 false (.go 5 false (.go 6 false (.go 7 false (.go 8 false (.go 10 false (.go 11 false (.go 12 false (.go 13 false (.go 15 false (.go 17 false (.go 18 false (.go 19 false (.go 20 false (.go 22 false (.go 23 false (.go 24 false (.go 25 false (.go 27 false (.go 28 false (.go 29 false (.go 30 false (.go 31 false (.go 32 false (.go 33 false (.go 34 false (.go 36 false (.go 37 false (.go 38 false (.go 39 false (.go 40 false (.go 41 false (.go 42 false (.go 44 false (.go 45 false (.go 46 false (.go 47 false (.go 4 false (.go 9 false (.go 14 false (.go 16 false (.go 21 false (.go 26 false (.go 35 false (.go 43 false (.go 48 false (.go 49 true .nil))))))))))))))))))))))))))))))))))))))))))))))))))
 |_=> .quiet)⟩
def F.gc.dc.T:az:=⟨fun _=>[],
 fun _=>none,
 (fun
 |9=> .held (some 9) (.go 0 false (.go 4 false (.go 6 false (.go 7 false (.go 1 false (.go 2 false (.go 3 false (.go 5 false (.go 8 false (.go 9 true (.go 10 false (.go 11 false .nil))))))))))))
 |_=> .quiet)⟩
def F.gc.dc(p0:LTs [.int .i64,.int .i64,.int .i64]):Tree:=
 nw 39 [.int .i64 p0.1,.int .i64 p0.2.1,.int .i64 p0.2.2.1] fun b1=>
 ld (.l (.int .i64)) (fa (⟨b1,0,none⟩) 0) fun(x2:Int)=>
 call Tryz.prog 34 [.int .i64 x2] (.many [.l .ptr,.l (.int .i64)]) fun(r3:KTs _)=>
 br ((r3.2.1:Int) != 0)
 (ret (.tuple #[.pointer none,.int .i64 r3.2.1]))
 (ld (.l (.int .i64)) (fa (⟨b1,0,none⟩) 1) fun(x4:Int)=>
 br (decide ((x4:Int)<0))
 (ret (.tuple #[.pointer none,.int .i64 1]))
 (ld (.l (.int .i64)) (fa (⟨b1,0,none⟩) 2) fun(x5:Int)=>
 call Tryz.prog 35 [.int .i64 x5] (.many [.l .ptr,.l (.int .i64)]) fun(r6:KTs _)=>
 br ((r6.2.1:Int) != 0)
 (ret (.tuple #[.pointer none,.int .i64 r6.2.1]))
 (dI<|Gl.held fun S7=>
 bm S7 (.g [.int .i64,.int .i64,.int .i64]) (⟨b1,0,none⟩) fun(x8:LTs _)=>
 call Tryz.prog 36 [.pointer r3.1] (.one (.l .ptr)) fun(r9:Option Addr)=>
 fX S7<|
 call Tryz.prog 37 [] (.one (.l .ptr)) fun(r10:Option Addr)=>
 fX S7<|
 call Tryz.prog 38 [] (.one (.l .ptr)) fun(r11:Option Addr)=>
 fX S7<|
 call Tryz.prog 39 [.pointer r3.1] (.one (.l .ptr)) fun(r12:Option Addr)=>
 fX S7<|
 nw 73 [.pointer r9,.pointer r10,.pointer r11,.pointer r12,.pointer r3.1,.int .i64 x8.1,.int .i64 x8.2.1,.int .i64 x8.2.2.1,.int .i64 0,.int .i64 0] fun b13=>
 ret (.tuple #[.pointer (some (⟨b13,0,none⟩)),.int .i64 0]))))
theorem F.gc.dc.calls(p0:LTs [.int .i64,.int .i64,.int .i64])(h:F.gc.dc p0 Q w):Calls Tryz.prog 21 #[.agg #[.int .i64 p0.1,.int .i64 p0.2.1,.int .i64 p0.2.2.1]] w (aC Q):=
 Tryz.cd F.gc.dc.T Tryz.func21 (by kernel_rfl) (es:=[.va (.agg #[.int .i64 p0.1,.int .i64 p0.2.1,.int .i64 p0.2.2.1])]) rfl (by kernel_rfl) h
def F.gc.bY.nv.T:az:=⟨(fun
 |3=>[(3,.slice),(15,.int .i64)]
 |_=>[]),
 fun _=>none,
 fun _=> .quiet⟩
def F.gc.bY.nv(p0:Option Addr):Tree:=
 nn p0 fun a1=>
 ld (.l .ptr) (fa a1 0) fun(x2:Option Addr)=>
 nn x2 fun a3=>
 ld (.l .ptr) (fa a3 0) fun(x4:Option Addr)=>
 call Tryz.prog 65 [.pointer x4] (.one (.l (.int .i64))) fun(r5:Int)=>
 lp [.slice,.int .i64] (fun X6 u7=>
 br (decide ((u7.2.1:Int)<r5))
 (nn p0 fun a8=>
 ld (.l .ptr) (fa a8 0) fun(x9:Option Addr)=>
 nn x9 fun a10=>
 ld (.l .ptr) (fa a10 0) fun(x11:Option Addr)=>
 call Tryz.prog 66 [.pointer x11,.int .i64 u7.2.1] (.many [.l .slice,.l (.int .i64)]) fun(r12:KTs _)=>
 nw 46 [.slice r12.1.a r12.1.n r12.1.c] fun b13=>
 c9 Tryz.prog (Builtin.append_ #[47,47] 47 #[.slice u7.1.a u7.1.n u7.1.c,.slice (some ⟨b13,0,none⟩) 1 1]) (.one (.l .slice)) fun(r14:ay)=>
 X6 (⟨r14.a,r14.n,r14.c⟩,IntKind.wrap .i64 (u7.2.1+1),()))
 (ret (.slice u7.1.a u7.1.n u7.1.c))) (⟨none,0,0⟩,0,())
theorem F.gc.bY.nv.calls(p0:Option Addr)(h:F.gc.bY.nv p0 Q w):Calls Tryz.prog 27 #[.pointer p0] w (aC Q):=
 Tryz.cd F.gc.bY.nv.T Tryz.func27 (by kernel_rfl) (es:=[.va (.pointer p0)]) rfl (by kernel_rfl) h
def F.gc.bY.CC(p0:Option Addr):Tree:=
 br (Option.isNone p0)
 (ret (.int .i64 0))
 (nn p0 fun a1=>
 ld (.l (.int .i64)) (fa a1 9) fun(x2:Int)=>
 ret (.int .i64 x2))
theorem F.gc.bY.CC.calls(p0:Option Addr)(h:F.gc.bY.CC p0 Q w):Calls Tryz.prog 33 #[.pointer p0] w (aC Q):=
 Tryz.cd az.z Tryz.func33 (by kernel_rfl) (es:=[.va (.pointer p0)]) rfl (by kernel_rfl) h
def F.gc.bY.Collect.T:az:=⟨(fun
 |8=>[(38,.int .i64)]
 |_=>[]),
 (fun
 |4=>some [(6,.adr),(7,.int .i64)]
 |_=>none),
 (fun
 |3=> .held (some 7) (.go 0 false (.go 1 false (.go 2 false (.go 3 false (.go 4 false (.go 5 false (.two (.go 6 false (.two (.go 7 true (.go 8 false (.go 9 false (.go 10 false (.go 11 false (.go 12 false (.go 13 false .nil))))))) (.go 11 false (.go 7 true (.go 8 false (.go 9 false (.go 10 false (.go 12 false (.go 13 false .nil))))))))) (.go 11 false (.go 6 false (.go 7 true (.go 8 false (.go 9 false (.go 10 false (.go 12 false (.go 13 false .nil)))))))))))))))
 |6=> .tail 6
 |12=> .tail 6
 |13=> .tail 6
 |_=> .quiet)⟩
def F.gc.bY.Collect(p0:Option Addr)(p1:Bool):Tree:=
 nw 129 (zc Tryz.prog 129) fun b1=>
 br (Option.isNone p0)
 (st (⟨b1,0,none⟩) [.slice none 0 0,.slice none 0 0,.slice none 0 0,.slice none 0 0]<|
 ld (.g [.slice,.slice,.slice,.slice]) (⟨b1,0,none⟩) fun(x2:LTs _)=>
 ret (.tuple #[.agg #[.slice x2.1.a x2.1.n x2.1.c,.slice x2.2.1.a x2.2.1.n x2.2.1.c,.slice x2.2.2.1.a x2.2.2.1.n x2.2.2.1.c,.slice x2.2.2.2.1.a x2.2.2.2.1.n x2.2.2.2.1.c],.int .i64 2]))
 (jn (fun(j3:LTs [.adr,.int .i64])=>
 br ((j3.2.1:Int) != 0)
 (st (⟨b1,0,none⟩) [.slice none 0 0,.slice none 0 0,.slice none 0 0,.slice none 0 0]<|
 ld (.g [.slice,.slice,.slice,.slice]) (⟨b1,0,none⟩) fun(x4:LTs _)=>
 ret (.tuple #[.agg #[.slice x4.1.a x4.1.n x4.1.c,.slice x4.2.1.a x4.2.1.n x4.2.1.c,.slice x4.2.2.1.a x4.2.2.1.n x4.2.2.1.c,.slice x4.2.2.2.1.a x4.2.2.2.1.n x4.2.2.2.1.c],.int .i64 j3.2.1]))
 (dI<|
 nn p0 fun a4=>
 ld (.l .ptr) (fa a4 0) fun(x5:Option Addr)=>
 ld (.l .slice) (fa j3.1 0) fun(x6:ay)=>
 call Tryz.prog 92 [.pointer x5,.slice x6.a x6.n x6.c] (.one (.l (.int .i64))) fun(r7:Int)=>
 ld (.l .slice) (fa j3.1 1) fun(x8:ay)=>
 lp [.int .i64] (fun X9 u10=>
 br (decide ((u10.1:Int)<(x8.n:Nat)))
 (ix x8.a x8.n u10.1 1 fun a11=>
 ld (.l (.int .i64)) a11 fun(x12:Int)=>
 nn p0 fun a13=>
 ld (.l .ptr) (fa a13 0) fun(x14:Option Addr)=>
 call Tryz.prog 93 [.pointer x14,.int .i64 x12] (.many [.l .bool,.l (.int .i64)]) fun(r15:KTs _)=>
 X9 (IntKind.wrap .i64 (u10.1+1),()))
 (dI<|
 nn p0 fun a11=>
 ld (.l .ptr) (fa a11 3) fun(x12:Option Addr)=>
 ld (.l .slice) (fa j3.1 2) fun(x13:ay)=>
 call Tryz.prog 112 [.pointer x12,.slice x13.a x13.n x13.c] (.many []) fun(r14:KTs _)=>
 dI<|
 nn p0 fun a15=>
 ld (.l .ptr) (fa a15 4) fun(x16:Option Addr)=>
 ld (.l .slice) (fa j3.1 3) fun(x17:ay)=>
 call Tryz.prog 113 [.pointer x16,.slice x17.a x17.n x17.c] (.one (.l (.int .i64))) fun(r18:Int)=>
 nn p0 fun a19=>
 ld (.l (.int .i64)) (fa a19 9) fun(x20:Int)=>
 nn p0 fun a21=>
 st (fa a21 9) [.int .i64 (IntKind.wrap .i64 (x20+1))]<|
 ld (.g [.slice,.slice,.slice,.slice]) j3.1 fun(x22:LTs _)=>
 st (⟨b1,0,none⟩) [.slice x22.1.a x22.1.n x22.1.c,.slice x22.2.1.a x22.2.1.n x22.2.1.c,.slice x22.2.2.1.a x22.2.2.1.n x22.2.2.1.c,.slice x22.2.2.2.1.a x22.2.2.2.1.n x22.2.2.2.1.c]<|
 ld (.g [.slice,.slice,.slice,.slice]) (⟨b1,0,none⟩) fun(x23:LTs _)=>
 ret (.tuple #[.agg #[.slice x23.1.a x23.1.n x23.1.c,.slice x23.2.1.a x23.2.1.n x23.2.1.c,.slice x23.2.2.1.a x23.2.2.1.n x23.2.2.1.c,.slice x23.2.2.2.1.a x23.2.2.2.1.n x23.2.2.2.1.c],.int .i64 0]))) (0,()))) fun J2=>
 dI<|Gl.held fun S24=>
 nn p0 fun a25=>
 bm S24 (.l .ptr) (fa a25 4) fun(x26:Option Addr)=>
 both
 (call Tryz.prog 111 [.pointer p0,.bool p1] (.one (.g [.slice,.slice,.int .i64,.int .i64,.int .i64,.bool,.int .i64])) fun(r27:LTs _)=>
 fX S24<|
 both
 (call Tryz.prog 110 [.pointer x26,.agg #[.slice r27.1.a r27.1.n r27.1.c,.slice r27.2.1.a r27.2.1.n r27.2.1.c,.int .i64 r27.2.2.1,.int .i64 r27.2.2.2.1,.int .i64 r27.2.2.2.2.1,.bool r27.2.2.2.2.2.1,.int .i64 r27.2.2.2.2.2.2.1]] (.many [.g [.slice,.slice,.slice,.slice],.l (.int .i64)]) fun(r28:KTs _)=>
 nw 129 (zc Tryz.prog 129) fun b29=>
 st (⟨b29,0,none⟩) [.slice r28.1.1.a r28.1.1.n r28.1.1.c,.slice r28.1.2.1.a r28.1.2.1.n r28.1.2.1.c,.slice r28.1.2.2.1.a r28.1.2.2.1.n r28.1.2.2.1.c,.slice r28.1.2.2.2.1.a r28.1.2.2.2.1.n r28.1.2.2.2.1.c]<|
 J2 (⟨b29,0,none⟩,r28.2.1,()))
 (nw 129 (zc Tryz.prog 129) fun b30=>
 fX S24<|
 call Tryz.prog 110 [.pointer x26,.agg #[.slice r27.1.a r27.1.n r27.1.c,.slice r27.2.1.a r27.2.1.n r27.2.1.c,.int .i64 r27.2.2.1,.int .i64 r27.2.2.2.1,.int .i64 r27.2.2.2.2.1,.bool r27.2.2.2.2.2.1,.int .i64 r27.2.2.2.2.2.2.1]] (.many [.g [.slice,.slice,.slice,.slice],.l (.int .i64)]) fun(r31:KTs _)=>
 st (⟨b30,0,none⟩) [.slice r31.1.1.a r31.1.1.n r31.1.1.c,.slice r31.1.2.1.a r31.1.2.1.n r31.1.2.1.c,.slice r31.1.2.2.1.a r31.1.2.2.1.n r31.1.2.2.1.c,.slice r31.1.2.2.2.1.a r31.1.2.2.2.1.n r31.1.2.2.2.1.c]<|
 J2 (⟨b30,0,none⟩,r31.2.1,())))
 (nw 129 (zc Tryz.prog 129) fun b32=>
 fX S24<|
 call Tryz.prog 111 [.pointer p0,.bool p1] (.one (.g [.slice,.slice,.int .i64,.int .i64,.int .i64,.bool,.int .i64])) fun(r33:LTs _)=>
 fX S24<|
 call Tryz.prog 110 [.pointer x26,.agg #[.slice r33.1.a r33.1.n r33.1.c,.slice r33.2.1.a r33.2.1.n r33.2.1.c,.int .i64 r33.2.2.1,.int .i64 r33.2.2.2.1,.int .i64 r33.2.2.2.2.1,.bool r33.2.2.2.2.2.1,.int .i64 r33.2.2.2.2.2.2.1]] (.many [.g [.slice,.slice,.slice,.slice],.l (.int .i64)]) fun(r34:KTs _)=>
 st (⟨b32,0,none⟩) [.slice r34.1.1.a r34.1.1.n r34.1.1.c,.slice r34.1.2.1.a r34.1.2.1.n r34.1.2.1.c,.slice r34.1.2.2.1.a r34.1.2.2.1.n r34.1.2.2.1.c,.slice r34.1.2.2.2.1.a r34.1.2.2.2.1.n r34.1.2.2.2.1.c]<|
 J2 (⟨b32,0,none⟩,r34.2.1,())))
theorem F.gc.bY.Collect.calls(p0:Option Addr)(p1:Bool)(h:F.gc.bY.Collect p0 p1 Q w):Calls Tryz.prog 68 #[.pointer p0,.bool p1] w (aC Q):=
 Tryz.cd F.gc.bY.Collect.T Tryz.func68 (by kernel_rfl) (es:=[.va (.pointer p0),.va (.bool p1)]) rfl (by kernel_rfl) h
def F.gc.bY.Clock(p0:Option Addr):Tree:=
 br (Option.isNone p0)
 (ret (.int .i64 0))
 (nn p0 fun a1=>
 ld (.l (.int .i64)) (fa a1 8) fun(x2:Int)=>
 ret (.int .i64 x2))
theorem F.gc.bY.Clock.calls(p0:Option Addr)(h:F.gc.bY.Clock p0 Q w):Calls Tryz.prog 89 #[.pointer p0] w (aC Q):=
 Tryz.cd az.z Tryz.func89 (by kernel_rfl) (es:=[.va (.pointer p0)]) rfl (by kernel_rfl) h
def F.gc.bY.Br(p0:Option Addr)(p1:Int):Tree:=
 br (!(Option.isNone p0))
 (nn p0 fun a1=>
 ld (.l (.int .i64)) (fa a1 8) fun(x2:Int)=>
 nw 3 [.int .i64 p1] fun b3=>
 call Tryz.prog 134 [.int .i64 x2,.slice (some ⟨b3,0,none⟩) 1 1] (.one (.l (.int .i64))) fun(r4:Int)=>
 nn p0 fun a5=>
 st (fa a5 8) [.int .i64 r4]<|
 ret (.tuple #[]))
 (ret (.tuple #[]))
theorem F.gc.bY.Br.calls(p0:Option Addr)(p1:Int)(h:F.gc.bY.Br p0 p1 Q w):Calls Tryz.prog 98 #[.pointer p0,.int .i64 p1] w (aC Q):=
 Tryz.cd az.z Tryz.func98 (by kernel_rfl) (es:=[.va (.pointer p0),.va (.int .i64 p1)]) rfl (by kernel_rfl) h
def F.gc.bY.In.T:az:=⟨(fun
 |5=>[(5,.slice),(20,.int .i64)]
 |10=>[(6,.slice),(33,.int .i64)]
 |_=>[]),
 fun _=>none,
 (fun
 |14=> .held (some 52) (.go 0 false (.go 1 false (.go 2 false (.go 3 false (.go 4 false (.go 6 false (.go 7 false (.go 8 false (.go 9 false (.go 10 false (.go 14 false (.go 15 false (.go 16 false (.go 17 false (.go 19 false (.go 20 false (.go 21 false (.go 22 false (.go 23 false (.go 24 false (.go 25 false (.go 26 false (.go 27 false (.go 28 false (.go 29 false (.go 31 false (.go 32 false (.go 33 false (.go 34 false (.go 35 false (.go 36 false (.go 37 false (.go 40 false (.go 41 false (.go 42 false (.go 43 false (.go 44 false (.go 45 false (.go 46 false (.go 47 false (.go 48 false (.go 49 false (.go 50 false (.go 5 false (.go 11 false (.go 12 false (.go 13 false (.go 18 false (.go 30 false (.go 38 false (.go 39 false (.go 51 false (.go 52 true .nil)))))))))))))))))))))))))))))))))))))))))))))))))))))
 |_=> .quiet)⟩
def F.gc.bY.In(p0:Option Addr)(p1:Bool):Tree:=
 nw 180 (zc Tryz.prog 180) fun b1=>
 br (Option.isNone p0)
 (st (⟨b1,0,none⟩) [.slice none 0 0,.slice none 0 0,.int .i64 0,.int .i64 0,.int .i64 0,.bool false,.int .i64 0]<|
 ld (.g [.slice,.slice,.int .i64,.int .i64,.int .i64,.bool,.int .i64]) (⟨b1,0,none⟩) fun(x2:LTs _)=>
 ret (.agg #[.slice x2.1.a x2.1.n x2.1.c,.slice x2.2.1.a x2.2.1.n x2.2.1.c,.int .i64 x2.2.2.1,.int .i64 x2.2.2.2.1,.int .i64 x2.2.2.2.2.1,.bool x2.2.2.2.2.2.1,.int .i64 x2.2.2.2.2.2.2.1]))
 (nn p0 fun a2=>
 ld (.l .ptr) (fa a2 1) fun(x3:Option Addr)=>
 call Tryz.prog 25 [.pointer x3] (.one (.l .slice)) fun(r4:ay)=>
 lp [.slice,.int .i64] (fun X5 u6=>
 br (decide ((u6.2.1:Int)<(r4.n:Nat)))
 (ix r4.a r4.n u6.2.1 2 fun a7=>
 ld (.g [.int .i64,.int .i64]) a7 fun(x8:LTs _)=>
 nw 118 (zc Tryz.prog 118) fun b9=>
 st (⟨b9,0,none⟩) [.int .i64 x8.1,.int .i64 x8.2.1]<|
 ld (.l (.int .i64)) (fa (⟨b9,0,none⟩) 1) fun(x10:Int)=>
 nw 3 [.int .i64 x10] fun b11=>
 c9 Tryz.prog (Builtin.append_ #[46,46] 46 #[.slice u6.1.a u6.1.n u6.1.c,.slice (some ⟨b11,0,none⟩) 1 1]) (.one (.l .slice)) fun(r12:ay)=>
 X5 (⟨r12.a,r12.n,r12.c⟩,IntKind.wrap .i64 (u6.2.1+1),()))
 (call Tryz.prog 27 [.pointer p0] (.one (.l .slice)) fun(r7:ay)=>
 lp [.slice,.int .i64] (fun X8 u9=>
 br (decide ((u9.2.1:Int)<(r7.n:Nat)))
 (ix r7.a r7.n u9.2.1 1 fun a10=>
 ld (.l .slice) a10 fun(x11:ay)=>
 sS x11.a x11.c 0 (if(1:Int)<(x11.n:Nat)then(1:Int)else(x11.n:Nat)) 1 fun s12=>
 c9 Tryz.prog (Builtin.append_ #[46,46] 46 #[.slice u9.1.a u9.1.n u9.1.c,.slice s12.a s12.n s12.c]) (.one (.l .slice)) fun(r13:ay)=>
 X8 (⟨r13.a,r13.n,r13.c⟩,IntKind.wrap .i64 (u9.2.1+1),()))
 (dI<|Gl.held fun S10=>
 nn p0 fun a11=>
 bm S10 (.l .ptr) (fa a11 2) fun(x12:Option Addr)=>
 nn p0 fun a13=>
 bm S10 (.l .ptr) (fa a13 3) fun(x14:Option Addr)=>
 nn p0 fun a15=>
 bm S10 (.l .ptr) (fa a15 3) fun(x16:Option Addr)=>
 nn p0 fun a17=>
 bm S10 (.l (.int .i64)) (fa a17 8) fun(x18:Int)=>
 nn p0 fun a19=>
 bm S10 (.l .ptr) (fa a19 4) fun(x20:Option Addr)=>
 nn x20 fun a21=>
 bm S10 (.l .ptr) (fa a21 0) fun(x22:Option Addr)=>
 nn p0 fun a23=>
 bm S10 (.l .ptr) (fa a23 4) fun(x24:Option Addr)=>
 nn x24 fun a25=>
 bm S10 (.l .ptr) (fa a25 0) fun(x26:Option Addr)=>
 nn p0 fun a27=>
 bm S10 (.l (.int .i64)) (fa (fa a27 5) 1) fun(x28:Int)=>
 nn p0 fun a29=>
 bm S10 (.l (.int .i64)) (fa (fa a29 5) 2) fun(x30:Int)=>
 call Tryz.prog 26 [.pointer x12] (.one (.l .slice)) fun(r31:ay)=>
 fX S10<|
 call Tryz.prog 29 [.pointer x14] (.one (.l .slice)) fun(r32:ay)=>
 fX S10<|
 nw 46 [.slice u6.1.a u6.1.n u6.1.c,.slice r31.a r31.n r31.c,.slice u9.1.a u9.1.n u9.1.c,.slice r32.a r32.n r32.c] fun b33=>
 fX S10<|
 call Tryz.prog 149 [.slice (some ⟨b33,0,none⟩) 4 4] (.one (.l .slice)) fun(r34:ay)=>
 fX S10<|
 call Tryz.prog 28 [.pointer x16] (.one (.l .slice)) fun(r35:ay)=>
 fX S10<|
 call Tryz.prog 99 [.pointer x22] (.one (.l (.int .i64))) fun(r36:Int)=>
 fX S10<|
 call Tryz.prog 31 [.pointer x26] (.one (.l (.int .i64))) fun(r37:Int)=>
 fX S10<|
 st (⟨b1,0,none⟩) [.slice r34.a r34.n r34.c,.slice r35.a r35.n r35.c,.int .i64 x18,.int .i64 (IntKind.wrap .i64 (r36-r37)),.int .i64 x28,.bool p1,.int .i64 x30]<|
 ld (.g [.slice,.slice,.int .i64,.int .i64,.int .i64,.bool,.int .i64]) (⟨b1,0,none⟩) fun(x38:LTs _)=>
 ret (.agg #[.slice x38.1.a x38.1.n x38.1.c,.slice x38.2.1.a x38.2.1.n x38.2.1.c,.int .i64 x38.2.2.1,.int .i64 x38.2.2.2.1,.int .i64 x38.2.2.2.2.1,.bool x38.2.2.2.2.2.1,.int .i64 x38.2.2.2.2.2.2.1]))) (⟨none,0,0⟩,0,()))) (⟨none,0,0⟩,0,()))
theorem F.gc.bY.In.calls(p0:Option Addr)(p1:Bool)(h:F.gc.bY.In p0 p1 Q w):Calls Tryz.prog 111 #[.pointer p0,.bool p1] w (aC Q):=
 Tryz.cd F.gc.bY.In.T Tryz.func111 (by kernel_rfl) (es:=[.va (.pointer p0),.va (.bool p1)]) rfl (by kernel_rfl) h
end Go.Proofs.YtfepdmpplahloaaGreat
