import Derived.Test.YtfepdmpplahloaaGreatGsT
namespace Go.Proofs.YtfepdmpplahloaaGreat
open Go Go.Gl
set_option maxRecDepth 100000
set_option linter.unusedVariables false
variable{Q:Value→World→Prop}{w:World}
def F.handle.aW.wX.T:az:=⟨(fun
 |5=>[(3,.slice),(7,.int .i64)]
 |_=>[]),
 fun _=>none,
 (fun
 |8=> .held (some 12) (.go 0 false (.go 1 false (.go 2 false (.go 4 false (.go 5 false (.go 6 false (.go 7 false (.go 8 false (.go 9 false (.go 10 false (.go 3 false (.go 11 false (.go 12 true (.go 13 false (.go 14 false .nil)))))))))))))))
 |_=> .quiet)⟩
def F.handle.aW.wX(p0:Option Addr):Tree:=
 br (Option.isNone p0)
 (ret (.slice none 0 0))
 (lp [.slice,.int .i64] (fun X1 u2=>
 br (decide ((u2.2.1:Int)<512))
 (nn p0 fun a3=>
 ix (some (fa a3 0)) 512 u2.2.1 2 fun a4=>
 ld (.l (.int .i64)) (fa a4 1) fun(x5:Int)=>
 br ((x5:Int) != 0)
 (dI<|Gl.held fun S6=>
 nn p0 fun a7=>
 ix (some (fa a7 0)) 512 u2.2.1 2 fun a8=>
 bm S6 (.l (.int .i64)) (fa a8 1) fun(x9:Int)=>
 call Tryz.prog 63 [.pointer p0,.int .i64 u2.2.1] (.one (.l (.int .i64))) fun(r10:Int)=>
 fX S6<|
 nw 118 [.int .i64 r10,.int .i64 x9] fun b11=>
 c9 Tryz.prog (Builtin.append_ #[45,45] 45 #[.slice u2.1.a u2.1.n u2.1.c,.slice (some ⟨b11,0,none⟩) 1 1]) (.one (.l .slice)) fun(r12:ay)=>
 X1 (⟨r12.a,r12.n,r12.c⟩,IntKind.wrap .i64 (u2.2.1+1),()))
 (X1 (⟨u2.1.a,u2.1.n,u2.1.c⟩,IntKind.wrap .i64 (u2.2.1+1),())))
 (ret (.slice u2.1.a u2.1.n u2.1.c))) (⟨none,0,0⟩,0,()))
theorem F.handle.aW.wX.calls(p0:Option Addr)(h:F.handle.aW.wX p0 Q w):Calls Tryz.prog 25 #[.pointer p0] w (aC Q):=
 Tryz.cd F.handle.aW.wX.T Tryz.func25 (by kernel_rfl) (es:=[.va (.pointer p0)]) rfl (by kernel_rfl) h
def F.root.de.de(p0:Option Addr):Tree:=
 br (Option.isNone p0)
 (ret (.slice none 0 0))
 (nn p0 fun a1=>
 call Tryz.prog 64 [.slice (some (fa a1 0)) 16 16] (.one (.l .slice)) fun(r2:ay)=>
 ret (.slice r2.a r2.n r2.c))
theorem F.root.de.de.calls(p0:Option Addr)(h:F.root.de.de p0 Q w):Calls Tryz.prog 26 #[.pointer p0] w (aC Q):=
 Tryz.cd az.z Tryz.func26 (by kernel_rfl) (es:=[.va (.pointer p0)]) rfl (by kernel_rfl) h
def F.final.bM.bM(p0:Option Addr):Tree:=
 br (Option.isNone p0)
 (ret (.slice none 0 0))
 (nn p0 fun a1=>
 ld (.l .slice) (fa a1 1) fun(x2:ay)=>
 call Tryz.prog 64 [.slice x2.a x2.n x2.c] (.one (.l .slice)) fun(r3:ay)=>
 ret (.slice r3.a r3.n r3.c))
theorem F.final.bM.bM.calls(p0:Option Addr)(h:F.final.bM.bM p0 Q w):Calls Tryz.prog 28 #[.pointer p0] w (aC Q):=
 Tryz.cd az.z Tryz.func28 (by kernel_rfl) (es:=[.va (.pointer p0)]) rfl (by kernel_rfl) h
def F.final.bM.oR(p0:Option Addr):Tree:=
 br (Option.isNone p0)
 (ret (.slice none 0 0))
 (nn p0 fun a1=>
 ld (.l .slice) (fa a1 2) fun(x2:ay)=>
 call Tryz.prog 64 [.slice x2.a x2.n x2.c] (.one (.l .slice)) fun(r3:ay)=>
 ret (.slice r3.a r3.n r3.c))
theorem F.final.bM.oR.calls(p0:Option Addr)(h:F.final.bM.oR p0 Q w):Calls Tryz.prog 29 #[.pointer p0] w (aC Q):=
 Tryz.cd az.z Tryz.func29 (by kernel_rfl) (es:=[.va (.pointer p0)]) rfl (by kernel_rfl) h
def F.ref.dc(p0:Option Addr):Tree:=
 call Tryz.prog 73 [.pointer p0] (.one (.l .ptr)) fun(r1:Option Addr)=>
 br (Option.isNone r1)
 (ret (.pointer none))
 (nw 95 [.pointer r1,.int .i64 0] fun b2=>
 ret (.pointer (some (⟨b2,0,none⟩))))
theorem F.ref.dc.calls(p0:Option Addr)(h:F.ref.dc p0 Q w):Calls Tryz.prog 36 #[.pointer p0] w (aC Q):=
 Tryz.cd az.z Tryz.func36 (by kernel_rfl) (es:=[.va (.pointer p0)]) rfl (by kernel_rfl) h
def F.handle.dc:Tree:=
 nw 115 (List.replicate 1024 (.int .i64 0:Value)) fun b1=>
 ret (.pointer (some (⟨b1,0,none⟩)))
theorem F.handle.dc.calls(h:F.handle.dc Q w):Calls Tryz.prog 37 #[] w (aC Q):=
 Tryz.cd az.z Tryz.func37 (by kernel_rfl) (es:=[]) rfl (by kernel_rfl) h
def F.root.dc:Tree:=
 nw 122 [.int .i64 0,.int .i64 0,.int .i64 0,.int .i64 0,.int .i64 0,.int .i64 0,.int .i64 0,.int .i64 0,.int .i64 0,.int .i64 0,.int .i64 0,.int .i64 0,.int .i64 0,.int .i64 0,.int .i64 0,.int .i64 0] fun b1=>
 ret (.pointer (some (⟨b1,0,none⟩)))
theorem F.root.dc.calls(h:F.root.dc Q w):Calls Tryz.prog 38 #[] w (aC Q):=
 Tryz.cd az.z Tryz.func38 (by kernel_rfl) (es:=[]) rfl (by kernel_rfl) h
def F.final.dc(p0:Option Addr):Tree:=
 br (Option.isNone p0)
 (ret (.pointer none))
 (nw 100 [.pointer p0,.slice none 0 0,.slice none 0 0] fun b1=>
 ret (.pointer (some (⟨b1,0,none⟩))))
theorem F.final.dc.calls(p0:Option Addr)(h:F.final.dc p0 Q w):Calls Tryz.prog 39 #[.pointer p0] w (aC Q):=
 Tryz.cd az.z Tryz.func39 (by kernel_rfl) (es:=[.va (.pointer p0)]) rfl (by kernel_rfl) h
def F.handle.aW.told(p0:Option Addr)(p1:Int):Tree:=
 nn p0 fun a1=>
 ix (some (fa a1 0)) 512 p1 2 fun a2=>
 call Tryz.prog 106 [.pointer (some (fa a2 0))] (.one (.l (.int .i64))) fun(r3:Int)=>
 ret (.int .i64 (IntKind.wrap .i64 (p1+(IntKind.wrap .i64 (512*r3)))))
theorem F.handle.aW.told.calls(p0:Option Addr)(p1:Int)(h:F.handle.aW.told p0 p1 Q w):Calls Tryz.prog 63 #[.pointer p0,.int .i64 p1] w (aC Q):=
 Tryz.cd az.z Tryz.func63 (by kernel_rfl) (es:=[.va (.pointer p0),.va (.int .i64 p1)]) rfl (by kernel_rfl) h
def F.queue.bp.bp(p0:Option Addr):Tree:=
 br (Option.isNone p0)
 (ret (.int .i64 0))
 (nn p0 fun a1=>
 ld (.l .slice) (fa a1 1) fun(x2:ay)=>
 ret (.int .i64 (x2.n:Nat)))
theorem F.queue.bp.bp.calls(p0:Option Addr)(h:F.queue.bp.bp p0 Q w):Calls Tryz.prog 65 #[.pointer p0] w (aC Q):=
 Tryz.cd az.z Tryz.func65 (by kernel_rfl) (es:=[.va (.pointer p0)]) rfl (by kernel_rfl) h
def F.queue.bp.List.T:az:=⟨(fun
 |5=>[(6,.slice),(7,.int .i64)]
 |_=>[]),
 fun _=>none,
 fun _=> .quiet⟩
def F.queue.bp.List(p0:Option Addr)(p1:Int):Tree:=
 call Tryz.prog 107 [.pointer p0,.int .i64 p1] (.one (.l .bool)) fun(r1:Bool)=>
 br (!r1)
 (ret (.tuple #[.slice none 0 0,.int .i64 2]))
 (nn p0 fun a2=>
 ld (.l .slice) (fa a2 1) fun(x3:ay)=>
 ix x3.a x3.n p1 2 fun a4=>
 ld (.l (.int .i64)) (fa a4 0) fun(x5:Int)=>
 lp [.slice,.int .i64] (fun X6 u7=>
 br ((u7.2.1:Int) != 0)
 (nw 3 [.int .i64 u7.2.1] fun b8=>
 c9 Tryz.prog (Builtin.append_ #[46,46] 46 #[.slice u7.1.a u7.1.n u7.1.c,.slice (some ⟨b8,0,none⟩) 1 1]) (.one (.l .slice)) fun(r9:ay)=>
 nn p0 fun a10=>
 ld (.l .ptr) (fa a10 0) fun(x11:Option Addr)=>
 call Tryz.prog 62 [.pointer x11,.int .i64 u7.2.1,.int .i64 2] (.many [.l (.int .i64),.l (.int .i64)]) fun(r12:KTs _)=>
 br ((r12.2.1:Int) != 0)
 (ret (.tuple #[.slice r9.a r9.n r9.c,.int .i64 0]))
 (X6 (⟨r9.a,r9.n,r9.c⟩,r12.1,())))
 (ret (.tuple #[.slice u7.1.a u7.1.n u7.1.c,.int .i64 0]))) (⟨none,0,0⟩,x5,()))
theorem F.queue.bp.List.calls(p0:Option Addr)(p1:Int)(h:F.queue.bp.List p0 p1 Q w):Calls Tryz.prog 66 #[.pointer p0,.int .i64 p1] w (aC Q):=
 Tryz.cd F.queue.bp.List.T Tryz.func66 (by kernel_rfl) (es:=[.va (.pointer p0),.va (.int .i64 p1)]) rfl (by kernel_rfl) h
def F.queue.dc(p0:Option Addr):Tree:=
 br (Option.isNone p0)
 (ret (.pointer none))
 (nw 98 [.pointer p0,.slice none 0 0] fun b1=>
 ret (.pointer (some (⟨b1,0,none⟩))))
theorem F.queue.dc.calls(p0:Option Addr)(h:F.queue.dc p0 Q w):Calls Tryz.prog 73 #[.pointer p0] w (aC Q):=
 Tryz.cd az.z Tryz.func73 (by kernel_rfl) (es:=[.va (.pointer p0)]) rfl (by kernel_rfl) h
def F.handle.aW.Drop(p0:Option Addr)(p1:Int):Tree:=
 call Tryz.prog 126 [.pointer p0,.int .i64 p1] (.many [.l (.int .i64),.l .bool]) fun(r1:KTs _)=>
 br (!r1.2.1)
 (ret (.int .i64 6))
 (nn p0 fun a2=>
 ix (some (fa a2 0)) 512 r1.1 2 fun a3=>
 st (fa a3 1) [.int .i64 0]<|
 nn p0 fun a4=>
 ix (some (fa a4 0)) 512 r1.1 2 fun a5=>
 call Tryz.prog 127 [.pointer (some (fa a5 0))] (.many []) fun(r6:KTs _)=>
 ret (.int .i64 0))
theorem F.handle.aW.Drop.calls(p0:Option Addr)(p1:Int)(h:F.handle.aW.Drop p0 p1 Q w):Calls Tryz.prog 82 #[.pointer p0,.int .i64 p1] w (aC Q):=
 Tryz.cd az.z Tryz.func82 (by kernel_rfl) (es:=[.va (.pointer p0),.va (.int .i64 p1)]) rfl (by kernel_rfl) h
def F.root.de.Place(p0:Option Addr)(p1:Int)(p2:Int):Tree:=
 call Tryz.prog 128 [.pointer p0,.int .i64 p1] (.one (.l .bool)) fun(r1:Bool)=>
 br (!r1)
 (ret (.int .i64 1))
 (br (decide ((p2:Int)<0))
 (ret (.int .i64 1))
 (nn p0 fun a2=>
 ix (some (fa a2 0)) 16 p1 1 fun a3=>
 st a3 [.int .i64 p2]<|
 ret (.int .i64 0)))
theorem F.root.de.Place.calls(p0:Option Addr)(p1:Int)(p2:Int)(h:F.root.de.Place p0 p1 p2 Q w):Calls Tryz.prog 83 #[.pointer p0,.int .i64 p1,.int .i64 p2] w (aC Q):=
 Tryz.cd az.z Tryz.func83 (by kernel_rfl) (es:=[.va (.pointer p0),.va (.int .i64 p1),.va (.int .i64 p2)]) rfl (by kernel_rfl) h
def F.root.de.C2(p0:Option Addr)(p1:Int):Tree:=
 call Tryz.prog 128 [.pointer p0,.int .i64 p1] (.one (.l .bool)) fun(r1:Bool)=>
 br (!r1)
 (ret (.tuple #[.int .i64 0,.int .i64 1]))
 (nn p0 fun a2=>
 ix (some (fa a2 0)) 16 p1 1 fun a3=>
 ld (.l (.int .i64)) a3 fun(x4:Int)=>
 ret (.tuple #[.int .i64 x4,.int .i64 0]))
theorem F.root.de.C2.calls(p0:Option Addr)(p1:Int)(h:F.root.de.C2 p0 p1 Q w):Calls Tryz.prog 84 #[.pointer p0,.int .i64 p1] w (aC Q):=
 Tryz.cd az.z Tryz.func84 (by kernel_rfl) (es:=[.va (.pointer p0),.va (.int .i64 p1)]) rfl (by kernel_rfl) h
def F.ref.Refs.qN.T:az:=⟨(fun
 |11=>[(59,.int .i64)]
 |_=>[]),
 fun _=>none,
 fun _=> .quiet⟩
def F.ref.Refs.qN(p0:Option Addr)(p1:Int)(p2:Int)(p3:Int)(p4:Int):Tree:=
 br (Option.isNone p0)
 (ret (.tuple #[.int .i64 0,.int .i64 2]))
 (call Tryz.prog 129 [.pointer p0,.int .i64 p1,.int .i64 p2,.int .i64 p3] (.one (.l (.int .i64))) fun(r1:Int)=>
 br ((r1:Int) != 0)
 (ret (.tuple #[.int .i64 0,.int .i64 r1]))
 (nn p0 fun a2=>
 ld (.l .ptr) (fa a2 0) fun(x3:Option Addr)=>
 nn x3 fun a4=>
 ld (.l .ptr) (fa a4 0) fun(x5:Option Addr)=>
 call Tryz.prog 120 [.pointer x5,.agg #[.int .i64 4,.int .i64 p1,.int .i64 5,.bool false]] (.many [.l (.int .i64),.l (.int .i64)]) fun(r6:KTs _)=>
 br ((r6.2.1:Int) != 0)
 (ret (.tuple #[.int .i64 0,.int .i64 r6.2.1]))
 (nn p0 fun a7=>
 ld (.l (.int .i64)) (fa a7 1) fun(x8:Int)=>
 nn p0 fun a9=>
 st (fa a9 1) [.int .i64 (IntKind.wrap .i64 (x8+1))]<|
 nn p0 fun a10=>
 ld (.l (.int .i64)) (fa a10 1) fun(x11:Int)=>
 lp [.int .i64] (fun X12 u13=>
 br (decide ((u13.1:Int)<5))
 (bQ ((0:Int)≤u13.1∧u13.1<((5:Nat):Int))<|
 nn p0 fun a14=>
 ld (.l .ptr) (fa a14 0) fun(x15:Option Addr)=>
 nn x15 fun a16=>
 ld (.l .ptr) (fa a16 0) fun(x17:Option Addr)=>
 call Tryz.prog 81 [.pointer x17,.int .i64 r6.1,.int .i64 u13.1,.int .i64 (List.getD [(p2:Int),(IntKind.wrap .i64 (p3+1):Int),(0:Int),(p4:Int),(x11:Int)] (u13.1:Int).toNat 0)] (.one (.l (.int .i64))) fun(r18:Int)=>
 X12 (IntKind.wrap .i64 (u13.1+1),()))
 (ret (.tuple #[.int .i64 r6.1,.int .i64 0]))) (0,()))))
theorem F.ref.Refs.qN.calls(p0:Option Addr)(p1:Int)(p2:Int)(p3:Int)(p4:Int)(h:F.ref.Refs.qN p0 p1 p2 p3 p4 Q w):Calls Tryz.prog 88 #[.pointer p0,.int .i64 p1,.int .i64 p2,.int .i64 p3,.int .i64 p4] w (aC Q):=
 Tryz.cd F.ref.Refs.qN.T Tryz.func88 (by kernel_rfl) (es:=[.va (.pointer p0),.va (.int .i64 p1),.va (.int .i64 p2),.va (.int .i64 p3),.va (.int .i64 p4)]) rfl (by kernel_rfl) h
def F.handle.aW.Room(p0:Option Addr):Tree:=
 br (Option.isNone p0)
 (ret (.int .i64 0))
 (call Tryz.prog 25 [.pointer p0] (.one (.l .slice)) fun(r1:ay)=>
 ret (.int .i64 (IntKind.wrap .i64 (512-(r1.n:Nat)))))
theorem F.handle.aW.Room.calls(p0:Option Addr)(h:F.handle.aW.Room p0 Q w):Calls Tryz.prog 90 #[.pointer p0] w (aC Q):=
 Tryz.cd az.z Tryz.func90 (by kernel_rfl) (es:=[.va (.pointer p0)]) rfl (by kernel_rfl) h
def F.ref.Refs.l5(p0:Option Addr)(p1:Int)(p2:Int):Tree:=
 call Tryz.prog 130 [.pointer p0,.int .i64 p1] (.many [.l (.int .i64),.l (.int .i64)]) fun(r1:KTs _)=>
 br ((r1.2.1:Int) != 0)
 (ret (.tuple #[.int .i64 0,.int .i64 r1.2.1]))
 (br ((r1.1:Int)==3)
 (ret (.tuple #[.int .i64 0,.int .i64 r1.2.1]))
 (nn p0 fun a2=>
 ld (.l .ptr) (fa a2 0) fun(x3:Option Addr)=>
 nn x3 fun a4=>
 ld (.l .ptr) (fa a4 0) fun(x5:Option Addr)=>
 call Tryz.prog 62 [.pointer x5,.int .i64 p1,.int .i64 0] (.many [.l (.int .i64),.l (.int .i64)]) fun(r6:KTs _)=>
 br ((r6.2.1:Int) != 0)
 (ret (.tuple #[.int .i64 0,.int .i64 r6.2.1]))
 (br ((r1.1:Int)==1)
 (br ((r6.1:Int) != 0)
 (nn p0 fun a7=>
 ld (.l .ptr) (fa a7 0) fun(x8:Option Addr)=>
 nn x8 fun a9=>
 ld (.l .ptr) (fa a9 0) fun(x10:Option Addr)=>
 call Tryz.prog 81 [.pointer x10,.int .i64 p1,.int .i64 3,.int .i64 p2] (.one (.l (.int .i64))) fun(r11:Int)=>
 ret (.tuple #[.int .i64 r6.1,.int .i64 0]))
 (ret (.tuple #[.int .i64 r6.1,.int .i64 0])))
 (ret (.tuple #[.int .i64 r6.1,.int .i64 0])))))
theorem F.ref.Refs.l5.calls(p0:Option Addr)(p1:Int)(p2:Int)(h:F.ref.Refs.l5 p0 p1 p2 Q w):Calls Tryz.prog 91 #[.pointer p0,.int .i64 p1,.int .i64 p2] w (aC Q):=
 Tryz.cd az.z Tryz.func91 (by kernel_rfl) (es:=[.va (.pointer p0),.va (.int .i64 p1),.va (.int .i64 p2)]) rfl (by kernel_rfl) h
def F.ref.Refs.Clear.T:az:=⟨(fun
 |4=>[(15,.int .i64)]
 |11=>[(31,.int .i64)]
 |_=>[]),
 fun _=>none,
 fun _=> .quiet⟩
def F.ref.Refs.Clear(p0:Option Addr)(p1:ay):Tree:=
 br (Option.isNone p0)
 (ret (.int .i64 5))
 (lp [.int .i64] (fun X1 u2=>
 br (decide ((u2.1:Int)<(p1.n:Nat)))
 (ix p1.a p1.n u2.1 1 fun a3=>
 ld (.l (.int .i64)) a3 fun(x4:Int)=>
 call Tryz.prog 130 [.pointer p0,.int .i64 x4] (.many [.l (.int .i64),.l (.int .i64)]) fun(r5:KTs _)=>
 br ((r5.2.1:Int) != 0)
 (ret (.int .i64 r5.2.1))
 (X1 (IntKind.wrap .i64 (u2.1+1),())))
 (lp [.int .i64] (fun X3 u4=>
 br (decide ((u4.1:Int)<(p1.n:Nat)))
 (ix p1.a p1.n u4.1 1 fun a5=>
 ld (.l (.int .i64)) a5 fun(x6:Int)=>
 nn p0 fun a7=>
 ld (.l .ptr) (fa a7 0) fun(x8:Option Addr)=>
 nn x8 fun a9=>
 ld (.l .ptr) (fa a9 0) fun(x10:Option Addr)=>
 call Tryz.prog 81 [.pointer x10,.int .i64 x6,.int .i64 0,.int .i64 0] (.one (.l (.int .i64))) fun(r11:Int)=>
 X3 (IntKind.wrap .i64 (u4.1+1),()))
 (ret (.int .i64 0))) (0,()))) (0,()))
theorem F.ref.Refs.Clear.calls(p0:Option Addr)(p1:ay)(h:F.ref.Refs.Clear p0 p1 Q w):Calls Tryz.prog 92 #[.pointer p0,.slice p1.a p1.n p1.c] w (aC Q):=
 Tryz.cd F.ref.Refs.Clear.T Tryz.func92 (by kernel_rfl) (es:=[.va (.pointer p0),.va (.slice p1.a p1.n p1.c)]) rfl (by kernel_rfl) h
def F.ref.Refs.oG(p0:Option Addr)(p1:Int):Tree:=
 nw 3 [.int .i64 p1] fun b1=>
 call Tryz.prog 92 [.pointer p0,.slice (some ⟨b1,0,none⟩) 1 1] (.one (.l (.int .i64))) fun(r2:Int)=>
 br ((r2:Int) != 0)
 (ret (.tuple #[.bool false,.int .i64 r2]))
 (nn p0 fun a3=>
 ld (.l .ptr) (fa a3 0) fun(x4:Option Addr)=>
 nn x4 fun a5=>
 ld (.l .ptr) (fa a5 0) fun(x6:Option Addr)=>
 call Tryz.prog 62 [.pointer x6,.int .i64 p1,.int .i64 1] (.many [.l (.int .i64),.l (.int .i64)]) fun(r7:KTs _)=>
 br ((r7.2.1:Int) != 0)
 (ret (.tuple #[.bool false,.int .i64 r7.2.1]))
 (br (decide ((r7.1:Int)<1))
 (ret (.tuple #[.bool false,.int .i64 r7.2.1]))
 (nn p0 fun a8=>
 ld (.l .ptr) (fa a8 0) fun(x9:Option Addr)=>
 call Tryz.prog 131 [.pointer x9,.int .i64 (IntKind.wrap .i64 (r7.1-1)),.int .i64 p1] (.one (.l (.int .i64))) fun(r10:Int)=>
 br ((r10:Int) != 0)
 (ret (.tuple #[.bool false,.int .i64 r10]))
 (nn p0 fun a11=>
 ld (.l .ptr) (fa a11 0) fun(x12:Option Addr)=>
 nn x12 fun a13=>
 ld (.l .ptr) (fa a13 0) fun(x14:Option Addr)=>
 call Tryz.prog 81 [.pointer x14,.int .i64 p1,.int .i64 1,.int .i64 (-1)] (.one (.l (.int .i64))) fun(r15:Int)=>
 ret (.tuple #[.bool true,.int .i64 r15])))))
theorem F.ref.Refs.oG.calls(p0:Option Addr)(p1:Int)(h:F.ref.Refs.oG p0 p1 Q w):Calls Tryz.prog 93 #[.pointer p0,.int .i64 p1] w (aC Q):=
 Tryz.cd az.z Tryz.func93 (by kernel_rfl) (es:=[.va (.pointer p0),.va (.int .i64 p1)]) rfl (by kernel_rfl) h
def F.queue.bp.Open(p0:Option Addr):Tree:=
 br (Option.isNone p0)
 (ret (.tuple #[.int .i64 0,.int .i64 2]))
 (nn p0 fun a1=>
 ld (.l .slice) (fa a1 1) fun(x2:ay)=>
 br (decide (((x2.n:Nat):Int)≥8))
 (ret (.tuple #[.int .i64 0,.int .i64 3]))
 (nn p0 fun a3=>
 ld (.l .slice) (fa a3 1) fun(x4:ay)=>
 nw 176 [.int .i64 0,.int .i64 0] fun b5=>
 c9 Tryz.prog (Builtin.append_ #[96,96] 96 #[.slice x4.a x4.n x4.c,.slice (some ⟨b5,0,none⟩) 1 1]) (.one (.l .slice)) fun(r6:ay)=>
 nn p0 fun a7=>
 st (fa a7 1) [.slice r6.a r6.n r6.c]<|
 nn p0 fun a8=>
 ld (.l .slice) (fa a8 1) fun(x9:ay)=>
 ret (.tuple #[.int .i64 (IntKind.wrap .i64 ((x9.n:Nat)-1)),.int .i64 0])))
theorem F.queue.bp.Open.calls(p0:Option Addr)(h:F.queue.bp.Open p0 Q w):Calls Tryz.prog 94 #[.pointer p0] w (aC Q):=
 Tryz.cd az.z Tryz.func94 (by kernel_rfl) (es:=[.va (.pointer p0)]) rfl (by kernel_rfl) h
def F.queue.bp.Poll(p0:Option Addr)(p1:Int):Tree:=
 call Tryz.prog 107 [.pointer p0,.int .i64 p1] (.one (.l .bool)) fun(r1:Bool)=>
 br (!r1)
 (ret (.tuple #[.int .i64 0,.int .i64 2]))
 (nn p0 fun a2=>
 ld (.l .slice) (fa a2 1) fun(x3:ay)=>
 ix x3.a x3.n p1 2 fun a4=>
 ld (.l (.int .i64)) (fa a4 0) fun(x5:Int)=>
 br ((x5:Int)==0)
 (ret (.tuple #[.int .i64 0,.int .i64 0]))
 (nn p0 fun a6=>
 ld (.l .ptr) (fa a6 0) fun(x7:Option Addr)=>
 call Tryz.prog 62 [.pointer x7,.int .i64 x5,.int .i64 2] (.many [.l (.int .i64),.l (.int .i64)]) fun(r8:KTs _)=>
 br ((r8.2.1:Int) != 0)
 (ret (.tuple #[.int .i64 0,.int .i64 r8.2.1]))
 (st (fa a4 0) [.int .i64 r8.1]<|
 br ((r8.1:Int)==0)
 (st (fa a4 1) [.int .i64 0]<|
 nn p0 fun a9=>
 ld (.l .ptr) (fa a9 0) fun(x10:Option Addr)=>
 call Tryz.prog 81 [.pointer x10,.int .i64 x5,.int .i64 2,.int .i64 0] (.one (.l (.int .i64))) fun(r11:Int)=>
 ret (.tuple #[.int .i64 x5,.int .i64 r11]))
 (nn p0 fun a9=>
 ld (.l .ptr) (fa a9 0) fun(x10:Option Addr)=>
 call Tryz.prog 81 [.pointer x10,.int .i64 x5,.int .i64 2,.int .i64 0] (.one (.l (.int .i64))) fun(r11:Int)=>
 ret (.tuple #[.int .i64 x5,.int .i64 r11])))))
theorem F.queue.bp.Poll.calls(p0:Option Addr)(p1:Int)(h:F.queue.bp.Poll p0 p1 Q w):Calls Tryz.prog 95 #[.pointer p0,.int .i64 p1] w (aC Q):=
 Tryz.cd az.z Tryz.func95 (by kernel_rfl) (es:=[.va (.pointer p0),.va (.int .i64 p1)]) rfl (by kernel_rfl) h
def F.final.bM.wq(p0:Option Addr)(p1:Int):Tree:=
 br (Option.isNone p0)
 (ret (.int .i64 2))
 (nn p0 fun a1=>
 ld (.l .ptr) (fa a1 0) fun(x2:Option Addr)=>
 call Tryz.prog 132 [.pointer x2,.int .i64 p1] (.one (.l (.int .i64))) fun(r3:Int)=>
 br ((r3:Int) != 0)
 (ret (.int .i64 r3))
 (nn p0 fun a4=>
 ld (.l .slice) (fa a4 1) fun(x5:ay)=>
 nw 3 [.int .i64 p1] fun b6=>
 c9 Tryz.prog (Builtin.append_ #[46,46] 46 #[.slice x5.a x5.n x5.c,.slice (some ⟨b6,0,none⟩) 1 1]) (.one (.l .slice)) fun(r7:ay)=>
 nn p0 fun a8=>
 st (fa a8 1) [.slice r7.a r7.n r7.c]<|
 ret (.int .i64 0)))
theorem F.final.bM.wq.calls(p0:Option Addr)(p1:Int)(h:F.final.bM.wq p0 p1 Q w):Calls Tryz.prog 96 #[.pointer p0,.int .i64 p1] w (aC Q):=
 Tryz.cd az.z Tryz.func96 (by kernel_rfl) (es:=[.va (.pointer p0),.va (.int .i64 p1)]) rfl (by kernel_rfl) h
def F.final.bM.Take(p0:Option Addr)(p1:Int):Tree:=
 br (Option.isNone p0)
 (ret (.tuple #[.int .i64 0,.int .i64 1]))
 (br (decide ((p1:Int)<0))
 (ret (.tuple #[.int .i64 0,.int .i64 1]))
 (nn p0 fun a1=>
 ld (.l .slice) (fa a1 2) fun(x2:ay)=>
 br (decide ((p1:Int)≥(x2.n:Nat)))
 (ret (.tuple #[.int .i64 0,.int .i64 1]))
 (nn p0 fun a3=>
 ld (.l .slice) (fa a3 2) fun(x4:ay)=>
 ix x4.a x4.n p1 1 fun a5=>
 ld (.l (.int .i64)) a5 fun(x6:Int)=>
 nn p0 fun a7=>
 ld (.l .slice) (fa a7 2) fun(x8:ay)=>
 call Tryz.prog 133 [.slice x8.a x8.n x8.c,.int .i64 p1,.int .i64 (IntKind.wrap .i64 (p1+1))] (.one (.l .slice)) fun(r9:ay)=>
 nn p0 fun a10=>
 st (fa a10 2) [.slice r9.a r9.n r9.c]<|
 ret (.tuple #[.int .i64 x6,.int .i64 0]))))
theorem F.final.bM.Take.calls(p0:Option Addr)(p1:Int)(h:F.final.bM.Take p0 p1 Q w):Calls Tryz.prog 97 #[.pointer p0,.int .i64 p1] w (aC Q):=
 Tryz.cd az.z Tryz.func97 (by kernel_rfl) (es:=[.va (.pointer p0),.va (.int .i64 p1)]) rfl (by kernel_rfl) h
def F.handle.turns.ni(p0:Option Addr):Tree:=
 nn p0 fun a1=>
 ld (.l (.int .i64)) (fa a1 0) fun(x2:Int)=>
 ret (.int .i64 (IntKind.wrap .i64 (x2+1)))
theorem F.handle.turns.ni.calls(p0:Option Addr)(h:F.handle.turns.ni p0 Q w):Calls Tryz.prog 106 #[.pointer p0] w (aC Q):=
 Tryz.cd az.z Tryz.func106 (by kernel_rfl) (es:=[.va (.pointer p0)]) rfl (by kernel_rfl) h
def F.queue.bp.has(p0:Option Addr)(p1:Int):Tree:=
 br (decide ((p1:Int)≥0))
 (call Tryz.prog 65 [.pointer p0] (.one (.l (.int .i64))) fun(r1:Int)=>
 ret (.bool (decide ((p1:Int)<r1))))
 (ret (.bool false))
theorem F.queue.bp.has.calls(p0:Option Addr)(p1:Int)(h:F.queue.bp.has p0 p1 Q w):Calls Tryz.prog 107 #[.pointer p0,.int .i64 p1] w (aC Q):=
 Tryz.cd az.z Tryz.func107 (by kernel_rfl) (es:=[.va (.pointer p0),.va (.int .i64 p1)]) rfl (by kernel_rfl) h
def F.final.bM.xt.T:az:=⟨(fun
 |2=>[(11,.int .i64)]
 |_=>[]),
 fun _=>none,
 fun _=> .quiet⟩
def F.final.bM.xt(p0:Option Addr)(p1:ay):Tree:=
 br (Option.isNone p0)
 (ret (.tuple #[]))
 (lp [.int .i64] (fun X1 u2=>
 br (decide ((u2.1:Int)<(p1.n:Nat)))
 (ix p1.a p1.n u2.1 1 fun a3=>
 ld (.l (.int .i64)) a3 fun(x4:Int)=>
 nn p0 fun a5=>
 ld (.l .slice) (fa a5 1) fun(x6:ay)=>
 call Tryz.prog 150 [.slice x6.a x6.n x6.c,.int .i64 x4] (.one (.l (.int .i64))) fun(r7:Int)=>
 br (decide ((r7:Int)≥0))
 (nn p0 fun a8=>
 ld (.l .slice) (fa a8 1) fun(x9:ay)=>
 call Tryz.prog 133 [.slice x9.a x9.n x9.c,.int .i64 r7,.int .i64 (IntKind.wrap .i64 (r7+1))] (.one (.l .slice)) fun(r10:ay)=>
 nn p0 fun a11=>
 st (fa a11 1) [.slice r10.a r10.n r10.c]<|
 nn p0 fun a12=>
 ld (.l .slice) (fa a12 2) fun(x13:ay)=>
 nw 3 [.int .i64 x4] fun b14=>
 c9 Tryz.prog (Builtin.append_ #[46,46] 46 #[.slice x13.a x13.n x13.c,.slice (some ⟨b14,0,none⟩) 1 1]) (.one (.l .slice)) fun(r15:ay)=>
 nn p0 fun a16=>
 st (fa a16 2) [.slice r15.a r15.n r15.c]<|
 X1 (IntKind.wrap .i64 (u2.1+1),()))
 (X1 (IntKind.wrap .i64 (u2.1+1),())))
 (ret (.tuple #[]))) (0,()))
theorem F.final.bM.xt.calls(p0:Option Addr)(p1:ay)(h:F.final.bM.xt p0 p1 Q w):Calls Tryz.prog 112 #[.pointer p0,.slice p1.a p1.n p1.c] w (aC Q):=
 Tryz.cd F.final.bM.xt.T Tryz.func112 (by kernel_rfl) (es:=[.va (.pointer p0),.va (.slice p1.a p1.n p1.c)]) rfl (by kernel_rfl) h
def F.handle.aW.Cg(p0:Option Addr)(p1:Int):Tree:=
 call Tryz.prog 126 [.pointer p0,.int .i64 p1] (.many [.l (.int .i64),.l .bool]) fun(r1:KTs _)=>
 br (!r1.2.1)
 (ret (.tuple #[.int .i64 0,.int .i64 6]))
 (nn p0 fun a2=>
 ix (some (fa a2 0)) 512 r1.1 2 fun a3=>
 ld (.l (.int .i64)) (fa a3 1) fun(x4:Int)=>
 ret (.tuple #[.int .i64 x4,.int .i64 0]))
theorem F.handle.aW.Cg.calls(p0:Option Addr)(p1:Int)(h:F.handle.aW.Cg p0 p1 Q w):Calls Tryz.prog 121 #[.pointer p0,.int .i64 p1] w (aC Q):=
 Tryz.cd az.z Tryz.func121 (by kernel_rfl) (es:=[.va (.pointer p0),.va (.int .i64 p1)]) rfl (by kernel_rfl) h
def F.handle.aW.xK.T:az:=⟨(fun
 |6=>[(13,.int .i64)]
 |_=>[]),
 fun _=>none,
 fun _=> .quiet⟩
def F.handle.aW.xK(p0:Option Addr)(p1:Int):Tree:=
 br (Option.isNone p0)
 (ret (.tuple #[.int .i64 0,.int .i64 3]))
 (br (decide ((p1:Int)<1))
 (ret (.tuple #[.int .i64 0,.int .i64 1]))
 (lp [.int .i64] (fun X1 u2=>
 br (decide ((u2.1:Int)<512))
 (nn p0 fun a3=>
 ix (some (fa a3 0)) 512 u2.1 2 fun a4=>
 ld (.l (.int .i64)) (fa a4 1) fun(x5:Int)=>
 br ((x5:Int)==0)
 (nn p0 fun a6=>
 ix (some (fa a6 0)) 512 u2.1 2 fun a7=>
 st (fa a7 1) [.int .i64 p1]<|
 call Tryz.prog 63 [.pointer p0,.int .i64 u2.1] (.one (.l (.int .i64))) fun(r8:Int)=>
 ret (.tuple #[.int .i64 r8,.int .i64 0]))
 (X1 (IntKind.wrap .i64 (u2.1+1),())))
 (ret (.tuple #[.int .i64 0,.int .i64 3]))) (0,())))
theorem F.handle.aW.xK.calls(p0:Option Addr)(p1:Int)(h:F.handle.aW.xK p0 p1 Q w):Calls Tryz.prog 124 #[.pointer p0,.int .i64 p1] w (aC Q):=
 Tryz.cd F.handle.aW.xK.T Tryz.func124 (by kernel_rfl) (es:=[.va (.pointer p0),.va (.int .i64 p1)]) rfl (by kernel_rfl) h
def F.handle.aW.find(p0:Option Addr)(p1:Int):Tree:=
 br (Option.isNone p0)
 (ret (.tuple #[.int .i64 0,.bool false]))
 (br (decide ((p1:Int)<512))
 (ret (.tuple #[.int .i64 0,.bool false]))
 (bQ ((512:Int)≠0)<|
 nn p0 fun a1=>
 ix (some (fa a1 0)) 512 (Int.tmod p1 512) 2 fun a2=>
 ld (.l (.int .i64)) (fa a2 1) fun(x3:Int)=>
 br ((x3:Int) != 0)
 (call Tryz.prog 63 [.pointer p0,.int .i64 (Int.tmod p1 512)] (.one (.l (.int .i64))) fun(r4:Int)=>
 ret (.tuple #[.int .i64 (Int.tmod p1 512),.bool ((r4:Int)==p1)]))
 (ret (.tuple #[.int .i64 (Int.tmod p1 512),.bool false]))))
theorem F.handle.aW.find.calls(p0:Option Addr)(p1:Int)(h:F.handle.aW.find p0 p1 Q w):Calls Tryz.prog 126 #[.pointer p0,.int .i64 p1] w (aC Q):=
 Tryz.cd az.z Tryz.func126 (by kernel_rfl) (es:=[.va (.pointer p0),.va (.int .i64 p1)]) rfl (by kernel_rfl) h
def F.handle.turns.next(p0:Option Addr):Tree:=
 nn p0 fun a1=>
 ld (.l (.int .i64)) (fa a1 0) fun(x2:Int)=>
 nn p0 fun a3=>
 st (fa a3 0) [.int .i64 (IntKind.wrap .i64 (x2+1))]<|
 ret (.tuple #[])
theorem F.handle.turns.next.calls(p0:Option Addr)(h:F.handle.turns.next p0 Q w):Calls Tryz.prog 127 #[.pointer p0] w (aC Q):=
 Tryz.cd az.z Tryz.func127 (by kernel_rfl) (es:=[.va (.pointer p0)]) rfl (by kernel_rfl) h
def F.root.de.place(p0:Option Addr)(p1:Int):Tree:=
 br (!(Option.isNone p0))
 (br (decide ((p1:Int)≥0))
 (ret (.bool (decide ((p1:Int)<16))))
 (ret (.bool false)))
 (ret (.bool false))
theorem F.root.de.place.calls(p0:Option Addr)(p1:Int)(h:F.root.de.place p0 p1 Q w):Calls Tryz.prog 128 #[.pointer p0,.int .i64 p1] w (aC Q):=
 Tryz.cd az.z Tryz.func128 (by kernel_rfl) (es:=[.va (.pointer p0),.va (.int .i64 p1)]) rfl (by kernel_rfl) h
def F.ref.Refs.may(p0:Option Addr)(p1:Int)(p2:Int)(p3:Int):Tree:=
 br (decide ((p1:Int)<1))
 (ret (.int .i64 1))
 (br (decide ((p1:Int)>3))
 (ret (.int .i64 1))
 (br (decide ((p3:Int)<(-1)))
 (ret (.int .i64 2))
 (nn p0 fun a1=>
 ld (.l .ptr) (fa a1 0) fun(x2:Option Addr)=>
 call Tryz.prog 65 [.pointer x2] (.one (.l (.int .i64))) fun(r3:Int)=>
 br (decide ((p3:Int)≥r3))
 (ret (.int .i64 2))
 (br ((p1:Int)==3)
 (br (decide ((p3:Int)<0))
 (ret (.int .i64 1))
 (nn p0 fun a4=>
 ld (.l .ptr) (fa a4 0) fun(x5:Option Addr)=>
 nn x5 fun a6=>
 ld (.l .ptr) (fa a6 0) fun(x7:Option Addr)=>
 call Tryz.prog 61 [.pointer x7,.int .i64 p2] (.many [.g [.int .i64,.int .i64,.int .i64,.bool],.l (.int .i64)]) fun(r8:KTs _)=>
 nw 103 (zc Tryz.prog 103) fun b9=>
 st (⟨b9,0,none⟩) [.int .i64 r8.1.1,.int .i64 r8.1.2.1,.int .i64 r8.1.2.2.1,.bool r8.1.2.2.2.1]<|
 br ((r8.2.1:Int) != 0)
 (ret (.int .i64 2))
 (ret (.int .i64 0))))
 (nn p0 fun a4=>
 ld (.l .ptr) (fa a4 0) fun(x5:Option Addr)=>
 nn x5 fun a6=>
 ld (.l .ptr) (fa a6 0) fun(x7:Option Addr)=>
 call Tryz.prog 61 [.pointer x7,.int .i64 p2] (.many [.g [.int .i64,.int .i64,.int .i64,.bool],.l (.int .i64)]) fun(r8:KTs _)=>
 nw 103 (zc Tryz.prog 103) fun b9=>
 st (⟨b9,0,none⟩) [.int .i64 r8.1.1,.int .i64 r8.1.2.1,.int .i64 r8.1.2.2.1,.bool r8.1.2.2.2.1]<|
 br ((r8.2.1:Int) != 0)
 (ret (.int .i64 2))
 (ret (.int .i64 0)))))))
theorem F.ref.Refs.may.calls(p0:Option Addr)(p1:Int)(p2:Int)(p3:Int)(h:F.ref.Refs.may p0 p1 p2 p3 Q w):Calls Tryz.prog 129 #[.pointer p0,.int .i64 p1,.int .i64 p2,.int .i64 p3] w (aC Q):=
 Tryz.cd az.z Tryz.func129 (by kernel_rfl) (es:=[.va (.pointer p0),.va (.int .i64 p1),.va (.int .i64 p2),.va (.int .i64 p3)]) rfl (by kernel_rfl) h
def F.ref.Refs.l7(p0:Option Addr)(p1:Int):Tree:=
 br (Option.isNone p0)
 (ret (.tuple #[.int .i64 0,.int .i64 5]))
 (nn p0 fun a1=>
 ld (.l .ptr) (fa a1 0) fun(x2:Option Addr)=>
 nn x2 fun a3=>
 ld (.l .ptr) (fa a3 0) fun(x4:Option Addr)=>
 call Tryz.prog 61 [.pointer x4,.int .i64 p1] (.many [.g [.int .i64,.int .i64,.int .i64,.bool],.l (.int .i64)]) fun(r5:KTs _)=>
 nw 103 (zc Tryz.prog 103) fun b6=>
 st (⟨b6,0,none⟩) [.int .i64 r5.1.1,.int .i64 r5.1.2.1,.int .i64 r5.1.2.2.1,.bool r5.1.2.2.2.1]<|
 br ((r5.2.1:Int) != 0)
 (ret (.tuple #[.int .i64 0,.int .i64 5]))
 (ld (.l (.int .i64)) (fa (⟨b6,0,none⟩) 0) fun(x7:Int)=>
 br ((x7:Int) != 4)
 (ret (.tuple #[.int .i64 0,.int .i64 5]))
 (ld (.l (.int .i64)) (fa (⟨b6,0,none⟩) 1) fun(x8:Int)=>
 ret (.tuple #[.int .i64 x8,.int .i64 0]))))
theorem F.ref.Refs.l7.calls(p0:Option Addr)(p1:Int)(h:F.ref.Refs.l7 p0 p1 Q w):Calls Tryz.prog 130 #[.pointer p0,.int .i64 p1] w (aC Q):=
 Tryz.cd az.z Tryz.func130 (by kernel_rfl) (es:=[.va (.pointer p0),.va (.int .i64 p1)]) rfl (by kernel_rfl) h
def F.queue.bp.qd(p0:Option Addr)(p1:Int)(p2:Int):Tree:=
 call Tryz.prog 107 [.pointer p0,.int .i64 p1] (.one (.l .bool)) fun(r1:Bool)=>
 br (!r1)
 (ret (.int .i64 2))
 (nn p0 fun a2=>
 ld (.l .ptr) (fa a2 0) fun(x3:Option Addr)=>
 call Tryz.prog 61 [.pointer x3,.int .i64 p2] (.many [.g [.int .i64,.int .i64,.int .i64,.bool],.l (.int .i64)]) fun(r4:KTs _)=>
 nw 103 (zc Tryz.prog 103) fun b5=>
 st (⟨b5,0,none⟩) [.int .i64 r4.1.1,.int .i64 r4.1.2.1,.int .i64 r4.1.2.2.1,.bool r4.1.2.2.2.1]<|
 br ((r4.2.1:Int) != 0)
 (ret (.int .i64 5))
 (ld (.l (.int .i64)) (fa (⟨b5,0,none⟩) 0) fun(x6:Int)=>
 br ((x6:Int) != 4)
 (ret (.int .i64 5))
 (nn p0 fun a7=>
 ld (.l .ptr) (fa a7 0) fun(x8:Option Addr)=>
 call Tryz.prog 81 [.pointer x8,.int .i64 p2,.int .i64 2,.int .i64 0] (.one (.l (.int .i64))) fun(r9:Int)=>
 br ((r9:Int) != 0)
 (ret (.int .i64 r9))
 (nn p0 fun a10=>
 ld (.l .slice) (fa a10 1) fun(x11:ay)=>
 ix x11.a x11.n p1 2 fun a12=>
 ld (.l (.int .i64)) (fa a12 0) fun(x13:Int)=>
 br ((x13:Int)==0)
 (st (fa a12 0) [.int .i64 p2]<|
 st (fa a12 1) [.int .i64 p2]<|
 ret (.int .i64 0))
 (ld (.l (.int .i64)) (fa a12 1) fun(x14:Int)=>
 st (fa a12 1) [.int .i64 p2]<|
 nn p0 fun a15=>
 ld (.l .ptr) (fa a15 0) fun(x16:Option Addr)=>
 call Tryz.prog 81 [.pointer x16,.int .i64 x14,.int .i64 2,.int .i64 p2] (.one (.l (.int .i64))) fun(r17:Int)=>
 ret (.int .i64 r17))))))
theorem F.queue.bp.qd.calls(p0:Option Addr)(p1:Int)(p2:Int)(h:F.queue.bp.qd p0 p1 p2 Q w):Calls Tryz.prog 131 #[.pointer p0,.int .i64 p1,.int .i64 p2] w (aC Q):=
 Tryz.cd az.z Tryz.func131 (by kernel_rfl) (es:=[.va (.pointer p0),.va (.int .i64 p1),.va (.int .i64 p2)]) rfl (by kernel_rfl) h
def F.root.wE(p0:ay):Tree:=
 call Tryz.prog 185 [.slice p0.a p0.n p0.c] (.one (.l .slice)) fun(r1:ay)=>
 call Tryz.prog 102 [.slice r1.a r1.n r1.c] (.many []) fun(r2:KTs _)=>
 call Tryz.prog 187 [.slice r1.a r1.n r1.c] (.one (.l .slice)) fun(r3:ay)=>
 call Tryz.prog 186 [.slice r3.a r3.n r3.c,.func (.func 188) #[] #[]] (.one (.l .slice)) fun(r4:ay)=>
 ret (.slice r4.a r4.n r4.c)
theorem F.root.wE.calls(p0:ay)(h:F.root.wE p0 Q w):Calls Tryz.prog 149 #[.slice p0.a p0.n p0.c] w (aC Q):=
 Tryz.cd az.z Tryz.func149 (by kernel_rfl) (es:=[.va (.slice p0.a p0.n p0.c)]) rfl (by kernel_rfl) h
def F.root.oS(p0:Int):Tree:=
 ret (.bool (decide ((p0:Int)<1)))
theorem F.root.oS.calls(p0:Int)(h:F.root.oS p0 Q w):Calls Tryz.prog 188 #[.int .i64 p0] w (aC Q):=
 Tryz.cd az.z Tryz.func188 (by kernel_rfl) (es:=[.va (.int .i64 p0)]) rfl (by kernel_rfl) h
end Go.Proofs.YtfepdmpplahloaaGreat
