import Derived.Test.YtfepdmpplahloaaGreatGsT
namespace Go.Proofs.YtfepdmpplahloaaGreat
open Go Go.Gl
set_option maxRecDepth 100000
set_option linter.unusedVariables false
variable{Q:Value→World→Prop}{w:World}
def F.rt.New(p0:LTs [.int .i64,.int .i64,.int .i64]):Tree:=
 nw 39 [.int .i64 p0.1,.int .i64 p0.2.1,.int .i64 p0.2.2.1] fun b1=>
 ld (.g [.int .i64,.int .i64,.int .i64]) (⟨b1,0,none⟩) fun(x2:LTs _)=>
 call Tryz.prog 21 [.agg #[.int .i64 x2.1,.int .i64 x2.2.1,.int .i64 x2.2.2.1]] (.many [.l .ptr,.l (.int .i64)]) fun(r3:KTs _)=>
 br ((r3.2.1:Int) != 0)
 (ret (.tuple #[.pointer none,.int .i64 r3.2.1]))
 (nw 53 [.pointer r3.1] fun b4=>
 ret (.tuple #[.pointer (some (⟨b4,0,none⟩)),.int .i64 0]))
theorem F.rt.New.calls(p0:LTs [.int .i64,.int .i64,.int .i64])(h:F.rt.New p0 Q w):Calls Tryz.prog 14 #[.agg #[.int .i64 p0.1,.int .i64 p0.2.1,.int .i64 p0.2.2.1]] w (RetQ Q):=
 Tryz.cd Tabs.z Tryz.func14 (by kernel_rfl) (es:=[.va (.agg #[.int .i64 p0.1,.int .i64 p0.2.1,.int .i64 p0.2.2.1])]) rfl (by kernel_rfl) h
def F.rt.Runtime.Do.T:Tabs:=⟨fun _=>[],
 fun _=>none,
 (fun
 |3=> .held (some 4) (.go 0 false (.go 2 false (.go 3 false (.go 1 false (.go 4 true (.go 5 false (.go 6 false (.go 7 false (.go 8 false (.go 9 false .nil))))))))))
 |_=> .quiet)⟩
def F.rt.Runtime.Do(p0:Option Addr)(p1:LTs [.int .i64,.int .i64,.int .i64,.int .i64]):Tree:=
 nw 43 [.int .i64 p1.1,.int .i64 p1.2.1,.int .i64 p1.2.2.1,.int .i64 p1.2.2.2.1] fun b1=>
 nw 26 (zc Tryz.prog 26) fun b2=>
 br (Option.isNone p0)
 (st (⟨b2,0,none⟩) [.int .i64 2,.int .i64 0]<|
 ld (.g [.int .i64,.int .i64]) (⟨b2,0,none⟩) fun(x3:LTs _)=>
 ret (.agg #[.int .i64 x3.1,.int .i64 x3.2.1]))
 (drw<|Gl.held fun S3=>
 ldS S3 (.l (.int .i64)) (fa (⟨b1,0,none⟩) 0) fun(x4:Int)=>
 call Tryz.prog 23 [.pointer p0] (.one (.l .map)) fun(r5:Option Nat)=>
 chk S3<|
 opr Tryz.prog (Instr.lookup 64 (.map r5) (.int .i64 x4) true) (.many [.l .any,.l .bool]) fun(r6:KTs _)=>
 br (!r6.2.1)
 (st (⟨b2,0,none⟩) [.int .i64 1,.int .i64 0]<|
 ld (.g [.int .i64,.int .i64]) (⟨b2,0,none⟩) fun(x7:LTs _)=>
 ret (.agg #[.int .i64 x7.1,.int .i64 x7.2.1]))
 (ld (.g [.int .i64,.int .i64,.int .i64,.int .i64]) (⟨b1,0,none⟩) fun(x7:LTs _)=>
 callV Tryz.prog r6.1 [.agg #[.int .i64 x7.1,.int .i64 x7.2.1,.int .i64 x7.2.2.1,.int .i64 x7.2.2.2.1]] (.many [.l (.int .i64),.l (.int .i64)]) fun(r8:KTs _)=>
 br ((r8.2.1:Int) != 0)
 (st (⟨b2,0,none⟩) [.int .i64 r8.2.1,.int .i64 0]<|
 ld (.g [.int .i64,.int .i64]) (⟨b2,0,none⟩) fun(x9:LTs _)=>
 ret (.agg #[.int .i64 x9.1,.int .i64 x9.2.1]))
 (st (⟨b2,0,none⟩) [.int .i64 0,.int .i64 r8.1]<|
 ld (.g [.int .i64,.int .i64]) (⟨b2,0,none⟩) fun(x9:LTs _)=>
 ret (.agg #[.int .i64 x9.1,.int .i64 x9.2.1]))))
theorem F.rt.Runtime.Do.calls(p0:Option Addr)(p1:LTs [.int .i64,.int .i64,.int .i64,.int .i64])(h:F.rt.Runtime.Do p0 p1 Q w):Calls Tryz.prog 16 #[.pointer p0,.agg #[.int .i64 p1.1,.int .i64 p1.2.1,.int .i64 p1.2.2.1,.int .i64 p1.2.2.2.1]] w (RetQ Q):=
 Tryz.cd F.rt.Runtime.Do.T Tryz.func16 (by kernel_rfl) (es:=[.va (.pointer p0),.va (.agg #[.int .i64 p1.1,.int .i64 p1.2.1,.int .i64 p1.2.2.1,.int .i64 p1.2.2.2.1])]) rfl (by kernel_rfl) h
def F.fair.Settle.T:Tabs:=⟨(fun
 |5=>[(5,.slice),(10,.int .i64)]
 |_=>[]),
 fun _=>none,
 fun _=> .quiet⟩
def F.rt.Runtime.handlers(p0:Option Addr):Tree:=
 nwM fun b1=>
 oprU Tryz.prog (Instr.mapUpdate 64 (.map (some b1)) (.int .i64 1) (.func (.func 40) #[.pointer p0] #[]))<|
 oprU Tryz.prog (Instr.mapUpdate 64 (.map (some b1)) (.int .i64 2) (.func (.func 41) #[.pointer p0] #[]))<|
 call Tryz.prog 42 [.pointer p0,.int .i64 2] (.one (.l .any)) fun(r2:Value)=>
 oprU Tryz.prog (Instr.mapUpdate 64 (.map (some b1)) (.int .i64 3) (r2))<|
 call Tryz.prog 42 [.pointer p0,.int .i64 3] (.one (.l .any)) fun(r3:Value)=>
 oprU Tryz.prog (Instr.mapUpdate 64 (.map (some b1)) (.int .i64 4) (r3))<|
 oprU Tryz.prog (Instr.mapUpdate 64 (.map (some b1)) (.int .i64 5) (.func (.func 43) #[.pointer p0] #[]))<|
 oprU Tryz.prog (Instr.mapUpdate 64 (.map (some b1)) (.int .i64 6) (.func (.func 44) #[.pointer p0] #[]))<|
 oprU Tryz.prog (Instr.mapUpdate 64 (.map (some b1)) (.int .i64 7) (.func (.func 45) #[.pointer p0] #[]))<|
 oprU Tryz.prog (Instr.mapUpdate 64 (.map (some b1)) (.int .i64 8) (.func (.func 46) #[.pointer p0] #[]))<|
 oprU Tryz.prog (Instr.mapUpdate 64 (.map (some b1)) (.int .i64 9) (.func (.func 47) #[.pointer p0] #[]))<|
 oprU Tryz.prog (Instr.mapUpdate 64 (.map (some b1)) (.int .i64 10) (.func (.func 48) #[.pointer p0] #[]))<|
 oprU Tryz.prog (Instr.mapUpdate 64 (.map (some b1)) (.int .i64 11) (.func (.func 49) #[.pointer p0] #[]))<|
 oprU Tryz.prog (Instr.mapUpdate 64 (.map (some b1)) (.int .i64 12) (.func (.func 50) #[.pointer p0] #[]))<|
 oprU Tryz.prog (Instr.mapUpdate 64 (.map (some b1)) (.int .i64 13) (.func (.func 51) #[.pointer p0] #[]))<|
 oprU Tryz.prog (Instr.mapUpdate 64 (.map (some b1)) (.int .i64 14) (.func (.func 52) #[.pointer p0] #[]))<|
 oprU Tryz.prog (Instr.mapUpdate 64 (.map (some b1)) (.int .i64 15) (.func (.func 53) #[.pointer p0] #[]))<|
 oprU Tryz.prog (Instr.mapUpdate 64 (.map (some b1)) (.int .i64 16) (.func (.func 54) #[.pointer p0] #[]))<|
 oprU Tryz.prog (Instr.mapUpdate 64 (.map (some b1)) (.int .i64 17) (.func (.func 55) #[.pointer p0] #[]))<|
 oprU Tryz.prog (Instr.mapUpdate 64 (.map (some b1)) (.int .i64 18) (.func (.func 56) #[.pointer p0] #[]))<|
 oprU Tryz.prog (Instr.mapUpdate 64 (.map (some b1)) (.int .i64 19) (.func (.func 57) #[.pointer p0] #[]))<|
 oprU Tryz.prog (Instr.mapUpdate 64 (.map (some b1)) (.int .i64 20) (.func (.func 58) #[.pointer p0] #[]))<|
 oprU Tryz.prog (Instr.mapUpdate 64 (.map (some b1)) (.int .i64 21) (.func (.func 59) #[.pointer p0] #[]))<|
 ret (.map (some b1))
theorem F.rt.Runtime.handlers.calls(p0:Option Addr)(h:F.rt.Runtime.handlers p0 Q w):Calls Tryz.prog 23 #[.pointer p0] w (RetQ Q):=
 Tryz.cd Tabs.z Tryz.func23 (by kernel_rfl) (es:=[.va (.pointer p0)]) rfl (by kernel_rfl) h
def F.rt.Runtime.plain.T:Tabs:=⟨fun _=>[],
 fun _=>none,
 (fun
 |1=> .held (some 18) (.go 0 false (.go 1 false (.go 2 false (.go 3 false (.go 4 false (.go 5 false (.go 6 false (.go 7 false (.go 8 false (.go 9 false (.go 10 false (.go 11 false (.go 12 false (.go 13 false (.go 14 false (.go 15 false (.go 16 false (.go 17 false (.two (.go 18 true (.go 19 false (.go 20 false (.go 21 false (.go 22 false (.go 23 false (.go 24 false .nil))))))) (.go 22 false (.go 18 true (.go 19 false (.go 20 false (.go 21 false (.go 23 false (.go 24 false .nil))))))))))))))))))))))))))
 |_=> .quiet)⟩
def F.rt.Runtime.list(p0:Option Addr)(p1:Int):Tree:=
 nw 22 [.pointer p0] fun b1=>
 nw 3 [.int .i64 p1] fun b2=>
 ret (.func (.func 77) #[] #[.pointer (some (⟨b1,0,none⟩)),.pointer (some (⟨b2,0,none⟩))])
theorem F.rt.Runtime.list.calls(p0:Option Addr)(p1:Int)(h:F.rt.Runtime.list p0 p1 Q w):Calls Tryz.prog 42 #[.pointer p0,.int .i64 p1] w (RetQ Q):=
 Tryz.cd Tabs.z Tryz.func42 (by kernel_rfl) (es:=[.va (.pointer p0),.va (.int .i64 p1)]) rfl (by kernel_rfl) h
def F.rt.Runtime.get(p0:Option Addr)(p1:LTs [.int .i64,.int .i64,.int .i64,.int .i64]):Tree:=
 nw 43 [.int .i64 p1.1,.int .i64 p1.2.1,.int .i64 p1.2.2.1,.int .i64 p1.2.2.2.1] fun b1=>
 ld (.l (.int .i64)) (fa (⟨b1,0,none⟩) 1) fun(x2:Int)=>
 call Tryz.prog 78 [.pointer p0,.int .i64 x2,.bool false] (.many [.l (.int .i64),.l (.int .i64)]) fun(r3:KTs _)=>
 br ((r3.2.1:Int) != 0)
 (ret (.tuple #[.int .i64 0,.int .i64 r3.2.1]))
 (ld (.l (.int .i64)) (fa (⟨b1,0,none⟩) 2) fun(x4:Int)=>
 call Tryz.prog 79 [.pointer p0,.int .i64 r3.1,.int .i64 x4] (.many [.l (.int .i64),.l .bool,.l (.int .i64)]) fun(r5:KTs _)=>
 br ((r5.2.2.1:Int) != 0)
 (ret (.tuple #[.int .i64 r5.1,.int .i64 r5.2.2.1]))
 (br (!r5.2.1)
 (ret (.tuple #[.int .i64 r5.1,.int .i64 r5.2.2.1]))
 (call Tryz.prog 80 [.pointer p0,.int .i64 r5.1] (.many [.l (.int .i64),.l (.int .i64)]) fun(r6:KTs _)=>
 ret (.tuple #[.int .i64 r6.1,.int .i64 r6.2.1]))))
theorem F.rt.Runtime.get.calls(p0:Option Addr)(p1:LTs [.int .i64,.int .i64,.int .i64,.int .i64])(h:F.rt.Runtime.get p0 p1 Q w):Calls Tryz.prog 43 #[.pointer p0,.agg #[.int .i64 p1.1,.int .i64 p1.2.1,.int .i64 p1.2.2.1,.int .i64 p1.2.2.2.1]] w (RetQ Q):=
 Tryz.cd Tabs.z Tryz.func43 (by kernel_rfl) (es:=[.va (.pointer p0),.va (.agg #[.int .i64 p1.1,.int .i64 p1.2.1,.int .i64 p1.2.2.1,.int .i64 p1.2.2.2.1])]) rfl (by kernel_rfl) h
def F.rt.Runtime.set.T:Tabs:=⟨fun _=>[],
 fun _=>none,
 (fun
 |12=> .tail 17
 |_=> .quiet)⟩
def F.rt.Runtime.set(p0:Option Addr)(p1:LTs [.int .i64,.int .i64,.int .i64,.int .i64]):Tree:=
 nw 43 [.int .i64 p1.1,.int .i64 p1.2.1,.int .i64 p1.2.2.1,.int .i64 p1.2.2.2.1] fun b1=>
 ld (.l (.int .i64)) (fa (⟨b1,0,none⟩) 1) fun(x2:Int)=>
 call Tryz.prog 78 [.pointer p0,.int .i64 x2,.bool false] (.many [.l (.int .i64),.l (.int .i64)]) fun(r3:KTs _)=>
 br ((r3.2.1:Int) != 0)
 (ret (.tuple #[.int .i64 0,.int .i64 r3.2.1]))
 (ld (.l (.int .i64)) (fa (⟨b1,0,none⟩) 3) fun(x4:Int)=>
 call Tryz.prog 78 [.pointer p0,.int .i64 x4,.bool true] (.many [.l (.int .i64),.l (.int .i64)]) fun(r5:KTs _)=>
 br ((r5.2.1:Int) != 0)
 (ret (.tuple #[.int .i64 0,.int .i64 r5.2.1]))
 (ld (.l (.int .i64)) (fa (⟨b1,0,none⟩) 2) fun(x6:Int)=>
 call Tryz.prog 79 [.pointer p0,.int .i64 r3.1,.int .i64 x6] (.many [.l (.int .i64),.l .bool,.l (.int .i64)]) fun(r7:KTs _)=>
 br ((r7.2.2.1:Int) != 0)
 (ret (.tuple #[.int .i64 0,.int .i64 r7.2.2.1]))
 (br (!r7.2.1)
 (ret (.tuple #[.int .i64 0,.int .i64 5]))
 (drw<|
 nn p0 fun a8=>
 ld (.l .ptr) (fa a8 0) fun(x9:Option Addr)=>
 nn x9 fun a10=>
 ld (.l .ptr) (fa a10 0) fun(x11:Option Addr)=>
 nn x11 fun a12=>
 ld (.l .ptr) (fa a12 0) fun(x13:Option Addr)=>
 nn x13 fun a14=>
 ld (.l .ptr) (fa a14 0) fun(x15:Option Addr)=>
 ld (.l (.int .i64)) (fa (⟨b1,0,none⟩) 2) fun(x16:Int)=>
 call Tryz.prog 81 [.pointer x15,.int .i64 r3.1,.int .i64 x16,.int .i64 r5.1] (.one (.l (.int .i64))) fun(r17:Int)=>
 ret (.tuple #[.int .i64 0,.int .i64 r17])))))
theorem F.rt.Runtime.set.calls(p0:Option Addr)(p1:LTs [.int .i64,.int .i64,.int .i64,.int .i64])(h:F.rt.Runtime.set p0 p1 Q w):Calls Tryz.prog 44 #[.pointer p0,.agg #[.int .i64 p1.1,.int .i64 p1.2.1,.int .i64 p1.2.2.1,.int .i64 p1.2.2.2.1]] w (RetQ Q):=
 Tryz.cd F.rt.Runtime.set.T Tryz.func44 (by kernel_rfl) (es:=[.va (.pointer p0),.va (.agg #[.int .i64 p1.1,.int .i64 p1.2.1,.int .i64 p1.2.2.1,.int .i64 p1.2.2.2.1])]) rfl (by kernel_rfl) h
def F.rt.Runtime.drop.T:Tabs:=⟨fun _=>[],
 fun _=>none,
 (fun
 |1=> .tail 9
 |_=> .quiet)⟩
def F.rt.Runtime.drop(p0:Option Addr)(p1:LTs [.int .i64,.int .i64,.int .i64,.int .i64]):Tree:=
 nw 43 [.int .i64 p1.1,.int .i64 p1.2.1,.int .i64 p1.2.2.1,.int .i64 p1.2.2.2.1] fun b1=>
 drw<|
 nn p0 fun a2=>
 ld (.l .ptr) (fa a2 0) fun(x3:Option Addr)=>
 nn x3 fun a4=>
 ld (.l .ptr) (fa a4 1) fun(x5:Option Addr)=>
 ld (.l (.int .i64)) (fa (⟨b1,0,none⟩) 1) fun(x6:Int)=>
 call Tryz.prog 82 [.pointer x5,.int .i64 x6] (.one (.l (.int .i64))) fun(r7:Int)=>
 ret (.tuple #[.int .i64 0,.int .i64 r7])
theorem F.rt.Runtime.drop.calls(p0:Option Addr)(p1:LTs [.int .i64,.int .i64,.int .i64,.int .i64])(h:F.rt.Runtime.drop p0 p1 Q w):Calls Tryz.prog 46 #[.pointer p0,.agg #[.int .i64 p1.1,.int .i64 p1.2.1,.int .i64 p1.2.2.1,.int .i64 p1.2.2.2.1]] w (RetQ Q):=
 Tryz.cd F.rt.Runtime.drop.T Tryz.func46 (by kernel_rfl) (es:=[.va (.pointer p0),.va (.agg #[.int .i64 p1.1,.int .i64 p1.2.1,.int .i64 p1.2.2.1,.int .i64 p1.2.2.2.1])]) rfl (by kernel_rfl) h
def F.rt.Runtime.root.T:Tabs:=⟨fun _=>[],
 fun _=>none,
 (fun
 |4=> .tail 10
 |_=> .quiet)⟩
def F.rt.Runtime.root(p0:Option Addr)(p1:LTs [.int .i64,.int .i64,.int .i64,.int .i64]):Tree:=
 nw 43 [.int .i64 p1.1,.int .i64 p1.2.1,.int .i64 p1.2.2.1,.int .i64 p1.2.2.2.1] fun b1=>
 ld (.l (.int .i64)) (fa (⟨b1,0,none⟩) 2) fun(x2:Int)=>
 call Tryz.prog 78 [.pointer p0,.int .i64 x2,.bool true] (.many [.l (.int .i64),.l (.int .i64)]) fun(r3:KTs _)=>
 br ((r3.2.1:Int) != 0)
 (ret (.tuple #[.int .i64 0,.int .i64 r3.2.1]))
 (drw<|
 nn p0 fun a4=>
 ld (.l .ptr) (fa a4 0) fun(x5:Option Addr)=>
 nn x5 fun a6=>
 ld (.l .ptr) (fa a6 2) fun(x7:Option Addr)=>
 ld (.l (.int .i64)) (fa (⟨b1,0,none⟩) 1) fun(x8:Int)=>
 call Tryz.prog 83 [.pointer x7,.int .i64 x8,.int .i64 r3.1] (.one (.l (.int .i64))) fun(r9:Int)=>
 ret (.tuple #[.int .i64 0,.int .i64 r9]))
theorem F.rt.Runtime.root.calls(p0:Option Addr)(p1:LTs [.int .i64,.int .i64,.int .i64,.int .i64])(h:F.rt.Runtime.root p0 p1 Q w):Calls Tryz.prog 47 #[.pointer p0,.agg #[.int .i64 p1.1,.int .i64 p1.2.1,.int .i64 p1.2.2.1,.int .i64 p1.2.2.2.1]] w (RetQ Q):=
 Tryz.cd F.rt.Runtime.root.T Tryz.func47 (by kernel_rfl) (es:=[.va (.pointer p0),.va (.agg #[.int .i64 p1.1,.int .i64 p1.2.1,.int .i64 p1.2.2.1,.int .i64 p1.2.2.2.1])]) rfl (by kernel_rfl) h
def F.rt.Runtime.take.T:Tabs:=⟨fun _=>[],
 fun _=>none,
 (fun
 |1=> .held (some 9) (.go 0 false (.go 1 false (.go 2 false (.go 3 false (.go 4 false (.go 5 false (.go 6 false (.go 7 false (.go 8 false (.go 9 true (.go 10 false (.go 11 false (.go 12 false (.go 13 false (.go 14 false .nil)))))))))))))))
 |_=> .quiet)⟩
def F.rt.Runtime.take(p0:Option Addr)(p1:LTs [.int .i64,.int .i64,.int .i64,.int .i64]):Tree:=
 nw 43 [.int .i64 p1.1,.int .i64 p1.2.1,.int .i64 p1.2.2.1,.int .i64 p1.2.2.2.1] fun b1=>
 drw<|Gl.held fun S2=>
 nn p0 fun a3=>
 ldS S2 (.l .ptr) (fa a3 0) fun(x4:Option Addr)=>
 nn x4 fun a5=>
 ldS S2 (.l .ptr) (fa a5 2) fun(x6:Option Addr)=>
 ldS S2 (.l (.int .i64)) (fa (⟨b1,0,none⟩) 1) fun(x7:Int)=>
 call Tryz.prog 84 [.pointer x6,.int .i64 x7] (.many [.l (.int .i64),.l (.int .i64)]) fun(r8:KTs _)=>
 br ((r8.2.1:Int) != 0)
 (ret (.tuple #[.int .i64 0,.int .i64 r8.2.1]))
 (call Tryz.prog 80 [.pointer p0,.int .i64 r8.1] (.many [.l (.int .i64),.l (.int .i64)]) fun(r9:KTs _)=>
 ret (.tuple #[.int .i64 r9.1,.int .i64 r9.2.1]))
theorem F.rt.Runtime.take.calls(p0:Option Addr)(p1:LTs [.int .i64,.int .i64,.int .i64,.int .i64])(h:F.rt.Runtime.take p0 p1 Q w):Calls Tryz.prog 48 #[.pointer p0,.agg #[.int .i64 p1.1,.int .i64 p1.2.1,.int .i64 p1.2.2.1,.int .i64 p1.2.2.2.1]] w (RetQ Q):=
 Tryz.cd F.rt.Runtime.take.T Tryz.func48 (by kernel_rfl) (es:=[.va (.pointer p0),.va (.agg #[.int .i64 p1.1,.int .i64 p1.2.1,.int .i64 p1.2.2.1,.int .i64 p1.2.2.2.1])]) rfl (by kernel_rfl) h
def F.rt.Runtime.refer(p0:Option Addr)(p1:LTs [.int .i64,.int .i64,.int .i64,.int .i64]):Tree:=
 nw 22 [.pointer p0] fun b1=>
 nw 43 [.int .i64 p1.1,.int .i64 p1.2.1,.int .i64 p1.2.2.1,.int .i64 p1.2.2.2.1] fun b2=>
 ld (.l .ptr) (⟨b1,0,none⟩) fun(x3:Option Addr)=>
 ld (.l (.int .i64)) (fa (⟨b2,0,none⟩) 2) fun(x4:Int)=>
 call Tryz.prog 78 [.pointer x3,.int .i64 x4,.bool false] (.many [.l (.int .i64),.l (.int .i64)]) fun(r5:KTs _)=>
 nw 3 (zc Tryz.prog 3) fun b6=>
 st (⟨b6,0,none⟩) [.int .i64 r5.1]<|
 br ((r5.2.1:Int) != 0)
 (ret (.tuple #[.int .i64 0,.int .i64 r5.2.1]))
 (ld (.l .ptr) (⟨b1,0,none⟩) fun(x7:Option Addr)=>
 ld (.g [.int .i64,.int .i64,.int .i64,.int .i64]) (⟨b2,0,none⟩) fun(x8:LTs _)=>
 call Tryz.prog 85 [.pointer x7,.agg #[.int .i64 x8.1,.int .i64 x8.2.1,.int .i64 x8.2.2.1,.int .i64 x8.2.2.2.1]] (.one (.l (.int .i64))) fun(r9:Int)=>
 br ((r9:Int) != 0)
 (ret (.tuple #[.int .i64 0,.int .i64 r9]))
 (ld (.l .ptr) (⟨b1,0,none⟩) fun(x10:Option Addr)=>
 call Tryz.prog 86 [.pointer x10,.func (.func 87) #[] #[.pointer (some (⟨b1,0,none⟩)),.pointer (some (⟨b2,0,none⟩)),.pointer (some (⟨b6,0,none⟩))]] (.many [.l (.int .i64),.l (.int .i64)]) fun(r11:KTs _)=>
 ret (.tuple #[.int .i64 r11.1,.int .i64 r11.2.1])))
theorem F.rt.Runtime.refer.calls(p0:Option Addr)(p1:LTs [.int .i64,.int .i64,.int .i64,.int .i64])(h:F.rt.Runtime.refer p0 p1 Q w):Calls Tryz.prog 49 #[.pointer p0,.agg #[.int .i64 p1.1,.int .i64 p1.2.1,.int .i64 p1.2.2.1,.int .i64 p1.2.2.2.1]] w (RetQ Q):=
 Tryz.cd Tabs.z Tryz.func49 (by kernel_rfl) (es:=[.va (.pointer p0),.va (.agg #[.int .i64 p1.1,.int .i64 p1.2.1,.int .i64 p1.2.2.1,.int .i64 p1.2.2.2.1])]) rfl (by kernel_rfl) h
def F.rt.Runtime.enqueue(p0:Option Addr)(p1:LTs [.int .i64,.int .i64,.int .i64,.int .i64]):Tree:=
 nw 43 [.int .i64 p1.1,.int .i64 p1.2.1,.int .i64 p1.2.2.1,.int .i64 p1.2.2.2.1] fun b1=>
 ld (.l (.int .i64)) (fa (⟨b1,0,none⟩) 1) fun(x2:Int)=>
 call Tryz.prog 78 [.pointer p0,.int .i64 x2,.bool false] (.many [.l (.int .i64),.l (.int .i64)]) fun(r3:KTs _)=>
 br ((r3.2.1:Int) != 0)
 (ret (.tuple #[.int .i64 0,.int .i64 r3.2.1]))
 (nn p0 fun a4=>
 ld (.l .ptr) (fa a4 0) fun(x5:Option Addr)=>
 nn x5 fun a6=>
 ld (.l .ptr) (fa a6 0) fun(x7:Option Addr)=>
 call Tryz.prog 93 [.pointer x7,.int .i64 r3.1] (.many [.l .bool,.l (.int .i64)]) fun(r8:KTs _)=>
 br ((r8.2.1:Int) != 0)
 (ret (.tuple #[.int .i64 0,.int .i64 r8.2.1]))
 (br (!r8.1)
 (ret (.tuple #[.int .i64 0,.int .i64 r8.2.1]))
 (ret (.tuple #[.int .i64 1,.int .i64 0]))))
theorem F.rt.Runtime.enqueue.calls(p0:Option Addr)(p1:LTs [.int .i64,.int .i64,.int .i64,.int .i64])(h:F.rt.Runtime.enqueue p0 p1 Q w):Calls Tryz.prog 52 #[.pointer p0,.agg #[.int .i64 p1.1,.int .i64 p1.2.1,.int .i64 p1.2.2.1,.int .i64 p1.2.2.2.1]] w (RetQ Q):=
 Tryz.cd Tabs.z Tryz.func52 (by kernel_rfl) (es:=[.va (.pointer p0),.va (.agg #[.int .i64 p1.1,.int .i64 p1.2.1,.int .i64 p1.2.2.1,.int .i64 p1.2.2.2.1])]) rfl (by kernel_rfl) h
def F.rt.Runtime.open(p0:Option Addr)(p1:LTs [.int .i64,.int .i64,.int .i64,.int .i64]):Tree:=
 nw 43 [.int .i64 p1.1,.int .i64 p1.2.1,.int .i64 p1.2.2.1,.int .i64 p1.2.2.2.1] fun b1=>
 nn p0 fun a2=>
 ld (.l .ptr) (fa a2 0) fun(x3:Option Addr)=>
 nn x3 fun a4=>
 ld (.l .ptr) (fa a4 0) fun(x5:Option Addr)=>
 nn x5 fun a6=>
 ld (.l .ptr) (fa a6 0) fun(x7:Option Addr)=>
 call Tryz.prog 94 [.pointer x7] (.many [.l (.int .i64),.l (.int .i64)]) fun(r8:KTs _)=>
 ret (.tuple #[.int .i64 r8.1,.int .i64 r8.2.1])
theorem F.rt.Runtime.open.calls(p0:Option Addr)(p1:LTs [.int .i64,.int .i64,.int .i64,.int .i64])(h:F.rt.Runtime.open p0 p1 Q w):Calls Tryz.prog 53 #[.pointer p0,.agg #[.int .i64 p1.1,.int .i64 p1.2.1,.int .i64 p1.2.2.1,.int .i64 p1.2.2.2.1]] w (RetQ Q):=
 Tryz.cd Tabs.z Tryz.func53 (by kernel_rfl) (es:=[.va (.pointer p0),.va (.agg #[.int .i64 p1.1,.int .i64 p1.2.1,.int .i64 p1.2.2.1,.int .i64 p1.2.2.2.1])]) rfl (by kernel_rfl) h
def F.rt.Runtime.poll.T:Tabs:=⟨fun _=>[],
 fun _=>none,
 (fun
 |1=> .held (some 12) (.go 0 false (.go 1 false (.go 2 false (.go 3 false (.go 4 false (.go 5 false (.go 6 false (.go 7 false (.go 8 false (.go 9 false (.go 10 false (.go 11 false (.go 12 true (.go 13 false (.go 14 false (.go 15 false (.go 16 false (.go 17 false .nil))))))))))))))))))
 |8=> .held (some 12) (.go 0 false (.go 1 false (.go 2 false (.go 3 false (.go 4 false (.go 5 false (.go 6 false (.go 7 false (.go 8 false (.go 9 false (.go 10 false (.go 11 false (.go 12 true (.go 13 false (.go 14 false (.go 15 false (.go 16 false (.go 17 false .nil))))))))))))))))))
 |_=> .quiet)⟩
def F.rt.Runtime.poll(p0:Option Addr)(p1:LTs [.int .i64,.int .i64,.int .i64,.int .i64]):Tree:=
 nw 43 [.int .i64 p1.1,.int .i64 p1.2.1,.int .i64 p1.2.2.1,.int .i64 p1.2.2.2.1] fun b1=>
 drw<|Gl.held fun S2=>
 nn p0 fun a3=>
 ldS S2 (.l .ptr) (fa a3 0) fun(x4:Option Addr)=>
 nn x4 fun a5=>
 ldS S2 (.l .ptr) (fa a5 0) fun(x6:Option Addr)=>
 nn x6 fun a7=>
 ldS S2 (.l .ptr) (fa a7 0) fun(x8:Option Addr)=>
 ldS S2 (.l (.int .i64)) (fa (⟨b1,0,none⟩) 1) fun(x9:Int)=>
 call Tryz.prog 66 [.pointer x8,.int .i64 x9] (.many [.l .slice,.l (.int .i64)]) fun(r10:KTs _)=>
 br ((r10.2.1:Int) != 0)
 (ret (.tuple #[.int .i64 0,.int .i64 r10.2.1]))
 (br (((r10.1.n:Nat):Int)==0)
 (ret (.tuple #[.int .i64 0,.int .i64 0]))
 (nn p0 fun a11=>
 ld (.l .ptr) (fa a11 0) fun(x12:Option Addr)=>
 nn x12 fun a13=>
 ld (.l .ptr) (fa a13 1) fun(x14:Option Addr)=>
 call Tryz.prog 90 [.pointer x14] (.one (.l (.int .i64))) fun(r15:Int)=>
 br ((r15:Int)==0)
 (ret (.tuple #[.int .i64 0,.int .i64 3]))
 (drw<|Gl.held fun S16=>
 nn p0 fun a17=>
 ldS S16 (.l .ptr) (fa a17 0) fun(x18:Option Addr)=>
 nn x18 fun a19=>
 ldS S16 (.l .ptr) (fa a19 0) fun(x20:Option Addr)=>
 nn x20 fun a21=>
 ldS S16 (.l .ptr) (fa a21 0) fun(x22:Option Addr)=>
 ldS S16 (.l (.int .i64)) (fa (⟨b1,0,none⟩) 1) fun(x23:Int)=>
 call Tryz.prog 95 [.pointer x22,.int .i64 x23] (.many [.l (.int .i64),.l (.int .i64)]) fun(r24:KTs _)=>
 br ((r24.2.1:Int) != 0)
 (ret (.tuple #[.int .i64 0,.int .i64 r24.2.1]))
 (call Tryz.prog 80 [.pointer p0,.int .i64 r24.1] (.many [.l (.int .i64),.l (.int .i64)]) fun(r25:KTs _)=>
 ret (.tuple #[.int .i64 r25.1,.int .i64 r25.2.1])))))
theorem F.rt.Runtime.poll.calls(p0:Option Addr)(p1:LTs [.int .i64,.int .i64,.int .i64,.int .i64])(h:F.rt.Runtime.poll p0 p1 Q w):Calls Tryz.prog 54 #[.pointer p0,.agg #[.int .i64 p1.1,.int .i64 p1.2.1,.int .i64 p1.2.2.1,.int .i64 p1.2.2.2.1]] w (RetQ Q):=
 Tryz.cd F.rt.Runtime.poll.T Tryz.func54 (by kernel_rfl) (es:=[.va (.pointer p0),.va (.agg #[.int .i64 p1.1,.int .i64 p1.2.1,.int .i64 p1.2.2.1,.int .i64 p1.2.2.2.1])]) rfl (by kernel_rfl) h
def F.rt.Runtime.count.T:Tabs:=⟨fun _=>[],
 fun _=>none,
 (fun
 |2=> .held (some 51) (.go 0 false (.go 1 false (.go 2 false (.go 3 false (.go 4 false (.go 5 false (.go 6 false (.go 7 false (.go 8 false (.go 9 false (.go 10 false (.go 11 false (.go 12 false (.go 13 false (.go 14 false (.go 15 false (.go 16 false (.go 18 false (.go 20 false (.go 21 false (.go 22 false (.go 23 false (.go 24 false (.go 25 false (.go 26 false (.go 29 false (.go 30 false (.go 31 false (.go 32 false (.go 33 false (.go 34 false (.go 35 false (.go 36 false (.go 37 false (.go 38 false (.go 39 false (.go 40 false (.go 41 false (.go 42 false (.go 43 false (.go 44 false (.go 47 false (.go 48 false (.go 49 false (.go 50 false (.go 17 false (.go 19 false (.go 27 false (.go 28 false (.go 45 false (.go 46 false (.go 51 true (.go 52 false (.go 53 false .nil))))))))))))))))))))))))))))))))))))))))))))))))))))))
 |_=> .quiet)⟩
def F.rt.Runtime.count(p0:Option Addr)(p1:LTs [.int .i64,.int .i64,.int .i64,.int .i64]):Tree:=
 nw 43 [.int .i64 p1.1,.int .i64 p1.2.1,.int .i64 p1.2.2.1,.int .i64 p1.2.2.2.1] fun b1=>
 nn p0 fun a2=>
 ld (.l .ptr) (fa a2 0) fun(x3:Option Addr)=>
 nn x3 fun a4=>
 ld (.l .ptr) (fa a4 0) fun(x5:Option Addr)=>
 nn x5 fun a6=>
 ld (.l .ptr) (fa a6 0) fun(x7:Option Addr)=>
 nn x7 fun a8=>
 ld (.l .ptr) (fa a8 0) fun(x9:Option Addr)=>
 nn x9 fun a10=>
 ld (.l .ptr) (fa a10 0) fun(x11:Option Addr)=>
 call Tryz.prog 31 [.pointer x11] (.one (.l (.int .i64))) fun(r12:Int)=>
 drw<|Gl.held fun S13=>
 nn p0 fun a14=>
 ldS S13 (.l .ptr) (fa a14 0) fun(x15:Option Addr)=>
 nn x15 fun a16=>
 ldS S13 (.l .ptr) (fa a16 0) fun(x17:Option Addr)=>
 nn x17 fun a18=>
 ldS S13 (.l .ptr) (fa a18 0) fun(x19:Option Addr)=>
 nn x19 fun a20=>
 ldS S13 (.l .ptr) (fa a20 0) fun(x21:Option Addr)=>
 nn x21 fun a22=>
 ldS S13 (.l .ptr) (fa a22 0) fun(x23:Option Addr)=>
 nn p0 fun a24=>
 ldS S13 (.l .ptr) (fa a24 0) fun(x25:Option Addr)=>
 nn x25 fun a26=>
 ldS S13 (.l .ptr) (fa a26 3) fun(x27:Option Addr)=>
 nn p0 fun a28=>
 ldS S13 (.l .ptr) (fa a28 0) fun(x29:Option Addr)=>
 nn x29 fun a30=>
 ldS S13 (.l .ptr) (fa a30 0) fun(x31:Option Addr)=>
 nn x31 fun a32=>
 ldS S13 (.l .ptr) (fa a32 0) fun(x33:Option Addr)=>
 nn x33 fun a34=>
 ldS S13 (.l .ptr) (fa a34 0) fun(x35:Option Addr)=>
 nn x35 fun a36=>
 ldS S13 (.l .ptr) (fa a36 0) fun(x37:Option Addr)=>
 nn p0 fun a38=>
 ldS S13 (.l .ptr) (fa a38 0) fun(x39:Option Addr)=>
 call Tryz.prog 99 [.pointer x23] (.one (.l (.int .i64))) fun(r40:Int)=>
 chk S13<|
 call Tryz.prog 29 [.pointer x27] (.one (.l .slice)) fun(r41:Slc)=>
 chk S13<|
 call Tryz.prog 60 [.pointer x37] (.one (.l .slice)) fun(r42:Slc)=>
 chk S13<|
 call Tryz.prog 33 [.pointer x39] (.one (.l (.int .i64))) fun(r43:Int)=>
 nw 3 [.int .i64 r12,.int .i64 (IntKind.wrap .i64 (r40-r12)),.int .i64 (r41.n:Nat),.int .i64 (r42.n:Nat),.int .i64 r43] fun b44=>
 ld (.l (.int .i64)) (fa (⟨b1,0,none⟩) 1) fun(x45:Int)=>
 br (decide ((x45:Int)<0))
 (ret (.tuple #[.int .i64 0,.int .i64 1]))
 (ld (.l (.int .i64)) (fa (⟨b1,0,none⟩) 1) fun(x46:Int)=>
 br (decide ((x46:Int)≥(5:Nat)))
 (ret (.tuple #[.int .i64 0,.int .i64 1]))
 (ld (.l (.int .i64)) (fa (⟨b1,0,none⟩) 1) fun(x47:Int)=>
 ix (some ⟨b44,0,none⟩) 5 x47 1 fun a48=>
 ld (.l (.int .i64)) a48 fun(x49:Int)=>
 ret (.tuple #[.int .i64 x49,.int .i64 0])))
theorem F.rt.Runtime.count.calls(p0:Option Addr)(p1:LTs [.int .i64,.int .i64,.int .i64,.int .i64])(h:F.rt.Runtime.count p0 p1 Q w):Calls Tryz.prog 59 #[.pointer p0,.agg #[.int .i64 p1.1,.int .i64 p1.2.1,.int .i64 p1.2.2.1,.int .i64 p1.2.2.2.1]] w (RetQ Q):=
 Tryz.cd F.rt.Runtime.count.T Tryz.func59 (by kernel_rfl) (es:=[.va (.pointer p0),.va (.agg #[.int .i64 p1.1,.int .i64 p1.2.1,.int .i64 p1.2.2.1,.int .i64 p1.2.2.2.1])]) rfl (by kernel_rfl) h
def F.rt.Runtime.object(p0:Option Addr)(p1:LTs [.int .i64,.int .i64,.int .i64,.bool]):Tree:=
 nw 22 [.pointer p0] fun b1=>
 nw 103 [.int .i64 p1.1,.int .i64 p1.2.1,.int .i64 p1.2.2.1,.bool p1.2.2.2.1] fun b2=>
 ld (.l .ptr) (⟨b1,0,none⟩) fun(x3:Option Addr)=>
 call Tryz.prog 86 [.pointer x3,.func (.func 119) #[] #[.pointer (some (⟨b1,0,none⟩)),.pointer (some (⟨b2,0,none⟩))]] (.many [.l (.int .i64),.l (.int .i64)]) fun(r4:KTs _)=>
 ret (.tuple #[.int .i64 r4.1,.int .i64 r4.2.1])
theorem F.rt.Runtime.object.calls(p0:Option Addr)(p1:LTs [.int .i64,.int .i64,.int .i64,.bool])(h:F.rt.Runtime.object p0 p1 Q w):Calls Tryz.prog 76 #[.pointer p0,.agg #[.int .i64 p1.1,.int .i64 p1.2.1,.int .i64 p1.2.2.1,.bool p1.2.2.2.1]] w (RetQ Q):=
 Tryz.cd Tabs.z Tryz.func76 (by kernel_rfl) (es:=[.va (.pointer p0),.va (.agg #[.int .i64 p1.1,.int .i64 p1.2.1,.int .i64 p1.2.2.1,.bool p1.2.2.2.1])]) rfl (by kernel_rfl) h
def F.rt.Runtime.list_1(p0:LTs [.int .i64,.int .i64,.int .i64,.int .i64])(c0:Option Addr)(c1:Option Addr):Tree:=
 nw 43 [.int .i64 p0.1,.int .i64 p0.2.1,.int .i64 p0.2.2.1,.int .i64 p0.2.2.2.1] fun b1=>
 ld (.l (.int .i64)) (fa (⟨b1,0,none⟩) 1) fun(x2:Int)=>
 br (decide ((x2:Int)<0))
 (ret (.tuple #[.int .i64 0,.int .i64 1]))
 (ld (.l (.int .i64)) (fa (⟨b1,0,none⟩) 1) fun(x3:Int)=>
 br (decide ((x3:Int)>1023))
 (ret (.tuple #[.int .i64 0,.int .i64 1]))
 (nn c0 fun a4=>
 ld (.l .ptr) a4 fun(x5:Option Addr)=>
 nn c1 fun a6=>
 ld (.l (.int .i64)) a6 fun(x7:Int)=>
 ld (.l (.int .i64)) (fa (⟨b1,0,none⟩) 1) fun(x8:Int)=>
 call Tryz.prog 76 [.pointer x5,.agg #[.int .i64 x7,.int .i64 0,.int .i64 x8,.bool false]] (.many [.l (.int .i64),.l (.int .i64)]) fun(r9:KTs _)=>
 ret (.tuple #[.int .i64 r9.1,.int .i64 r9.2.1])))
theorem F.rt.Runtime.list_1.calls(p0:LTs [.int .i64,.int .i64,.int .i64,.int .i64])(c0:Option Addr)(c1:Option Addr)(h:F.rt.Runtime.list_1 p0 c0 c1 Q w):Calls Tryz.prog 77 #[.agg #[.int .i64 p0.1,.int .i64 p0.2.1,.int .i64 p0.2.2.1,.int .i64 p0.2.2.2.1],.pointer c0,.pointer c1] w (RetQ Q):=
 Tryz.cd Tabs.z Tryz.func77 (by kernel_rfl) (es:=[.va (.agg #[.int .i64 p0.1,.int .i64 p0.2.1,.int .i64 p0.2.2.1,.int .i64 p0.2.2.2.1]),.va (.pointer c0),.va (.pointer c1)]) rfl (by kernel_rfl) h
def F.rt.Runtime.held(p0:Option Addr)(p1:Int)(p2:Bool):Tree:=
 br p2
 (br ((p1:Int)==0)
 (ret (.tuple #[.int .i64 0,.int .i64 0]))
 (nn p0 fun a1=>
 ld (.l .ptr) (fa a1 0) fun(x2:Option Addr)=>
 nn x2 fun a3=>
 ld (.l .ptr) (fa a3 1) fun(x4:Option Addr)=>
 call Tryz.prog 121 [.pointer x4,.int .i64 p1] (.many [.l (.int .i64),.l (.int .i64)]) fun(r5:KTs _)=>
 ret (.tuple #[.int .i64 r5.1,.int .i64 r5.2.1])))
 (nn p0 fun a1=>
 ld (.l .ptr) (fa a1 0) fun(x2:Option Addr)=>
 nn x2 fun a3=>
 ld (.l .ptr) (fa a3 1) fun(x4:Option Addr)=>
 call Tryz.prog 121 [.pointer x4,.int .i64 p1] (.many [.l (.int .i64),.l (.int .i64)]) fun(r5:KTs _)=>
 ret (.tuple #[.int .i64 r5.1,.int .i64 r5.2.1]))
theorem F.rt.Runtime.held.calls(p0:Option Addr)(p1:Int)(p2:Bool)(h:F.rt.Runtime.held p0 p1 p2 Q w):Calls Tryz.prog 78 #[.pointer p0,.int .i64 p1,.bool p2] w (RetQ Q):=
 Tryz.cd Tabs.z Tryz.func78 (by kernel_rfl) (es:=[.va (.pointer p0),.va (.int .i64 p1),.va (.bool p2)]) rfl (by kernel_rfl) h
def F.rt.Runtime.field(p0:Option Addr)(p1:Int)(p2:Int):Tree:=
 nn p0 fun a1=>
 ld (.l .ptr) (fa a1 0) fun(x2:Option Addr)=>
 nn x2 fun a3=>
 ld (.l .ptr) (fa a3 0) fun(x4:Option Addr)=>
 nn x4 fun a5=>
 ld (.l .ptr) (fa a5 0) fun(x6:Option Addr)=>
 nn x6 fun a7=>
 ld (.l .ptr) (fa a7 0) fun(x8:Option Addr)=>
 call Tryz.prog 61 [.pointer x8,.int .i64 p1] (.many [.g [.int .i64,.int .i64,.int .i64,.bool],.l (.int .i64)]) fun(r9:KTs _)=>
 nw 103 (zc Tryz.prog 103) fun b10=>
 st (⟨b10,0,none⟩) [.int .i64 r9.1.1,.int .i64 r9.1.2.1,.int .i64 r9.1.2.2.1,.bool r9.1.2.2.2.1]<|
 br ((r9.2.1:Int) != 0)
 (ret (.tuple #[.int .i64 0,.bool false,.int .i64 r9.2.1]))
 (ld (.l (.int .i64)) (fa (⟨b10,0,none⟩) 0) fun(x11:Int)=>
 br ((x11:Int)==4)
 (ret (.tuple #[.int .i64 0,.bool false,.int .i64 5]))
 (nn p0 fun a12=>
 ld (.l .ptr) (fa a12 0) fun(x13:Option Addr)=>
 nn x13 fun a14=>
 ld (.l .ptr) (fa a14 0) fun(x15:Option Addr)=>
 nn x15 fun a16=>
 ld (.l .ptr) (fa a16 0) fun(x17:Option Addr)=>
 nn x17 fun a18=>
 ld (.l .ptr) (fa a18 0) fun(x19:Option Addr)=>
 call Tryz.prog 62 [.pointer x19,.int .i64 p1,.int .i64 p2] (.many [.l (.int .i64),.l (.int .i64)]) fun(r20:KTs _)=>
 br ((r20.2.1:Int) != 0)
 (ret (.tuple #[.int .i64 0,.bool false,.int .i64 r20.2.1]))
 (nn p0 fun a21=>
 ld (.l .ptr) (fa a21 0) fun(x22:Option Addr)=>
 nn x22 fun a23=>
 ld (.l .ptr) (fa a23 0) fun(x24:Option Addr)=>
 nn x24 fun a25=>
 ld (.l .ptr) (fa a25 0) fun(x26:Option Addr)=>
 nn x26 fun a27=>
 ld (.l .ptr) (fa a27 0) fun(x28:Option Addr)=>
 call Tryz.prog 123 [.pointer x28,.int .i64 p1] (.one (.l .slice)) fun(r29:Slc)=>
 call Tryz.prog 122 [.slice r29.a r29.n r29.c,.int .i64 p2] (.one (.l .bool)) fun(r30:Bool)=>
 ret (.tuple #[.int .i64 r20.1,.bool r30,.int .i64 0]))))
theorem F.rt.Runtime.field.calls(p0:Option Addr)(p1:Int)(p2:Int)(h:F.rt.Runtime.field p0 p1 p2 Q w):Calls Tryz.prog 79 #[.pointer p0,.int .i64 p1,.int .i64 p2] w (RetQ Q):=
 Tryz.cd Tabs.z Tryz.func79 (by kernel_rfl) (es:=[.va (.pointer p0),.va (.int .i64 p1),.va (.int .i64 p2)]) rfl (by kernel_rfl) h
def F.rt.Runtime.given(p0:Option Addr)(p1:Int):Tree:=
 br ((p1:Int)==0)
 (ret (.tuple #[.int .i64 0,.int .i64 0]))
 (nn p0 fun a1=>
 ld (.l .ptr) (fa a1 0) fun(x2:Option Addr)=>
 nn x2 fun a3=>
 ld (.l .ptr) (fa a3 1) fun(x4:Option Addr)=>
 call Tryz.prog 90 [.pointer x4] (.one (.l (.int .i64))) fun(r5:Int)=>
 br ((r5:Int)==0)
 (ret (.tuple #[.int .i64 0,.int .i64 3]))
 (nn p0 fun a6=>
 ld (.l .ptr) (fa a6 0) fun(x7:Option Addr)=>
 nn x7 fun a8=>
 ld (.l .ptr) (fa a8 1) fun(x9:Option Addr)=>
 call Tryz.prog 124 [.pointer x9,.int .i64 p1] (.many [.l (.int .i64),.l (.int .i64)]) fun(r10:KTs _)=>
 ret (.tuple #[.int .i64 r10.1,.int .i64 r10.2.1])))
theorem F.rt.Runtime.given.calls(p0:Option Addr)(p1:Int)(h:F.rt.Runtime.given p0 p1 Q w):Calls Tryz.prog 80 #[.pointer p0,.int .i64 p1] w (RetQ Q):=
 Tryz.cd Tabs.z Tryz.func80 (by kernel_rfl) (es:=[.va (.pointer p0),.va (.int .i64 p1)]) rfl (by kernel_rfl) h
def F.rt.Runtime.refers.T:Tabs:=⟨fun _=>[],
 fun _=>none,
 (fun
 |3=> .held none (.go 0 false (.go 1 false (.go 2 false (.go 3 false (.go 4 false (.go 5 false (.go 6 false (.go 7 false (.go 8 false (.go 9 false (.go 10 false (.go 11 false (.go 12 false (.go 13 false (.go 14 false (.go 15 false (.go 16 false (.go 17 false (.go 18 false (.go 19 false .nil))))))))))))))))))))
 |_=> .quiet)⟩
def F.rt.Runtime.refers(p0:Option Addr)(p1:LTs [.int .i64,.int .i64,.int .i64,.int .i64]):Tree:=
 nw 43 [.int .i64 p1.1,.int .i64 p1.2.1,.int .i64 p1.2.2.1,.int .i64 p1.2.2.2.1] fun b1=>
 ld (.l (.int .i64)) (fa (⟨b1,0,none⟩) 1) fun(x2:Int)=>
 br (decide ((x2:Int)<1))
 (ret (.int .i64 1))
 (ld (.l (.int .i64)) (fa (⟨b1,0,none⟩) 1) fun(x3:Int)=>
 br (decide ((x3:Int)>3))
 (ret (.int .i64 1))
 (drw<|Gl.held fun S4=>
 ldS S4 (.l (.int .i64)) (fa (⟨b1,0,none⟩) 3) fun(x5:Int)=>
 br (decide ((x5:Int)<(-1)))
 (ret (.int .i64 2))
 (ldS S4 (.l (.int .i64)) (fa (⟨b1,0,none⟩) 3) fun(x6:Int)=>
 nn p0 fun a7=>
 ldS S4 (.l .ptr) (fa a7 0) fun(x8:Option Addr)=>
 nn x8 fun a9=>
 ldS S4 (.l .ptr) (fa a9 0) fun(x10:Option Addr)=>
 nn x10 fun a11=>
 ldS S4 (.l .ptr) (fa a11 0) fun(x12:Option Addr)=>
 call Tryz.prog 65 [.pointer x12] (.one (.l (.int .i64))) fun(r13:Int)=>
 chk S4<|
 br (decide ((x6:Int)≥r13))
 (ret (.int .i64 2))
 (ld (.l (.int .i64)) (fa (⟨b1,0,none⟩) 1) fun(x14:Int)=>
 br ((x14:Int)==3)
 (ld (.l (.int .i64)) (fa (⟨b1,0,none⟩) 3) fun(x15:Int)=>
 br (decide ((x15:Int)<0))
 (ret (.int .i64 1))
 (ret (.int .i64 0)))
 (ret (.int .i64 0))))))
theorem F.rt.Runtime.refers.calls(p0:Option Addr)(p1:LTs [.int .i64,.int .i64,.int .i64,.int .i64])(h:F.rt.Runtime.refers p0 p1 Q w):Calls Tryz.prog 85 #[.pointer p0,.agg #[.int .i64 p1.1,.int .i64 p1.2.1,.int .i64 p1.2.2.1,.int .i64 p1.2.2.2.1]] w (RetQ Q):=
 Tryz.cd F.rt.Runtime.refers.T Tryz.func85 (by kernel_rfl) (es:=[.va (.pointer p0),.va (.agg #[.int .i64 p1.1,.int .i64 p1.2.1,.int .i64 p1.2.2.1,.int .i64 p1.2.2.2.1])]) rfl (by kernel_rfl) h
def F.rt.Runtime.made.T:Tabs:=⟨(fun
 |5=>[(6,.int .i64),(7,.int .i64),(26,.int .i64)]
 |_=>[]),
 fun _=>none,
 fun _=> .quiet⟩
def F.rt.Runtime.made(p0:Option Addr)(p1:Value):Tree:=
 nn p0 fun a1=>
 ld (.l .ptr) (fa a1 0) fun(x2:Option Addr)=>
 nn x2 fun a3=>
 ld (.l .ptr) (fa a3 1) fun(x4:Option Addr)=>
 call Tryz.prog 90 [.pointer x4] (.one (.l (.int .i64))) fun(r5:Int)=>
 br ((r5:Int)==0)
 (ret (.tuple #[.int .i64 0,.int .i64 3]))
 (callV Tryz.prog p1 [] (.many [.l (.int .i64),.l (.int .i64)]) fun(r6:KTs _)=>
 nw 4 [.bool false,.bool true] fun b7=>
 lp [.int .i64,.int .i64,.int .i64] (fun X8 u9=>
 br (decide ((u9.2.2.1:Int)<(2:Nat)))
 (ix (some ⟨b7,0,none⟩) 2 u9.2.2.1 1 fun a10=>
 ld (.l .bool) a10 fun(x11:Bool)=>
 br ((u9.2.1:Int) != 3)
 (br ((u9.2.1:Int) != 0)
 (ret (.tuple #[.int .i64 0,.int .i64 u9.2.1]))
 (call Tryz.prog 80 [.pointer p0,.int .i64 u9.1] (.many [.l (.int .i64),.l (.int .i64)]) fun(r12:KTs _)=>
 ret (.tuple #[.int .i64 r12.1,.int .i64 r12.2.1])))
 (nn p0 fun a12=>
 ld (.l .ptr) (fa a12 0) fun(x13:Option Addr)=>
 call Tryz.prog 68 [.pointer x13,.bool x11] (.many [.g [.slice,.slice,.slice,.slice],.l (.int .i64)]) fun(r14:KTs _)=>
 callV Tryz.prog p1 [] (.many [.l (.int .i64),.l (.int .i64)]) fun(r15:KTs _)=>
 X8 (r15.1,r15.2.1,IntKind.wrap .i64 (u9.2.2.1+1),())))
 (br ((u9.2.1:Int) != 0)
 (ret (.tuple #[.int .i64 0,.int .i64 u9.2.1]))
 (call Tryz.prog 80 [.pointer p0,.int .i64 u9.1] (.many [.l (.int .i64),.l (.int .i64)]) fun(r10:KTs _)=>
 ret (.tuple #[.int .i64 r10.1,.int .i64 r10.2.1])))) (r6.1,r6.2.1,0,()))
theorem F.rt.Runtime.made.calls(p0:Option Addr)(p1:Value)(h:F.rt.Runtime.made p0 p1 Q w):Calls Tryz.prog 86 #[.pointer p0,p1] w (RetQ Q):=
 Tryz.cd F.rt.Runtime.made.T Tryz.func86 (by kernel_rfl) (es:=[.va (.pointer p0),.op p1]) rfl (by kernel_rfl) h
def F.rt.Runtime.refer_1.T:Tabs:=⟨fun _=>[],
 fun _=>none,
 (fun
 |1=> .held (some 17) (.go 0 false (.go 1 false (.go 2 false (.go 3 false (.go 4 false (.go 5 false (.go 6 false (.go 7 false (.go 8 false (.go 9 false (.go 10 false (.go 11 false (.go 12 false (.go 13 false (.go 14 false (.go 15 false (.go 16 false (.go 17 true (.go 18 false (.go 19 false (.go 20 false (.go 21 false .nil))))))))))))))))))))))
 |_=> .quiet)⟩
def F.rt.Runtime.refer_1(c0:Addr)(c1:Addr)(c2:Addr):Tree:=
 drw<|Gl.held fun S1=>
 ldS S1 (.l .ptr) c0 fun(x2:Option Addr)=>
 nn x2 fun a3=>
 ldS S1 (.l .ptr) (fa a3 0) fun(x4:Option Addr)=>
 nn x4 fun a5=>
 ldS S1 (.l .ptr) (fa a5 0) fun(x6:Option Addr)=>
 ldS S1 (.l (.int .i64)) (fa c1 1) fun(x7:Int)=>
 ldS S1 (.l (.int .i64)) c2 fun(x8:Int)=>
 ldS S1 (.l (.int .i64)) (fa c1 3) fun(x9:Int)=>
 ldS S1 (.l .ptr) c0 fun(x10:Option Addr)=>
 nn x10 fun a11=>
 ldS S1 (.l .ptr) (fa a11 0) fun(x12:Option Addr)=>
 call Tryz.prog 89 [.pointer x12] (.one (.l (.int .i64))) fun(r13:Int)=>
 chk S1<|
 call Tryz.prog 88 [.pointer x6,.int .i64 x7,.int .i64 x8,.int .i64 x9,.int .i64 r13] (.many [.l (.int .i64),.l (.int .i64)]) fun(r14:KTs _)=>
 ret (.tuple #[.int .i64 r14.1,.int .i64 r14.2.1])
theorem F.rt.Runtime.refer_1.calls(c0:Addr)(c1:Addr)(c2:Addr)(h:F.rt.Runtime.refer_1 c0 c1 c2 Q w):Calls Tryz.prog 87 #[.pointer (some c0),.pointer (some c1),.pointer (some c2)] w (RetQ Q):=
 Tryz.cd F.rt.Runtime.refer_1.T Tryz.func87 (by kernel_rfl) (es:=[.pa c0,.pa c1,.pa c2]) rfl (by kernel_rfl) h
def F.rt.Runtime.object_1.T:Tabs:=⟨fun _=>[],
 fun _=>none,
 (fun
 |1=> .held (some 14) (.go 0 false (.go 1 false (.go 2 false (.go 3 false (.go 4 false (.go 5 false (.go 6 false (.go 7 false (.go 8 false (.go 9 false (.go 10 false (.go 11 false (.go 12 false (.go 13 false (.go 14 true (.go 15 false (.go 16 false (.go 17 false (.go 18 false .nil)))))))))))))))))))
 |_=> .quiet)⟩
def F.rt.Runtime.object_1(c0:Option Addr)(c1:Option Addr):Tree:=
 drw<|Gl.held fun S1=>
 nn c0 fun a2=>
 ldS S1 (.l .ptr) a2 fun(x3:Option Addr)=>
 nn x3 fun a4=>
 ldS S1 (.l .ptr) (fa a4 0) fun(x5:Option Addr)=>
 nn x5 fun a6=>
 ldS S1 (.l .ptr) (fa a6 0) fun(x7:Option Addr)=>
 nn x7 fun a8=>
 ldS S1 (.l .ptr) (fa a8 0) fun(x9:Option Addr)=>
 nn x9 fun a10=>
 ldS S1 (.l .ptr) (fa a10 0) fun(x11:Option Addr)=>
 nn c1 fun a12=>
 ldS S1 (.g [.int .i64,.int .i64,.int .i64,.bool]) a12 fun(x13:LTs _)=>
 call Tryz.prog 120 [.pointer x11,.agg #[.int .i64 x13.1,.int .i64 x13.2.1,.int .i64 x13.2.2.1,.bool x13.2.2.2.1]] (.many [.l (.int .i64),.l (.int .i64)]) fun(r14:KTs _)=>
 ret (.tuple #[.int .i64 r14.1,.int .i64 r14.2.1])
theorem F.rt.Runtime.object_1.calls(c0:Option Addr)(c1:Option Addr)(h:F.rt.Runtime.object_1 c0 c1 Q w):Calls Tryz.prog 119 #[.pointer c0,.pointer c1] w (RetQ Q):=
 Tryz.cd F.rt.Runtime.object_1.T Tryz.func119 (by kernel_rfl) (es:=[.va (.pointer c0),.va (.pointer c1)]) rfl (by kernel_rfl) h
end Go.Proofs.YtfepdmpplahloaaGreat
