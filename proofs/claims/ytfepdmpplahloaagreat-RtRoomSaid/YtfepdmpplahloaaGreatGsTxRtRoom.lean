import Derived.Test.YtfepdmpplahloaaGreatGsT
namespace Go.Proofs.YtfepdmpplahloaaGreat
open Go Go.Gl
set_option maxRecDepth 100000
set_option linter.unusedVariables false
variable{Q:Value→World→Prop}{w:World}
def F.gloaminglaw21.RtRoom.T:Tabs:=⟨fun _=>[],
 (fun
 |10=>some []
 |_=>none),
 (fun
 |6=> .held (some 5) (.go 0 false (.go 1 false (.go 3 false (.go 4 false (.go 2 false (.go 5 true (.go 6 false (.go 7 false .nil))))))))
 |_=> .quiet)⟩
def F.gloaminglaw21.RtRoom(p0:Bool)(p1:Int):Tree:=
 call Tryz.prog 14 [.agg #[.int .i64 3,.int .i64 1000,.int .i64 2]] (.many [.l .ptr,.l (.int .i64)]) fun(r1:KTs _)=>
 call Tryz.prog 15 [.pointer r1.1] (.one (.l .bool)) fun(r2:Bool)=>
 br (!r2)
 (ret (.bool false))
 (call Tryz.prog 10 [.int .i64 r1.2.1] (.one (.l (.int .i64))) fun(r3:Int)=>
 br ((r3:Int) != 0)
 (ret (.bool false))
 (call Tryz.prog 16 [.pointer r1.1,.agg #[.int .i64 4,.int .i64 62,.int .i64 0,.int .i64 0]] (.one (.g [.int .i64,.int .i64])) fun(r4:LTs _)=>
 nw 26 (zc Tryz.prog 26) fun b5=>
 st (⟨b5,0,none⟩) [.int .i64 r4.1,.int .i64 r4.2.1]<|
 ld (.l (.int .i64)) (fa (⟨b5,0,none⟩) 1) fun(x6:Int)=>
 call Tryz.prog 16 [.pointer r1.1,.agg #[.int .i64 11,.int .i64 1,.int .i64 x6,.int .i64 (-1)]] (.one (.g [.int .i64,.int .i64])) fun(r7:LTs _)=>
 nw 26 (zc Tryz.prog 26) fun b8=>
 st (⟨b8,0,none⟩) [.int .i64 r7.1,.int .i64 r7.2.1]<|
 drw<|Gl.held fun S9=>
 ldS S9 (.l (.int .i64)) (fa (⟨b5,0,none⟩) 0) fun(x10:Int)=>
 ldS S9 (.l (.int .i64)) (fa (⟨b8,0,none⟩) 0) fun(x11:Int)=>
 call Tryz.prog 10 [.int .i64 x10] (.one (.l (.int .i64))) fun(r12:Int)=>
 chk S9<|
 call Tryz.prog 10 [.int .i64 x11] (.one (.l (.int .i64))) fun(r13:Int)=>
 br ((IntKind.wrap .i64 (r12+r13):Int) != 0)
 (ret (.bool false))
 (jn (fun(j15:LTs [])=> --
 need ((24:Int)≠0)<|
 call Tryz.prog 16 [.pointer r1.1,.agg #[.int .i64 4,.int .i64 (IntKind.wrap .i64 (40+(Int.tmod (IntKind.wrap .i64 p1) 24))),.int .i64 0,.int .i64 0]] (.one (.g [.int .i64,.int .i64])) fun(r16:LTs _)=>
 nw 26 (zc Tryz.prog 26) fun b17=>
 st (⟨b17,0,none⟩) [.int .i64 r16.1,.int .i64 r16.2.1]<|
 nn r1.1 fun a18=>
 ld (.l .ptr) (fa a18 0) fun(x19:Option Addr)=>
 call Tryz.prog 17 [.pointer x19] (.one (.g [.slice,.slice,.slice,.slice,.slice,.slice,.int .i64,.int .i64,.int .i64,.int .i64])) fun(r20:LTs _)=>
 nw 49 (zc Tryz.prog 49) fun b21=>
 st (⟨b21,0,none⟩) [.slice r20.1.a r20.1.n r20.1.c,.slice r20.2.1.a r20.2.1.n r20.2.1.c,.slice r20.2.2.1.a r20.2.2.1.n r20.2.2.1.c,.slice r20.2.2.2.1.a r20.2.2.2.1.n r20.2.2.2.1.c,.slice r20.2.2.2.2.1.a r20.2.2.2.2.1.n r20.2.2.2.2.1.c,.slice r20.2.2.2.2.2.1.a r20.2.2.2.2.2.1.n r20.2.2.2.2.2.1.c,.int .i64 r20.2.2.2.2.2.2.1,.int .i64 r20.2.2.2.2.2.2.2.1,.int .i64 r20.2.2.2.2.2.2.2.2.1,.int .i64 r20.2.2.2.2.2.2.2.2.2.1]<|
 ld (.l (.int .i64)) (fa (⟨b8,0,none⟩) 1) fun(x22:Int)=>
 call Tryz.prog 16 [.pointer r1.1,.agg #[.int .i64 12,.int .i64 x22,.int .i64 0,.int .i64 0]] (.one (.g [.int .i64,.int .i64])) fun(r23:LTs _)=>
 nw 26 (zc Tryz.prog 26) fun b24=>
 st (⟨b24,0,none⟩) [.int .i64 r23.1,.int .i64 r23.2.1]<|
 br p0
 (ld (.l (.int .i64)) (fa (⟨b17,0,none⟩) 0) fun(x25:Int)=>
 call Tryz.prog 10 [.int .i64 x25] (.one (.l (.int .i64))) fun(r26:Int)=>
 br ((r26:Int)==0)
 (ld (.l (.int .i64)) (fa (⟨b24,0,none⟩) 1) fun(x27:Int)=>
 br ((x27:Int)==0)
 (ld (.l (.int .i64)) (fa (⟨b24,0,none⟩) 0) fun(x28:Int)=>
 call Tryz.prog 10 [.int .i64 x28] (.one (.l (.int .i64))) fun(r29:Int)=>
 br ((r29:Int)==0)
 (ld (.l (.int .i64)) (fa (⟨b21,0,none⟩) 9) fun(x30:Int)=>
 br ((x30:Int)==2)
 (call Tryz.prog 12 [] (.one (.l .bool)) fun(r31:Bool)=>
 ret (.bool r31))
 (ret (.bool false)))
 (ret (.bool false)))
 (ret (.bool false)))
 (ret (.bool false)))
 (ld (.l (.int .i64)) (fa (⟨b17,0,none⟩) 0) fun(x25:Int)=>
 call Tryz.prog 10 [.int .i64 x25] (.one (.l (.int .i64))) fun(r26:Int)=>
 br ((r26:Int)==3)
 (ld (.l (.int .i64)) (fa (⟨b17,0,none⟩) 1) fun(x27:Int)=>
 br ((x27:Int)==0)
 (ld (.l (.int .i64)) (fa (⟨b24,0,none⟩) 1) fun(x28:Int)=>
 br ((x28:Int) != 0)
 (ld (.l (.int .i64)) (fa (⟨b21,0,none⟩) 9) fun(x29:Int)=>
 br ((x29:Int)==2)
 (call Tryz.prog 12 [] (.one (.l .bool)) fun(r30:Bool)=>
 ret (.bool r30))
 (ret (.bool false)))
 (ret (.bool false)))
 (ret (.bool false)))
 (ret (.bool false)))) fun J14=>
 br p0
 (ld (.l (.int .i64)) (fa (⟨b5,0,none⟩) 1) fun(x27:Int)=>
 call Tryz.prog 16 [.pointer r1.1,.agg #[.int .i64 8,.int .i64 x27,.int .i64 0,.int .i64 0]] (.one (.g [.int .i64,.int .i64])) fun(r28:LTs _)=>
 J14 (()))
 (J14 (())))))
theorem F.gloaminglaw21.RtRoom.calls(p0:Bool)(p1:Int)(h:F.gloaminglaw21.RtRoom p0 p1 Q w):Calls Tryz.prog 6 #[.bool p0,.int .u16 p1] w (RetQ Q):=
 Tryz.cd F.gloaminglaw21.RtRoom.T Tryz.func6 (by kernel_rfl) (es:=[.va (.bool p0),.va (.int .u16 p1)]) rfl (by kernel_rfl) h
end Go.Proofs.YtfepdmpplahloaaGreat
