import Derived.Test.YtfepdmpplahloaaGreatGsT
namespace Go.Proofs.YtfepdmpplahloaaGreat
open Go Go.Gl
set_option maxRecDepth 100000
set_option linter.unusedVariables false
variable{Q:Value→World→Prop}{w:World}
def F.gloaminglaw21.RtRefs.T:Tabs:=⟨fun _=>[],
 (fun
 |14=>some []
 |25=>some []
 |_=>none),
 (fun
 |10=> .held none (.go 0 false (.go 1 false (.go 3 false (.go 4 false (.go 7 false (.go 8 false (.go 11 false (.go 12 false (.go 2 false (.cut (.go 5 false (.cut (.go 6 false (.go 9 false (.cut (.go 10 false (.go 13 false (.cut (.go 14 false (.go 15 false (.go 16 false (.go 17 false (.go 18 false (.go 19 false (.go 20 false (.go 21 false (.go 22 false (.go 23 false .nil))))))))))))))))))))))))))))
 |_=> .quiet)⟩
def F.gloaminglaw21.RtRefs(p0:Int)(p1:Int):Tree:=
 call Tryz.prog 8 [] (.one (.l .ptr)) fun(r1:Option Addr)=>
 br (Option.isNone r1)
 (ret (.bool false))
 (call Tryz.prog 9 [.pointer r1,.int .i64 15,.int .i64 0,.int .i64 0,.int .i64 0] (.one (.g [.int .i64,.int .i64])) fun(r2:LTs _)=>
 nw 26 (zc Tryz.prog 26) fun b3=>
 st (⟨b3,0,none⟩) [.int .i64 r2.1,.int .i64 r2.2.1]<|
 need ((3:Int)≠0)<|
 call Tryz.prog 9 [.pointer r1,.int .i64 4,.int .i64 2,.int .i64 0,.int .i64 0] (.one (.g [.int .i64,.int .i64])) fun(r4:LTs _)=>
 nw 26 (zc Tryz.prog 26) fun b5=>
 st (⟨b5,0,none⟩) [.int .i64 r4.1,.int .i64 r4.2.1]<|
 ld (.l (.int .i64)) (fa (⟨b5,0,none⟩) 1) fun(x6:Int)=>
 ld (.l (.int .i64)) (fa (⟨b3,0,none⟩) 1) fun(x7:Int)=>
 call Tryz.prog 9 [.pointer r1,.int .i64 11,.int .i64 (IntKind.wrap .i64 (1+(Int.tmod (IntKind.wrap .i64 p0) 3))),.int .i64 x6,.int .i64 x7] (.one (.g [.int .i64,.int .i64])) fun(r8:LTs _)=>
 nw 26 (zc Tryz.prog 26) fun b9=>
 st (⟨b9,0,none⟩) [.int .i64 r8.1,.int .i64 r8.2.1]<|
 ld (.l (.int .i64)) (fa (⟨b5,0,none⟩) 1) fun(x10:Int)=>
 call Tryz.prog 9 [.pointer r1,.int .i64 7,.int .i64 x10,.int .i64 1,.int .i64 77] (.one (.g [.int .i64,.int .i64])) fun(r11:LTs _)=>
 ld (.l (.int .i64)) (fa (⟨b9,0,none⟩) 1) fun(x12:Int)=>
 call Tryz.prog 9 [.pointer r1,.int .i64 12,.int .i64 x12,.int .i64 0,.int .i64 0] (.one (.g [.int .i64,.int .i64])) fun(r13:LTs _)=>
 nw 26 (zc Tryz.prog 26) fun b14=>
 st (⟨b14,0,none⟩) [.int .i64 r13.1,.int .i64 r13.2.1]<|
 drw<|Gl.held fun S15=>
 ldS S15 (.l (.int .i64)) (fa (⟨b3,0,none⟩) 0) fun(x16:Int)=>
 ldS S15 (.l (.int .i64)) (fa (⟨b5,0,none⟩) 0) fun(x17:Int)=>
 ldS S15 (.l (.int .i64)) (fa (⟨b9,0,none⟩) 0) fun(x18:Int)=>
 ldS S15 (.l (.int .i64)) (fa (⟨b14,0,none⟩) 0) fun(x19:Int)=>
 call Tryz.prog 10 [.int .i64 x16] (.one (.l (.int .i64))) fun(r20:Int)=>
 chk S15<|
 narrow S15 fun S21=>
 call Tryz.prog 10 [.int .i64 x17] (.one (.l (.int .i64))) fun(r22:Int)=>
 chk S21<|
 narrow S21 fun S23=>
 call Tryz.prog 10 [.int .i64 x18] (.one (.l (.int .i64))) fun(r24:Int)=>
 chk S23<|
 narrow S23 fun S25=>
 call Tryz.prog 10 [.int .i64 x19] (.one (.l (.int .i64))) fun(r26:Int)=>
 chk S25<|
 narrow S25 fun S27=>
 br ((IntKind.wrap .i64 ((IntKind.wrap .i64 ((IntKind.wrap .i64 (r20+r22))+r24))+r26):Int) != 0)
 (ret (.bool false))
 (ldS S27 (.l (.int .i64)) (fa (⟨b14,0,none⟩) 1) fun(x28:Int)=>
 br (!(((x28:Int)==0)==((IntKind.wrap .i64 (1+(Int.tmod (IntKind.wrap .i64 p0) 3)):Int)==3)))
 (ret (.bool false))
 (jn (fun(j30:LTs [])=> --
 ld (.l (.int .i64)) (fa (⟨b5,0,none⟩) 1) fun(x31:Int)=>
 call Tryz.prog 9 [.pointer r1,.int .i64 8,.int .i64 x31,.int .i64 0,.int .i64 0] (.one (.g [.int .i64,.int .i64])) fun(r32:LTs _)=>
 jn (fun(j34:LTs [])=> --
 ld (.l (.int .i64)) (fa (⟨b3,0,none⟩) 1) fun(x35:Int)=>
 call Tryz.prog 9 [.pointer r1,.int .i64 16,.int .i64 x35,.int .i64 0,.int .i64 0] (.one (.g [.int .i64,.int .i64])) fun(r36:LTs _)=>
 nw 26 (zc Tryz.prog 26) fun b37=>
 st (⟨b37,0,none⟩) [.int .i64 r36.1,.int .i64 r36.2.1]<|
 ld (.l (.int .i64)) (fa (⟨b37,0,none⟩) 0) fun(x38:Int)=>
 call Tryz.prog 10 [.int .i64 x38] (.one (.l (.int .i64))) fun(r39:Int)=>
 br ((r39:Int)==0)
 (ld (.l (.int .i64)) (fa (⟨b37,0,none⟩) 1) fun(x40:Int)=>
 br ((x40:Int) != 0)
 (ld (.l (.int .i64)) (fa (⟨b37,0,none⟩) 1) fun(x41:Int)=>
 ld (.l (.int .i64)) (fa (⟨b9,0,none⟩) 1) fun(x42:Int)=>
 br ((x41:Int) != x42)
 (ld (.l (.int .i64)) (fa (⟨b37,0,none⟩) 1) fun(x43:Int)=>
 call Tryz.prog 9 [.pointer r1,.int .i64 12,.int .i64 x43,.int .i64 0,.int .i64 0] (.one (.g [.int .i64,.int .i64])) fun(r44:LTs _)=>
 call Tryz.prog 11 [.agg #[.int .i64 r44.1,.int .i64 r44.2.1],.int .i64 0] (.one (.l .bool)) fun(r45:Bool)=>
 br r45
 (ld (.l (.int .i64)) (fa (⟨b3,0,none⟩) 1) fun(x46:Int)=>
 call Tryz.prog 9 [.pointer r1,.int .i64 16,.int .i64 x46,.int .i64 0,.int .i64 0] (.one (.g [.int .i64,.int .i64])) fun(r47:LTs _)=>
 call Tryz.prog 11 [.agg #[.int .i64 r47.1,.int .i64 r47.2.1],.int .i64 0] (.one (.l .bool)) fun(r48:Bool)=>
 br r48
 (ld (.l (.int .i64)) (fa (⟨b9,0,none⟩) 1) fun(x49:Int)=>
 call Tryz.prog 9 [.pointer r1,.int .i64 14,.int .i64 x49,.int .i64 0,.int .i64 0] (.one (.g [.int .i64,.int .i64])) fun(r50:LTs _)=>
 call Tryz.prog 11 [.agg #[.int .i64 r50.1,.int .i64 r50.2.1],.int .i64 0] (.one (.l .bool)) fun(r51:Bool)=>
 br r51
 (ld (.l (.int .i64)) (fa (⟨b3,0,none⟩) 1) fun(x52:Int)=>
 call Tryz.prog 9 [.pointer r1,.int .i64 16,.int .i64 x52,.int .i64 0,.int .i64 0] (.one (.g [.int .i64,.int .i64])) fun(r53:LTs _)=>
 call Tryz.prog 11 [.agg #[.int .i64 r53.1,.int .i64 r53.2.1],.int .i64 0] (.one (.l .bool)) fun(r54:Bool)=>
 br r54
 (call Tryz.prog 12 [] (.one (.l .bool)) fun(r55:Bool)=>
 ret (.bool r55))
 (ret (.bool false)))
 (ret (.bool false)))
 (ret (.bool false)))
 (ret (.bool false)))
 (ret (.bool false)))
 (ret (.bool false)))
 (ret (.bool false))) fun J33=>
 need ((3:Int)≠0)<|
 br ((Int.tmod p1 3:Int)==0)
 (call Tryz.prog 9 [.pointer r1,.int .i64 19,.int .i64 1,.int .i64 0,.int .i64 0] (.one (.g [.int .i64,.int .i64])) fun(r40:LTs _)=>
 call Tryz.prog 11 [.agg #[.int .i64 r40.1,.int .i64 r40.2.1],.int .i64 1] (.one (.l .bool)) fun(r41:Bool)=>
 br (!r41)
 (ret (.bool false))
 (J33 (())))
 (br ((Int.tmod p1 3:Int)==1)
 (ld (.l (.int .i64)) (fa (⟨b9,0,none⟩) 1) fun(x40:Int)=>
 call Tryz.prog 9 [.pointer r1,.int .i64 14,.int .i64 x40,.int .i64 0,.int .i64 0] (.one (.g [.int .i64,.int .i64])) fun(r41:LTs _)=>
 call Tryz.prog 11 [.agg #[.int .i64 r41.1,.int .i64 r41.2.1],.int .i64 1] (.one (.l .bool)) fun(r42:Bool)=>
 br (!r42)
 (ret (.bool false))
 (J33 (())))
 (ld (.l (.int .i64)) (fa (⟨b9,0,none⟩) 1) fun(x40:Int)=>
 call Tryz.prog 9 [.pointer r1,.int .i64 13,.int .i64 x40,.int .i64 0,.int .i64 0] (.one (.g [.int .i64,.int .i64])) fun(r41:LTs _)=>
 call Tryz.prog 11 [.agg #[.int .i64 r41.1,.int .i64 r41.2.1],.int .i64 0] (.one (.l .bool)) fun(r42:Bool)=>
 br (!r42)
 (ret (.bool false))
 (call Tryz.prog 9 [.pointer r1,.int .i64 19,.int .i64 1,.int .i64 0,.int .i64 0] (.one (.g [.int .i64,.int .i64])) fun(r43:LTs _)=>
 call Tryz.prog 11 [.agg #[.int .i64 r43.1,.int .i64 r43.2.1],.int .i64 1] (.one (.l .bool)) fun(r44:Bool)=>
 br (!r44)
 (ret (.bool false))
 (ld (.l (.int .i64)) (fa (⟨b3,0,none⟩) 1) fun(x45:Int)=>
 call Tryz.prog 9 [.pointer r1,.int .i64 16,.int .i64 x45,.int .i64 0,.int .i64 0] (.one (.g [.int .i64,.int .i64])) fun(r46:LTs _)=>
 call Tryz.prog 11 [.agg #[.int .i64 r46.1,.int .i64 r46.2.1],.int .i64 0] (.one (.l .bool)) fun(r47:Bool)=>
 br r47
 (ld (.l (.int .i64)) (fa (⟨b9,0,none⟩) 1) fun(x48:Int)=>
 call Tryz.prog 9 [.pointer r1,.int .i64 12,.int .i64 x48,.int .i64 0,.int .i64 0] (.one (.g [.int .i64,.int .i64])) fun(r49:LTs _)=>
 call Tryz.prog 11 [.agg #[.int .i64 r49.1,.int .i64 r49.2.1],.int .i64 0] (.one (.l .bool)) fun(r50:Bool)=>
 br r50
 (call Tryz.prog 12 [] (.one (.l .bool)) fun(r51:Bool)=>
 ret (.bool r51))
 (ret (.bool false)))
 (ret (.bool false))))))) fun J29=>
 br ((IntKind.wrap .i64 (1+(Int.tmod (IntKind.wrap .i64 p0) 3)):Int) != 3)
 (ld (.l (.int .i64)) (fa (⟨b14,0,none⟩) 1) fun(x48:Int)=>
 call Tryz.prog 9 [.pointer r1,.int .i64 5,.int .i64 x48,.int .i64 1,.int .i64 0] (.one (.g [.int .i64,.int .i64])) fun(r49:LTs _)=>
 call Tryz.prog 11 [.agg #[.int .i64 r49.1,.int .i64 r49.2.1],.int .i64 77] (.one (.l .bool)) fun(r50:Bool)=>
 br (!r50)
 (ret (.bool false))
 (ld (.l (.int .i64)) (fa (⟨b14,0,none⟩) 1) fun(x51:Int)=>
 call Tryz.prog 9 [.pointer r1,.int .i64 8,.int .i64 x51,.int .i64 0,.int .i64 0] (.one (.g [.int .i64,.int .i64])) fun(r52:LTs _)=>
 call Tryz.prog 11 [.agg #[.int .i64 r52.1,.int .i64 r52.2.1],.int .i64 0] (.one (.l .bool)) fun(r53:Bool)=>
 br (!r53)
 (ret (.bool false))
 (J29 (()))))
 (J29 (())))))
theorem F.gloaminglaw21.RtRefs.calls(p0:Int)(p1:Int)(h:F.gloaminglaw21.RtRefs p0 p1 Q w):Calls Tryz.prog 3 #[.int .u8 p0,.int .u8 p1] w (RetQ Q):=
 Tryz.cd F.gloaminglaw21.RtRefs.T Tryz.func3 (by kernel_rfl) (es:=[.va (.int .u8 p0),.va (.int .u8 p1)]) rfl (by kernel_rfl) h
end Go.Proofs.YtfepdmpplahloaaGreat
