import Derived.Test.YtfepdmpplahloaaGreatGsT
namespace Go.Proofs.YtfepdmpplahloaaGreat
open Go Go.Gl
set_option maxRecDepth 100000
set_option linter.unusedVariables false
variable{Q:Value→World→Prop}{w:World}
def F.gloaminglaw21.RtHandles.T:Tabs:=⟨(fun
 |12=>[(9,.int .i64)]
 |17=>[(11,.int .i64)]
 |_=>[]),
 fun _=>none,
 (fun
 |15=> .held (some 16) (.go 0 false (.go 2 false (.go 3 false (.go 4 false (.go 5 false (.go 7 false (.go 8 false (.go 9 false (.go 11 false (.go 13 false (.go 14 false (.go 15 false (.go 1 false (.go 6 false (.go 10 false (.go 12 false (.go 16 true (.go 17 false (.go 18 false .nil)))))))))))))))))))
 |24=> .held (some 33) (.go 0 false (.go 1 false (.go 3 false (.go 4 false (.go 7 false (.go 8 false (.go 2 false (.cut (.go 5 false (.cut (.go 6 false (.go 9 false (.cut (.go 10 false (.go 11 false (.go 12 false (.go 13 false (.go 14 false (.cut (.go 15 false (.go 16 false (.go 17 false (.go 18 false (.cut (.go 19 false (.go 20 false (.go 21 false (.go 22 false (.go 23 false (.cut (.go 24 false (.go 25 false (.go 26 false (.go 27 false (.go 28 false (.go 29 false (.go 30 false (.go 31 false (.go 32 false (.go 33 true (.go 34 false (.go 35 false (.go 36 false (.go 37 false (.go 38 false (.go 39 false .nil))))))))))))))))))))))))))))))))))))))))))))))
 |_=> .quiet)⟩
def F.gloaminglaw21.RtHandles(p0:Int):Tree:=
 call Tryz.prog 8 [] (.one (.l .ptr)) fun(r1:Option Addr)=>
 br (Option.isNone r1)
 (ret (.bool false))
 (call Tryz.prog 9 [.pointer r1,.int .i64 15,.int .i64 0,.int .i64 0,.int .i64 0] (.one (.g [.int .i64,.int .i64])) fun(r2:LTs _)=>
 nw 26 (zc Tryz.prog 26) fun b3=>
 st (⟨b3,0,none⟩) [.int .i64 r2.1,.int .i64 r2.2.1]<|
 need ((50:Int)≠0)<|
 call Tryz.prog 9 [.pointer r1,.int .i64 3,.int .i64 (IntKind.wrap .i64 (1+(Int.tmod (IntKind.wrap .i64 p0) 50))),.int .i64 0,.int .i64 0] (.one (.g [.int .i64,.int .i64])) fun(r4:LTs _)=>
 nw 26 (zc Tryz.prog 26) fun b5=>
 st (⟨b5,0,none⟩) [.int .i64 r4.1,.int .i64 r4.2.1]<|
 ld (.l (.int .i64)) (fa (⟨b5,0,none⟩) 1) fun(x6:Int)=>
 ld (.l (.int .i64)) (fa (⟨b3,0,none⟩) 1) fun(x7:Int)=>
 call Tryz.prog 9 [.pointer r1,.int .i64 11,.int .i64 2,.int .i64 x6,.int .i64 x7] (.one (.g [.int .i64,.int .i64])) fun(r8:LTs _)=>
 nw 26 (zc Tryz.prog 26) fun b9=>
 st (⟨b9,0,none⟩) [.int .i64 r8.1,.int .i64 r8.2.1]<|
 ld (.l (.int .i64)) (fa (⟨b5,0,none⟩) 1) fun(x10:Int)=>
 ld (.l (.int .i64)) (fa (⟨b9,0,none⟩) 1) fun(x11:Int)=>
 call Tryz.prog 9 [.pointer r1,.int .i64 6,.int .i64 x10,.int .i64 (Int.tmod (IntKind.wrap .i64 p0) 50),.int .i64 x11] (.one (.g [.int .i64,.int .i64])) fun(r12:LTs _)=>
 ld (.l (.int .i64)) (fa (⟨b5,0,none⟩) 1) fun(x13:Int)=>
 call Tryz.prog 9 [.pointer r1,.int .i64 9,.int .i64 0,.int .i64 x13,.int .i64 0] (.one (.g [.int .i64,.int .i64])) fun(r14:LTs _)=>
 ld (.l (.int .i64)) (fa (⟨b9,0,none⟩) 1) fun(x15:Int)=>
 call Tryz.prog 9 [.pointer r1,.int .i64 14,.int .i64 x15,.int .i64 0,.int .i64 0] (.one (.g [.int .i64,.int .i64])) fun(r16:LTs _)=>
 nw 26 (zc Tryz.prog 26) fun b17=>
 st (⟨b17,0,none⟩) [.int .i64 r16.1,.int .i64 r16.2.1]<|
 lp [.int .i64] (fun X18 u19=>
 br (decide ((u19.1:Int)<510))
 (call Tryz.prog 9 [.pointer r1,.int .i64 10,.int .i64 0,.int .i64 0,.int .i64 0] (.one (.g [.int .i64,.int .i64])) fun(r20:LTs _)=>
 X18 (IntKind.wrap .i64 (u19.1+1),()))
 (drw<|Gl.held fun S20=>
 ldS S20 (.l (.int .i64)) (fa (⟨b5,0,none⟩) 1) fun(x21:Int)=>
 ldS S20 (.l (.int .i64)) (fa (⟨b3,0,none⟩) 1) fun(x22:Int)=>
 ldS S20 (.l (.int .i64)) (fa (⟨b5,0,none⟩) 1) fun(x23:Int)=>
 call Tryz.prog 9 [.pointer r1,.int .i64 10,.int .i64 0,.int .i64 0,.int .i64 0] (.one (.g [.int .i64,.int .i64])) fun(r24:LTs _)=>
 chk S20<|
 call Tryz.prog 9 [.pointer r1,.int .i64 5,.int .i64 x21,.int .i64 (Int.tmod (IntKind.wrap .i64 p0) 50),.int .i64 0] (.one (.g [.int .i64,.int .i64])) fun(r25:LTs _)=>
 chk S20<|
 call Tryz.prog 9 [.pointer r1,.int .i64 16,.int .i64 x22,.int .i64 0,.int .i64 0] (.one (.g [.int .i64,.int .i64])) fun(r26:LTs _)=>
 chk S20<|
 call Tryz.prog 9 [.pointer r1,.int .i64 4,.int .i64 1,.int .i64 0,.int .i64 0] (.one (.g [.int .i64,.int .i64])) fun(r27:LTs _)=>
 chk S20<|
 call Tryz.prog 9 [.pointer r1,.int .i64 11,.int .i64 1,.int .i64 x23,.int .i64 (-1)] (.one (.g [.int .i64,.int .i64])) fun(r28:LTs _)=>
 nw 26 [.int .i64 r24.1,.int .i64 r24.2.1,.int .i64 r25.1,.int .i64 r25.2.1,.int .i64 r26.1,.int .i64 r26.2.1,.int .i64 r27.1,.int .i64 r27.2.1,.int .i64 r28.1,.int .i64 r28.2.1] fun b29=>
 lp [.int .i64] (fun X30 u31=>
 br (decide ((u31.1:Int)<(5:Nat)))
 (ix (some ⟨b29,0,none⟩) 5 u31.1 2 fun a32=>
 ld (.g [.int .i64,.int .i64]) a32 fun(x33:LTs _)=>
 call Tryz.prog 13 [.agg #[.int .i64 x33.1,.int .i64 x33.2.1],.int .i64 3] (.one (.l .bool)) fun(r34:Bool)=>
 br (!r34)
 (ret (.bool false))
 (X30 (IntKind.wrap .i64 (u31.1+1),())))
 (call Tryz.prog 9 [.pointer r1,.int .i64 21,.int .i64 4,.int .i64 0,.int .i64 0] (.one (.g [.int .i64,.int .i64])) fun(r32:LTs _)=>
 nw 26 (zc Tryz.prog 26) fun b33=>
 st (⟨b33,0,none⟩) [.int .i64 r32.1,.int .i64 r32.2.1]<|
 ld (.l (.int .i64)) (fa (⟨b5,0,none⟩) 1) fun(x34:Int)=>
 call Tryz.prog 9 [.pointer r1,.int .i64 8,.int .i64 x34,.int .i64 0,.int .i64 0] (.one (.g [.int .i64,.int .i64])) fun(r35:LTs _)=>
 ld (.l (.int .i64)) (fa (⟨b3,0,none⟩) 1) fun(x36:Int)=>
 call Tryz.prog 9 [.pointer r1,.int .i64 16,.int .i64 x36,.int .i64 0,.int .i64 0] (.one (.g [.int .i64,.int .i64])) fun(r37:LTs _)=>
 nw 26 (zc Tryz.prog 26) fun b38=>
 st (⟨b38,0,none⟩) [.int .i64 r37.1,.int .i64 r37.2.1]<|
 drw<|Gl.held fun S39=>
 ldS S39 (.l (.int .i64)) (fa (⟨b3,0,none⟩) 0) fun(x40:Int)=>
 ldS S39 (.l (.int .i64)) (fa (⟨b5,0,none⟩) 0) fun(x41:Int)=>
 ldS S39 (.l (.int .i64)) (fa (⟨b9,0,none⟩) 0) fun(x42:Int)=>
 call Tryz.prog 10 [.int .i64 x40] (.one (.l (.int .i64))) fun(r43:Int)=>
 chk S39<|
 narrow S39 fun S44=>
 call Tryz.prog 10 [.int .i64 x41] (.one (.l (.int .i64))) fun(r45:Int)=>
 chk S44<|
 narrow S44 fun S46=>
 call Tryz.prog 10 [.int .i64 x42] (.one (.l (.int .i64))) fun(r47:Int)=>
 chk S46<|
 narrow S46 fun S48=>
 br ((IntKind.wrap .i64 ((IntKind.wrap .i64 (r43+r45))+r47):Int)==0)
 (ldS S48 (.g [.int .i64,.int .i64]) (⟨b17,0,none⟩) fun(x49:LTs _)=>
 call Tryz.prog 11 [.agg #[.int .i64 x49.1,.int .i64 x49.2.1],.int .i64 1] (.one (.l .bool)) fun(r50:Bool)=>
 chk S48<|
 narrow S48 fun S51=>
 br r50
 (ldS S51 (.g [.int .i64,.int .i64]) (⟨b33,0,none⟩) fun(x52:LTs _)=>
 call Tryz.prog 11 [.agg #[.int .i64 x52.1,.int .i64 x52.2.1],.int .i64 0] (.one (.l .bool)) fun(r53:Bool)=>
 chk S51<|
 narrow S51 fun S54=>
 br r53
 (ldS S54 (.l (.int .i64)) (fa (⟨b38,0,none⟩) 0) fun(x55:Int)=>
 call Tryz.prog 10 [.int .i64 x55] (.one (.l (.int .i64))) fun(r56:Int)=>
 chk S54<|
 narrow S54 fun S57=>
 br ((r56:Int)==0)
 (ldS S57 (.l (.int .i64)) (fa (⟨b38,0,none⟩) 1) fun(x58:Int)=>
 br ((x58:Int) != 0)
 (call Tryz.prog 9 [.pointer r1,.int .i64 21,.int .i64 3,.int .i64 0,.int .i64 0] (.one (.g [.int .i64,.int .i64])) fun(r59:LTs _)=>
 call Tryz.prog 11 [.agg #[.int .i64 r59.1,.int .i64 r59.2.1],.int .i64 2] (.one (.l .bool)) fun(r60:Bool)=>
 br r60
 (call Tryz.prog 12 [] (.one (.l .bool)) fun(r61:Bool)=>
 ret (.bool r61))
 (ret (.bool false)))
 (ret (.bool false)))
 (ret (.bool false)))
 (narrow S54 fun S55=>
 ret (.bool false)))
 (narrow S51 fun S52=>
 narrow S52 fun S53=>
 ret (.bool false)))
 (narrow S48 fun S49=>
 narrow S49 fun S50=>
 narrow S50 fun S51=>
 ret (.bool false)))) (0,()))) (0,()))
theorem F.gloaminglaw21.RtHandles.calls(p0:Int)(h:F.gloaminglaw21.RtHandles p0 Q w):Calls Tryz.prog 4 #[.int .u8 p0] w (RetQ Q):=
 Tryz.cd F.gloaminglaw21.RtHandles.T Tryz.func4 (by kernel_rfl) (es:=[.va (.int .u8 p0)]) rfl (by kernel_rfl) h
end Go.Proofs.YtfepdmpplahloaaGreat
