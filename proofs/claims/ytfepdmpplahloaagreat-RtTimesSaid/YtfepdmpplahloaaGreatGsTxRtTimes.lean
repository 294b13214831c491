import Derived.Test.YtfepdmpplahloaaGreatGsT
namespace Go.Proofs.YtfepdmpplahloaaGreat
open Go Go.Gl
set_option maxRecDepth 100000
set_option linter.unusedVariables false
variable{Q:Value→World→Prop}{w:World}
def F.gloaminglaw21.RtTimes.T:Tabs:=⟨fun _=>[],
 (fun
 |14=>some []
 |17=>some [(12,.adr),(13,.adr)]
 |_=>none),
 (fun
 |16=> .held (some 7) (.go 0 false (.go 1 false (.go 2 false (.go 4 false (.go 5 false (.go 6 false (.two (.go 3 false (.two (.go 7 true (.two (.go 8 false (.go 9 false (.go 10 false (.go 11 false .nil)))) (.go 9 false (.go 8 false (.go 10 false (.go 11 false .nil)))))) (.two (.go 8 false (.two (.go 7 true (.go 9 false (.go 10 false (.go 11 false .nil)))) (.go 9 false (.go 7 true (.go 10 false (.go 11 false .nil)))))) (.go 9 false (.two (.go 7 true (.go 8 false (.go 10 false (.go 11 false .nil)))) (.go 8 false (.go 7 true (.go 10 false (.go 11 false .nil))))))))) (.two (.go 8 false (.two (.go 3 false (.two (.go 7 true (.go 9 false (.go 10 false (.go 11 false .nil)))) (.go 9 false (.go 7 true (.go 10 false (.go 11 false .nil)))))) (.go 9 false (.go 3 false (.go 7 true (.go 10 false (.go 11 false .nil))))))) (.go 9 false (.two (.go 3 false (.two (.go 7 true (.go 8 false (.go 10 false (.go 11 false .nil)))) (.go 8 false (.go 7 true (.go 10 false (.go 11 false .nil)))))) (.go 8 false (.go 3 false (.go 7 true (.go 10 false (.go 11 false .nil)))))))))))))))
 |18=> .held (some 29) (.go 0 false (.go 1 false (.go 3 false (.go 4 false (.go 7 false (.go 8 false (.go 11 false (.go 12 false (.go 15 false (.go 16 false (.go 2 false (.cut (.go 5 false (.cut (.go 6 false (.go 9 false (.cut (.go 10 false (.go 13 false (.cut (.go 14 false (.go 17 false (.cut (.go 18 false (.go 19 false (.go 20 false (.go 21 false (.go 22 false (.go 23 false (.go 24 false (.go 25 false (.go 26 false (.go 27 false (.go 28 false (.go 29 true (.go 30 false (.go 31 false (.go 32 false (.go 33 false (.go 34 false .nil))))))))))))))))))))))))))))))))))))))))
 |_=> .quiet)⟩
def F.gloaminglaw21.RtTimes(p0:Int)(p1:Bool):Tree:=
 call Tryz.prog 8 [] (.one (.l .ptr)) fun(r1:Option Addr)=>
 br (Option.isNone r1)
 (ret (.bool false))
 (call Tryz.prog 9 [.pointer r1,.int .i64 4,.int .i64 2,.int .i64 0,.int .i64 0] (.one (.g [.int .i64,.int .i64])) fun(r2:LTs _)=>
 call Tryz.prog 9 [.pointer r1,.int .i64 4,.int .i64 3,.int .i64 0,.int .i64 0] (.one (.g [.int .i64,.int .i64])) fun(r3:LTs _)=>
 nw 26 (zc Tryz.prog 26) fun b4=>
 nw 26 (zc Tryz.prog 26) fun b5=>
 st (⟨b4,0,none⟩) [.int .i64 r2.1,.int .i64 r2.2.1]<|
 st (⟨b5,0,none⟩) [.int .i64 r3.1,.int .i64 r3.2.1]<|
 ld (.l (.int .i64)) (fa (⟨b4,0,none⟩) 1) fun(x6:Int)=>
 call Tryz.prog 9 [.pointer r1,.int .i64 11,.int .i64 1,.int .i64 x6,.int .i64 (-1)] (.one (.g [.int .i64,.int .i64])) fun(r7:LTs _)=>
 nw 26 (zc Tryz.prog 26) fun b8=>
 st (⟨b8,0,none⟩) [.int .i64 r7.1,.int .i64 r7.2.1]<|
 ld (.l (.int .i64)) (fa (⟨b5,0,none⟩) 1) fun(x9:Int)=>
 call Tryz.prog 9 [.pointer r1,.int .i64 11,.int .i64 2,.int .i64 x9,.int .i64 (-1)] (.one (.g [.int .i64,.int .i64])) fun(r10:LTs _)=>
 nw 26 (zc Tryz.prog 26) fun b11=>
 st (⟨b11,0,none⟩) [.int .i64 r10.1,.int .i64 r10.2.1]<|
 ld (.l (.int .i64)) (fa (⟨b4,0,none⟩) 1) fun(x12:Int)=>
 call Tryz.prog 9 [.pointer r1,.int .i64 8,.int .i64 x12,.int .i64 0,.int .i64 0] (.one (.g [.int .i64,.int .i64])) fun(r13:LTs _)=>
 ld (.l (.int .i64)) (fa (⟨b5,0,none⟩) 1) fun(x14:Int)=>
 call Tryz.prog 9 [.pointer r1,.int .i64 8,.int .i64 x14,.int .i64 0,.int .i64 0] (.one (.g [.int .i64,.int .i64])) fun(r15:LTs _)=>
 call Tryz.prog 9 [.pointer r1,.int .i64 20,.int .i64 (IntKind.wrap .i64 (100*(IntKind.wrap .i64 p0))),.int .i64 0,.int .i64 0] (.one (.g [.int .i64,.int .i64])) fun(r16:LTs _)=>
 jn (fun(j18:LTs [])=> --
 call Tryz.prog 9 [.pointer r1,.int .i64 21,.int .i64 1,.int .i64 0,.int .i64 0] (.one (.g [.int .i64,.int .i64])) fun(r19:LTs _)=>
 nw 26 (zc Tryz.prog 26) fun b20=>
 st (⟨b20,0,none⟩) [.int .i64 r19.1,.int .i64 r19.2.1]<|
 call Tryz.prog 9 [.pointer r1,.int .i64 19,.int .i64 0,.int .i64 0,.int .i64 0] (.one (.g [.int .i64,.int .i64])) fun(r21:LTs _)=>
 jn (fun(j23:LTs [.adr,.adr])=>
 br p1
 (drw<|Gl.held fun S24=>
 ldS S24 (.l (.int .i64)) (fa (⟨b4,0,none⟩) 0) fun(x25:Int)=>
 ldS S24 (.l (.int .i64)) (fa (⟨b5,0,none⟩) 0) fun(x26:Int)=>
 ldS S24 (.l (.int .i64)) (fa (⟨b8,0,none⟩) 0) fun(x27:Int)=>
 ldS S24 (.l (.int .i64)) (fa (⟨b11,0,none⟩) 0) fun(x28:Int)=>
 ldS S24 (.l (.int .i64)) (fa j23.1 0) fun(x29:Int)=>
 call Tryz.prog 10 [.int .i64 x25] (.one (.l (.int .i64))) fun(r30:Int)=>
 chk S24<|
 narrow S24 fun S31=>
 call Tryz.prog 10 [.int .i64 x26] (.one (.l (.int .i64))) fun(r32:Int)=>
 chk S31<|
 narrow S31 fun S33=>
 call Tryz.prog 10 [.int .i64 x27] (.one (.l (.int .i64))) fun(r34:Int)=>
 chk S33<|
 narrow S33 fun S35=>
 call Tryz.prog 10 [.int .i64 x28] (.one (.l (.int .i64))) fun(r36:Int)=>
 chk S35<|
 narrow S35 fun S37=>
 call Tryz.prog 10 [.int .i64 x29] (.one (.l (.int .i64))) fun(r38:Int)=>
 chk S37<|
 narrow S37 fun S39=>
 br ((IntKind.wrap .i64 ((IntKind.wrap .i64 ((IntKind.wrap .i64 ((IntKind.wrap .i64 (r30+r32))+r34))+r36))+r38):Int)==0)
 (ldS S39 (.l (.int .i64)) (fa j23.1 1) fun(x40:Int)=>
 br (((x40:Int) != 0)==true)
 (ldS S39 (.g [.int .i64,.int .i64]) j23.2.1 fun(x41:LTs _)=>
 call Tryz.prog 11 [.agg #[.int .i64 x41.1,.int .i64 x41.2.1],.int .i64 0] (.one (.l .bool)) fun(r42:Bool)=>
 br r42
 (call Tryz.prog 12 [] (.one (.l .bool)) fun(r43:Bool)=>
 ret (.bool r43))
 (ret (.bool false)))
 (ret (.bool false)))
 (ret (.bool false)))
 (ld (.l (.int .i64)) (fa (⟨b20,0,none⟩) 1) fun(x24:Int)=>
 drw<|Gl.held fun S25=>
 ldS S25 (.l (.int .i64)) (fa (⟨b4,0,none⟩) 0) fun(x26:Int)=>
 ldS S25 (.l (.int .i64)) (fa (⟨b5,0,none⟩) 0) fun(x27:Int)=>
 ldS S25 (.l (.int .i64)) (fa (⟨b8,0,none⟩) 0) fun(x28:Int)=>
 ldS S25 (.l (.int .i64)) (fa (⟨b11,0,none⟩) 0) fun(x29:Int)=>
 ldS S25 (.l (.int .i64)) (fa j23.1 0) fun(x30:Int)=>
 call Tryz.prog 10 [.int .i64 x26] (.one (.l (.int .i64))) fun(r31:Int)=>
 chk S25<|
 narrow S25 fun S32=>
 call Tryz.prog 10 [.int .i64 x27] (.one (.l (.int .i64))) fun(r33:Int)=>
 chk S32<|
 narrow S32 fun S34=>
 call Tryz.prog 10 [.int .i64 x28] (.one (.l (.int .i64))) fun(r35:Int)=>
 chk S34<|
 narrow S34 fun S36=>
 call Tryz.prog 10 [.int .i64 x29] (.one (.l (.int .i64))) fun(r37:Int)=>
 chk S36<|
 narrow S36 fun S38=>
 call Tryz.prog 10 [.int .i64 x30] (.one (.l (.int .i64))) fun(r39:Int)=>
 chk S38<|
 narrow S38 fun S40=>
 br ((IntKind.wrap .i64 ((IntKind.wrap .i64 ((IntKind.wrap .i64 ((IntKind.wrap .i64 (r31+r33))+r35))+r37))+r39):Int)==0)
 (ldS S40 (.l (.int .i64)) (fa j23.1 1) fun(x41:Int)=>
 br (((x41:Int) != 0)==(decide ((IntKind.wrap .i64 (100*(IntKind.wrap .i64 p0)):Int)≤x24)))
 (ldS S40 (.g [.int .i64,.int .i64]) j23.2.1 fun(x42:LTs _)=>
 call Tryz.prog 11 [.agg #[.int .i64 x42.1,.int .i64 x42.2.1],.int .i64 0] (.one (.l .bool)) fun(r43:Bool)=>
 br r43
 (call Tryz.prog 12 [] (.one (.l .bool)) fun(r44:Bool)=>
 ret (.bool r44))
 (ret (.bool false)))
 (ret (.bool false)))
 (ret (.bool false)))) fun J22=>
 drw<|Gl.held fun S41=>
 ldS S41 (.l (.int .i64)) (fa (⟨b8,0,none⟩) 1) fun(x42:Int)=>
 ldS S41 (.l (.int .i64)) (fa (⟨b11,0,none⟩) 1) fun(x43:Int)=>
 both
 (call Tryz.prog 9 [.pointer r1,.int .i64 12,.int .i64 x42,.int .i64 0,.int .i64 0] (.one (.g [.int .i64,.int .i64])) fun(r44:LTs _)=>
 chk S41<|
 both
 (call Tryz.prog 9 [.pointer r1,.int .i64 12,.int .i64 x43,.int .i64 0,.int .i64 0] (.one (.g [.int .i64,.int .i64])) fun(r45:LTs _)=>
 both
 (nw 26 (zc Tryz.prog 26) fun b46=>
 nw 26 (zc Tryz.prog 26) fun b47=>
 st (⟨b46,0,none⟩) [.int .i64 r44.1,.int .i64 r44.2.1]<|
 st (⟨b47,0,none⟩) [.int .i64 r45.1,.int .i64 r45.2.1]<|
 J22 (⟨b46,0,none⟩,⟨b47,0,none⟩,()))
 (nw 26 (zc Tryz.prog 26) fun b48=>
 nw 26 (zc Tryz.prog 26) fun b49=>
 st (⟨b49,0,none⟩) [.int .i64 r44.1,.int .i64 r44.2.1]<|
 st (⟨b48,0,none⟩) [.int .i64 r45.1,.int .i64 r45.2.1]<|
 J22 (⟨b49,0,none⟩,⟨b48,0,none⟩,())))
 (both
 (nw 26 (zc Tryz.prog 26) fun b50=>
 chk S41<|
 both
 (call Tryz.prog 9 [.pointer r1,.int .i64 12,.int .i64 x43,.int .i64 0,.int .i64 0] (.one (.g [.int .i64,.int .i64])) fun(r51:LTs _)=>
 nw 26 (zc Tryz.prog 26) fun b52=>
 st (⟨b50,0,none⟩) [.int .i64 r44.1,.int .i64 r44.2.1]<|
 st (⟨b52,0,none⟩) [.int .i64 r51.1,.int .i64 r51.2.1]<|
 J22 (⟨b50,0,none⟩,⟨b52,0,none⟩,()))
 (nw 26 (zc Tryz.prog 26) fun b53=>
 chk S41<|
 call Tryz.prog 9 [.pointer r1,.int .i64 12,.int .i64 x43,.int .i64 0,.int .i64 0] (.one (.g [.int .i64,.int .i64])) fun(r54:LTs _)=>
 st (⟨b50,0,none⟩) [.int .i64 r44.1,.int .i64 r44.2.1]<|
 st (⟨b53,0,none⟩) [.int .i64 r54.1,.int .i64 r54.2.1]<|
 J22 (⟨b50,0,none⟩,⟨b53,0,none⟩,())))
 (nw 26 (zc Tryz.prog 26) fun b55=>
 chk S41<|
 both
 (call Tryz.prog 9 [.pointer r1,.int .i64 12,.int .i64 x43,.int .i64 0,.int .i64 0] (.one (.g [.int .i64,.int .i64])) fun(r56:LTs _)=>
 nw 26 (zc Tryz.prog 26) fun b57=>
 st (⟨b57,0,none⟩) [.int .i64 r44.1,.int .i64 r44.2.1]<|
 st (⟨b55,0,none⟩) [.int .i64 r56.1,.int .i64 r56.2.1]<|
 J22 (⟨b57,0,none⟩,⟨b55,0,none⟩,()))
 (nw 26 (zc Tryz.prog 26) fun b58=>
 chk S41<|
 call Tryz.prog 9 [.pointer r1,.int .i64 12,.int .i64 x43,.int .i64 0,.int .i64 0] (.one (.g [.int .i64,.int .i64])) fun(r59:LTs _)=>
 st (⟨b58,0,none⟩) [.int .i64 r44.1,.int .i64 r44.2.1]<|
 st (⟨b55,0,none⟩) [.int .i64 r59.1,.int .i64 r59.2.1]<|
 J22 (⟨b58,0,none⟩,⟨b55,0,none⟩,())))))
 (both
 (nw 26 (zc Tryz.prog 26) fun b60=>
 chk S41<|
 both
 (call Tryz.prog 9 [.pointer r1,.int .i64 12,.int .i64 x42,.int .i64 0,.int .i64 0] (.one (.g [.int .i64,.int .i64])) fun(r61:LTs _)=>
 chk S41<|
 both
 (call Tryz.prog 9 [.pointer r1,.int .i64 12,.int .i64 x43,.int .i64 0,.int .i64 0] (.one (.g [.int .i64,.int .i64])) fun(r62:LTs _)=>
 nw 26 (zc Tryz.prog 26) fun b63=>
 st (⟨b60,0,none⟩) [.int .i64 r61.1,.int .i64 r61.2.1]<|
 st (⟨b63,0,none⟩) [.int .i64 r62.1,.int .i64 r62.2.1]<|
 J22 (⟨b60,0,none⟩,⟨b63,0,none⟩,()))
 (nw 26 (zc Tryz.prog 26) fun b64=>
 chk S41<|
 call Tryz.prog 9 [.pointer r1,.int .i64 12,.int .i64 x43,.int .i64 0,.int .i64 0] (.one (.g [.int .i64,.int .i64])) fun(r65:LTs _)=>
 st (⟨b60,0,none⟩) [.int .i64 r61.1,.int .i64 r61.2.1]<|
 st (⟨b64,0,none⟩) [.int .i64 r65.1,.int .i64 r65.2.1]<|
 J22 (⟨b60,0,none⟩,⟨b64,0,none⟩,())))
 (nw 26 (zc Tryz.prog 26) fun b66=>
 chk S41<|
 call Tryz.prog 9 [.pointer r1,.int .i64 12,.int .i64 x42,.int .i64 0,.int .i64 0] (.one (.g [.int .i64,.int .i64])) fun(r67:LTs _)=>
 chk S41<|
 call Tryz.prog 9 [.pointer r1,.int .i64 12,.int .i64 x43,.int .i64 0,.int .i64 0] (.one (.g [.int .i64,.int .i64])) fun(r68:LTs _)=>
 st (⟨b60,0,none⟩) [.int .i64 r67.1,.int .i64 r67.2.1]<|
 st (⟨b66,0,none⟩) [.int .i64 r68.1,.int .i64 r68.2.1]<|
 J22 (⟨b60,0,none⟩,⟨b66,0,none⟩,())))
 (nw 26 (zc Tryz.prog 26) fun b69=>
 chk S41<|
 both
 (call Tryz.prog 9 [.pointer r1,.int .i64 12,.int .i64 x42,.int .i64 0,.int .i64 0] (.one (.g [.int .i64,.int .i64])) fun(r70:LTs _)=>
 chk S41<|
 both
 (call Tryz.prog 9 [.pointer r1,.int .i64 12,.int .i64 x43,.int .i64 0,.int .i64 0] (.one (.g [.int .i64,.int .i64])) fun(r71:LTs _)=>
 nw 26 (zc Tryz.prog 26) fun b72=>
 st (⟨b72,0,none⟩) [.int .i64 r70.1,.int .i64 r70.2.1]<|
 st (⟨b69,0,none⟩) [.int .i64 r71.1,.int .i64 r71.2.1]<|
 J22 (⟨b72,0,none⟩,⟨b69,0,none⟩,()))
 (nw 26 (zc Tryz.prog 26) fun b73=>
 chk S41<|
 call Tryz.prog 9 [.pointer r1,.int .i64 12,.int .i64 x43,.int .i64 0,.int .i64 0] (.one (.g [.int .i64,.int .i64])) fun(r74:LTs _)=>
 st (⟨b73,0,none⟩) [.int .i64 r70.1,.int .i64 r70.2.1]<|
 st (⟨b69,0,none⟩) [.int .i64 r74.1,.int .i64 r74.2.1]<|
 J22 (⟨b73,0,none⟩,⟨b69,0,none⟩,())))
 (nw 26 (zc Tryz.prog 26) fun b75=>
 chk S41<|
 call Tryz.prog 9 [.pointer r1,.int .i64 12,.int .i64 x42,.int .i64 0,.int .i64 0] (.one (.g [.int .i64,.int .i64])) fun(r76:LTs _)=>
 chk S41<|
 call Tryz.prog 9 [.pointer r1,.int .i64 12,.int .i64 x43,.int .i64 0,.int .i64 0] (.one (.g [.int .i64,.int .i64])) fun(r77:LTs _)=>
 st (⟨b75,0,none⟩) [.int .i64 r76.1,.int .i64 r76.2.1]<|
 st (⟨b69,0,none⟩) [.int .i64 r77.1,.int .i64 r77.2.1]<|
 J22 (⟨b75,0,none⟩,⟨b69,0,none⟩,()))))) fun J17=>
 br p1
 (ld (.l (.int .i64)) (fa (⟨b8,0,none⟩) 1) fun(x78:Int)=>
 call Tryz.prog 9 [.pointer r1,.int .i64 12,.int .i64 x78,.int .i64 0,.int .i64 0] (.one (.g [.int .i64,.int .i64])) fun(r79:LTs _)=>
 nw 26 (zc Tryz.prog 26) fun b80=>
 st (⟨b80,0,none⟩) [.int .i64 r79.1,.int .i64 r79.2.1]<|
 ld (.l (.int .i64)) (fa (⟨b80,0,none⟩) 0) fun(x81:Int)=>
 call Tryz.prog 10 [.int .i64 x81] (.one (.l (.int .i64))) fun(r82:Int)=>
 br ((r82:Int) != 0)
 (ret (.bool false))
 (ld (.l (.int .i64)) (fa (⟨b80,0,none⟩) 1) fun(x83:Int)=>
 br ((x83:Int)==0)
 (ret (.bool false))
 (ld (.l (.int .i64)) (fa (⟨b80,0,none⟩) 1) fun(x84:Int)=>
 call Tryz.prog 9 [.pointer r1,.int .i64 8,.int .i64 x84,.int .i64 0,.int .i64 0] (.one (.g [.int .i64,.int .i64])) fun(r85:LTs _)=>
 call Tryz.prog 11 [.agg #[.int .i64 r85.1,.int .i64 r85.2.1],.int .i64 0] (.one (.l .bool)) fun(r86:Bool)=>
 br (!r86)
 (ret (.bool false))
 (J17 (())))))
 (J17 (())))
theorem F.gloaminglaw21.RtTimes.calls(p0:Int)(p1:Bool)(h:F.gloaminglaw21.RtTimes p0 p1 Q w):Calls Tryz.prog 5 #[.int .u8 p0,.bool p1] w (RetQ Q):=
 Tryz.cd F.gloaminglaw21.RtTimes.T Tryz.func5 (by kernel_rfl) (es:=[.va (.int .u8 p0),.va (.bool p1)]) rfl (by kernel_rfl) h
end Go.Proofs.YtfepdmpplahloaaGreat
