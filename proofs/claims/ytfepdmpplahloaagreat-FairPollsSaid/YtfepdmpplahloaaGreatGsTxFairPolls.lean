import Derived.Test.YtfepdmpplahloaaGreatGsT
namespace Go.Proofs.YtfepdmpplahloaaGreat
open Go Go.Gl
set_option maxRecDepth 100000
set_option linter.unusedVariables false
variable{Q:Value→World→Prop}{w:World}
def F.bL.eH.T:az:=⟨(fun
 |7=>[(10,.slice),(11,.slice),(12,.int .i64)]
 |23=>[(16,.slice),(17,.int .i64)]
 |29=>[(18,.int .i64)]
 |34=>[(19,.int .i64)]
 |_=>[]),
 (fun
 |11=>some [(14,.adr)]
 |19=>some [(10,.slice),(11,.slice)]
 |_=>none),
 (fun
 |10=> .held (some 13) (.go 0 false (.go 1 false (.go 2 false (.go 3 false (.go 4 false (.go 5 false (.go 6 false (.go 7 false (.go 8 false (.go 9 false (.go 10 false (.go 11 false (.go 12 false (.two (.go 13 true (.go 14 false (.go 15 false .nil))) (.go 14 false (.go 13 true (.go 15 false .nil)))))))))))))))))
 |11=> .held (some 9) (.go 0 false (.go 1 false (.go 3 false (.go 4 false (.go 7 false (.go 8 false (.go 2 false (.go 5 false (.go 6 false (.go 9 true (.go 10 false (.go 11 false .nil))))))))))))
 |_=> .quiet)⟩
def F.bL.eH(p0:ay)(p1:Int)(p2:Int):Tree:=
 call Tryz.prog 14 [.agg #[.int .i64 30,.int .i64 0,.int .i64 2]] (.many [.l .ptr,.l (.int .i64)]) fun(r1:KTs _)=>
 call Tryz.prog 15 [.pointer r1.1] (.one (.l .bool)) fun(r2:Bool)=>
 br (!r2)
 (ret (.bool false))
 (call Tryz.prog 10 [.int .i64 r1.2.1] (.one (.l (.int .i64))) fun(r3:Int)=>
 br ((r3:Int) != 0)
 (ret (.bool false))
 (call Tryz.prog 16 [.pointer r1.1,.agg #[.int .i64 15,.int .i64 0,.int .i64 0,.int .i64 0]] (.one (.g [.int .i64,.int .i64])) fun(r4:LTs _)=>
 nw 26 (zc Tryz.prog 26) fun b5=>
 st (⟨b5,0,none⟩) [.int .i64 r4.1,.int .i64 r4.2.1]<|
 jn (fun(j7:LTs [.slice,.slice])=>
 call Tryz.prog 16 [.pointer r1.1,.agg #[.int .i64 20,.int .i64 (IntKind.wrap .i64 (1+(IntKind.wrap .i64 p2))),.int .i64 0,.int .i64 0]] (.one (.g [.int .i64,.int .i64])) fun(r8:LTs _)=>
 nn r1.1 fun a9=>
 ld (.l .ptr) (fa a9 0) fun(x10:Option Addr)=>
 call Tryz.prog 18 [.pointer x10,.int .i64 4] (.one (.l .slice)) fun(r11:ay)=>
 lp [.slice,.int .i64] (fun X12 u13=>
 br (decide ((u13.2.1:Int)<(r11.n:Nat)))
 (ix r11.a r11.n u13.2.1 1 fun a14=>
 ld (.l .slice) a14 fun(x15:ay)=>
 c9 Tryz.prog (Builtin.append_ #[46,46] 46 #[.slice u13.1.a u13.1.n u13.1.c,.slice x15.a x15.n x15.c]) (.one (.l .slice)) fun(r16:ay)=>
 X12 (⟨r16.a,r16.n,r16.c⟩,IntKind.wrap .i64 (u13.2.1+1),()))
 (br (((u13.1.n:Nat):Int) != (j7.2.1.n:Nat))
 (ret (.bool false))
 (lp [.int .i64] (fun X14 u15=>
 br (decide ((u15.1:Int)<(j7.2.1.n:Nat)))
 (ix j7.2.1.a j7.2.1.n u15.1 1 fun a16=>
 ld (.l (.int .i64)) a16 fun(x17:Int)=>
 call Tryz.prog 19 [.slice u13.1.a u13.1.n u13.1.c,.int .i64 x17] (.one (.l .bool)) fun(r18:Bool)=>
 br (!r18)
 (ret (.bool false))
 (X14 (IntKind.wrap .i64 (u15.1+1),())))
 (lp [.int .i64] (fun X16 u17=>
 br (decide ((u17.1:Int)<(j7.1.n:Nat)))
 (ix j7.1.a j7.1.n u17.1 1 fun a18=>
 ld (.l (.int .i64)) a18 fun(x19:Int)=>
 call Tryz.prog 19 [.slice u13.1.a u13.1.n u13.1.c,.int .i64 x19] (.one (.l .bool)) fun(r20:Bool)=>
 br r20
 (ret (.bool false))
 (X16 (IntKind.wrap .i64 (u17.1+1),())))
 (call Tryz.prog 20 [] (.one (.l .bool)) fun(r18:Bool)=>
 ret (.bool r18))) (0,()))) (0,())))) (⟨none,0,0⟩,0,())) fun J6=>
 lp [.slice,.slice,.int .i64] (fun X19 u20=>
 br (decide ((u20.2.2.1:Int)<(p0.n:Nat)))
 (br (decide ((u20.2.2.1:Int)<12))
 (call Tryz.prog 16 [.pointer r1.1,.agg #[.int .i64 4,.int .i64 (IntKind.wrap .i64 (1+u20.2.2.1)),.int .i64 0,.int .i64 0]] (.one (.g [.int .i64,.int .i64])) fun(r21:LTs _)=>
 nw 26 (zc Tryz.prog 26) fun b22=>
 st (⟨b22,0,none⟩) [.int .i64 r21.1,.int .i64 r21.2.1]<|
 jn (fun(j24:LTs [.adr])=>
 dI<|Gl.held fun S25=>
 bm S25 (.l (.int .i64)) (fa (⟨b5,0,none⟩) 0) fun(x26:Int)=>
 bm S25 (.l (.int .i64)) (fa (⟨b22,0,none⟩) 0) fun(x27:Int)=>
 bm S25 (.l (.int .i64)) (fa j24.1 0) fun(x28:Int)=>
 call Tryz.prog 10 [.int .i64 x26] (.one (.l (.int .i64))) fun(r29:Int)=>
 fX S25<|
 call Tryz.prog 10 [.int .i64 x27] (.one (.l (.int .i64))) fun(r30:Int)=>
 fX S25<|
 call Tryz.prog 10 [.int .i64 x28] (.one (.l (.int .i64))) fun(r31:Int)=>
 br ((IntKind.wrap .i64 ((IntKind.wrap .i64 (r29+r30))+r31):Int) != 0)
 (ret (.bool false))
 (ix p0.a p0.n u20.2.2.1 1 fun a32=>
 ld (.l (.int .u8)) a32 fun(x33:Int)=>
 br (decide ((x33:Int)≥128))
 (ld (.l (.int .i64)) (fa (⟨b22,0,none⟩) 1) fun(x34:Int)=>
 call Tryz.prog 16 [.pointer r1.1,.agg #[.int .i64 17,.int .i64 x34,.int .i64 0,.int .i64 0]] (.one (.g [.int .i64,.int .i64])) fun(r35:LTs _)=>
 call Tryz.prog 10 [.int .i64 r35.1] (.one (.l (.int .i64))) fun(r36:Int)=>
 br ((r36:Int) != 0)
 (ret (.bool false))
 (bQ ((8:Int)≠0)<|
 bQ ((0:Int)≤(Int.tmod u20.2.2.1 8))<|
 br ((dv .and .u8 (Int.fdiv p1 (2^(min ((Int.tmod u20.2.2.1 8):Int).toNat (IntKind.bits .u8)))) 1:Int)==0)
 (nw 3 [.int .i64 (IntKind.wrap .i64 (u20.2.2.1+1))] fun b37=>
 c9 Tryz.prog (Builtin.append_ #[46,46] 46 #[.slice u20.2.1.a u20.2.1.n u20.2.1.c,.slice (some ⟨b37,0,none⟩) 1 1]) (.one (.l .slice)) fun(r38:ay)=>
 ld (.l (.int .i64)) (fa (⟨b22,0,none⟩) 1) fun(x39:Int)=>
 call Tryz.prog 16 [.pointer r1.1,.agg #[.int .i64 8,.int .i64 x39,.int .i64 0,.int .i64 0]] (.one (.g [.int .i64,.int .i64])) fun(r40:LTs _)=>
 X19 (⟨u20.1.a,u20.1.n,u20.1.c⟩,⟨r38.a,r38.n,r38.c⟩,IntKind.wrap .i64 (u20.2.2.1+1),()))
 (nw 3 [.int .i64 (IntKind.wrap .i64 (u20.2.2.1+1))] fun b37=>
 c9 Tryz.prog (Builtin.append_ #[46,46] 46 #[.slice u20.1.a u20.1.n u20.1.c,.slice (some ⟨b37,0,none⟩) 1 1]) (.one (.l .slice)) fun(r38:ay)=>
 X19 (⟨r38.a,r38.n,r38.c⟩,⟨u20.2.1.a,u20.2.1.n,u20.2.1.c⟩,IntKind.wrap .i64 (u20.2.2.1+1),()))))
 (bQ ((8:Int)≠0)<|
 bQ ((0:Int)≤(Int.tmod u20.2.2.1 8))<|
 br ((dv .and .u8 (Int.fdiv p1 (2^(min ((Int.tmod u20.2.2.1 8):Int).toNat (IntKind.bits .u8)))) 1:Int)==0)
 (nw 3 [.int .i64 (IntKind.wrap .i64 (u20.2.2.1+1))] fun b34=>
 c9 Tryz.prog (Builtin.append_ #[46,46] 46 #[.slice u20.2.1.a u20.2.1.n u20.2.1.c,.slice (some ⟨b34,0,none⟩) 1 1]) (.one (.l .slice)) fun(r35:ay)=>
 ld (.l (.int .i64)) (fa (⟨b22,0,none⟩) 1) fun(x36:Int)=>
 call Tryz.prog 16 [.pointer r1.1,.agg #[.int .i64 8,.int .i64 x36,.int .i64 0,.int .i64 0]] (.one (.g [.int .i64,.int .i64])) fun(r37:LTs _)=>
 X19 (⟨u20.1.a,u20.1.n,u20.1.c⟩,⟨r35.a,r35.n,r35.c⟩,IntKind.wrap .i64 (u20.2.2.1+1),()))
 (nw 3 [.int .i64 (IntKind.wrap .i64 (u20.2.2.1+1))] fun b34=>
 c9 Tryz.prog (Builtin.append_ #[46,46] 46 #[.slice u20.1.a u20.1.n u20.1.c,.slice (some ⟨b34,0,none⟩) 1 1]) (.one (.l .slice)) fun(r35:ay)=>
 X19 (⟨r35.a,r35.n,r35.c⟩,⟨u20.2.1.a,u20.2.1.n,u20.2.1.c⟩,IntKind.wrap .i64 (u20.2.2.1+1),()))))) fun J23=>
 dI<|Gl.held fun S36=>
 ix p0.a p0.n u20.2.2.1 1 fun a37=>
 bm S36 (.l (.int .u8)) a37 fun(x38:Int)=>
 bQ ((3:Int)≠0)<|
 bm S36 (.l (.int .i64)) (fa (⟨b22,0,none⟩) 1) fun(x39:Int)=>
 bm S36 (.l (.int .i64)) (fa (⟨b5,0,none⟩) 1) fun(x40:Int)=>
 both
 (call Tryz.prog 16 [.pointer r1.1,.agg #[.int .i64 11,.int .i64 (IntKind.wrap .i64 (1+(Int.tmod (IntKind.wrap .i64 x38) 3))),.int .i64 x39,.int .i64 x40]] (.one (.g [.int .i64,.int .i64])) fun(r41:LTs _)=>
 nw 26 (zc Tryz.prog 26) fun b42=>
 st (⟨b42,0,none⟩) [.int .i64 r41.1,.int .i64 r41.2.1]<|
 J23 (⟨b42,0,none⟩,()))
 (nw 26 (zc Tryz.prog 26) fun b43=>
 fX S36<|
 call Tryz.prog 16 [.pointer r1.1,.agg #[.int .i64 11,.int .i64 (IntKind.wrap .i64 (1+(Int.tmod (IntKind.wrap .i64 x38) 3))),.int .i64 x39,.int .i64 x40]] (.one (.g [.int .i64,.int .i64])) fun(r44:LTs _)=>
 st (⟨b43,0,none⟩) [.int .i64 r44.1,.int .i64 r44.2.1]<|
 J23 (⟨b43,0,none⟩,())))
 (J6 (⟨u20.1.a,u20.1.n,u20.1.c⟩,⟨u20.2.1.a,u20.2.1.n,u20.2.1.c⟩,())))
 (J6 (⟨u20.1.a,u20.1.n,u20.1.c⟩,⟨u20.2.1.a,u20.2.1.n,u20.2.1.c⟩,()))) (⟨none,0,0⟩,⟨none,0,0⟩,0,())))
theorem F.bL.eH.calls(p0:ay)(p1:Int)(p2:Int)(h:F.bL.eH p0 p1 p2 Q w):Calls Tryz.prog 7 #[.slice p0.a p0.n p0.c,.int .u8 p1,.int .u8 p2] w (aC Q):=
 Tryz.cd F.bL.eH.T Tryz.func7 (by kernel_rfl) (es:=[.va (.slice p0.a p0.n p0.c),.va (.int .u8 p1),.va (.int .u8 p2)]) rfl (by kernel_rfl) h
end Go.Proofs.YtfepdmpplahloaaGreat
