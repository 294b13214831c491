import Derived.Test.YtfepdmpplahloaaGreatGsT
namespace Go.Proofs.YtfepdmpplahloaaGreat
open Go Go.Gl
set_option maxRecDepth 100000
set_option linter.unusedVariables false
variable{Q:Value→World→Prop}{w:World}
def F.av.mW(p0:ay)(p1:Int):Tree:=
 call Tryz.prog 150 [.slice p0.a p0.n p0.c,.int .i64 p1] (.one (.l (.int .i64))) fun(r1:Int)=>
 ret (.bool (decide ((r1:Int)≥0)))
theorem F.av.mW.calls(p0:ay)(p1:Int)(h:F.av.mW p0 p1 Q w):Calls Tryz.prog 122 #[.slice p0.a p0.n p0.c,.int .i64 p1] w (aC Q):=
 Tryz.cd az.z Tryz.func122 (by kernel_rfl) (es:=[.va (.slice p0.a p0.n p0.c),.va (.int .i64 p1)]) rfl (by kernel_rfl) h
def F.av.Delete.T:az:=⟨fun _=>[],
 fun _=>none,
 (fun
 |5=> .tail 6
 |_=> .quiet)⟩
def F.av.Delete(p0:ay)(p1:Int)(p2:Int):Tree:=
 bQ ((0:Int)≤(p0.n:Nat)∧((p0.n:Nat):Int)≤(p0.c:Nat))<|
 sS p0.a ((p0.n:Nat):Int).toNat p1 p2 1 fun s1=>
 br ((p1:Int)==p2)
 (ret (.slice p0.a p0.n p0.c))
 (dI<|
 sS p0.a p0.c 0 p1 1 fun s2=>
 sS p0.a p0.c p2 (p0.n:Nat) 1 fun s3=>
 c9 Tryz.prog (Builtin.append_ #[46,46] 46 #[.slice s2.a s2.n s2.c,.slice s3.a s3.n s3.c]) (.one (.l .slice)) fun(r4:ay)=>
 sS r4.a r4.c (r4.n:Nat) (p0.n:Nat) 1 fun s5=>
 c9 Tryz.prog (Builtin.clear_ #[46] 0 #[.slice s5.a s5.n s5.c]) (.many []) fun(r6:KTs _)=>
 ret (.slice r4.a r4.n r4.c))
theorem F.av.Delete.calls(p0:ay)(p1:Int)(p2:Int)(h:F.av.Delete p0 p1 p2 Q w):Calls Tryz.prog 133 #[.slice p0.a p0.n p0.c,.int .i64 p1,.int .i64 p2] w (aC Q):=
 Tryz.cd F.av.Delete.T Tryz.func133 (by kernel_rfl) (es:=[.va (.slice p0.a p0.n p0.c),.va (.int .i64 p1),.va (.int .i64 p2)]) rfl (by kernel_rfl) h
def F.av.Index.T:az:=⟨(fun
 |2=>[(8,.int .i64)]
 |_=>[]),
 fun _=>none,
 fun _=> .quiet⟩
def F.av.Index(p0:ay)(p1:Int):Tree:=
 lp [.int .i64] (fun X1 u2=>
 br (decide ((u2.1:Int)<(p0.n:Nat)))
 (ix p0.a p0.n u2.1 1 fun a3=>
 ld (.l (.int .i64)) a3 fun(x4:Int)=>
 br ((p1:Int)==x4)
 (ret (.int .i64 u2.1))
 (X1 (IntKind.wrap .i64 (u2.1+1),())))
 (ret (.int .i64 (-1)))) (0,())
theorem F.av.Index.calls(p0:ay)(p1:Int)(h:F.av.Index p0 p1 Q w):Calls Tryz.prog 150 #[.slice p0.a p0.n p0.c,.int .i64 p1] w (aC Q):=
 Tryz.cd F.av.Index.T Tryz.func150 (by kernel_rfl) (es:=[.va (.slice p0.a p0.n p0.c),.va (.int .i64 p1)]) rfl (by kernel_rfl) h
def F.av.ed(p0:ay)(p1:Value):Tree:=
 call Tryz.prog 204 [.slice p0.a p0.n p0.c,.int .i64 (p0.n:Nat),p1] (.many []) fun(r1:KTs _)=>
 ret (.tuple #[])
theorem F.av.ed.calls(p0:ay)(p1:Value)(h:F.av.ed p0 p1 Q w):Calls Tryz.prog 172 #[.slice p0.a p0.n p0.c,p1] w (aC Q):=
 Tryz.cd az.z Tryz.func172 (by kernel_rfl) (es:=[.va (.slice p0.a p0.n p0.c),.op p1]) rfl (by kernel_rfl) h
def F.cmp.Compare(p0:Int)(p1:Int):Tree:=
 call Tryz.prog 202 [.int .i64 p0] (.one (.l .bool)) fun(r1:Bool)=>
 call Tryz.prog 202 [.int .i64 p1] (.one (.l .bool)) fun(r2:Bool)=>
 br r1
 (br r2
 (ret (.int .i64 0))
 (ret (.int .i64 (-1))))
 (br r2
 (ret (.int .i64 1))
 (br (decide ((p0:Int)<p1))
 (ret (.int .i64 (-1)))
 (br (decide ((p0:Int)>p1))
 (ret (.int .i64 1))
 (ret (.int .i64 0)))))
theorem F.cmp.Compare.calls(p0:Int)(p1:Int)(h:F.cmp.Compare p0 p1 Q w):Calls Tryz.prog 174 #[.int .i64 p0,.int .i64 p1] w (aC Q):=
 Tryz.cd az.z Tryz.func174 (by kernel_rfl) (es:=[.va (.int .i64 p0),.va (.int .i64 p1)]) rfl (by kernel_rfl) h
def F.av.fp.T:az:=⟨(fun
 |2=>[(8,.int .i64)]
 |_=>[]),
 fun _=>none,
 fun _=> .quiet⟩
def F.av.fp(p0:ay)(p1:Value):Tree:=
 lp [.int .i64] (fun X1 u2=>
 br (decide ((u2.1:Int)<(p0.n:Nat)))
 (ix p0.a p0.n u2.1 6 fun a3=>
 ld (.g [.int .i64,.int .i64,.int .i64,.int .i64,.int .i64,.int .i64]) a3 fun(x4:LTs _)=>
 gJ Tryz.prog p1 [.agg #[.int .i64 x4.1,.int .i64 x4.2.1,.int .i64 x4.2.2.1,.int .i64 x4.2.2.2.1,.int .i64 x4.2.2.2.2.1,.int .i64 x4.2.2.2.2.2.1]] (.one (.l .bool)) fun(r5:Bool)=>
 br r5
 (ret (.int .i64 u2.1))
 (X1 (IntKind.wrap .i64 (u2.1+1),())))
 (ret (.int .i64 (-1)))) (0,())
theorem F.av.fp.calls(p0:ay)(p1:Value)(h:F.av.fp p0 p1 Q w):Calls Tryz.prog 180 #[.slice p0.a p0.n p0.c,p1] w (aC Q):=
 Tryz.cd F.av.fp.T Tryz.func180 (by kernel_rfl) (es:=[.va (.slice p0.a p0.n p0.c),.op p1]) rfl (by kernel_rfl) h
def F.av.Concat.T:az:=⟨(fun
 |3=>[(3,.int .i64),(11,.int .i64)]
 |11=>[(6,.slice),(27,.int .i64)]
 |_=>[]),
 fun _=>none,
 fun _=> .quiet⟩
def F.av.Concat(p0:ay):Tree:=
 lp [.int .i64,.int .i64] (fun X1 u2=>
 br (decide ((u2.2.1:Int)<(p0.n:Nat)))
 (ix p0.a p0.n u2.2.1 1 fun a3=>
 ld (.l .slice) a3 fun(x4:ay)=>
 br (decide ((IntKind.wrap .i64 (u2.1+(x4.n:Nat)):Int)<0))
 (bad)
 (X1 (IntKind.wrap .i64 (u2.1+(x4.n:Nat)),IntKind.wrap .i64 (u2.2.1+1),())))
 (call Tryz.prog 209 [.slice none 0 0,.int .i64 u2.1] (.one (.l .slice)) fun(r3:ay)=>
 lp [.slice,.int .i64] (fun X4 u5=>
 br (decide ((u5.2.1:Int)<(p0.n:Nat)))
 (ix p0.a p0.n u5.2.1 1 fun a6=>
 ld (.l .slice) a6 fun(x7:ay)=>
 c9 Tryz.prog (Builtin.append_ #[46,46] 46 #[.slice u5.1.a u5.1.n u5.1.c,.slice x7.a x7.n x7.c]) (.one (.l .slice)) fun(r8:ay)=>
 X4 (⟨r8.a,r8.n,r8.c⟩,IntKind.wrap .i64 (u5.2.1+1),()))
 (ret (.slice u5.1.a u5.1.n u5.1.c))) (⟨r3.a,r3.n,r3.c⟩,0,()))) (0,0,())
theorem F.av.Concat.calls(p0:ay)(h:F.av.Concat p0 Q w):Calls Tryz.prog 185 #[.slice p0.a p0.n p0.c] w (aC Q):=
 Tryz.cd F.av.Concat.T Tryz.func185 (by kernel_rfl) (es:=[.va (.slice p0.a p0.n p0.c)]) rfl (by kernel_rfl) h
def F.av.fy.T:az:=⟨(fun
 |5=>[(5,.int .i64),(6,.int .i64)]
 |_=>[]),
 fun _=>none,
 fun _=> .quiet⟩
def F.av.fy(p0:ay)(p1:Value):Tree:=
 call Tryz.prog 210 [.slice p0.a p0.n p0.c,p1] (.one (.l (.int .i64))) fun(r1:Int)=>
 br ((r1:Int)==(-1))
 (ret (.slice p0.a p0.n p0.c))
 (lp [.int .i64,.int .i64] (fun X2 u3=>
 br (decide ((u3.2.1:Int)<(p0.n:Nat)))
 (ix p0.a p0.n u3.2.1 1 fun a4=>
 ld (.l (.int .i64)) a4 fun(x5:Int)=>
 gJ Tryz.prog p1 [.int .i64 x5] (.one (.l .bool)) fun(r6:Bool)=>
 br (!r6)
 (ix p0.a p0.n u3.1 1 fun a7=>
 st a7 [.int .i64 x5]<|
 X2 (IntKind.wrap .i64 (u3.1+1),IntKind.wrap .i64 (u3.2.1+1),()))
 (X2 (u3.1,IntKind.wrap .i64 (u3.2.1+1),())))
 (sS p0.a p0.c u3.1 (p0.n:Nat) 1 fun s4=>
 c9 Tryz.prog (Builtin.clear_ #[46] 0 #[.slice s4.a s4.n s4.c]) (.many []) fun(r5:KTs _)=>
 sS p0.a p0.c 0 u3.1 1 fun s6=>
 ret (.slice s6.a s6.n s6.c))) (r1,IntKind.wrap .i64 (r1+1),()))
theorem F.av.fy.calls(p0:ay)(p1:Value)(h:F.av.fy p0 p1 Q w):Calls Tryz.prog 186 #[.slice p0.a p0.n p0.c,p1] w (aC Q):=
 Tryz.cd F.av.fy.T Tryz.func186 (by kernel_rfl) (es:=[.va (.slice p0.a p0.n p0.c),.op p1]) rfl (by kernel_rfl) h
def F.av.kW.T:az:=⟨(fun
 |4=>[(3,.int .i64)]
 |9=>[(3,.int .i64),(5,.int .i64)]
 |_=>[]),
 fun _=>none,
 (fun
 |6=> .quiet
 |11=> .quiet
 |_=> .quiet)⟩
def F.av.kW(p0:ay):Tree:=
 br (decide (((p0.n:Nat):Int)<2))
 (ret (.slice p0.a p0.n p0.c))
 (lp [.int .i64] (fun X1 u2=>
 br (decide ((u2.1:Int)<(p0.n:Nat)))
 (dI<|
 ix p0.a p0.n u2.1 1 fun a3=>
 ld (.l (.int .i64)) a3 fun(x4:Int)=>
 ix p0.a p0.n (IntKind.wrap .i64 (u2.1-1)) 1 fun a5=>
 ld (.l (.int .i64)) a5 fun(x6:Int)=>
 br ((x4:Int)==x6)
 (sS p0.a p0.c u2.1 (p0.n:Nat) 1 fun s7=>
 lp [.int .i64,.int .i64] (fun X8 u9=>
 br (decide ((u9.2.1:Int)<(s7.n:Nat)))
 (dI<|
 ix s7.a s7.n u9.2.1 1 fun a10=>
 ld (.l (.int .i64)) a10 fun(x11:Int)=>
 ix s7.a s7.n (IntKind.wrap .i64 (u9.2.1-1)) 1 fun a12=>
 ld (.l (.int .i64)) a12 fun(x13:Int)=>
 br ((x11:Int) != x13)
 (ix s7.a s7.n u9.2.1 1 fun a14=>
 ld (.l (.int .i64)) a14 fun(x15:Int)=>
 ix p0.a p0.n u9.1 1 fun a16=>
 st a16 [.int .i64 x15]<|
 X8 (IntKind.wrap .i64 (u9.1+1),IntKind.wrap .i64 (u9.2.1+1),()))
 (X8 (u9.1,IntKind.wrap .i64 (u9.2.1+1),())))
 (sS p0.a p0.c u9.1 (p0.n:Nat) 1 fun s10=>
 c9 Tryz.prog (Builtin.clear_ #[46] 0 #[.slice s10.a s10.n s10.c]) (.many []) fun(r11:KTs _)=>
 sS p0.a p0.c 0 u9.1 1 fun s12=>
 ret (.slice s12.a s12.n s12.c))) (u2.1,1,()))
 (X1 (IntKind.wrap .i64 (u2.1+1),())))
 (ret (.slice p0.a p0.n p0.c))) (1,()))
theorem F.av.kW.calls(p0:ay)(h:F.av.kW p0 Q w):Calls Tryz.prog 187 #[.slice p0.a p0.n p0.c] w (aC Q):=
 Tryz.cd F.av.kW.T Tryz.func187 (by kernel_rfl) (es:=[.va (.slice p0.a p0.n p0.c)]) rfl (by kernel_rfl) h
def F.cmp.isNaN(p0:Int):Tree:=
 ret (.bool ((p0:Int) != p0))
theorem F.cmp.isNaN.calls(p0:Int)(h:F.cmp.isNaN p0 Q w):Calls Tryz.prog 202 #[.int .i64 p0] w (aC Q):=
 Tryz.cd az.z Tryz.func202 (by kernel_rfl) (es:=[.va (.int .i64 p0)]) rfl (by kernel_rfl) h
def F.av.cY.T:az:=⟨(fun
 |2=>[(7,.int .i64),(8,.int .i64)]
 |7=>[(6,.int .i64)]
 |9=>[(7,.int .i64),(8,.int .i64)]
 |_=>[]),
 fun _=>none,
 fun _=> .quiet⟩
def F.av.cY(p0:ay)(p1:Int)(p2:Value):Tree:=
 lp [.int .i64,.int .i64] (fun X1 u2=>
 br (decide ((u2.2.1:Int)≤p1))
 (call Tryz.prog 220 [.slice p0.a p0.n p0.c,.int .i64 u2.1,.int .i64 u2.2.1,p2] (.many []) fun(r3:KTs _)=>
 X1 (u2.2.1,IntKind.wrap .i64 (u2.2.1+20),()))
 (call Tryz.prog 220 [.slice p0.a p0.n p0.c,.int .i64 u2.1,.int .i64 p1,p2] (.many []) fun(r3:KTs _)=>
 lp [.int .i64] (fun X4 u5=>
 br (decide ((u5.1:Int)<p1))
 (lp [.int .i64,.int .i64] (fun X6 u7=>
 br (decide ((u7.2.1:Int)≤p1))
 (call Tryz.prog 221 [.slice p0.a p0.n p0.c,.int .i64 u7.1,.int .i64 (IntKind.wrap .i64 (u7.1+u5.1)),.int .i64 u7.2.1,p2] (.many []) fun(r8:KTs _)=>
 X6 (u7.2.1,IntKind.wrap .i64 (u7.2.1+(IntKind.wrap .i64 (2*u5.1))),()))
 (br (decide ((IntKind.wrap .i64 (u7.1+u5.1):Int)<p1))
 (call Tryz.prog 221 [.slice p0.a p0.n p0.c,.int .i64 u7.1,.int .i64 (IntKind.wrap .i64 (u7.1+u5.1)),.int .i64 p1,p2] (.many []) fun(r8:KTs _)=>
 X4 (IntKind.wrap .i64 (u5.1*2),()))
 (X4 (IntKind.wrap .i64 (u5.1*2),())))) (0,IntKind.wrap .i64 (2*u5.1),()))
 (ret (.tuple #[]))) (20,()))) (0,20,())
theorem F.av.cY.calls(p0:ay)(p1:Int)(p2:Value)(h:F.av.cY p0 p1 p2 Q w):Calls Tryz.prog 204 #[.slice p0.a p0.n p0.c,.int .i64 p1,p2] w (aC Q):=
 Tryz.cd F.av.cY.T Tryz.func204 (by kernel_rfl) (es:=[.va (.slice p0.a p0.n p0.c),.va (.int .i64 p1),.op p2]) rfl (by kernel_rfl) h
def F.av.Grow(p0:ay)(p1:Int):Tree:=
 br (decide ((p1:Int)<0))
 (bad)
 (br (decide ((IntKind.wrap .i64 (p1-(IntKind.wrap .i64 ((p0.c:Nat)-(p0.n:Nat)))):Int)>0))
 (sS p0.a p0.c 0 (p0.c:Nat) 1 fun s1=>
 c9 Tryz.prog (Builtin.append_ #[46,3] 46 #[.slice s1.a s1.n s1.c,.int .i64 (IntKind.wrap .i64 (p1-(IntKind.wrap .i64 ((p0.c:Nat)-(p0.n:Nat)))))]) (.one (.l .slice)) fun(r2:ay)=>
 sS r2.a r2.c 0 (p0.n:Nat) 1 fun s3=>
 ret (.slice s3.a s3.n s3.c))
 (ret (.slice p0.a p0.n p0.c)))
theorem F.av.Grow.calls(p0:ay)(p1:Int)(h:F.av.Grow p0 p1 Q w):Calls Tryz.prog 209 #[.slice p0.a p0.n p0.c,.int .i64 p1] w (aC Q):=
 Tryz.cd az.z Tryz.func209 (by kernel_rfl) (es:=[.va (.slice p0.a p0.n p0.c),.va (.int .i64 p1)]) rfl (by kernel_rfl) h
def F.av.bK.T:az:=⟨(fun
 |1=>[(8,.int .i64)]
 |4=>[(9,.int .i64)]
 |_=>[]),
 fun _=>none,
 (fun
 |4=> .tail 14
 |6=> .held (some 15) (.go 0 false (.go 1 false (.go 2 false (.go 3 false (.go 4 false (.go 5 false (.go 6 false (.go 7 false (.go 8 false (.go 9 false (.go 10 false (.go 11 false (.go 12 false (.go 13 false (.go 14 false (.go 15 true (.go 16 false (.go 17 false .nil))))))))))))))))))
 |_=> .quiet)⟩
def F.av.bK(p0:ay)(p1:Int)(p2:Int)(p3:Value):Tree:=
 lp [.int .i64] (fun X1 u2=>
 br (decide ((u2.1:Int)<p2))
 (lp [.int .i64] (fun X3 u4=>
 dI<|
 br (decide ((u4.1:Int)>p1))
 (ix p0.a p0.n u4.1 6 fun a5=>
 ld (.g [.int .i64,.int .i64,.int .i64,.int .i64,.int .i64,.int .i64]) a5 fun(x6:LTs _)=>
 ix p0.a p0.n (IntKind.wrap .i64 (u4.1-1)) 6 fun a7=>
 ld (.g [.int .i64,.int .i64,.int .i64,.int .i64,.int .i64,.int .i64]) a7 fun(x8:LTs _)=>
 gJ Tryz.prog p3 [.agg #[.int .i64 x6.1,.int .i64 x6.2.1,.int .i64 x6.2.2.1,.int .i64 x6.2.2.2.1,.int .i64 x6.2.2.2.2.1,.int .i64 x6.2.2.2.2.2.1],.agg #[.int .i64 x8.1,.int .i64 x8.2.1,.int .i64 x8.2.2.1,.int .i64 x8.2.2.2.1,.int .i64 x8.2.2.2.2.1,.int .i64 x8.2.2.2.2.2.1]] (.one (.l (.int .i64))) fun(r9:Int)=>
 br (decide ((r9:Int)<0))
 (dI<|Gl.held fun S10=>
 ix p0.a p0.n (IntKind.wrap .i64 (u4.1-1)) 6 fun a11=>
 bm S10 (.g [.int .i64,.int .i64,.int .i64,.int .i64,.int .i64,.int .i64]) a11 fun(x12:LTs _)=>
 ix p0.a p0.n u4.1 6 fun a13=>
 bm S10 (.g [.int .i64,.int .i64,.int .i64,.int .i64,.int .i64,.int .i64]) a13 fun(x14:LTs _)=>
 ix p0.a p0.n u4.1 6 fun a15=>
 st a15 [.int .i64 x12.1,.int .i64 x12.2.1,.int .i64 x12.2.2.1,.int .i64 x12.2.2.2.1,.int .i64 x12.2.2.2.2.1,.int .i64 x12.2.2.2.2.2.1]<|
 ix p0.a p0.n (IntKind.wrap .i64 (u4.1-1)) 6 fun a16=>
 st a16 [.int .i64 x14.1,.int .i64 x14.2.1,.int .i64 x14.2.2.1,.int .i64 x14.2.2.2.1,.int .i64 x14.2.2.2.2.1,.int .i64 x14.2.2.2.2.2.1]<|
 X3 (IntKind.wrap .i64 (u4.1-1),()))
 (X1 (IntKind.wrap .i64 (u2.1+1),())))
 (X1 (IntKind.wrap .i64 (u2.1+1),()))) (u2.1,()))
 (ret (.tuple #[]))) (IntKind.wrap .i64 (p1+1),())
theorem F.av.bK.calls(p0:ay)(p1:Int)(p2:Int)(p3:Value)(h:F.av.bK p0 p1 p2 p3 Q w):Calls Tryz.prog 220 #[.slice p0.a p0.n p0.c,.int .i64 p1,.int .i64 p2,p3] w (aC Q):=
 Tryz.cd F.av.bK.T Tryz.func220 (by kernel_rfl) (es:=[.va (.slice p0.a p0.n p0.c),.va (.int .i64 p1),.va (.int .i64 p2),.op p3]) rfl (by kernel_rfl) h
def F.av.bx.T:az:=⟨(fun
 |3=>[(10,.int .i64),(11,.int .i64)]
 |9=>[(13,.int .i64)]
 |15=>[(14,.int .i64),(15,.int .i64)]
 |21=>[(17,.int .i64)]
 |33=>[(20,.int .i64),(21,.int .i64)]
 |_=>[]),
 (fun
 |32=>some [(20,.int .i64),(21,.int .i64)]
 |41=>some []
 |43=>some []
 |_=>none),
 (fun
 |5=> .tail 9
 |11=> .held (some 15) (.go 0 false (.go 1 false (.go 2 false (.go 3 false (.go 4 false (.go 5 false (.go 6 false (.go 7 false (.go 8 false (.go 9 false (.go 10 false (.go 11 false (.go 12 false (.go 13 false (.go 14 false (.go 15 true (.go 16 false (.go 17 false .nil))))))))))))))))))
 |17=> .tail 9
 |23=> .held (some 15) (.go 0 false (.go 1 false (.go 2 false (.go 3 false (.go 4 false (.go 5 false (.go 6 false (.go 7 false (.go 8 false (.go 9 false (.go 10 false (.go 11 false (.go 12 false (.go 13 false (.go 14 false (.go 15 true (.go 16 false (.go 17 false .nil))))))))))))))))))
 |35=> .tail 11
 |_=> .quiet)⟩
def F.av.bx(p0:ay)(p1:Int)(p2:Int)(p3:Int)(p4:Value):Tree:=
 br ((IntKind.wrap .i64 (p2-p1):Int)==1)
 (lp [.int .i64,.int .i64] (fun X1 u2=>
 br (decide ((u2.1:Int)<u2.2.1))
 (bQ ((0:Int)≤1)<|
 dI<|
 ix p0.a p0.n (IntKind.wrap .i64 (Int.fdiv (IntKind.wrap .u64 (IntKind.wrap .i64 (u2.1+u2.2.1))) (2^(min (1:Int).toNat (IntKind.bits .u64))))) 6 fun a3=>
 ld (.g [.int .i64,.int .i64,.int .i64,.int .i64,.int .i64,.int .i64]) a3 fun(x4:LTs _)=>
 ix p0.a p0.n p1 6 fun a5=>
 ld (.g [.int .i64,.int .i64,.int .i64,.int .i64,.int .i64,.int .i64]) a5 fun(x6:LTs _)=>
 gJ Tryz.prog p4 [.agg #[.int .i64 x4.1,.int .i64 x4.2.1,.int .i64 x4.2.2.1,.int .i64 x4.2.2.2.1,.int .i64 x4.2.2.2.2.1,.int .i64 x4.2.2.2.2.2.1],.agg #[.int .i64 x6.1,.int .i64 x6.2.1,.int .i64 x6.2.2.1,.int .i64 x6.2.2.2.1,.int .i64 x6.2.2.2.2.1,.int .i64 x6.2.2.2.2.2.1]] (.one (.l (.int .i64))) fun(r7:Int)=>
 br (decide ((r7:Int)<0))
 (X1 (IntKind.wrap .i64 ((IntKind.wrap .i64 (Int.fdiv (IntKind.wrap .u64 (IntKind.wrap .i64 (u2.1+u2.2.1))) (2^(min (1:Int).toNat (IntKind.bits .u64)))))+1),u2.2.1,()))
 (X1 (u2.1,IntKind.wrap .i64 (Int.fdiv (IntKind.wrap .u64 (IntKind.wrap .i64 (u2.1+u2.2.1))) (2^(min (1:Int).toNat (IntKind.bits .u64)))),())))
 (lp [.int .i64] (fun X3 u4=>
 br (decide ((u4.1:Int)<(IntKind.wrap .i64 (u2.1-1))))
 (dI<|Gl.held fun S5=>
 ix p0.a p0.n (IntKind.wrap .i64 (u4.1+1)) 6 fun a6=>
 bm S5 (.g [.int .i64,.int .i64,.int .i64,.int .i64,.int .i64,.int .i64]) a6 fun(x7:LTs _)=>
 ix p0.a p0.n u4.1 6 fun a8=>
 bm S5 (.g [.int .i64,.int .i64,.int .i64,.int .i64,.int .i64,.int .i64]) a8 fun(x9:LTs _)=>
 ix p0.a p0.n u4.1 6 fun a10=>
 st a10 [.int .i64 x7.1,.int .i64 x7.2.1,.int .i64 x7.2.2.1,.int .i64 x7.2.2.2.1,.int .i64 x7.2.2.2.2.1,.int .i64 x7.2.2.2.2.2.1]<|
 ix p0.a p0.n (IntKind.wrap .i64 (u4.1+1)) 6 fun a11=>
 st a11 [.int .i64 x9.1,.int .i64 x9.2.1,.int .i64 x9.2.2.1,.int .i64 x9.2.2.2.1,.int .i64 x9.2.2.2.2.1,.int .i64 x9.2.2.2.2.2.1]<|
 X3 (IntKind.wrap .i64 (u4.1+1),()))
 (ret (.tuple #[]))) (p1,()))) (p2,p3,()))
 (br ((IntKind.wrap .i64 (p3-p2):Int)==1)
 (lp [.int .i64,.int .i64] (fun X1 u2=>
 br (decide ((u2.1:Int)<u2.2.1))
 (bQ ((0:Int)≤1)<|
 dI<|
 ix p0.a p0.n p2 6 fun a3=>
 ld (.g [.int .i64,.int .i64,.int .i64,.int .i64,.int .i64,.int .i64]) a3 fun(x4:LTs _)=>
 ix p0.a p0.n (IntKind.wrap .i64 (Int.fdiv (IntKind.wrap .u64 (IntKind.wrap .i64 (u2.1+u2.2.1))) (2^(min (1:Int).toNat (IntKind.bits .u64))))) 6 fun a5=>
 ld (.g [.int .i64,.int .i64,.int .i64,.int .i64,.int .i64,.int .i64]) a5 fun(x6:LTs _)=>
 gJ Tryz.prog p4 [.agg #[.int .i64 x4.1,.int .i64 x4.2.1,.int .i64 x4.2.2.1,.int .i64 x4.2.2.2.1,.int .i64 x4.2.2.2.2.1,.int .i64 x4.2.2.2.2.2.1],.agg #[.int .i64 x6.1,.int .i64 x6.2.1,.int .i64 x6.2.2.1,.int .i64 x6.2.2.2.1,.int .i64 x6.2.2.2.2.1,.int .i64 x6.2.2.2.2.2.1]] (.one (.l (.int .i64))) fun(r7:Int)=>
 br (!(decide ((r7:Int)<0)))
 (X1 (IntKind.wrap .i64 ((IntKind.wrap .i64 (Int.fdiv (IntKind.wrap .u64 (IntKind.wrap .i64 (u2.1+u2.2.1))) (2^(min (1:Int).toNat (IntKind.bits .u64)))))+1),u2.2.1,()))
 (X1 (u2.1,IntKind.wrap .i64 (Int.fdiv (IntKind.wrap .u64 (IntKind.wrap .i64 (u2.1+u2.2.1))) (2^(min (1:Int).toNat (IntKind.bits .u64)))),())))
 (lp [.int .i64] (fun X3 u4=>
 br (decide ((u4.1:Int)>u2.1))
 (dI<|Gl.held fun S5=>
 ix p0.a p0.n (IntKind.wrap .i64 (u4.1-1)) 6 fun a6=>
 bm S5 (.g [.int .i64,.int .i64,.int .i64,.int .i64,.int .i64,.int .i64]) a6 fun(x7:LTs _)=>
 ix p0.a p0.n u4.1 6 fun a8=>
 bm S5 (.g [.int .i64,.int .i64,.int .i64,.int .i64,.int .i64,.int .i64]) a8 fun(x9:LTs _)=>
 ix p0.a p0.n u4.1 6 fun a10=>
 st a10 [.int .i64 x7.1,.int .i64 x7.2.1,.int .i64 x7.2.2.1,.int .i64 x7.2.2.2.1,.int .i64 x7.2.2.2.2.1,.int .i64 x7.2.2.2.2.2.1]<|
 ix p0.a p0.n (IntKind.wrap .i64 (u4.1-1)) 6 fun a11=>
 st a11 [.int .i64 x9.1,.int .i64 x9.2.1,.int .i64 x9.2.2.1,.int .i64 x9.2.2.2.1,.int .i64 x9.2.2.2.2.1,.int .i64 x9.2.2.2.2.2.1]<|
 X3 (IntKind.wrap .i64 (u4.1-1),()))
 (ret (.tuple #[]))) (p2,()))) (p1,p2,()))
 (bQ ((0:Int)≤1)<|
 jn (fun(j2:LTs [.int .i64,.int .i64])=>
 lp [.int .i64,.int .i64] (fun X3 u4=>
 br (decide ((u4.1:Int)<u4.2.1))
 (bQ ((0:Int)≤1)<|
 dI<|
 ix p0.a p0.n (IntKind.wrap .i64 ((IntKind.wrap .i64 ((IntKind.wrap .i64 ((IntKind.wrap .i64 (Int.fdiv (IntKind.wrap .u64 (IntKind.wrap .i64 (p1+p3))) (2^(min (1:Int).toNat (IntKind.bits .u64)))))+p2))-1))-(IntKind.wrap .i64 (Int.fdiv (IntKind.wrap .u64 (IntKind.wrap .i64 (u4.1+u4.2.1))) (2^(min (1:Int).toNat (IntKind.bits .u64))))))) 6 fun a5=>
 ld (.g [.int .i64,.int .i64,.int .i64,.int .i64,.int .i64,.int .i64]) a5 fun(x6:LTs _)=>
 ix p0.a p0.n (IntKind.wrap .i64 (Int.fdiv (IntKind.wrap .u64 (IntKind.wrap .i64 (u4.1+u4.2.1))) (2^(min (1:Int).toNat (IntKind.bits .u64))))) 6 fun a7=>
 ld (.g [.int .i64,.int .i64,.int .i64,.int .i64,.int .i64,.int .i64]) a7 fun(x8:LTs _)=>
 gJ Tryz.prog p4 [.agg #[.int .i64 x6.1,.int .i64 x6.2.1,.int .i64 x6.2.2.1,.int .i64 x6.2.2.2.1,.int .i64 x6.2.2.2.2.1,.int .i64 x6.2.2.2.2.2.1],.agg #[.int .i64 x8.1,.int .i64 x8.2.1,.int .i64 x8.2.2.1,.int .i64 x8.2.2.2.1,.int .i64 x8.2.2.2.2.1,.int .i64 x8.2.2.2.2.2.1]] (.one (.l (.int .i64))) fun(r9:Int)=>
 br (!(decide ((r9:Int)<0)))
 (X3 (IntKind.wrap .i64 ((IntKind.wrap .i64 (Int.fdiv (IntKind.wrap .u64 (IntKind.wrap .i64 (u4.1+u4.2.1))) (2^(min (1:Int).toNat (IntKind.bits .u64)))))+1),u4.2.1,()))
 (X3 (u4.1,IntKind.wrap .i64 (Int.fdiv (IntKind.wrap .u64 (IntKind.wrap .i64 (u4.1+u4.2.1))) (2^(min (1:Int).toNat (IntKind.bits .u64)))),())))
 (jn (fun(j6:LTs [])=> --
 jn (fun(j8:LTs [])=> --
 br (decide ((IntKind.wrap .i64 (Int.fdiv (IntKind.wrap .u64 (IntKind.wrap .i64 (p1+p3))) (2^(min (1:Int).toNat (IntKind.bits .u64)))):Int)<(IntKind.wrap .i64 ((IntKind.wrap .i64 ((IntKind.wrap .i64 (Int.fdiv (IntKind.wrap .u64 (IntKind.wrap .i64 (p1+p3))) (2^(min (1:Int).toNat (IntKind.bits .u64)))))+p2))-u4.1))))
 (br (decide ((IntKind.wrap .i64 ((IntKind.wrap .i64 ((IntKind.wrap .i64 (Int.fdiv (IntKind.wrap .u64 (IntKind.wrap .i64 (p1+p3))) (2^(min (1:Int).toNat (IntKind.bits .u64)))))+p2))-u4.1):Int)<p3))
 (call Tryz.prog 221 [.slice p0.a p0.n p0.c,.int .i64 (IntKind.wrap .i64 (Int.fdiv (IntKind.wrap .u64 (IntKind.wrap .i64 (p1+p3))) (2^(min (1:Int).toNat (IntKind.bits .u64))))),.int .i64 (IntKind.wrap .i64 ((IntKind.wrap .i64 ((IntKind.wrap .i64 (Int.fdiv (IntKind.wrap .u64 (IntKind.wrap .i64 (p1+p3))) (2^(min (1:Int).toNat (IntKind.bits .u64)))))+p2))-u4.1)),.int .i64 p3,p4] (.many []) fun(r9:KTs _)=>
 ret (.tuple #[]))
 (ret (.tuple #[])))
 (ret (.tuple #[]))) fun J7=>
 br (decide ((p1:Int)<u4.1))
 (br (decide ((u4.1:Int)<(IntKind.wrap .i64 (Int.fdiv (IntKind.wrap .u64 (IntKind.wrap .i64 (p1+p3))) (2^(min (1:Int).toNat (IntKind.bits .u64)))))))
 (call Tryz.prog 221 [.slice p0.a p0.n p0.c,.int .i64 p1,.int .i64 u4.1,.int .i64 (IntKind.wrap .i64 (Int.fdiv (IntKind.wrap .u64 (IntKind.wrap .i64 (p1+p3))) (2^(min (1:Int).toNat (IntKind.bits .u64))))),p4] (.many []) fun(r9:KTs _)=>
 J7 (()))
 (J7 (())))
 (J7 (()))) fun J5=>
 br (decide ((u4.1:Int)<p2))
 (br (decide ((p2:Int)<(IntKind.wrap .i64 ((IntKind.wrap .i64 ((IntKind.wrap .i64 (Int.fdiv (IntKind.wrap .u64 (IntKind.wrap .i64 (p1+p3))) (2^(min (1:Int).toNat (IntKind.bits .u64)))))+p2))-u4.1))))
 (call Tryz.prog 227 [.slice p0.a p0.n p0.c,.int .i64 u4.1,.int .i64 p2,.int .i64 (IntKind.wrap .i64 ((IntKind.wrap .i64 ((IntKind.wrap .i64 (Int.fdiv (IntKind.wrap .u64 (IntKind.wrap .i64 (p1+p3))) (2^(min (1:Int).toNat (IntKind.bits .u64)))))+p2))-u4.1)),p4] (.many []) fun(r9:KTs _)=>
 J5 (()))
 (J5 (())))
 (J5 (())))) (j2.1,j2.2.1,())) fun J1=>
 br (decide ((p2:Int)>(IntKind.wrap .i64 (Int.fdiv (IntKind.wrap .u64 (IntKind.wrap .i64 (p1+p3))) (2^(min (1:Int).toNat (IntKind.bits .u64)))))))
 (J1 (IntKind.wrap .i64 ((IntKind.wrap .i64 ((IntKind.wrap .i64 (Int.fdiv (IntKind.wrap .u64 (IntKind.wrap .i64 (p1+p3))) (2^(min (1:Int).toNat (IntKind.bits .u64)))))+p2))-p3),IntKind.wrap .i64 (Int.fdiv (IntKind.wrap .u64 (IntKind.wrap .i64 (p1+p3))) (2^(min (1:Int).toNat (IntKind.bits .u64)))),()))
 (J1 (p1,p2,()))))
theorem F.av.bx.calls(p0:ay)(p1:Int)(p2:Int)(p3:Int)(p4:Value)(h:F.av.bx p0 p1 p2 p3 p4 Q w):Calls Tryz.prog 221 #[.slice p0.a p0.n p0.c,.int .i64 p1,.int .i64 p2,.int .i64 p3,p4] w (aC Q):=
 Tryz.cd F.av.bx.T Tryz.func221 (by kernel_rfl) (es:=[.va (.slice p0.a p0.n p0.c),.va (.int .i64 p1),.va (.int .i64 p2),.va (.int .i64 p3),.op p4]) rfl (by kernel_rfl) h
def F.av.c8.T:az:=⟨(fun
 |2=>[(10,.int .i64),(11,.int .i64)]
 |_=>[]),
 fun _=>none,
 fun _=> .quiet⟩
def F.av.c8(p0:ay)(p1:Int)(p2:Int)(p3:Int)(p4:Value):Tree:=
 lp [.int .i64,.int .i64] (fun X1 u2=>
 br ((u2.1:Int) != u2.2.1)
 (br (decide ((u2.1:Int)>u2.2.1))
 (call Tryz.prog 232 [.slice p0.a p0.n p0.c,.int .i64 (IntKind.wrap .i64 (p2-u2.1)),.int .i64 p2,.int .i64 u2.2.1,p4] (.many []) fun(r3:KTs _)=>
 X1 (IntKind.wrap .i64 (u2.1-u2.2.1),u2.2.1,()))
 (call Tryz.prog 232 [.slice p0.a p0.n p0.c,.int .i64 (IntKind.wrap .i64 (p2-u2.1)),.int .i64 (IntKind.wrap .i64 ((IntKind.wrap .i64 (p2+u2.2.1))-u2.1)),.int .i64 u2.1,p4] (.many []) fun(r3:KTs _)=>
 X1 (u2.1,IntKind.wrap .i64 (u2.2.1-u2.1),())))
 (call Tryz.prog 232 [.slice p0.a p0.n p0.c,.int .i64 (IntKind.wrap .i64 (p2-u2.1)),.int .i64 p2,.int .i64 u2.1,p4] (.many []) fun(r3:KTs _)=>
 ret (.tuple #[]))) (IntKind.wrap .i64 (p2-p1),IntKind.wrap .i64 (p3-p2),())
theorem F.av.c8.calls(p0:ay)(p1:Int)(p2:Int)(p3:Int)(p4:Value)(h:F.av.c8 p0 p1 p2 p3 p4 Q w):Calls Tryz.prog 227 #[.slice p0.a p0.n p0.c,.int .i64 p1,.int .i64 p2,.int .i64 p3,p4] w (aC Q):=
 Tryz.cd F.av.c8.T Tryz.func227 (by kernel_rfl) (es:=[.va (.slice p0.a p0.n p0.c),.va (.int .i64 p1),.va (.int .i64 p2),.va (.int .i64 p3),.op p4]) rfl (by kernel_rfl) h
def F.bits.wy(p0:Int)(p1:Int):Tree:=
 bQ ((0:Int)≤32)<|
 bQ ((0:Int)≤32)<|
 bQ ((0:Int)≤32)<|
 bQ ((0:Int)≤32)<|
 bQ ((0:Int)≤32)<|
 ret (.tuple #[.int .u64 (IntKind.wrap .u64 ((IntKind.wrap .u64 ((IntKind.wrap .u64 ((Int.fdiv p0 (2^(min (32:Int).toNat (IntKind.bits .u64))))*(Int.fdiv p1 (2^(min (32:Int).toNat (IntKind.bits .u64))))))+(Int.fdiv (IntKind.wrap .u64 ((IntKind.wrap .u64 ((Int.fdiv p0 (2^(min (32:Int).toNat (IntKind.bits .u64))))*(dv .and .u64 p1 4294967295)))+(Int.fdiv (IntKind.wrap .u64 ((dv .and .u64 p0 4294967295)*(dv .and .u64 p1 4294967295))) (2^(min (32:Int).toNat (IntKind.bits .u64)))))) (2^(min (32:Int).toNat (IntKind.bits .u64))))))+(Int.fdiv (IntKind.wrap .u64 ((dv .and .u64 (IntKind.wrap .u64 ((IntKind.wrap .u64 ((Int.fdiv p0 (2^(min (32:Int).toNat (IntKind.bits .u64))))*(dv .and .u64 p1 4294967295)))+(Int.fdiv (IntKind.wrap .u64 ((dv .and .u64 p0 4294967295)*(dv .and .u64 p1 4294967295))) (2^(min (32:Int).toNat (IntKind.bits .u64)))))) 4294967295)+(IntKind.wrap .u64 ((dv .and .u64 p0 4294967295)*(Int.fdiv p1 (2^(min (32:Int).toNat (IntKind.bits .u64)))))))) (2^(min (32:Int).toNat (IntKind.bits .u64)))))),.int .u64 (IntKind.wrap .u64 (p0*p1))])
theorem F.bits.wy.calls(p0:Int)(p1:Int)(h:F.bits.wy p0 p1 Q w):Calls Tryz.prog 228 #[.int .u64 p0,.int .u64 p1] w (aC Q):=
 Tryz.cd az.z Tryz.func228 (by kernel_rfl) (es:=[.va (.int .u64 p0),.va (.int .u64 p1)]) rfl (by kernel_rfl) h
def F.av.cj.T:az:=⟨(fun
 |1=>[(10,.int .i64)]
 |_=>[]),
 fun _=>none,
 (fun
 |3=> .held (some 21) (.go 0 false (.go 1 false (.go 2 false (.go 3 false (.go 4 false (.go 5 false (.go 6 false (.go 7 false (.go 8 false (.go 9 false (.go 10 false (.go 11 false (.go 12 false (.go 13 false (.go 14 false (.go 15 false (.go 16 false (.go 17 false (.go 18 false (.go 19 false (.go 20 false (.go 21 true (.go 22 false (.go 23 false .nil))))))))))))))))))))))))
 |_=> .quiet)⟩
def F.av.cj(p0:ay)(p1:Int)(p2:Int)(p3:Int)(p4:Value):Tree:=
 lp [.int .i64] (fun X1 u2=>
 br (decide ((u2.1:Int)<p3))
 (dI<|Gl.held fun S3=>
 ix p0.a p0.n (IntKind.wrap .i64 (p2+u2.1)) 6 fun a4=>
 bm S3 (.g [.int .i64,.int .i64,.int .i64,.int .i64,.int .i64,.int .i64]) a4 fun(x5:LTs _)=>
 ix p0.a p0.n (IntKind.wrap .i64 (p1+u2.1)) 6 fun a6=>
 bm S3 (.g [.int .i64,.int .i64,.int .i64,.int .i64,.int .i64,.int .i64]) a6 fun(x7:LTs _)=>
 ix p0.a p0.n (IntKind.wrap .i64 (p1+u2.1)) 6 fun a8=>
 st a8 [.int .i64 x5.1,.int .i64 x5.2.1,.int .i64 x5.2.2.1,.int .i64 x5.2.2.2.1,.int .i64 x5.2.2.2.2.1,.int .i64 x5.2.2.2.2.2.1]<|
 ix p0.a p0.n (IntKind.wrap .i64 (p2+u2.1)) 6 fun a9=>
 st a9 [.int .i64 x7.1,.int .i64 x7.2.1,.int .i64 x7.2.2.1,.int .i64 x7.2.2.2.1,.int .i64 x7.2.2.2.2.1,.int .i64 x7.2.2.2.2.2.1]<|
 X1 (IntKind.wrap .i64 (u2.1+1),()))
 (ret (.tuple #[]))) (0,())
theorem F.av.cj.calls(p0:ay)(p1:Int)(p2:Int)(p3:Int)(p4:Value)(h:F.av.cj p0 p1 p2 p3 p4 Q w):Calls Tryz.prog 232 #[.slice p0.a p0.n p0.c,.int .i64 p1,.int .i64 p2,.int .i64 p3,p4] w (aC Q):=
 Tryz.cd F.av.cj.T Tryz.func232 (by kernel_rfl) (es:=[.va (.slice p0.a p0.n p0.c),.va (.int .i64 p1),.va (.int .i64 p2),.va (.int .i64 p3),.op p4]) rfl (by kernel_rfl) h
end Go.Proofs.YtfepdmpplahloaaGreat
