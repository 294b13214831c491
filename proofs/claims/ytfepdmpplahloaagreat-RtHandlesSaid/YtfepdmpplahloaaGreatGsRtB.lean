/- The runtime's operations by their kinds; what laws of the runtime go by. -/
import Derived.Test.YtfepdmpplahloaaGreatGsRtA
import Derived.Test.YtfepdmpplahloaaGreatGsL20
import Derived.Test.YtfepdmpplahloaaGreatGsTl21
set_option linter.unusedSimpArgs false
set_option linter.unusedVariables false
namespace Go.Proofs.YtfepdmpplahloaaGreat
open Go Go.Gl
variable{ρ0 ρ:FR}{L L':List Asn}{Post:Value→List Asn→Prop}{T:Tree}
namespace Rx
def refersE(x:Rt)(a c:Int):Int:=if a<1 then 1 else if a>3 then 1 else if c< -1 then 2 else if c≥x.rows.length then 2 else if a=3∧c<0 then 1 else 0
def rmk(a o c:Int)(y:Rt):Ans2:=(((Rf.refer y.S y.cs y.rows y.ser a o c y.ck).1,(Rf.refer y.S y.cs y.rows y.ser a o c y.ck).2.1),{y with S:=(Rf.refer y.S y.cs y.rows y.ser a o c y.ck).2.2.1,ser:=(Rf.refer y.S y.cs y.rows y.ser a o c y.ck).2.2.2})
def referR(x:Rt)(a b c:Int)(y:Ans2):Prop:=if(hld x b false).2≠0 then y=((0,(hld x b false).2),x)else if refersE x a c≠0 then y=((0,refersE x a c),x)else MadeR (rmk a (hld x b false).1 c) x y
end Rx
theorem rt_refers(i:Pl)(q:Nat)(k a b c:Int)(x:Rt):Gl.Spec ρ Tryz.prog 85 [.pointer (some ⟨q,0,none⟩),opV k a b c] (i.Q q x) R1 fun r M=>r=Rx.refersE x a c∧M=i.Q q x:=by
 refine Gl.Spec.of (fun Q w hh=>F.rt.Runtime.refers.calls (some ⟨q,0,none⟩) (k,a,b,c,()) hh) fun R=> ?_
 unfold F.rt.Runtime.refers
 try simp only[lca,lna]
 unfold Rx.refersE
 refine en_nw fun b1=> ?_
 refine en_ld (k:= .int .i64) (b:=b1) (off:=1) (x:=a) (by rw[fa_mk]) tk rfl ?_
 refine en_br (fun e=> ?_) (fun e=> ?_)
 ·have e:a<1:=of_decide_eq_true e
  rw[if_pos e]
  exact en_rets (x:=(1:Int)) rfl ⟨rfl,rfl⟩ tks ens
 have e:¬a<1:=of_decide_eq_false e
 rw[if_neg e]
 refine en_ld (k:= .int .i64) (b:=b1) (off:=1) (x:=a) (by rw[fa_mk]) tk rfl ?_
 refine en_br (fun e=> ?_) (fun e=> ?_)
 ·have e:a>3:=of_decide_eq_true e
  rw[if_pos e]
  exact en_rets (x:=(1:Int)) rfl ⟨rfl,rfl⟩ tks ens
 have e:¬a>3:=of_decide_eq_false e
 rw[if_neg e]
 refine RfA.op (p:=i.r) (hp:=i.b) (rows:=x.rows) (n:=x.ser) tk fun qq=> ?_
 refine en_drw (en_held [blk b1 [i64 k,i64 a,i64 b,i64 c],blk q [.pointer (some ⟨i.p,0,none⟩)],blk i.p (i.cs x),blk i.r [.pointer (some ⟨qq,0,none⟩),i64 x.ser]] tks ?_)
 refine en_ldS (k:= .int .i64) (b:=b1) (off:=3) (x:=c) (by rw[fa_mk]) tk rfl ?_
 refine en_br (fun e=> ?_) (fun e=> ?_)
 ·have e:c< -1:=of_decide_eq_true e
  rw[if_pos e]
  refine Tr.close tks (RfA.cl (p:=i.r) (q:=qq) (hp:=i.b) (rows:=x.rows) (n:=x.ser)) ?_
  exact en_rets (x:=(2:Int)) rfl ⟨rfl,rfl⟩ tks ens
 have e:¬c< -1:=of_decide_eq_false e
 rw[if_neg e]
 refine en_ldS (k:= .int .i64) (b:=b1) (off:=3) (x:=c) (by rw[fa_mk]) tk rfl ?_
 refine en_nn (en_ldS (k:= .ptr) (b:=q) (off:=0) (x:=some ⟨i.p,0,none⟩) (by rw[fa_mk]) tk rfl ?_)
 refine en_nn (en_ldS (k:= .ptr) (b:=i.p) (off:=0) (x:=some ⟨i.r,0,none⟩) (by rw[fa_mk]) tk rfl ?_)
 refine en_nn (en_ldS (k:= .ptr) (b:=i.r) (off:=0) (x:=some ⟨qq,0,none⟩) (by rw[fa_mk]) tk rfl ?_)
 try simp only[lca,lna]
 refine en_call (que_count qq i.b x.rows) tks ?_
 rintro x' M ⟨rfl,rfl⟩
 try simp only[lca,lna]
 refine en_chk tks ?_
 refine Tr.close tks (RfA.cl (p:=i.r) (q:=qq) (hp:=i.b) (rows:=x.rows) (n:=x.ser)) ?_
 refine en_br (fun e=> ?_) (fun e=> ?_)
 ·have e:c≥x.rows.length:=of_decide_eq_true e
  rw[if_pos e]
  exact en_rets (x:=(2:Int)) rfl ⟨rfl,rfl⟩ tks ens
 have e:¬c≥x.rows.length:=of_decide_eq_false e
 rw[if_neg e]
 refine en_ld (k:= .int .i64) (b:=b1) (off:=1) (x:=a) (by rw[fa_mk]) tk rfl ?_
 refine en_br (fun e1=> ?_) (fun e1=> ?_)
 ·have e1:a=3:=by simpa using e1
  refine en_ld (k:= .int .i64) (b:=b1) (off:=3) (x:=c) (by rw[fa_mk]) tk rfl ?_
  refine en_br (fun e2=> ?_) (fun e2=> ?_)
  ·rw[if_pos ⟨e1,of_decide_eq_true e2⟩]
   exact en_rets (x:=(1:Int)) rfl ⟨rfl,rfl⟩ tks ens
  ·rw[if_neg (fun g=>(of_decide_eq_false e2) g.2)]
   exact en_rets (x:=(0:Int)) rfl ⟨rfl,rfl⟩ tks ens
 ·have e1:a≠3:=by simpa using e1
  rw[if_neg (fun g=>e1 g.1)]
  exact en_rets (x:=(0:Int)) rfl ⟨rfl,rfl⟩ tks ens
abbrev capR(b1 b2 b6 q:Nat)(k a b c o:Int):List Asn:=[blk b1 [.pointer (some ⟨q,0,none⟩)],blk b2 [i64 k,i64 a,i64 b,i64 c],blk b6 [i64 o]]
theorem rt_refer1(i:Pl)(q b1 b2 b6:Nat)(k a b c o:Int)(y:Rt){M:Int}(I:y.Inv M)(hM:M<2^49):Gl.Spec ρ Tryz.prog 87 [.pointer (some ⟨b1,0,none⟩),.pointer (some ⟨b2,0,none⟩),.pointer (some ⟨b6,0,none⟩)] (star (capR b1 b2 b6 q k a b c o)::i.Q q y) P2
  fun r L=>r=((Rx.rmk a o c y).1.1,(Rx.rmk a o c y).1.2,())∧L=star (capR b1 b2 b6 q k a b c o)::i.Q q (Rx.rmk a o c y).2:=by
 refine Gl.Spec.of (fun Q w hh=>F.rt.Runtime.refer_1.calls ⟨b1,0,none⟩ ⟨b2,0,none⟩ ⟨b6,0,none⟩ hh) fun R=> ?_
 unfold F.rt.Runtime.refer_1
 try simp only[lca,lna]
 refine Tr.openS (M:=capR b1 b2 b6 q k a b c o) tk ?_
 refine en_drw (en_held [blk b1 [.pointer (some ⟨q,0,none⟩)],blk b2 [i64 k,i64 a,i64 b,i64 c],blk b6 [i64 o],blk q [.pointer (some ⟨i.p,0,none⟩)],blk i.p (i.cs y)] tks ?_)
 refine en_ldS (k:= .ptr) (b:=b1) (off:=0) (x:=some ⟨q,0,none⟩) rfl tk rfl ?_
 refine en_nn (en_ldS (k:= .ptr) (b:=q) (off:=0) (x:=some ⟨i.p,0,none⟩) (by rw[fa_mk]) tk rfl ?_)
 refine en_nn (en_ldS (k:= .ptr) (b:=i.p) (off:=0) (x:=some ⟨i.r,0,none⟩) (by rw[fa_mk]) tk rfl ?_)
 refine en_ldS (k:= .int .i64) (b:=b2) (off:=1) (x:=a) (by rw[fa_mk]) tk rfl ?_
 refine en_ldS (k:= .int .i64) (b:=b6) (off:=0) (x:=o) rfl tk rfl ?_
 refine en_ldS (k:= .int .i64) (b:=b2) (off:=3) (x:=c) (by rw[fa_mk]) tk rfl ?_
 refine en_ldS (k:= .ptr) (b:=b1) (off:=0) (x:=some ⟨q,0,none⟩) rfl tk rfl ?_
 refine en_nn (en_ldS (k:= .ptr) (b:=q) (off:=0) (x:=some ⟨i.p,0,none⟩) (by rw[fa_mk]) tk rfl ?_)
 try simp only[lca,lna]
 refine en_call (gc_clock i y) tks ?_
 rintro x' M ⟨rfl,rfl⟩
 try simp only[lca,lna]
 refine en_chk tks ?_
 refine Tr.close (M:=capR b1 b2 b6 q k a b c o) (A:=star (capR b1 b2 b6 q k a b c o)) tks (fun h H=>H) ?_
 refine en_call (rfs_refer i.r i.b y.S y.cs I.w.hw y.rows y.ser a o c y.ck ⟨I.ser.1,by have:=I.ser.2;omega⟩ I.w.q.few) tks ?_
 rintro x' M ⟨rfl,rfl⟩
 try simp only[lca,lna]
 exact en_rets (x:=((Rf.refer y.S y.cs y.rows y.ser a o c y.ck).1,(Rf.refer y.S y.cs y.rows y.ser a o c y.ck).2.1,())) rfl ⟨rfl,rfl⟩ tks ens
theorem do_refer(i:Pl)(q:Nat)(k a b c:Int)(x:Rt){N:Int}(I:x.Inv N)(hN:N+10<2^49):
  Gl.Spec ρ Tryz.prog 49 [.pointer (some ⟨q,0,none⟩),opV k a b c] (i.Q q x) P2
  fun r M=>∃y:Ans2,Rx.referR x a b c y∧y.2.Inv (N+10)∧r=(y.1.1,y.1.2,())∧M=i.Q q y.2:=by
 refine Gl.Spec.of (fun Q w hh=>F.rt.Runtime.refer.calls (some ⟨q,0,none⟩) (k,a,b,c,()) hh) fun R=> ?_
 unfold F.rt.Runtime.refer
 try simp only[lca,lna]
 refine en_nw fun b1=>en_nw fun b2=> ?_
 refine en_ld (k:= .ptr) (b:=b1) (off:=0) (x:=some ⟨q,0,none⟩) rfl tk rfl ?_
 refine en_ld (k:= .int .i64) (b:=b2) (off:=2) (x:=b) (by rw[fa_mk]) tk rfl ?_
 refine en_call (rt_held i q x (I.h.ok (by omega)) b false) tks ?_
 rintro x' M ⟨rfl,rfl⟩
 try simp only[lca,lna]
 refine en_nw fun b6=> ?_
 rw[show zc Tryz.prog 3=[.int .i64 0] by kernel_rfl]
 refine en_st (b:=b6) (off:=0) rfl tk (by simp) rfl ?_
 have hr:∀y,Rx.referR x a b c y=if(Rx.hld x b false).2≠0 then y=((0,(Rx.hld x b false).2),x)else if Rx.refersE x a c≠0 then y=((0,Rx.refersE x a c),x)else Rx.MadeR (Rx.rmk a (Rx.hld x b false).1 c) x y:=fun y=>rfl
 generalize Rx.hld x b false=h at*
 refine en_br (fun e=> ?_) (fun e=> ?_)
 ·have e:h.2≠0:=by simpa using e
  have hy:Rx.referR x a b c ((0,h.2),x):=by rw[hr,if_pos e]
  exact en_rets (x:=((0:Int),h.2,())) rfl ⟨((0,h.2),x),hy,I.le (by omega),rfl,rfl⟩ tks ens
 have e:h.2=0:=by simpa using e
 refine en_ld (k:= .ptr) (b:=b1) (off:=0) (x:=some ⟨q,0,none⟩) rfl tk rfl ?_
 refine en_ldg (b:=b2) (x:=(k,a,b,c,())) [] rfl tk rfl ?_
 refine en_call (rt_refers i q k a b c x) tks ?_
 rintro x' M ⟨rfl,rfl⟩
 try simp only[lca,lna]
 refine en_br (fun e1=> ?_) (fun e1=> ?_)
 ·have e1:Rx.refersE x a c≠0:=by simpa using e1
  have hy:Rx.referR x a b c ((0,Rx.refersE x a c),x):=by rw[hr,if_neg (fun g=>g e),if_pos e1]
  exact en_rets (x:=((0:Int),Rx.refersE x a c,())) rfl ⟨((0,Rx.refersE x a c),x),hy,I.le (by omega),rfl,rfl⟩ tks ens
 have e1:Rx.refersE x a c=0:=by simpa using e1
 refine en_ld (k:= .ptr) (b:=b1) (off:=0) (x:=some ⟨q,0,none⟩) rfl tk rfl ?_
 refine Tr.close (M:=capR b1 b2 b6 q k a b c h.1) (A:=star (capR b1 b2 b6 q k a b c h.1)) tks (fun h H=>H) ?_
 refine en_call (rt_made i q x (star (capR b1 b2 b6 q k a b c h.1)) Tryz.func87 (by kernel_rfl) (Rx.rmk a h.1 c) I hN fun M y Iy hM=>⟨?_,?_⟩) tks ?_
 ·exact rt_refer1 i q b1 b2 b6 k a b c h.1 y Iy hM
 ·obtain⟨w',s1,s2⟩:=Iy.w.refer a h.1 c y.ck Iy.ck.2 Iy.ser.1
  exact{w:=w',h:=Iy.h.le (by omega),ro:=Iy.ro,ck:=Iy.ck,ser:=⟨by have:=Iy.ser.1;show 0≤(Rf.refer y.S y.cs y.rows y.ser a h.1 c y.ck).2.2.2;omega,by have:=Iy.ser.2;show(Rf.refer y.S y.cs y.rows y.ser a h.1 c y.ck).2.2.2≤_;omega⟩,rn:=⟨Iy.rn.1,by have:=Iy.rn.2;show y.rn≤_;omega⟩,rate:=Iy.rate,stack:=Iy.stack}
 rintro _ _ ⟨y,hy,Iy,rfl,rfl⟩
 try simp only[lca,lna]
 refine Tr.drop (A:=star (capR b1 b2 b6 q k a b c h.1)) tk ?_
 have hy':Rx.referR x a b c y:=by rw[hr,if_neg (fun g=>g e),if_neg (fun g=>g e1)];exact hy
 exact en_rets (x:=(y.1.1,y.1.2,())) rfl ⟨y,hy',Iy,rfl,rfl⟩ tks ens
namespace Rx
end Rx
end Go.Proofs.YtfepdmpplahloaaGreat
namespace Go.Proofs.YtfepdmpplahloaaGreat
open Go Go.Gl
variable{ρ0 ρ:FR}{L L':List Asn}{Post:Value→List Asn→Prop}{T:Tree}
abbrev mv(f:FuncId)(q:Nat):Value:= .func (.func f) #[.pointer (some ⟨q,0,none⟩)] #[]
abbrev lv(b1 b2:Nat):Value:= .func (.func 77) #[] #[.pointer (some ⟨b1,0,none⟩),.pointer (some ⟨b2,0,none⟩)]
def Rx.tab(q b1 b2 b3 b4:Nat):List (Int×Value):=
 [(1,mv 40 q),(2,mv 41 q),(3,lv b1 b2),(4,lv b3 b4),(5,mv 43 q),(6,mv 44 q),(7,mv 45 q),(8,mv 46 q),
  (9,mv 47 q),(10,mv 48 q),(11,mv 49 q),(12,mv 50 q),(13,mv 51 q),(14,mv 52 q),(15,mv 53 q),
  (16,mv 54 q),(17,mv 55 q),(18,mv 56 q),(19,mv 57 q),(20,mv 58 q),(21,mv 59 q)]
theorem rt_list(q:Nat)(kind:Int):Gl.Spec ρ Tryz.prog 42 [.pointer (some ⟨q,0,none⟩),i64 kind] [] (.one (.l .any))
  fun r M=>∃b1 b2:Nat,r=lv b1 b2∧M=[blk b1 [.pointer (some ⟨q,0,none⟩)],blk b2 [i64 kind]]:=by
 refine Gl.Spec.of (fun Q w h=>F.rt.Runtime.list.calls (some ⟨q,0,none⟩) kind h) fun R=> ?_
 unfold F.rt.Runtime.list
 refine en_nw fun b1=>en_nw fun b2=> ?_
 exact en_rets (x:=lv b1 b2) rfl ⟨b1,b2,rfl,rfl⟩ tks ens
abbrev tabM(q b1 b2 b3 b4:Nat):List Asn:=[blk b1 [.pointer (some ⟨q,0,none⟩)],blk b2 [i64 2],blk b3 [.pointer (some ⟨q,0,none⟩)],blk b4 [i64 3]]
theorem hdlMap:Tryz.prog.underlying 64=some (.map 3 62):=by kernel_rfl
theorem hdlKey:Tryz.prog.underlying 3=some (.int .i64):=by kernel_rfl
theorem hdlZero:(Tryz.prog.info? 62).bind (·.zero)=some .nilFunc:=by kernel_rfl
theorem zcAns:zc Tryz.prog 26=[.int .i64 0,.int .i64 0]:=by kernel_rfl
theorem rt_handlers(q:Nat):Gl.Spec ρ Tryz.prog 23 [.pointer (some ⟨q,0,none⟩)] [] (.one (.l .map))
  fun r M=>∃b b1 b2 b3 b4:Nat,r=some b∧M=IM b (fun v:Value=>v) (Rx.tab q b1 b2 b3 b4)::tabM q b1 b2 b3 b4:=by
 refine Gl.Spec.of (fun Q w h=>F.rt.Runtime.handlers.calls (some ⟨q,0,none⟩) h) fun R=> ?_
 unfold F.rt.Runtime.handlers
 refine en_nwIM (fun v:Value=>v) fun b=> ?_
 iterate 2
  refine en_upd (f:=fun v:Value=>v) hdlMap hdlKey (rfl:(_:Value)=_) tk ?_
 refine en_call (rt_list q 2) tks ?_
 rintro _ _ ⟨b1,b2,rfl,rfl⟩
 try simp only[lca,lna]
 refine en_upd (f:=fun v:Value=>v) hdlMap hdlKey (rfl:(_:Value)=_) tk ?_
 refine en_call (rt_list q 3) tks ?_
 rintro _ _ ⟨b3,b4,rfl,rfl⟩
 try simp only[lca,lna]
 iterate 18
  refine en_upd (f:=fun v:Value=>v) hdlMap hdlKey (rfl:(_:Value)=_) tk ?_
 simp only[aset,Int.reduceEq,↓reduceIte]
 change Tr _ _ (IM b (fun v:Value=>v) (Rx.tab q b1 b2 b3 b4)::_) _ _
 exact en_rets (x:=some b) rfl ⟨b,b1,b2,b3,b4,rfl,rfl⟩ tks ens
theorem rt_do0(q:Nat)(k a b c:Int)(hk:∀b1 b2 b3 b4,aget k (Rx.tab q b1 b2 b3 b4)=none):Gl.Spec ρ Tryz.prog 16 [.pointer (some ⟨q,0,none⟩),opV k a b c] [] G2
  fun r M=>r=(1,0,())∧M=[]:=by
 refine Gl.Spec.of (fun Q w hh=>F.rt.Runtime.Do.calls (some ⟨q,0,none⟩) (k,a,b,c,()) hh) fun R=> ?_
 unfold F.rt.Runtime.Do
 refine en_nw fun b1=>en_nw fun b2=> ?_
 rw[zcAns]
 refine en_brf rfl ?_
 refine en_drw (en_held [blk b1 [i64 k,i64 a,i64 b,i64 c]] tks ?_)
 refine en_ldS (k:= .int .i64) (b:=b1) (off:=0) (x:=k) (by rw[fa_mk]) tk rfl ?_
 refine en_call (rt_handlers q) .nil ?_
 rintro _ _ ⟨hb,c1,c2,c3,c4,rfl,rfl⟩
 try simp only[lca,lna]
 refine en_chk tks ?_
 refine en_lkp2 (f:=fun v:Value=>v) (kd:= .any) (g:=fun v:Value=>v) (z0:= .nilFunc) hdlMap hdlKey hdlZero (fun _=>rfl) tk ?_
 rw[hk]
 refine en_brt rfl ?_
 refine en_st (b:=b2) (off:=0) rfl tk (by simp) rfl ?_
 refine en_ldg (b:=b2) (x:=((1:Int),(0:Int),())) [] rfl tk rfl ?_
 exact en_rets (x:=((1:Int),(0:Int),())) rfl ⟨rfl,rfl⟩ tks ens
abbrev ansOf(n e:Int):RT G2:=(e,if e≠0 then 0 else n,())
theorem Spec.starred{P:Program}{f:FuncId}{args:List Value}{A:List Asn}{r:RK}{B:RT r→List Asn→Prop}(h:Gl.Spec ρ P f args A r B):Gl.Spec ρ P f args [star A] r fun x M=>∃M',B x M'∧M=[star M']:=fun R w hw=>by
 refine(h R w (Sat.unstar hw)).mono ?_
 rintro e w' ⟨x,M,rfl,hB,hs⟩
 exact⟨x,[star M],rfl,⟨M,hB,rfl⟩,Sat.dostar hs⟩
theorem Spec.unstarred{P:Program}{f:FuncId}{args:List Value}{A:List Asn}{r:RK}{B:RT r→List Asn→Prop}(h:Gl.Spec ρ P f args [star A] r fun x M=>∃M',B x M'∧M=[star M']):Gl.Spec ρ P f args A r B:=fun R w hw=>by
 refine(h R w (Sat.dostar hw)).mono ?_
 rintro e w' ⟨x,_,rfl,⟨M,hB,rfl⟩,hs⟩
 exact⟨x,M,rfl,hB,Sat.unstar hs⟩
theorem rt_do{f:FuncId}{fn:Func}(hf:Tryz.prog.funcs[f]? =some fn)(hb:fn.body.isSome=true)(q:Nat)(k a b c:Int)(hk:∀b1 b2 b3 b4,aget k (Rx.tab q b1 b2 b3 b4)=some (mv f q)){A:List Asn}{B:RT P2→List Asn→Prop}
  (hs:Gl.Spec ρ Tryz.prog f [.pointer (some ⟨q,0,none⟩),opV k a b c] A P2 B):Gl.Spec ρ Tryz.prog 16 [.pointer (some ⟨q,0,none⟩),opV k a b c] A G2
  fun r M=>∃n e:Int,B (n,e,()) M∧r=ansOf n e:=by
 refine Spec.unstarred ?_
 replace hs:=Spec.starred hs
 generalize star A=A1 at*
 refine Gl.Spec.of (fun Q w hh=>F.rt.Runtime.Do.calls (some ⟨q,0,none⟩) (k,a,b,c,()) hh) fun R=> ?_
 unfold F.rt.Runtime.Do
 try simp only[lca,lna]
 refine en_nw fun b1=>en_nw fun b2=> ?_
 rw[zcAns]
 refine en_brf rfl ?_
 refine en_drw (en_held [blk b1 [i64 k,i64 a,i64 b,i64 c]] tks ?_)
 refine en_ldS (k:= .int .i64) (b:=b1) (off:=0) (x:=k) (by rw[fa_mk]) tk rfl ?_
 refine en_call (rt_handlers q) .nil ?_
 rintro _ _ ⟨hb',c1,c2,c3,c4,rfl,rfl⟩
 try simp only[lca,lna]
 refine en_chk tks ?_
 refine en_lkp2 (f:=fun v:Value=>v) (kd:= .any) (g:=fun v:Value=>v) (z0:= .nilFunc) hdlMap hdlKey hdlZero (fun _=>rfl) tk ?_
 rw[hk]
 refine en_brf rfl ?_
 refine en_ldg (b:=b1) (x:=(k,a,b,c,())) [] rfl tk rfl ?_
 refine en_callF (i:= #[.pointer (some ⟨q,0,none⟩)]) (c:= #[]) (A:=[A1]) hf hb hs tks ?_
 rintro⟨n,e,⟨⟩⟩ _ ⟨M,hB,rfl⟩
 try simp only[lca,lna]
 refine en_br (fun he=> ?_) (fun he=> ?_)
 ·have he:e≠0:=by simpa using he
  refine en_st (b:=b2) (off:=0) rfl tk (by simp) rfl ?_
  refine en_ldg (b:=b2) (x:=(e,(0:Int),())) [] rfl tk rfl ?_
  exact en_rets (x:=(e,(0:Int),())) rfl ⟨M,⟨n,e,hB,by unfold ansOf;rw[if_pos he]⟩,rfl⟩ tks ens
 ·have he:e=0:=by simpa using he
  refine en_st (b:=b2) (off:=0) rfl tk (by simp) rfl ?_
  refine en_ldg (b:=b2) (x:=((0:Int),n,())) [] rfl tk rfl ?_
  exact en_rets (x:=((0:Int),n,())) rfl ⟨M,⟨n,e,hB,by unfold ansOf;rw[if_neg (fun g=>g he),he]⟩,rfl⟩ tks ens
theorem star_flat{A B:Asn}{M:List Asn}{h:HP}(H:star [A,B,star M] h):star (A::B::M) h:=by
 have:star ([A,B]++[star M]) h:=H
 obtain⟨h1,h2,hd,rfl,ha,hb⟩:=star_append this
 have h3:star M h2:=by
  obtain⟨g1,g2,gd,rfl,ga,gb⟩:=hb
  have:(fun b=>(g1 b).or (g2 b))=g1:=by funext b;rw[gb b,Option.or_none]
  rw[this];exact ga
 exact star_append' (L:=[A,B]) (L':=M) ⟨h1,h2,hd,rfl,ha,h3⟩
theorem star_nest{A B:Asn}{M:List Asn}{h:HP}(H:star (A::B::M) h):star [A,B,star M] h:=by
 have:star ([A,B]++M) h:=H
 obtain⟨h1,h2,hd,rfl,ha,hb⟩:=star_append this
 have h3:star [star M] h2:=⟨h2,fun _=>none,fun b=> .inr rfl,by funext b;rw[Option.or_none],hb,fun _=>rfl⟩
 exact star_append' (L:=[A,B]) (L':=[star M]) ⟨h1,h2,hd,rfl,ha,h3⟩
theorem rt_doL(q:Nat)(k kind a b c:Int)(hk:(k=3∧kind=2)∨(k=4∧kind=3)){A:List Asn}{B:RT P2→List Asn→Prop}
  (hs:∀b1 b2:Nat,Gl.Spec ρ Tryz.prog 77 [opV k a b c,.pointer (some ⟨b1,0,none⟩),.pointer (some ⟨b2,0,none⟩)] [star (blk b1 [.pointer (some ⟨q,0,none⟩)]::blk b2 [i64 kind]::A)] P2 fun r M=>∃M',B r M'∧M=[star (blk b1 [.pointer (some ⟨q,0,none⟩)]::blk b2 [i64 kind]::M')]):
  Gl.Spec ρ Tryz.prog 16 [.pointer (some ⟨q,0,none⟩),opV k a b c] A G2 fun r M=>∃n e:Int,B (n,e,()) M∧r=ansOf n e:=by
 refine Spec.unstarred ?_
 refine Gl.Spec.of (fun Q w hh=>F.rt.Runtime.Do.calls (some ⟨q,0,none⟩) (k,a,b,c,()) hh) fun R=> ?_
 unfold F.rt.Runtime.Do
 try simp only[lca,lna]
 refine en_nw fun b1=>en_nw fun b2=> ?_
 rw[zcAns]
 refine en_brf rfl ?_
 refine en_drw (en_held [blk b1 [i64 k,i64 a,i64 b,i64 c]] tks ?_)
 refine en_ldS (k:= .int .i64) (b:=b1) (off:=0) (x:=k) (by rw[fa_mk]) tk rfl ?_
 refine en_call (rt_handlers q) .nil ?_
 rintro _ _ ⟨hb',c1,c2,c3,c4,rfl,rfl⟩
 try simp only[lca,lna]
 refine en_chk tks ?_
 refine en_lkp2 (f:=fun v:Value=>v) (kd:= .any) (g:=fun v:Value=>v) (z0:= .nilFunc) hdlMap hdlKey hdlZero (fun _=>rfl) tk ?_
 have go:∀(d1 d2:Nat) {LL L2:List Asn},Takes LL [blk d1 [.pointer (some ⟨q,0,none⟩)],blk d2 [i64 kind],star A,blk b1 [i64 k,i64 a,i64 b,i64 c],blk b2 [i64 0,i64 0]] L2→Gl.Ends L2 R→
   Tr ρ ρ LL (ld (.g [.int .i64,.int .i64,.int .i64,.int .i64]) (⟨b1,0,none⟩) fun(x7:LTs _)=>
    callV Tryz.prog (lv d1 d2) [.agg #[.int .i64 x7.1,.int .i64 x7.2.1,.int .i64 x7.2.2.1,.int .i64 x7.2.2.2.1]] (.many [.l (.int .i64),.l (.int .i64)]) fun(r8:KTs _)=>
    br ((r8.2.1:Int) != 0)
     (st (⟨b2,0,none⟩) [.int .i64 r8.2.1,.int .i64 0]<|ld (.g [.int .i64,.int .i64]) (⟨b2,0,none⟩) fun(x9:LTs _)=>ret (.agg #[.int .i64 x9.1,.int .i64 x9.2.1]))
     (st (⟨b2,0,none⟩) [.int .i64 0,.int .i64 r8.1]<|ld (.g [.int .i64,.int .i64]) (⟨b2,0,none⟩) fun(x9:LTs _)=>ret (.agg #[.int .i64 x9.1,.int .i64 x9.2.1])))
    (SP G2 (fun r M=>∃M',(∃n e:Int,B (n,e,()) M'∧r=ansOf n e)∧M=[star M']) R):=fun d1 d2 LL L2 t en=>by
  refine Tr.perm t.perm ?_
  try simp only[lca,lna]
  refine en_ldg (b:=b1) (x:=(k,a,b,c,())) [] rfl tk rfl ?_
  refine Tr.close (M:=[blk d1 [.pointer (some ⟨q,0,none⟩)],blk d2 [i64 kind],star A]) (A:=star (blk d1 [.pointer (some ⟨q,0,none⟩)]::blk d2 [i64 kind]::A)) tks (fun h H=>star_flat H) ?_
  refine en_callF (i:= #[]) (c:= #[.pointer (some ⟨d1,0,none⟩),.pointer (some ⟨d2,0,none⟩)]) Tryz.func77 (by kernel_rfl) (hs d1 d2) tks ?_
  rintro⟨n,e,⟨⟩⟩ _ ⟨M,hB,rfl⟩
  try simp only[lca,lna]
  refine Tr.imp (A:=star (blk d1 [.pointer (some ⟨q,0,none⟩)]::blk d2 [i64 kind]::M)) (A':=star [blk d1 [.pointer (some ⟨q,0,none⟩)],blk d2 [i64 kind],star M]) tk (fun h H=>star_nest H) ?_
  refine Tr.openS tk ?_
  try simp only[lca,lna]
  refine en_br (fun he=> ?_) (fun he=> ?_)
  ·have he:e≠0:=by simpa using he
   refine en_st (b:=b2) (off:=0) rfl tk (by simp) rfl ?_
   refine en_ldg (b:=b2) (x:=(e,(0:Int),())) [] rfl tk rfl ?_
   exact en_rets (x:=(e,(0:Int),())) rfl ⟨M,⟨n,e,hB,by unfold ansOf;rw[if_pos he]⟩,rfl⟩ tks (.skip (.skip (.skip (.skip en))))
  ·have he:e=0:=by simpa using he
   refine en_st (b:=b2) (off:=0) rfl tk (by simp) rfl ?_
   refine en_ldg (b:=b2) (x:=((0:Int),n,())) [] rfl tk rfl ?_
   exact en_rets (x:=((0:Int),n,())) rfl ⟨M,⟨n,e,hB,by unfold ansOf;rw[if_neg (fun g=>g he),he]⟩,rfl⟩ tks (.skip (.skip (.skip (.skip en))))
 rcases hk with ⟨rfl,rfl⟩|⟨rfl,rfl⟩
 ·rw[show aget 3 (Rx.tab q c1 c2 c3 c4)=some (lv c1 c2)from rfl]
  refine en_brf rfl ?_
  exact go c1 c2 tks ens
 ·rw[show aget 4 (Rx.tab q c1 c2 c3 c4)=some (lv c3 c4)from rfl]
  refine en_brf rfl ?_
  exact go c3 c4 tks ens
end Go.Proofs.YtfepdmpplahloaaGreat
namespace Go.Proofs.YtfepdmpplahloaaGreat
open Go Go.Gl
variable{ρ0 ρ:FR}{L L':List Asn}{Post:Value→List Asn→Prop}{T:Tree}
namespace Rx
variable{x:Rt}{N M:Int}
theorem by_inv{h:Int}{f:Int→Ans2}(I:x.Inv M)(hf:∀a,(f a).2.Inv M):(by' x h f).2.Inv M:=by
 unfold by';split
 ·exact I
 ·exact hf _
theorem byN_inv{h:Int}{f:Int→Ans2}(I:x.Inv M)(hf:∀a,(f a).2.Inv M):(byN x h f).2.Inv M:=by
 unfold byN;split
 ·exact I
 ·exact hf _
theorem fld_isR{a k:Int}(h:(fld x a k).2.2=0):Qu.isR x.S a=false:=by
 unfold fld at h
 unfold Qu.isR
 cases hh:Ob.head x.S a with
 |none=>rfl
 |some hd=>
  rw[hh]at h
  dsimp only at h⊢
  by_cases e:hd.k=4
  ·rw[if_pos e]at h;cases h
  ·simpa using e
theorem set_inv(I:x.Inv N)(a b c:Int):(set x a b c).2.Inv N:=by
 refine by_inv I fun at'=>byN_inv I fun to=> ?_
 split
 ·exact I
 ·rename_i h
  split
  ·exact I
  ·exact{I with w:=I.w.put (.inl (fld_isR (by simpa using h)))}
theorem drop_inv(I:x.Inv N)(hN:0≤N)(a:Int):(drop x a).2.Inv (N+1):={I.le (M:=N+1) (by omega)with h:=I.h.drop hN a}
theorem placeS_len{ro:List Int}{i a:Int}:(placeS ro i a).length=ro.length:=by
 unfold placeS;split
 ·exact List.length_set ..
 ·rfl
theorem root_inv(I:x.Inv N)(a b:Int):(root x a b).2.Inv N:=byN_inv I fun at'=>{I with ro:=(placeS_len ..).trans I.ro}
theorem take_inv(I:x.Inv N)(a:Int):(take x a).2.Inv N:=by
 unfold take;split
 ·exact I
 ·exact give_inv I _
theorem enqueue_inv(I:x.Inv N)(a:Int):(enqueue x a).2.Inv N:=by_inv I fun at'=>{I with w:=I.w.enq at'}
theorem open_inv(I:x.Inv N):(open' x).2.Inv N:=by
 have h:=I.w.q.few
 unfold open'
 by_cases e:x.rows.length=8
 ·simp only[if_pos e];exact I
 ·simp only[if_neg e];exact{I with w:=I.w.open_ (by omega)}
theorem poll_inv(I:x.Inv N)(a:Int):(poll x a).2.Inv N:=by
 have J:Rt.Inv N {x with S:=Qu.pollS x.S x.rows a,rows:=Qu.pollQ x.rows a}:={I with w:=I.w.poll a}
 unfold poll
 split
 ·exact I
 ·split
  ·exact I
  ·split
   ·exact I
   ·split
    ·exact J
    ·exact give_inv J _
end Rx
theorem law_do{q:Nat}{k a b c:Int}{A:List Asn}{B:RT G2→List Asn→Prop}(hs:Gl.Spec ρ Tryz.prog 16 [.pointer (some ⟨q,0,none⟩),opV k a b c] A G2 B):
  Gl.Spec ρ Tryz.prog 9 [.pointer (some ⟨q,0,none⟩),i64 k,i64 a,i64 b,i64 c] A G2 B:=by
 refine Spec.unstarred ?_
 replace hs:=Spec.starred hs
 generalize star A=A1 at*
 refine Gl.Spec.of (fun Q w hh=>F.gloaminglaw21.do.calls (some ⟨q,0,none⟩) k a b c hh) fun R=> ?_
 unfold F.gloaminglaw21.do
 try simp only[lca,lna]
 refine en_nw fun b1=> ?_
 rw[zcAns]
 refine en_call hs tks ?_
 rintro⟨e,n,⟨⟩⟩ _ ⟨M,hB,rfl⟩
 try simp only[lca,lna]
 refine en_st (b:=b1) (off:=0) rfl tk (by simp) rfl ?_
 refine en_ldg (b:=b1) (x:=(e,n,())) [] rfl tk rfl ?_
 exact en_rets (x:=(e,n,())) rfl ⟨M,hB,rfl⟩ tks ens
theorem law_is(e n m:Int):Gl.Spec ρ Tryz.prog 11 [.agg #[i64 e,i64 n],i64 m] [] RB fun r M=>r=(decide (e=0)&&decide (n=m))∧M=[]:=by
 refine Gl.Spec.of (fun Q w hh=>F.gloaminglaw21.is.calls (e,n,()) m hh) fun R=> ?_
 unfold F.gloaminglaw21.is
 refine en_nw fun b1=> ?_
 refine en_ld (k:= .int .i64) (b:=b1) (off:=0) (x:=e) (by rw[fa_mk]) tk rfl ?_
 refine en_call (law_err e) .nil ?_
 rintro r9 _ ⟨h9,rfl⟩
 try simp only[lca,lna]
 rw[h9]
 refine en_br (fun h=> ?_) (fun h=> ?_)
 ·have h:e=0:=by simpa using h
  refine en_ld (k:= .int .i64) (b:=b1) (off:=1) (x:=n) (by rw[fa_mk]) tk rfl ?_
  refine en_rets (x:=decide (e=0)&&decide (n=m)) ?_ ⟨rfl,rfl⟩ tks ens
  subst h
  show Value.bool (n==m)=Value.bool (true&&decide (n=m))
  rfl
 ·have h:e≠0:=by simpa using h
  refine en_rets (x:=decide (e=0)&&decide (n=m)) ?_ ⟨rfl,rfl⟩ tks ens
  rw[decide_eq_false h];rfl
theorem law_fails(e n m:Int):Gl.Spec ρ Tryz.prog 13 [.agg #[i64 e,i64 n],i64 m] [] RB fun r M=>r=(decide (e=m)&&decide (n=0))∧M=[]:=by
 refine Gl.Spec.of (fun Q w hh=>F.gloaminglaw21.fails.calls (e,n,()) m hh) fun R=> ?_
 unfold F.gloaminglaw21.fails
 refine en_nw fun b1=> ?_
 refine en_ld (k:= .int .i64) (b:=b1) (off:=0) (x:=e) (by rw[fa_mk]) tk rfl ?_
 refine en_call (law_err e) .nil ?_
 rintro r9 _ ⟨h9,rfl⟩
 try simp only[lca,lna]
 rw[h9]
 refine en_br (fun h=> ?_) (fun h=> ?_)
 ·have h:e=m:=by simpa using h
  refine en_ld (k:= .int .i64) (b:=b1) (off:=1) (x:=n) (by rw[fa_mk]) tk rfl ?_
  refine en_rets (x:=decide (e=m)&&decide (n=0)) ?_ ⟨rfl,rfl⟩ tks ens
  rw[decide_eq_true h];rfl
 ·have h:e≠m:=by simpa using h
  refine en_rets (x:=decide (e=m)&&decide (n=0)) ?_ ⟨rfl,rfl⟩ tks ens
  rw[decide_eq_false h];rfl
theorem rt_new(pg rate stack:Int)(h:(1≤pg∧pg≤256)∧0≤rate∧(1≤stack∧stack≤4096)):Gl.Spec ρ Tryz.prog 14 [.agg #[i64 pg,i64 rate,i64 stack]] [] PE
  fun r M=>∃(i:Pl) (q:Nat),r=(some ⟨q,0,none⟩,0,())∧M=i.Q q (Rt.new pg rate stack):=by
 refine Gl.Spec.of (fun Q w h=>F.rt.New.calls (pg,rate,stack,()) h) fun R=> ?_
 unfold F.rt.New
 try simp only[lca,lna]
 refine en_nw fun b=> ?_
 refine en_ldg (b:=b) (x:=(pg,rate,stack,())) [] rfl tk rfl ?_
 refine en_call (gc_new pg rate stack h) tks ?_
 rintro _ _ ⟨i,rfl,rfl⟩
 try simp only[lca,lna]
 refine en_brf rfl (en_nw fun q=> ?_)
 exact en_rets (x:=(some ⟨q,0,none⟩,(0:Int),())) rfl ⟨i,q,rfl,rfl⟩ tks ens
theorem law_whole21(i:Pl)(q:Nat)(x:Rt):Gl.Spec ρ Tryz.prog 15 [.pointer (some ⟨q,0,none⟩)] (i.Q q x) RB fun r M=>r=true∧M=i.Q q x:=by
 refine Gl.Spec.of (fun Q w h=>F.gloaminglaw21.Whole.calls (some ⟨q,0,none⟩) h) fun R=> ?_
 unfold F.gloaminglaw21.Whole
 try simp only[lca,lna]
 refine en_brt rfl ?_
 refine en_nn ?_
 refine en_ld (k:= .ptr) (b:=q) (off:=0) (x:=some ⟨i.p,0,none⟩) (by rw[fa_mk]) tk rfl ?_
 refine en_call (law_whole20 i x) tks ?_
 rintro x' M ⟨rfl,rfl⟩
 try simp only[lca,lna]
 exact en_rets (x:=true) rfl ⟨rfl,rfl⟩ tks ens
theorem law_fresh:Gl.Spec ρ Tryz.prog 8 [] [] (.one (.l .ptr)) fun r M=>∃(i:Pl) (q:Nat),r=some ⟨q,0,none⟩∧M=i.Q q (Rt.new 60 1 3):=by
 refine Gl.Spec.of (fun Q w h=>F.gloaminglaw21.fresh.calls h) fun R=> ?_
 unfold F.gloaminglaw21.fresh
 refine en_call (rt_new 60 1 3 (by decide)) .nil ?_
 rintro _ _ ⟨i,q,rfl,rfl⟩
 try simp only[lca,lna]
 refine en_call (law_whole21 i q (Rt.new 60 1 3)) tks ?_
 rintro x' M ⟨rfl,rfl⟩
 try simp only[lca,lna]
 refine en_brf rfl ?_
 iterate 1
  refine en_call (law_err _) .nil ?_
  rintro x' M ⟨rfl,rfl⟩
  try simp only[lca,lna]
 refine en_brf rfl ?_
 exact en_rets (x:=some ⟨q,0,none⟩) rfl ⟨i,q,rfl,rfl⟩ tks ens
abbrev Dos(ρ:FR)(i:Pl)(q:Nat)(k a b c:Int)(x:Rt)(y:Ans2):Prop:=
 Gl.Spec ρ Tryz.prog 16 [.pointer (some ⟨q,0,none⟩),opV k a b c] (i.Q q x) G2 fun r M=>r=ansOf y.1.1 y.1.2∧M=i.Q q y.2
abbrev Mays(ρ:FR)(i:Pl)(q:Nat)(k a b c:Int)(x:Rt)(y:Ans2→Prop):Prop:=
 Gl.Spec ρ Tryz.prog 16 [.pointer (some ⟨q,0,none⟩),opV k a b c] (i.Q q x) G2 fun r M=>∃z,y z∧r=ansOf z.1.1 z.1.2∧M=i.Q q z.2
theorem dos{i:Pl}{q:Nat}{k a b c:Int}{x:Rt}{y:Ans2}(h:Gl.Spec ρ Tryz.prog 16 [.pointer (some ⟨q,0,none⟩),opV k a b c] (i.Q q x) G2 fun r M=>∃n e:Int,((n,e,())=((y.1.1,y.1.2,()):RT P2)∧M=i.Q q y.2)∧r=ansOf n e):Dos ρ i q k a b c x y:=
 Spec.post h fun r M hh=>by
  obtain⟨n,e,⟨h1,h2⟩,h3⟩:=hh
  injection h1 with h1 h4
  injection h4 with h4 _
  subst h1 h4
  exact⟨h3,h2⟩
theorem mays{i:Pl}{q:Nat}{k a b c N:Int}{x:Rt}{Y:Ans2→Prop}(h:Gl.Spec ρ Tryz.prog 16 [.pointer (some ⟨q,0,none⟩),opV k a b c] (i.Q q x) G2 fun r M=>∃n e:Int,(∃y:Ans2,Y y∧y.2.Inv N∧(n,e,())=((y.1.1,y.1.2,()):RT P2)∧M=i.Q q y.2)∧r=ansOf n e):Mays ρ i q k a b c x fun y=>Y y∧y.2.Inv N:=
 Spec.post h fun r M hh=>by
  obtain⟨n,e,⟨y,g1,g2,h1,h2⟩,h3⟩:=hh
  injection h1 with h1 h4
  injection h4 with h4 _
  subst h1 h4
  exact⟨y,⟨g1,g2⟩,h3,h2⟩
variable(i:Pl)(q:Nat)(x:Rt){N:Int}(I:x.Inv N)(a b c:Int)
include I
theorem op_get(hN:N<2^50):Dos ρ i q 5 a b c x (Rx.get x a b):=dos (rt_do Tryz.func43 (by kernel_rfl) q 5 a b c (fun _ _ _ _=>rfl) (do_get i q 5 a b c x (I.ok hN)))
theorem op_set(hN:N<2^50):Dos ρ i q 6 a b c x (Rx.set x a b c):=dos (rt_do Tryz.func44 (by kernel_rfl) q 6 a b c (fun _ _ _ _=>rfl) (do_set i q 6 a b c x (I.ok hN)))
theorem op_drop(hN:N<2^50):Dos ρ i q 8 a b c x (Rx.drop x a):=dos (rt_do Tryz.func46 (by kernel_rfl) q 8 a b c (fun _ _ _ _=>rfl) (do_drop i q 8 a b c x (I.ok hN)))
theorem op_root(hN:N<2^50):Dos ρ i q 9 a b c x (Rx.root x a b):=dos (rt_do Tryz.func47 (by kernel_rfl) q 9 a b c (fun _ _ _ _=>rfl) (do_root i q 9 a b c x (I.ok hN)))
theorem op_take(hN:N<2^50):Dos ρ i q 10 a b c x (Rx.take x a):=dos (rt_do Tryz.func48 (by kernel_rfl) q 10 a b c (fun _ _ _ _=>rfl) (do_take i q 10 a b c x (I.ok hN)))
theorem op_refer(hN:N+10<2^49):Mays ρ i q 11 a b c x fun y=>Rx.referR x a b c y∧y.2.Inv (N+10):=mays (rt_do Tryz.func49 (by kernel_rfl) q 11 a b c (fun _ _ _ _=>rfl) (do_refer i q 11 a b c x I hN))
theorem op_enqueue(hN:N<2^50):Dos ρ i q 14 a b c x (Rx.enqueue x a):=dos (rt_do Tryz.func52 (by kernel_rfl) q 14 a b c (fun _ _ _ _=>rfl) (do_enqueue i q 14 a b c x (I.ok hN) I.w.r.qb))
theorem op_open(hN:N<2^50):Dos ρ i q 15 a b c x (Rx.open' x):=dos (rt_do Tryz.func53 (by kernel_rfl) q 15 a b c (fun _ _ _ _=>rfl) (do_open i q 15 a b c x (I.ok hN)))
theorem op_poll(hN:N<2^50):Dos ρ i q 16 a b c x (Rx.poll x a):=dos (rt_do Tryz.func54 (by kernel_rfl) q 16 a b c (fun _ _ _ _=>rfl) (do_poll i q 16 a b c x (I.ok hN)))
theorem op_count(hN:N<2^50):Dos ρ i q 21 a b c x (Rx.count x a):=dos (rt_do Tryz.func59 (by kernel_rfl) q 21 a b c (fun _ _ _ _=>rfl) (do_count i q 21 a b c x (I.ok hN)))
theorem op_list(hN:N+10<2^49){k kind:Int}(hk:(k=3∧kind=2)∨(k=4∧kind=3)):Mays ρ i q k a b c x fun y=>Rx.listR x kind a y∧y.2.Inv (N+10):=
 mays (rt_doL (B:=fun r M=>∃y:Ans2,Rx.listR x kind a y∧y.2.Inv (N+10)∧r=(y.1.1,y.1.2,())∧M=i.Q q y.2) q k kind a b c hk fun b1 b2=>Spec.post (Spec.starred (do_list i q b1 b2 kind k a b c x (by omega) I hN)) fun r M hh=>by
  obtain⟨M',⟨y,g1,g2,h1,h2⟩,h3⟩:=hh
  exact⟨i.Q q y.2,⟨y,g1,g2,h1,rfl⟩,by rw[h3,h2]⟩)
end Go.Proofs.YtfepdmpplahloaaGreat
namespace Go.Proofs.YtfepdmpplahloaaGreat
open Go Go.Gl
variable{ρ0 ρ:FR}{L L':List Asn}{Post:Value→List Asn→Prop}{T:Tree}
namespace Hn
def Hs(l:List Slot):List Slot:=l++List.replicate (512-l.length) (0,0)
theorem hs_len{l:List Slot}(h:l.length≤512):(Hs l).length=512:=by unfold Hs;rw[List.length_append,List.length_replicate];omega
theorem hs_at(l:List Slot)(t:Nat):at' (Hs l) t=l.getD t (0,0):=by
 unfold at' Hs
 rw[List.getD_eq_getElem?_getD,List.getD_eq_getElem?_getD]
 by_cases h:t<l.length
 ·rw[List.getElem?_append_left h]
 ·rw[List.getElem?_append_right (by omega),List.getElem?_eq_none (by omega:l.length≤t),List.getElem?_replicate]
  split<;>rfl
theorem hs_get{l:List Slot}{j:Nat}{e:Slot}(h:l[j]? =some e):at' (Hs l) j=e:=by rw[hs_at,List.getD_eq_getElem?_getD,h];rfl
theorem hs_set{l:List Slot}{j:Nat}(h:j<l.length)(e:Slot):(Hs l).set j e=Hs (l.set j e):=by
 unfold Hs
 rw[List.set_append_left _ _ h,List.length_set]
theorem hs_push{l:List Slot}(h:l.length<512)(e:Slot):(Hs l).set l.length e=Hs (l++[e]):=by
 unfold Hs
 rw[List.set_append_right _ _ (Nat.le_refl _),Nat.sub_self,List.length_append,List.append_assoc]
 congr 1
 obtain⟨n,hn⟩:∃n,512-l.length=n+1:=⟨512-l.length-1,by omega⟩
 rw[hn,show 512-(l.length+[e].length)=n by rw[List.length_singleton];omega]
 rfl
theorem hs_free{l:List Slot}(h:∀e∈l,e.2≠0)(hl:l.length<512):free (Hs l)=some l.length:=by
 refine free_is (by rw[hs_len (by omega)];exact hl) ?_ fun j hj=> ?_
 ·rw[hs_at,List.getD_eq_getElem?_getD,List.getElem?_eq_none (Nat.le_refl _)];rfl
 ·rw[hs_at,List.getD_eq_getElem?_getD,List.getElem?_eq_getElem hj];exact h _ (List.getElem_mem hj)
theorem hs_full{l:List Slot}(h:∀e∈l,e.2≠0)(hl:l.length=512):free (Hs l)=none:=by
 refine free_isN fun j hj=> ?_
 rw[hs_len (by omega)]at hj
 rw[hs_at,List.getD_eq_getElem?_getD,List.getElem?_eq_getElem (by omega)];exact h _ (List.getElem_mem _)
theorem hs_free'{l:List Slot}{j:Nat}{t:Int}(hj:l[j]? =some (t,0))(h:∀i,i<j→(l.getD i (0,0)).2≠0)(hl:l.length≤512):free (Hs l)=some j:=by
 have hjl:=getElem?_lt hj
 refine free_is (by rw[hs_len hl];omega) (by rw[hs_get hj]) fun i hi=> ?_
 rw[hs_at];exact h i hi
theorem hs_hold{l:List Slot}(h:∀e∈l,e.2≠0)(hl:l.length<512){a:Int}(ha:0<a):holdR (Hs l) a=(((l.length:Nat):Int)+512,0)∧holdS (Hs l) a=Hs (l++[(0,a)]):=by
 have hf:=hs_free h hl
 have h0:at' (Hs l) l.length=(0,0):=by rw[hs_at,List.getD_eq_getElem?_getD,List.getElem?_eq_none (Nat.le_refl _)];rfl
 unfold holdR holdS told
 rw[if_neg (by omega),if_neg (by omega),hf]
 dsimp only
 rw[h0,hs_push hl]
 exact⟨rfl,rfl⟩
theorem hs_hold'{l:List Slot}{j:Nat}{t:Int}(hj:l[j]? =some (t,0))(h:∀i,i<j→(l.getD i (0,0)).2≠0)(hl:l.length≤512){a:Int}(ha:0<a):holdR (Hs l) a=((j:Int)+512*(t+1),0)∧holdS (Hs l) a=Hs (l.set j (t,a)):=by
 have hf:=hs_free' hj h hl
 unfold holdR holdS told
 rw[if_neg (by omega),if_neg (by omega),hf]
 dsimp only
 rw[hs_get hj,hs_set (getElem?_lt hj)]
 exact⟨rfl,rfl⟩
theorem hs_find{l:List Slot}{j:Nat}{t a x:Int}(hj:l[j]? =some (t,a))(ha:a≠0)(ht:0≤t)(hl:l.length≤512)(hx:x=(j:Int)+512*(t+1)):find (Hs l) x=some j:=by
 have hjl:=getElem?_lt hj
 have e:(x%512).toNat=j:=by omega
 unfold find
 rw[if_neg (by omega),e]
 unfold told
 rw[hs_get hj,if_pos ⟨ha,hx.symm⟩]
theorem hs_held{l:List Slot}{j:Nat}{t a x:Int}(hj:l[j]? =some (t,a))(ha:a≠0)(ht:0≤t)(hl:l.length≤512)(hx:x=(j:Int)+512*(t+1)):held (Hs l) x=(a,0):=by
 unfold held
 rw[hs_find hj ha ht hl hx]
 dsimp only
 rw[hs_get hj]
theorem hs_drop{l:List Slot}{j:Nat}{t a x:Int}(hj:l[j]? =some (t,a))(ha:a≠0)(ht:0≤t)(hl:l.length≤512)(hx:x=(j:Int)+512*(t+1)):dropE (Hs l) x=0∧dropS (Hs l) x=Hs (l.set j (t+1,0)):=by
 unfold dropE dropS
 rw[hs_find hj ha ht hl hx]
 dsimp only
 rw[hs_get hj,hs_set (getElem?_lt hj)]
 exact⟨rfl,rfl⟩
theorem hs_new:List.replicate 512 (0,0)=Hs []:=rfl
end Hn
namespace Rx
theorem made_ok{mk:Rt→Ans2}{x:Rt}{y:Ans2}(h:MadeR mk x y)(hf:Hn.free x.hs≠none)(he:(mk x).1.2=0):y=(giveR (mk x).2 (mk x).1.1,giveS (mk x).2 (mk x).1.1):=by
 unfold MadeR at h
 rw[if_neg hf]at h
 obtain⟨z,hz,rfl⟩:=h
 rcases hz with ⟨_,rfl⟩|⟨h3,_⟩
 ·rw[if_neg (fun g=>g he)]
 ·rw[he]at h3;cases h3
theorem made_full{mk:Rt→Ans2}{x:Rt}{y:Ans2}(h:MadeR mk x y)(hf:Hn.free x.hs=none):y=((0,3),x):=by
 unfold MadeR at h
 rwa [if_pos hf]at h
theorem give_new{x:Rt}{l:List Hn.Slot}(hx:x.hs=Hn.Hs l)(h:∀e∈l,e.2≠0)(hl:l.length<512){a:Int}(ha:0<a):giveR x a=(((l.length:Nat):Int)+512,0)∧giveS x a={x with hs:=Hn.Hs (l++[(0,a)])}:=by
 obtain⟨h1,h2⟩:=Hn.hs_hold h hl ha
 have ha0:a≠0:=by omega
 unfold giveR giveS
 rw[if_neg ha0,if_neg ha0,hx,if_neg (by rw[Hn.hs_free h hl];simp),h1,h2]
 exact⟨rfl,rfl⟩
theorem give_at{x:Rt}{l:List Hn.Slot}(hx:x.hs=Hn.Hs l){j:Nat}{t:Int}(hj:l[j]? =some (t,0))(h:∀i,i<j→(l.getD i (0,0)).2≠0)(hl:l.length≤512){a:Int}(ha:0<a):giveR x a=((j:Int)+512*(t+1),0)∧giveS x a={x with hs:=Hn.Hs (l.set j (t,a))}:=by
 obtain⟨h1,h2⟩:=Hn.hs_hold' hj h hl ha
 have ha0:a≠0:=by omega
 unfold giveR giveS
 rw[if_neg ha0,if_neg ha0,hx,if_neg (by rw[Hn.hs_free' hj h hl];simp),h1,h2]
 exact⟨rfl,rfl⟩
def refsH(cs:List Cls)(h:Hd):List Int:=if h.k=1 then(match Sp.clsAt cs h.c with |some c=>c.2|none=>[])else if h.k=2 then Sp.upto h.n.toNat else if h.k=4 then[2]else[]
theorem refs_is{S:Spc}{cs:List Cls}{a:Int}{h:Hd}(hh:Ob.head S a=some h):Ob.refs S cs a=refsH cs h:=by unfold Ob.refs refsH;rw[hh];rfl
variable{x:Rt}{os:List Ob1}{o:Ob1}{h k v:Int}
theorem fld_in(H:Bo x.S x.cs os)(ho:o∈os)(hk4:o.h.k≠4){j:Nat}(hj:(j:Int)<o.h.n):fld x o.a j=(o.ws.getD j 0,decide ((j:Int)∈refsH x.cs o.h),0):=by
 unfold fld
 rw[H.head o ho]
 dsimp only
 rw[if_neg hk4,H.get o ho j hj,if_neg (fun g=>g rfl),refs_is (H.head o ho)]
theorem by_is{f:Int→Ans2}{a:Int}(hh:Hn.held x.hs h=(a,0)):by' x h f=f a:=by
 unfold by' hld
 rw[if_neg (show¬(false=true∧h=0)from fun g=>by cases g.1),hh,if_neg (fun g=>g rfl)]
theorem byN_is{f:Int→Ans2}{a:Int}(h0:h≠0)(hh:Hn.held x.hs h=(a,0)):byN x h f=f a:=by
 unfold byN hld
 rw[if_neg (show¬(true=true∧h=0)from fun g=>h0 g.2),hh,if_neg (fun g=>g rfl)]
theorem byN_zero{f:Int→Ans2}:byN x 0 f=f 0:=by
 unfold byN hld
 rw[if_pos (show true=true∧(0:Int)=0 from⟨rfl,rfl⟩),if_neg (fun g=>g rfl)]
theorem get_adr(H:Bo x.S x.cs os)(ho:o∈os)(hh:Hn.held x.hs h=(o.a,0))(hk4:o.h.k≠4){j:Nat}(hj:(j:Int)<o.h.n)(hr:(j:Int)∈refsH x.cs o.h):get x h j=(giveR x (o.ws.getD j 0),giveS x (o.ws.getD j 0)):=by
 unfold get
 rw[by_is hh,fld_in H ho hk4 hj,if_neg (fun g=>g.elim (fun g=>g rfl) (fun g=>by rw[decide_eq_true hr]at g;cases g))]
theorem set_adr(H:Bo x.S x.cs os)(ho:o∈os)(hh:Hn.held x.hs h=(o.a,0))(hk4:o.h.k≠4){j:Nat}(hj:(j:Int)<o.h.n)(hr:(j:Int)∈refsH x.cs o.h){c a:Int}(hc:(c=0∧a=0)∨(c≠0∧Hn.held x.hs c=(a,0))):set x h j c=((0,0),{x with S:=(Ob.put x.S o.a j a).2}):=by
 unfold set
 rw[by_is hh]
 have e:∀f:Int→Ans2,byN x c f=f a:=fun f=>by
  rcases hc with ⟨rfl,rfl⟩|⟨h1,h2⟩
  ·exact byN_zero
  ·exact byN_is h1 h2
 rw[e,fld_in H ho hk4 hj,if_neg (fun g=>g rfl),if_neg (fun g=>by rw[decide_eq_true hr]at g;cases g),H.put0 ho hj a]
end Rx
end Go.Proofs.YtfepdmpplahloaaGreat
namespace Go.Proofs.YtfepdmpplahloaaGreat
open Go Go.Gl
variable{ρ0 ρ:FR}{L L':List Asn}{Post:Value→List Asn→Prop}{T:Tree}
abbrev RZ(cs:List Cls)(rows:List (List Int))(ser:Int)(S:Spc)(l:List Hn.Slot)(ro wa pe:List Int)(ck rn:Int):Rt:=⟨S,cs,rows,ser,Hn.Hs l,ro,wa,pe,60,1,3,ck,rn⟩
theorem rz_new:Rt.new 60 1 3=RZ [] [] 0 (Sp.newSpc 60) [] (List.replicate 16 0) [] [] 0 0:=by
 unfold Rt.new
 rw[Hn.hs_new];rfl
theorem rz_inv0:(RZ [] [] 0 (Sp.newSpc 60) [] (List.replicate 16 0) [] [] 0 0).Inv 0:=rz_new▸Rt.Inv.new (pg:=60) (rate:=1) (stack:=3) (by decide) (by decide)
section
variable(i:Pl)(q:Nat){N:Int}{cs:List Cls}{rows:List (List Int)}{ser:Int}{S:Spc}{l:List Hn.Slot}{ro wa pe:List Int}{ck rn:Int}{os:List Ob1}
theorem z_make(bx:Bx S cs 60 os)(I:(RZ cs rows ser S l ro wa pe ck rn).Inv N)(hl:∀e∈l,e.2≠0)(hl5:l.length<512)(hn:os.length+1<60){h:Hd}(hm:Ob.may cs h=0)(h0:0≤h.n)(h1:h.n≤63){y:Ans2}(hy:Rx.MadeR (Rx.mk h) (RZ cs rows ser S l ro wa pe ck rn) y):
  ∃(a:Int) (S':Spc),y=((((l.length:Nat):Int)+512,0),RZ cs rows ser S' (l++[(0,a)]) ro wa pe ck rn)∧0<a∧Bx S' cs 60 (os++[⟨a,h,List.replicate h.n.toNat 0⟩]):=by
 obtain⟨e0,b1⟩:=bx.make hn hm (need1 (by omega) (by omega))
 have hpos:0<(Ob.make S cs h).1:=b1.bo.pos (List.mem_append_right _ (List.mem_singleton.mpr rfl))
 have hf:Hn.free (Hn.Hs l)≠none:=by rw[Hn.hs_free hl hl5];simp
 have:=Rx.made_ok hy hf e0
 obtain⟨g1,g2⟩:=Rx.give_new (x:=(Rx.mk h (RZ cs rows ser S l ro wa pe ck rn)).2) (l:=l) rfl hl hl5 (a:=(Ob.make S cs h).1) hpos
 change y=(Rx.giveR (Rx.mk h (RZ cs rows ser S l ro wa pe ck rn)).2 (Ob.make S cs h).1,Rx.giveS (Rx.mk h (RZ cs rows ser S l ro wa pe ck rn)).2 (Ob.make S cs h).1)at this
 rw[g1,g2]at this
 exact⟨(Ob.make S cs h).1,(Ob.make S cs h).2.2,this,hpos,b1⟩
theorem z_list(bx:Bx S cs 60 os)(I:(RZ cs rows ser S l ro wa pe ck rn).Inv N)(hN:N+10<2^49)(hl:∀e∈l,e.2≠0)(hl5:l.length<512)(hn:os.length+1<60){k kind:Int}(hk:(k=3∧kind=2)∨(k=4∧kind=3))(n b c:Int)(n0:0≤n)(n1:n≤63){hd:Int}(hhd:hd=((l.length:Nat):Int)+512):
  Gl.Spec ρ Tryz.prog 16 [.pointer (some ⟨q,0,none⟩),opV k n b c] (i.Q q (RZ cs rows ser S l ro wa pe ck rn)) G2
  fun r M=>∃(a:Int) (S':Spc),r=((0:Int),hd,())∧0<a∧Bx S' cs 60 (os++[⟨a,⟨kind,0,n,false⟩,List.replicate n.toNat 0⟩])∧(RZ cs rows ser S' (l++[(0,a)]) ro wa pe ck rn).Inv (N+10)∧M=i.Q q (RZ cs rows ser S' (l++[(0,a)]) ro wa pe ck rn):=by
 refine Spec.post (op_list i q _ I n b c hN hk) fun r M hh=> ?_
 obtain⟨y,⟨hy,Iy⟩,rfl,rfl⟩:=hh
 unfold Rx.listR at hy
 rw[if_neg (by omega)]at hy
 have hm:Ob.may cs ⟨kind,0,n,false⟩=0:=by
  rcases hk with ⟨_,rfl⟩|⟨_,rfl⟩
  ·exact may_box cs n0 (by omega)
  ·exact may_data cs n0 (by omega)
 obtain⟨a,S',rfl,ha,b1⟩:=z_make bx I hl hl5 hn hm n0 n1 hy
 exact⟨a,S',by rw[hhd];rfl,ha,b1,Iy,rfl⟩
theorem z_refer{S:Spc}{os:List Ob1}(bx:Bx S [] 60 os)(I:(RZ [] rows ser S l ro wa pe ck rn).Inv N)(hN:N+10<2^49)(hl:∀e∈l,e.2≠0)(hl5:l.length<512)(hn:os.length+1<60){w h o qu:Int}(hw:1≤w∧w≤3)(hq: -1≤qu∧qu<rows.length)(hq3:w=3→0≤qu)(hh:Hn.held (Hn.Hs l) h=(o,0))(ho:∃x∈os,x.a=o){hd:Int}(hhd:hd=((l.length:Nat):Int)+512):
  Gl.Spec ρ Tryz.prog 16 [.pointer (some ⟨q,0,none⟩),opV 11 w h qu] (i.Q q (RZ [] rows ser S l ro wa pe ck rn)) G2
  fun r M=>∃(a:Int) (S':Spc),r=((0:Int),hd,())∧0<a∧Bx S' [] 60 (os++[⟨a,⟨4,w,5,false⟩,[o,qu+1,0,ck,ser+1]⟩])∧(RZ [] rows (ser+1) S' (l++[(0,a)]) ro wa pe ck rn).Inv (N+10)∧M=i.Q q (RZ [] rows (ser+1) S' (l++[(0,a)]) ro wa pe ck rn):=by
 refine Spec.post (op_refer i q _ I w h qu hN) fun r M hx=> ?_
 obtain⟨y,⟨hy,Iy⟩,rfl,rfl⟩:=hx
 have e1:Rx.hld (RZ [] rows ser S l ro wa pe ck rn) h false=(o,0):=by
  unfold Rx.hld
  rw[if_neg (show¬(false=true∧h=0)from fun g=>by cases g.1)];exact hh
 have e2:Rx.refersE (RZ [] rows ser S l ro wa pe ck rn) w qu=0:=by
  unfold Rx.refersE
  rw[if_neg (by omega),if_neg (by omega),if_neg (by omega),if_neg (show¬qu≥((rows.length:Nat):Int) by omega),if_neg (fun g=>by have:=hq3 g.1;omega)]
 unfold Rx.referR at hy
 rw[e1,e2,if_neg (fun g=>g rfl),if_neg (fun g=>g rfl)]at hy
 obtain⟨a,S',er,ha,b1⟩:=bx.refer (rows:=rows) (n:=ser) (c:=w) (o:=o) (q:=qu) (t:=ck) hn hw.1 hw.2 hq.1 hq.2 hq3 ho
 have hf:Hn.free (Hn.Hs l)≠none:=by rw[Hn.hs_free hl hl5];simp
 have emk:Rx.rmk w o qu (RZ [] rows ser S l ro wa pe ck rn)=((a,0),RZ [] rows (ser+1) S' l ro wa pe ck rn):=by
  unfold Rx.rmk
  rw[show Rf.refer (RZ [] rows ser S l ro wa pe ck rn).S (RZ [] rows ser S l ro wa pe ck rn).cs (RZ [] rows ser S l ro wa pe ck rn).rows (RZ [] rows ser S l ro wa pe ck rn).ser w o qu (RZ [] rows ser S l ro wa pe ck rn).ck=(a,0,S',ser+1)from er]
 have:=Rx.made_ok hy hf (by rw[emk])
 rw[emk]at this
 obtain⟨g1,g2⟩:=Rx.give_new (x:=RZ [] rows (ser+1) S' l ro wa pe ck rn) (l:=l) rfl hl hl5 (a:=a) ha
 rw[g1,g2]at this
 subst this
 exact⟨a,S',by rw[hhd];rfl,ha,b1,Iy,rfl⟩
end
theorem en_dos{i:Pl}{q:Nat}{k a b c:Int}{x:Rt}{y:Ans2}{K:RT G2→Tree}(hs:Dos ρ i q k a b c x y)(t:Takes L (i.Q q x) L')(h:Tr ρ0 ρ (i.Q q y.2++L') (K (ansOf y.1.1 y.1.2)) Post):
  Tr ρ0 ρ L (call Tryz.prog 9 [.pointer (some ⟨q,0,none⟩),.int .i64 k,.int .i64 a,.int .i64 b,.int .i64 c] G2 K) Post:=by
 refine en_call (law_do hs) t ?_
 rintro _ _ ⟨rfl,rfl⟩
 exact h
theorem en_is{e n m:Int}{K:Bool→Tree}(h:Tr ρ0 ρ L (K (decide (e=0)&&decide (n=m))) Post):Tr ρ0 ρ L (call Tryz.prog 11 [.agg #[.int .i64 e,.int .i64 n],.int .i64 m] (.one (.l .bool)) K) Post:=by
 refine en_call (law_is e n m) .nil ?_
 rintro _ _ ⟨rfl,rfl⟩
 exact h
theorem en_isP{i:Pl}{q:Nat}{k a b c n:Int}{x x':Rt}{T1 T2:Tree}(hs:Dos ρ i q k a b c x ((n,0),x'))(t:Takes L (i.Q q x) L')(h:Tr ρ0 ρ (i.Q q x'++L') T2 Post):
  Tr ρ0 ρ L (call Tryz.prog 9 [.pointer (some ⟨q,0,none⟩),.int .i64 k,.int .i64 a,.int .i64 b,.int .i64 c] G2 fun r=>call Tryz.prog 11 [.agg #[.int .i64 r.1,.int .i64 r.2.1],.int .i64 n] (.one (.l .bool)) fun r2=>br r2 T2 T1) Post:=by
 refine en_dos hs t (en_is ?_)
 refine en_brt ?_ h
 show(decide ((0:Int)=0)&&decide ((if(0:Int)≠0 then 0 else n)=n))=true
 simp
theorem aw_x:∃x0:Rt,Rt.new 2 0 1=x0∧x0.Inv 0∧(Rx.mk ⟨3,0,3,false⟩ x0).1=(64,0)∧x0.hs=Hn.Hs []:=⟨_,rfl,Rt.Inv.new (by decide) (by decide),by kernel_rfl,Hn.hs_new⟩
theorem law_awake21:Gl.Spec ρ Tryz.prog 12 [] [] RB fun r M=>r=true∧M=[]:=by
 refine Gl.Spec.of (fun Q w h=>F.gloaminglaw21.awake.calls h) fun R=> ?_
 unfold F.gloaminglaw21.awake
 obtain⟨x0,e0,I,hm,hhs⟩:=aw_x
 refine en_call (rt_new 2 0 1 (by decide)) .nil ?_
 rintro _ _ ⟨i,q,rfl,rfl⟩
 rw[e0]
 try simp only[lca,lna]
 refine en_call (law_whole21 i q x0) tks ?_
 rintro x' M ⟨rfl,rfl⟩
 try simp only[lca,lna]
 refine en_brf rfl ?_
 iterate 1
  refine en_call (law_err _) .nil ?_
  rintro x' M ⟨rfl,rfl⟩
  try simp only[lca,lna]
 refine en_brf rfl ?_
 refine en_call (rt_do0 q 0 0 0 0 (fun _ _ _ _=>rfl)) .nil ?_
 rintro _ _ ⟨rfl,rfl⟩
 try simp only[lca,lna]
 refine en_call (op_list i q x0 I 3 0 0 (by decide) (k:=4) (kind:=3) (.inr ⟨rfl,rfl⟩)) tks ?_
 rintro _ _ ⟨y,⟨hy,_⟩,rfl,rfl⟩
 try simp only[lca,lna]
 unfold Rx.listR at hy
 rw[if_neg (by decide)]at hy
 have hf:Hn.free x0.hs≠none:=by
  rw[hhs,Hn.hs_free (by simp) (by decide)];simp
 have hy:=Rx.made_ok hy hf (congrArg Prod.snd hm)
 have h1:(Rx.mk ⟨3,0,3,false⟩ x0).1.1=64:=congrArg Prod.fst hm
 rw[h1]at hy
 obtain⟨g1,g2⟩:=Rx.give_new (x:=(Rx.mk ⟨3,0,3,false⟩ x0).2) (l:=[]) hhs (by simp) (by decide) (a:=64) (by decide)
 rw[g1,g2]at hy
 subst hy
 refine en_nw fun b6=>en_nw fun b7=> ?_
 rw[zcAns]
 refine en_st (b:=b6) (off:=0) rfl tk (by simp) rfl ?_
 refine en_st (b:=b7) (off:=0) rfl tk (by simp) rfl ?_
 refine en_ld (k:= .int .i64) (b:=b6) (off:=0) (x:=1) (by rw[fa_mk]) tk rfl ?_
 iterate 1
  refine en_call (law_err _) .nil ?_
  rintro x' M ⟨rfl,rfl⟩
  try simp only[lca,lna]
 refine en_brt rfl ?_
 refine en_ld (k:= .int .i64) (b:=b7) (off:=0) (x:=0) (by rw[fa_mk]) tk rfl ?_
 iterate 1
  refine en_call (law_err _) .nil ?_
  rintro x' M ⟨rfl,rfl⟩
  try simp only[lca,lna]
 refine en_brt rfl ?_
 refine en_ld (k:= .int .i64) (b:=b7) (off:=1) (x:=512) (by rw[fa_mk]) tk rfl ?_
 exact en_rets (x:=true) rfl ⟨rfl,rfl⟩ tks ens
theorem z_root{cs:List Cls}{rows:List (List Int)}{ser:Int}{S:Spc}{l:List Hn.Slot}{ro pe wa:List Int}{ck rn k h a:Int}(hk:0≤k∧k<16)(ha:0≤a)(hh:(h=0∧a=0)∨(h≠0∧Hn.held (Hn.Hs l) h=(a,0))):
  Rx.root (RZ cs rows ser S l ro wa pe ck rn) k h=((0,0),RZ cs rows ser S l (ro.set k.toNat a) wa pe ck rn):=by
 have e:∀f:Int→Ans2,Rx.byN (RZ cs rows ser S l ro wa pe ck rn) h f=f a:=fun f=>by
  rcases hh with ⟨rfl,rfl⟩|⟨h1,h2⟩
  ·exact Rx.byN_zero
  ·exact Rx.byN_is h1 h2
 unfold Rx.root
 rw[e]
 unfold Rx.placeE Rx.placeS
 rw[if_pos ⟨hk,ha⟩,if_pos ⟨hk,ha⟩]
end Go.Proofs.YtfepdmpplahloaaGreat
