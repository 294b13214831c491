/- The runtime's operations by their kinds; what laws of the runtime go by. -/
import Derived.Test.YtfepdmpplahloaaGreatGsRtA
import Derived.Test.YtfepdmpplahloaaGreatGsBo
import Derived.Test.YtfepdmpplahloaaGreatGsTl21
set_option linter.unusedSimpArgs false
set_option linter.unusedVariables false
namespace Go.Proofs.YtfepdmpplahloaaGreat
open Go Go.Gl
variable{ρ0 ρ:FR}{L L':List aA}{Post:Value→List aA→Prop}{T:Tree}
namespace Rx
def dH(x:Rt)(a c:Int):Int:=if a<1 then 1 else if a>3 then 1 else if c< -1 then 2 else if c≥x.rows.length then 2 else if a=3∧c<0 then 1 else 0
def zY(a o c:Int)(y:Rt):bg:=(((Rf.aY y.S y.cs y.rows y.aU a o c y.ck).1,(Rf.aY y.S y.cs y.rows y.aU a o c y.ck).2.1),{y with S:=(Rf.aY y.S y.cs y.rows y.aU a o c y.ck).2.2.1,aU:=(Rf.aY y.S y.cs y.rows y.aU a o c y.ck).2.2.2})
def eV(x:Rt)(a b c:Int)(y:bg):Prop:=if(gA x b false).2≠0 then y=((0,(gA x b false).2),x)else if dH x a c≠0 then y=((0,dH x a c),x)else dU (zY a (gA x b false).1 c) x y
end Rx
theorem yr(i:Pl)(q:Nat)(k a b c:Int)(x:Rt):Gl.Spec ρ Tryz.prog 85 [.pointer (some ⟨q,0,none⟩),uT k a b c] (i.Q q x) R1 fun r M=>r=Rx.dH x a c∧M=i.Q q x:=by
 refine Gl.Spec.of (fun Q w hh=>F.rt.Runtime.nB.calls (some ⟨q,0,none⟩) (k,a,b,c,()) hh) fun R=> ?_
 unfold F.rt.Runtime.nB
 try simp only[aq,al]
 unfold Rx.dH
 refine ax fun b1=> ?_
 refine ai (k:= .int .i64) (b:=b1) (off:=1) (x:=a) (by rw[af]) tk rfl ?_
 refine aj (fun e=> ?_) (fun e=> ?_)
 ·have e:a<1:=of_decide_eq_true e
  rw[if_pos e]
  exact aa (x:=(1:Int)) rfl ⟨rfl,rfl⟩ ag aB
 have e:¬a<1:=of_decide_eq_false e
 rw[if_neg e]
 refine ai (k:= .int .i64) (b:=b1) (off:=1) (x:=a) (by rw[af]) tk rfl ?_
 refine aj (fun e=> ?_) (fun e=> ?_)
 ·have e:a>3:=of_decide_eq_true e
  rw[if_pos e]
  exact aa (x:=(1:Int)) rfl ⟨rfl,rfl⟩ ag aB
 have e:¬a>3:=of_decide_eq_false e
 rw[if_neg e]
 refine cL.op (p:=i.r) (hp:=i.b) (rows:=x.rows) (n:=x.aU) tk fun qq=> ?_
 refine aK (aR [aw b1 [i64 k,i64 a,i64 b,i64 c],aw q [.pointer (some ⟨i.p,0,none⟩)],aw i.p (i.cs x),aw i.r [.pointer (some ⟨qq,0,none⟩),i64 x.aU]] ag ?_)
 refine ar (k:= .int .i64) (b:=b1) (off:=3) (x:=c) (by rw[af]) tk rfl ?_
 refine aj (fun e=> ?_) (fun e=> ?_)
 ·have e:c< -1:=of_decide_eq_true e
  rw[if_pos e]
  refine Tr.close ag (cL.cl (p:=i.r) (q:=qq) (hp:=i.b) (rows:=x.rows) (n:=x.aU)) ?_
  exact aa (x:=(2:Int)) rfl ⟨rfl,rfl⟩ ag aB
 have e:¬c< -1:=of_decide_eq_false e
 rw[if_neg e]
 refine ar (k:= .int .i64) (b:=b1) (off:=3) (x:=c) (by rw[af]) tk rfl ?_
 refine ah (ar (k:= .ptr) (b:=q) (off:=0) (x:=some ⟨i.p,0,none⟩) (by rw[af]) tk rfl ?_)
 refine ah (ar (k:= .ptr) (b:=i.p) (off:=0) (x:=some ⟨i.r,0,none⟩) (by rw[af]) tk rfl ?_)
 refine ah (ar (k:= .ptr) (b:=i.r) (off:=0) (x:=some ⟨qq,0,none⟩) (by rw[af]) tk rfl ?_)
 try simp only[aq,al]
 refine ae (iI qq i.b x.rows) ag ?_
 rintro x' M ⟨rfl,rfl⟩
 try simp only[aq,al]
 refine aN ag ?_
 refine Tr.close ag (cL.cl (p:=i.r) (q:=qq) (hp:=i.b) (rows:=x.rows) (n:=x.aU)) ?_
 refine aj (fun e=> ?_) (fun e=> ?_)
 ·have e:c≥x.rows.length:=of_decide_eq_true e
  rw[if_pos e]
  exact aa (x:=(2:Int)) rfl ⟨rfl,rfl⟩ ag aB
 have e:¬c≥x.rows.length:=of_decide_eq_false e
 rw[if_neg e]
 refine ai (k:= .int .i64) (b:=b1) (off:=1) (x:=a) (by rw[af]) tk rfl ?_
 refine aj (fun e1=> ?_) (fun e1=> ?_)
 ·have e1:a=3:=by simpa using e1
  refine ai (k:= .int .i64) (b:=b1) (off:=3) (x:=c) (by rw[af]) tk rfl ?_
  refine aj (fun e2=> ?_) (fun e2=> ?_)
  ·rw[if_pos ⟨e1,of_decide_eq_true e2⟩]
   exact aa (x:=(1:Int)) rfl ⟨rfl,rfl⟩ ag aB
  ·rw[if_neg (fun g=>(of_decide_eq_false e2) g.2)]
   exact aa (x:=(0:Int)) rfl ⟨rfl,rfl⟩ ag aB
 ·have e1:a≠3:=by simpa using e1
  rw[if_neg (fun g=>e1 g.1)]
  exact aa (x:=(0:Int)) rfl ⟨rfl,rfl⟩ ag aB
abbrev rL(b1 b2 b6 q:Nat)(k a b c o:Int):List aA:=[aw b1 [.pointer (some ⟨q,0,none⟩)],aw b2 [i64 k,i64 a,i64 b,i64 c],aw b6 [i64 o]]
theorem yy(i:Pl)(q b1 b2 b6:Nat)(k a b c o:Int)(y:Rt){M:Int}(I:y.Inv M)(hM:M<2^49):Gl.Spec ρ Tryz.prog 87 [.pointer (some ⟨b1,0,none⟩),.pointer (some ⟨b2,0,none⟩),.pointer (some ⟨b6,0,none⟩)] (star (rL b1 b2 b6 q k a b c o)::i.Q q y) P2
  fun r L=>r=((Rx.zY a o c y).1.1,(Rx.zY a o c y).1.2,())∧L=star (rL b1 b2 b6 q k a b c o)::i.Q q (Rx.zY a o c y).2:=by
 refine Gl.Spec.of (fun Q w hh=>F.rt.Runtime.kQ.calls ⟨b1,0,none⟩ ⟨b2,0,none⟩ ⟨b6,0,none⟩ hh) fun R=> ?_
 unfold F.rt.Runtime.kQ
 try simp only[aq,al]
 refine Tr.za (M:=rL b1 b2 b6 q k a b c o) tk ?_
 refine aK (aR [aw b1 [.pointer (some ⟨q,0,none⟩)],aw b2 [i64 k,i64 a,i64 b,i64 c],aw b6 [i64 o],aw q [.pointer (some ⟨i.p,0,none⟩)],aw i.p (i.cs y)] ag ?_)
 refine ar (k:= .ptr) (b:=b1) (off:=0) (x:=some ⟨q,0,none⟩) rfl tk rfl ?_
 refine ah (ar (k:= .ptr) (b:=q) (off:=0) (x:=some ⟨i.p,0,none⟩) (by rw[af]) tk rfl ?_)
 refine ah (ar (k:= .ptr) (b:=i.p) (off:=0) (x:=some ⟨i.r,0,none⟩) (by rw[af]) tk rfl ?_)
 refine ar (k:= .int .i64) (b:=b2) (off:=1) (x:=a) (by rw[af]) tk rfl ?_
 refine ar (k:= .int .i64) (b:=b6) (off:=0) (x:=o) rfl tk rfl ?_
 refine ar (k:= .int .i64) (b:=b2) (off:=3) (x:=c) (by rw[af]) tk rfl ?_
 refine ar (k:= .ptr) (b:=b1) (off:=0) (x:=some ⟨q,0,none⟩) rfl tk rfl ?_
 refine ah (ar (k:= .ptr) (b:=q) (off:=0) (x:=some ⟨i.p,0,none⟩) (by rw[af]) tk rfl ?_)
 try simp only[aq,al]
 refine ae (tI i y) ag ?_
 rintro x' M ⟨rfl,rfl⟩
 try simp only[aq,al]
 refine aN ag ?_
 refine Tr.close (M:=rL b1 b2 b6 q k a b c o) (A:=star (rL b1 b2 b6 q k a b c o)) ag (fun h H=>H) ?_
 refine ae (yB i.r i.b y.S y.cs I.w.hw y.rows y.aU a o c y.ck ⟨I.aU.1,by have:=I.aU.2;omega⟩ I.w.q.ux) ag ?_
 rintro x' M ⟨rfl,rfl⟩
 try simp only[aq,al]
 exact aa (x:=((Rf.aY y.S y.cs y.rows y.aU a o c y.ck).1,(Rf.aY y.S y.cs y.rows y.aU a o c y.ck).2.1,())) rfl ⟨rfl,rfl⟩ ag aB
theorem yO(i:Pl)(q:Nat)(k a b c:Int)(x:Rt){N:Int}(I:x.Inv N)(hN:N+10<2^49):
  Gl.Spec ρ Tryz.prog 49 [.pointer (some ⟨q,0,none⟩),uT k a b c] (i.Q q x) P2
  fun r M=>∃y:bg,Rx.eV x a b c y∧y.2.Inv (N+10)∧r=(y.1.1,y.1.2,())∧M=i.Q q y.2:=by
 refine Gl.Spec.of (fun Q w hh=>F.rt.Runtime.aY.calls (some ⟨q,0,none⟩) (k,a,b,c,()) hh) fun R=> ?_
 unfold F.rt.Runtime.aY
 try simp only[aq,al]
 refine ax fun b1=>ax fun b2=> ?_
 refine ai (k:= .ptr) (b:=b1) (off:=0) (x:=some ⟨q,0,none⟩) rfl tk rfl ?_
 refine ai (k:= .int .i64) (b:=b2) (off:=2) (x:=b) (by rw[af]) tk rfl ?_
 refine ae (fH i q x (I.h.ok (by omega)) b false) ag ?_
 rintro x' M ⟨rfl,rfl⟩
 try simp only[aq,al]
 refine ax fun b6=> ?_
 rw[show zc Tryz.prog 3=[.int .i64 0] by kernel_rfl]
 refine aL (b:=b6) (off:=0) rfl tk (by simp) rfl ?_
 have hr:∀y,Rx.eV x a b c y=if(Rx.gA x b false).2≠0 then y=((0,(Rx.gA x b false).2),x)else if Rx.dH x a c≠0 then y=((0,Rx.dH x a c),x)else Rx.dU (Rx.zY a (Rx.gA x b false).1 c) x y:=fun y=>rfl
 generalize Rx.gA x b false=h at*
 refine aj (fun e=> ?_) (fun e=> ?_)
 ·have e:h.2≠0:=by simpa using e
  have hy:Rx.eV x a b c ((0,h.2),x):=by rw[hr,if_pos e]
  exact aa (x:=((0:Int),h.2,())) rfl ⟨((0,h.2),x),hy,I.le (by omega),rfl,rfl⟩ ag aB
 have e:h.2=0:=by simpa using e
 refine ai (k:= .ptr) (b:=b1) (off:=0) (x:=some ⟨q,0,none⟩) rfl tk rfl ?_
 refine bD (b:=b2) (x:=(k,a,b,c,())) [] rfl tk rfl ?_
 refine ae (yr i q k a b c x) ag ?_
 rintro x' M ⟨rfl,rfl⟩
 try simp only[aq,al]
 refine aj (fun e1=> ?_) (fun e1=> ?_)
 ·have e1:Rx.dH x a c≠0:=by simpa using e1
  have hy:Rx.eV x a b c ((0,Rx.dH x a c),x):=by rw[hr,if_neg (fun g=>g e),if_pos e1]
  exact aa (x:=((0:Int),Rx.dH x a c,())) rfl ⟨((0,Rx.dH x a c),x),hy,I.le (by omega),rfl,rfl⟩ ag aB
 have e1:Rx.dH x a c=0:=by simpa using e1
 refine ai (k:= .ptr) (b:=b1) (off:=0) (x:=some ⟨q,0,none⟩) rfl tk rfl ?_
 refine Tr.close (M:=rL b1 b2 b6 q k a b c h.1) (A:=star (rL b1 b2 b6 q k a b c h.1)) ag (fun h H=>H) ?_
 refine ae (wM i q x (star (rL b1 b2 b6 q k a b c h.1)) Tryz.func87 (by kernel_rfl) (Rx.zY a h.1 c) I hN fun M y Iy hM=>⟨?_,?_⟩) ag ?_
 ·exact yy i q b1 b2 b6 k a b c h.1 y Iy hM
 ·obtain⟨w',s1,s2⟩:=Iy.w.aY a h.1 c y.ck Iy.ck.2 Iy.aU.1
  exact{w:=w',h:=Iy.h.le (by omega),ro:=Iy.ro,ck:=Iy.ck,aU:=⟨by have:=Iy.aU.1;show 0≤(Rf.aY y.S y.cs y.rows y.aU a h.1 c y.ck).2.2.2;omega,by have:=Iy.aU.2;show(Rf.aY y.S y.cs y.rows y.aU a h.1 c y.ck).2.2.2≤_;omega⟩,rn:=⟨Iy.rn.1,by have:=Iy.rn.2;show y.rn≤_;omega⟩,aZ:=Iy.aZ,stack:=Iy.stack}
 rintro _ _ ⟨y,hy,Iy,rfl,rfl⟩
 try simp only[aq,al]
 refine Tr.drop (A:=star (rL b1 b2 b6 q k a b c h.1)) tk ?_
 have hy':Rx.eV x a b c y:=by rw[hr,if_neg (fun g=>g e),if_neg (fun g=>g e1)];exact hy
 exact aa (x:=(y.1.1,y.1.2,())) rfl ⟨y,hy',Iy,rfl,rfl⟩ ag aB
namespace Rx
def bit(b:Int)(j:Nat):Bool:=(dv .and .i64 (Int.fdiv b (2^(min j (IntKind.bits .i64)))) 1:Int)==1
def bits(b:Int)(n:Nat):List Int:=((List.range n).filter (bit b)).map fun(j:Nat)=>(j:Int)
theorem xy(b:Int)(n:Nat):bits b (n+1)=bits b n++if bit b n then[(n:Int)]else[]:=by
 unfold bits
 rw[List.range_succ,List.filter_append,List.map_append]
 congr 1
 by_cases h:bit b n=true
 ·rw[List.filter_cons_of_pos h,if_pos h];rfl
 ·rw[List.filter_cons_of_neg h,if_neg h];rfl
theorem pk(b:Int)(n:Nat):(bits b n).length≤n:=by
 unfold bits
 rw[List.length_map]
 exact Nat.le_trans (List.length_filter_le ..) (by simp)
def iu(x:Rt)(a b:Int):bg:=if b<0∨b≥4294967296 then((0,1),x)else(((Sp.dC x.cs (a,bits b 32)).1,(Sp.dC x.cs (a,bits b 32)).2.1),{x with cs:=(Sp.dC x.cs (a,bits b 32)).2.2})
end Rx
theorem zJ(i:Pl)(q:Nat)(k a b c:Int)(x:Rt):k7 ρ 40 i q k a b c x (Rx.iu x a b):=by
 refine Gl.Spec.of (fun Q w hh=>F.rt.Runtime.class.calls (some ⟨q,0,none⟩) (k,a,b,c,()) hh) fun R=> ?_
 unfold F.rt.Runtime.class
 try simp only[aq,al]
 refine ax fun b1=> ?_
 refine ai (k:= .int .i64) (b:=b1) (off:=2) (x:=b) (by rw[af]) tk rfl ?_
 unfold Rx.iu
 refine aj (fun e=> ?_) (fun e=> ?_)
 ·have e:b<0:=of_decide_eq_true e
  rw[if_pos (.inl e)]
  exact aa (x:=((0:Int),(1:Int),())) rfl ⟨rfl,rfl⟩ ag aB
 have e1:¬b<0:=of_decide_eq_false e
 refine ai (k:= .int .i64) (b:=b1) (off:=2) (x:=b) (by rw[af]) tk rfl ?_
 refine aj (fun e=> ?_) (fun e=> ?_)
 ·have e:b≥4294967296:=of_decide_eq_true e
  rw[if_pos (.inr e)]
  exact aa (x:=((0:Int),(1:Int),())) rfl ⟨rfl,rfl⟩ ag aB
 have e2:¬b≥4294967296:=of_decide_eq_false e
 rw[if_neg (fun g=>g.elim e1 e2)]
 refine Tr.cq 1 ?_
 refine aP (I:=fun m u M=>∃(j:Nat) (s:ay),j≤32∧m=32-j∧u=(s,(j:Int),())∧s.n=(Rx.bits b j).length∧M=aE s 1 ((Rx.bits b j).map i64)::aw b1 [i64 k,i64 a,i64 b,i64 c]::(i.Q q x++R)) 32 ⟨0,_,by omega,rfl,rfl,rfl,rfl⟩ ?_
 rintro m _ _ ⟨j,s,hj,rfl,rfl,hs,rfl⟩ X hX
 try simp only[aq,al]
 have hbl:=Rx.pk b j
 refine aj (fun hc=> ?_) (fun hc=> ?_)
 ·have hj':j<32:=by have:(j:Int)<32:=of_decide_eq_true hc;omega
  refine ai (k:= .int .i64) (b:=b1) (off:=2) (x:=b) (by rw[af]) tk rfl ?_
  refine bu (by omega) ?_
  rw[wrap64 (n:=(j:Int)+1) (by omega) (by omega)]
  have hbs:=Rx.xy b j
  refine aj (fun e=> ?_) (fun e=> ?_)
  ·rw[if_pos (show Rx.bit b j=true from e)]at hbs
   refine gw (s:=s) (xs:=Rx.bits b j) ca tk (by omega) fun r hr=> ?_
   refine hX (32-(j+1)) _ _ (by omega) ⟨j+1,r,by omega,rfl,rfl,by rw[hbs,List.length_append];exact hr,by rw[hbs];rfl⟩
  ·rw[if_neg (by rw[show Rx.bit b j=false from e];simp),List.append_nil]at hbs
   refine hX (32-(j+1)) _ _ (by omega) ⟨j+1,s,by omega,rfl,rfl,by rw[hbs];exact hs,by rw[hbs];rfl⟩
 ·have hj':j=32:=by have:¬(j:Int)<32:=of_decide_eq_false hc;omega
  subst hj'
  refine cL.op (p:=i.r) (hp:=i.b) (rows:=x.rows) (n:=x.aU) tk fun qq=> ?_
  refine bP.op (p:=qq) (hp:=i.b) (rows:=x.rows) tk fun z hz=> ?_
  refine au.op (p:=i.b) (S:=x.S) (cs:=x.cs) tk fun ps pt=> ?_
  refine aK (aR [aw b1 [i64 k,i64 a,i64 b,i64 c],aw q [.pointer (some ⟨i.p,0,none⟩)],aw i.p (i.cs x),aw i.r [.pointer (some ⟨qq,0,none⟩),i64 x.aU],aw qq [.pointer (some ⟨i.b,0,none⟩),.slice z.a z.n z.c],aw i.b [.pointer (some ⟨ps,0,none⟩),.pointer (some ⟨pt,0,none⟩)]] ag ?_)
  refine ah (ar (k:= .ptr) (b:=q) (off:=0) (x:=some ⟨i.p,0,none⟩) (by rw[af]) tk rfl ?_)
  refine ah (ar (k:= .ptr) (b:=i.p) (off:=0) (x:=some ⟨i.r,0,none⟩) (by rw[af]) tk rfl ?_)
  refine ah (ar (k:= .ptr) (b:=i.r) (off:=0) (x:=some ⟨qq,0,none⟩) (by rw[af]) tk rfl ?_)
  refine ah (ar (k:= .ptr) (b:=qq) (off:=0) (x:=some ⟨i.b,0,none⟩) (by rw[af]) tk rfl ?_)
  refine ah (ar (k:= .ptr) (b:=i.b) (off:=1) (x:=some ⟨pt,0,none⟩) (by rw[af]) tk rfl ?_)
  refine ar (k:= .int .i64) (b:=b1) (off:=1) (x:=a) (by rw[af]) tk rfl ?_
  try simp only[aq,al]
  refine ae (Spec.own (s:=s) (m:=1) (xs:=(Rx.bits b 32).map i64) fun ρ1 hle r1=>Az pt x.cs a s (Rx.bits b 32) r1 (by omega)) ag ?_
  rintro _ _ ⟨_,⟨rfl,rfl⟩,rfl⟩
  try simp only[aq,al]
  refine Tr.drop (A:=aE s 1 ((Rx.bits b 32).map i64)) tk ?_
  refine Tr.close (M:=[aw i.b [.pointer (some ⟨ps,0,none⟩),.pointer (some ⟨pt,0,none⟩)],aF ps x.S,bz pt (Sp.dC x.cs (a,Rx.bits b 32)).2.2]) ag (au.cl (p:=i.b)) ?_
  refine Tr.close (M:=[aw qq [.pointer (some ⟨i.b,0,none⟩),.slice z.a z.n z.c],aE z 2 (dW x.rows)]) ag (bP.cl (p:=qq) (hp:=i.b) (rows:=x.rows) hz) ?_
  refine Tr.close ag (cL.cl (p:=i.r) (q:=qq) (hp:=i.b) (rows:=x.rows) (n:=x.aU)) ?_
  exact aa (x:=((Sp.dC x.cs (a,Rx.bits b 32)).1,(Sp.dC x.cs (a,Rx.bits b 32)).2.1,())) rfl ⟨rfl,rfl⟩ ag aB
end Go.Proofs.YtfepdmpplahloaaGreat
namespace Go.Proofs.YtfepdmpplahloaaGreat
open Go Go.Gl
variable{ρ0 ρ:FR}{L L':List aA}{Post:Value→List aA→Prop}{T:Tree}
abbrev mv(f:FuncId)(q:Nat):Value:= .func (.func f) #[.pointer (some ⟨q,0,none⟩)] #[]
abbrev lv(b1 b2:Nat):Value:= .func (.func 77) #[] #[.pointer (some ⟨b1,0,none⟩),.pointer (some ⟨b2,0,none⟩)]
def Rx.lS(q b1 b2 b3 b4:Nat):List (Int×Value):=
 [(1,mv 40 q),(2,mv 41 q),(3,lv b1 b2),(4,lv b3 b4),(5,mv 43 q),(6,mv 44 q),(7,mv 45 q),(8,mv 46 q),
  (9,mv 47 q),(10,mv 48 q),(11,mv 49 q),(12,mv 50 q),(13,mv 51 q),(14,mv 52 q),(15,mv 53 q),
  (16,mv 54 q),(17,mv 55 q),(18,mv 56 q),(19,mv 57 q),(20,mv 58 q),(21,mv 59 q)]
theorem wS(q:Nat)(kind:Int):Gl.Spec ρ Tryz.prog 42 [.pointer (some ⟨q,0,none⟩),i64 kind] [] (.one (.l .any))
  fun r M=>∃b1 b2:Nat,r=lv b1 b2∧M=[aw b1 [.pointer (some ⟨q,0,none⟩)],aw b2 [i64 kind]]:=by
 refine Gl.Spec.of (fun Q w h=>F.rt.Runtime.list.calls (some ⟨q,0,none⟩) kind h) fun R=> ?_
 unfold F.rt.Runtime.list
 refine ax fun b1=>ax fun b2=> ?_
 exact aa (x:=lv b1 b2) rfl ⟨b1,b2,rfl,rfl⟩ ag aB
abbrev Fp(q b1 b2 b3 b4:Nat):List aA:=[aw b1 [.pointer (some ⟨q,0,none⟩)],aw b2 [i64 2],aw b3 [.pointer (some ⟨q,0,none⟩)],aw b4 [i64 3]]
theorem nH:Tryz.prog.underlying 64=some (.map 3 62):=by kernel_rfl
theorem nj:Tryz.prog.underlying 3=some (.int .i64):=by kernel_rfl
theorem sv:(Tryz.prog.info? 62).bind (·.zero)=some .nilFunc:=by kernel_rfl
theorem xb:zc Tryz.prog 26=[.int .i64 0,.int .i64 0]:=by kernel_rfl
theorem km(q:Nat):Gl.Spec ρ Tryz.prog 23 [.pointer (some ⟨q,0,none⟩)] [] (.one (.l .map))
  fun r M=>∃b b1 b2 b3 b4:Nat,r=some b∧M=IM b (fun v:Value=>v) (Rx.lS q b1 b2 b3 b4)::Fp q b1 b2 b3 b4:=by
 refine Gl.Spec.of (fun Q w h=>F.rt.Runtime.handlers.calls (some ⟨q,0,none⟩) h) fun R=> ?_
 unfold F.rt.Runtime.handlers
 refine oK (fun v:Value=>v) fun b=> ?_
 iterate 2
  refine nf (f:=fun v:Value=>v) nH nj (rfl:(_:Value)=_) tk ?_
 refine ae (wS q 2) ag ?_
 rintro _ _ ⟨b1,b2,rfl,rfl⟩
 try simp only[aq,al]
 refine nf (f:=fun v:Value=>v) nH nj (rfl:(_:Value)=_) tk ?_
 refine ae (wS q 3) ag ?_
 rintro _ _ ⟨b3,b4,rfl,rfl⟩
 try simp only[aq,al]
 iterate 18
  refine nf (f:=fun v:Value=>v) nH nj (rfl:(_:Value)=_) tk ?_
 simp only[gq,Int.reduceEq,↓reduceIte]
 change Tr _ _ (IM b (fun v:Value=>v) (Rx.lS q b1 b2 b3 b4)::_) _ _
 exact aa (x:=some b) rfl ⟨b,b1,b2,b3,b4,rfl,rfl⟩ ag aB
theorem DN(q:Nat)(k a b c:Int)(hk:∀b1 b2 b3 b4,di k (Rx.lS q b1 b2 b3 b4)=none):Gl.Spec ρ Tryz.prog 16 [.pointer (some ⟨q,0,none⟩),uT k a b c] [] G2
  fun r M=>r=(1,0,())∧M=[]:=by
 refine Gl.Spec.of (fun Q w hh=>F.rt.Runtime.Do.calls (some ⟨q,0,none⟩) (k,a,b,c,()) hh) fun R=> ?_
 unfold F.rt.Runtime.Do
 refine ax fun b1=>ax fun b2=> ?_
 rw[xb]
 refine ak rfl ?_
 refine aK (aR [aw b1 [i64 k,i64 a,i64 b,i64 c]] ag ?_)
 refine ar (k:= .int .i64) (b:=b1) (off:=0) (x:=k) (by rw[af]) tk rfl ?_
 refine ae (km q) .nil ?_
 rintro _ _ ⟨hb,c1,c2,c3,c4,rfl,rfl⟩
 try simp only[aq,al]
 refine aN ag ?_
 refine l9 (f:=fun v:Value=>v) (kd:= .any) (g:=fun v:Value=>v) (z0:= .nilFunc) nH nj sv (fun _=>rfl) tk ?_
 rw[hk]
 refine aH rfl ?_
 refine aL (b:=b2) (off:=0) rfl tk (by simp) rfl ?_
 refine bD (b:=b2) (x:=((1:Int),(0:Int),())) [] rfl tk rfl ?_
 exact aa (x:=((1:Int),(0:Int),())) rfl ⟨rfl,rfl⟩ ag aB
abbrev ki(n e:Int):RT G2:=(e,if e≠0 then 0 else n,())
theorem Spec.wV{P:Program}{f:FuncId}{args:List Value}{A:List aA}{r:RK}{B:RT r→List aA→Prop}(h:Gl.Spec ρ P f args A r B):Gl.Spec ρ P f args [star A] r fun x M=>∃M',B x M'∧M=[star M']:=fun R w hw=>by
 refine(h R w (Sat.vv hw)).mono ?_
 rintro e w' ⟨x,M,rfl,hB,hs⟩
 exact⟨x,[star M],rfl,⟨M,hB,rfl⟩,Sat.uK hs⟩
theorem Spec.qI{P:Program}{f:FuncId}{args:List Value}{A:List aA}{r:RK}{B:RT r→List aA→Prop}(h:Gl.Spec ρ P f args [star A] r fun x M=>∃M',B x M'∧M=[star M']):Gl.Spec ρ P f args A r B:=fun R w hw=>by
 refine(h R w (Sat.uK hw)).mono ?_
 rintro e w' ⟨x,_,rfl,⟨M,hB,rfl⟩,hs⟩
 exact⟨x,M,rfl,hB,Sat.vv hs⟩
theorem eP{f:FuncId}{fn:Func}(hf:Tryz.prog.funcs[f]? =some fn)(hb:fn.body.isSome=true)(q:Nat)(k a b c:Int)(hk:∀b1 b2 b3 b4,di k (Rx.lS q b1 b2 b3 b4)=some (mv f q)){A:List aA}{B:RT P2→List aA→Prop}
  (hs:Gl.Spec ρ Tryz.prog f [.pointer (some ⟨q,0,none⟩),uT k a b c] A P2 B):Gl.Spec ρ Tryz.prog 16 [.pointer (some ⟨q,0,none⟩),uT k a b c] A G2
  fun r M=>∃n e:Int,B (n,e,()) M∧r=ki n e:=by
 refine Spec.qI ?_
 replace hs:=Spec.wV hs
 generalize star A=A1 at*
 refine Gl.Spec.of (fun Q w hh=>F.rt.Runtime.Do.calls (some ⟨q,0,none⟩) (k,a,b,c,()) hh) fun R=> ?_
 unfold F.rt.Runtime.Do
 try simp only[aq,al]
 refine ax fun b1=>ax fun b2=> ?_
 rw[xb]
 refine ak rfl ?_
 refine aK (aR [aw b1 [i64 k,i64 a,i64 b,i64 c]] ag ?_)
 refine ar (k:= .int .i64) (b:=b1) (off:=0) (x:=k) (by rw[af]) tk rfl ?_
 refine ae (km q) .nil ?_
 rintro _ _ ⟨hb',c1,c2,c3,c4,rfl,rfl⟩
 try simp only[aq,al]
 refine aN ag ?_
 refine l9 (f:=fun v:Value=>v) (kd:= .any) (g:=fun v:Value=>v) (z0:= .nilFunc) nH nj sv (fun _=>rfl) tk ?_
 rw[hk]
 refine ak rfl ?_
 refine bD (b:=b1) (x:=(k,a,b,c,())) [] rfl tk rfl ?_
 refine lW (i:= #[.pointer (some ⟨q,0,none⟩)]) (c:= #[]) (A:=[A1]) hf hb hs ag ?_
 rintro⟨n,e,⟨⟩⟩ _ ⟨M,hB,rfl⟩
 try simp only[aq,al]
 refine aj (fun he=> ?_) (fun he=> ?_)
 ·have he:e≠0:=by simpa using he
  refine aL (b:=b2) (off:=0) rfl tk (by simp) rfl ?_
  refine bD (b:=b2) (x:=(e,(0:Int),())) [] rfl tk rfl ?_
  exact aa (x:=(e,(0:Int),())) rfl ⟨M,⟨n,e,hB,by unfold ki;rw[if_pos he]⟩,rfl⟩ ag aB
 ·have he:e=0:=by simpa using he
  refine aL (b:=b2) (off:=0) rfl tk (by simp) rfl ?_
  refine bD (b:=b2) (x:=((0:Int),n,())) [] rfl tk rfl ?_
  exact aa (x:=((0:Int),n,())) rfl ⟨M,⟨n,e,hB,by unfold ki;rw[if_neg (fun g=>g he),he]⟩,rfl⟩ ag aB
theorem yp{A B:aA}{M:List aA}{h:HP}(H:star [A,B,star M] h):star (A::B::M) h:=by
 have:star ([A,B]++[star M]) h:=H
 obtain⟨h1,h2,hd,rfl,ha,hb⟩:=jV this
 have h3:star M h2:=by
  obtain⟨g1,g2,gd,rfl,ga,gb⟩:=hb
  have:(fun b=>(g1 b).or (g2 b))=g1:=by funext b;rw[gb b,Option.or_none]
  rw[this];exact ga
 exact dL (L:=[A,B]) (L':=M) ⟨h1,h2,hd,rfl,ha,h3⟩
theorem yo{A B:aA}{M:List aA}{h:HP}(H:star (A::B::M) h):star [A,B,star M] h:=by
 have:star ([A,B]++M) h:=H
 obtain⟨h1,h2,hd,rfl,ha,hb⟩:=jV this
 have h3:star [star M] h2:=⟨h2,fun _=>none,fun b=> .inr rfl,by funext b;rw[Option.or_none],hb,fun _=>rfl⟩
 exact dL (L:=[A,B]) (L':=[star M]) ⟨h1,h2,hd,rfl,ha,h3⟩
theorem DF(q:Nat)(k kind a b c:Int)(hk:(k=3∧kind=2)∨(k=4∧kind=3)){A:List aA}{B:RT P2→List aA→Prop}
  (hs:∀b1 b2:Nat,Gl.Spec ρ Tryz.prog 77 [uT k a b c,.pointer (some ⟨b1,0,none⟩),.pointer (some ⟨b2,0,none⟩)] [star (aw b1 [.pointer (some ⟨q,0,none⟩)]::aw b2 [i64 kind]::A)] P2 fun r M=>∃M',B r M'∧M=[star (aw b1 [.pointer (some ⟨q,0,none⟩)]::aw b2 [i64 kind]::M')]):
  Gl.Spec ρ Tryz.prog 16 [.pointer (some ⟨q,0,none⟩),uT k a b c] A G2 fun r M=>∃n e:Int,B (n,e,()) M∧r=ki n e:=by
 refine Spec.qI ?_
 refine Gl.Spec.of (fun Q w hh=>F.rt.Runtime.Do.calls (some ⟨q,0,none⟩) (k,a,b,c,()) hh) fun R=> ?_
 unfold F.rt.Runtime.Do
 try simp only[aq,al]
 refine ax fun b1=>ax fun b2=> ?_
 rw[xb]
 refine ak rfl ?_
 refine aK (aR [aw b1 [i64 k,i64 a,i64 b,i64 c]] ag ?_)
 refine ar (k:= .int .i64) (b:=b1) (off:=0) (x:=k) (by rw[af]) tk rfl ?_
 refine ae (km q) .nil ?_
 rintro _ _ ⟨hb',c1,c2,c3,c4,rfl,rfl⟩
 try simp only[aq,al]
 refine aN ag ?_
 refine l9 (f:=fun v:Value=>v) (kd:= .any) (g:=fun v:Value=>v) (z0:= .nilFunc) nH nj sv (fun _=>rfl) tk ?_
 have go:∀(d1 d2:Nat) {LL L2:List aA},aI LL [aw d1 [.pointer (some ⟨q,0,none⟩)],aw d2 [i64 kind],star A,aw b1 [i64 k,i64 a,i64 b,i64 c],aw b2 [i64 0,i64 0]] L2→Gl.Ends L2 R→
   Tr ρ ρ LL (ld (.g [.int .i64,.int .i64,.int .i64,.int .i64]) (⟨b1,0,none⟩) fun(x7:LTs _)=>
    gJ Tryz.prog (lv d1 d2) [.agg #[.int .i64 x7.1,.int .i64 x7.2.1,.int .i64 x7.2.2.1,.int .i64 x7.2.2.2.1]] (.many [.l (.int .i64),.l (.int .i64)]) fun(r8:KTs _)=>
    br ((r8.2.1:Int) != 0)
     (st (⟨b2,0,none⟩) [.int .i64 r8.2.1,.int .i64 0]<|ld (.g [.int .i64,.int .i64]) (⟨b2,0,none⟩) fun(x9:LTs _)=>ret (.agg #[.int .i64 x9.1,.int .i64 x9.2.1]))
     (st (⟨b2,0,none⟩) [.int .i64 0,.int .i64 r8.1]<|ld (.g [.int .i64,.int .i64]) (⟨b2,0,none⟩) fun(x9:LTs _)=>ret (.agg #[.int .i64 x9.1,.int .i64 x9.2.1])))
    (SP G2 (fun r M=>∃M',(∃n e:Int,B (n,e,()) M'∧r=ki n e)∧M=[star M']) R):=fun d1 d2 LL L2 t en=>by
  refine Tr.perm t.perm ?_
  try simp only[aq,al]
  refine bD (b:=b1) (x:=(k,a,b,c,())) [] rfl tk rfl ?_
  refine Tr.close (M:=[aw d1 [.pointer (some ⟨q,0,none⟩)],aw d2 [i64 kind],star A]) (A:=star (aw d1 [.pointer (some ⟨q,0,none⟩)]::aw d2 [i64 kind]::A)) ag (fun h H=>yp H) ?_
  refine lW (i:= #[]) (c:= #[.pointer (some ⟨d1,0,none⟩),.pointer (some ⟨d2,0,none⟩)]) Tryz.func77 (by kernel_rfl) (hs d1 d2) ag ?_
  rintro⟨n,e,⟨⟩⟩ _ ⟨M,hB,rfl⟩
  try simp only[aq,al]
  refine Tr.imp (A:=star (aw d1 [.pointer (some ⟨q,0,none⟩)]::aw d2 [i64 kind]::M)) (A':=star [aw d1 [.pointer (some ⟨q,0,none⟩)],aw d2 [i64 kind],star M]) tk (fun h H=>yo H) ?_
  refine Tr.za tk ?_
  try simp only[aq,al]
  refine aj (fun he=> ?_) (fun he=> ?_)
  ·have he:e≠0:=by simpa using he
   refine aL (b:=b2) (off:=0) rfl tk (by simp) rfl ?_
   refine bD (b:=b2) (x:=(e,(0:Int),())) [] rfl tk rfl ?_
   exact aa (x:=(e,(0:Int),())) rfl ⟨M,⟨n,e,hB,by unfold ki;rw[if_pos he]⟩,rfl⟩ ag (.skip (.skip (.skip (.skip en))))
  ·have he:e=0:=by simpa using he
   refine aL (b:=b2) (off:=0) rfl tk (by simp) rfl ?_
   refine bD (b:=b2) (x:=((0:Int),n,())) [] rfl tk rfl ?_
   exact aa (x:=((0:Int),n,())) rfl ⟨M,⟨n,e,hB,by unfold ki;rw[if_neg (fun g=>g he),he]⟩,rfl⟩ ag (.skip (.skip (.skip (.skip en))))
 rcases hk with ⟨rfl,rfl⟩|⟨rfl,rfl⟩
 ·rw[show di 3 (Rx.lS q c1 c2 c3 c4)=some (lv c1 c2)from rfl]
  refine ak rfl ?_
  exact go c1 c2 ag aB
 ·rw[show di 4 (Rx.lS q c1 c2 c3 c4)=some (lv c3 c4)from rfl]
  refine ak rfl ?_
  exact go c3 c4 ag aB
end Go.Proofs.YtfepdmpplahloaaGreat
namespace Go.Proofs.YtfepdmpplahloaaGreat
open Go Go.Gl
variable{ρ0 ρ:FR}{L L':List aA}{Post:Value→List aA→Prop}{T:Tree}
namespace Rx
variable{x:Rt}{N M:Int}
theorem lG{h:Int}{f:Int→bg}(I:x.Inv M)(hf:∀a,(f a).2.Inv M):(qp x h f).2.Inv M:=by
 unfold qp;split
 ·exact I
 ·exact hf _
theorem wF{h:Int}{f:Int→bg}(I:x.Inv M)(hf:∀a,(f a).2.Inv M):(Bg x h f).2.Inv M:=by
 unfold Bg;split
 ·exact I
 ·exact hf _
theorem Bp(I:x.Inv N)(a b:Int):(get x a b).2.Inv N:=by
 refine lG I fun aQ=> ?_
 split
 ·exact I
 ·exact jd I _
theorem jB{a k:Int}(h:(fY x a k).2.2=0):Qu.ba x.S a=false:=by
 unfold fY at h
 unfold Qu.ba
 cases hh:Ob.head x.S a with
 |none=>rfl
 |some hd=>
  rw[hh]at h
  dsimp only at h⊢
  by_cases e:hd.k=4
  ·rw[if_pos e]at h;cases h
  ·simpa using e
theorem Bv(I:x.Inv N)(a b c:Int):(set x a b c).2.Inv N:=by
 refine lG I fun aQ=>wF I fun to=> ?_
 split
 ·exact I
 ·rename_i h
  split
  ·exact I
  ·exact{I with w:=I.w.put (.inl (jB (by simpa using h)))}
theorem Bm(I:x.Inv N)(a b c:Int):(put x a b c).2.Inv N:=by
 refine lG I fun aQ=> ?_
 split
 ·exact I
 ·rename_i h
  split
  ·exact I
  ·exact{I with w:=I.w.put (.inl (jB (by simpa using h)))}
theorem zt(I:x.Inv N)(hN:0≤N)(a:Int):(drop x a).2.Inv (N+1):={I.le (M:=N+1) (by omega)with h:=I.h.drop hN a}
theorem pP{ro:List Int}{i a:Int}:(cw ro i a).length=ro.length:=by
 unfold cw;split
 ·exact List.length_set ..
 ·rfl
theorem yI(I:x.Inv N)(a b:Int):(root x a b).2.Inv N:=wF I fun aQ=>{I with ro:=(pP ..).trans I.ro}
theorem Bb(I:x.Inv N)(a:Int):(take x a).2.Inv N:=by
 unfold take;split
 ·exact I
 ·exact jd I _
theorem sN(I:x.Inv N)(a:Int):(aG x a).2.Inv N:=by
 refine lG I fun aQ=> ?_
 have J:Rt.Inv N {x with S:=(Rf.aG x.S aQ x.ck).2}:={I with w:=I.w.aG aQ x.ck I.ck.2}
 cases Ob.head x.S aQ with
 |none=>exact I
 |some hd=>
  dsimp only
  split
  ·exact I
  ·split
   ·exact I
   ·split
    ·exact I
    ·split
     ·exact I
     ·split
      ·exact J
      ·exact jd J _
theorem xD(I:x.Inv N)(a:Int):(clear x a).2.Inv N:=lG I fun aQ=>{I with w:=I.w.clear [aQ]}
theorem tE(I:x.Inv N)(a:Int):(enqueue x a).2.Inv N:=lG I fun aQ=>{I with w:=I.w.ct aQ}
theorem AV(I:x.Inv N):(jI x).2.Inv N:=by
 have h:=I.w.q.ux
 unfold jI
 by_cases e:x.rows.length=8
 ·simp only[if_pos e];exact I
 ·simp only[if_neg e];exact{I with w:=I.w.open_ (by omega)}
theorem Ai(I:x.Inv N)(a:Int):(eU x a).2.Inv N:=by
 have J:Rt.Inv N {x with S:=Qu.cp x.S x.rows a,rows:=Qu.dP x.rows a}:={I with w:=I.w.eU a}
 unfold eU
 split
 ·exact I
 ·split
  ·exact I
  ·split
   ·exact I
   ·split
    ·exact J
    ·exact jd J _
theorem xL(I:x.Inv N)(a:Int):(final x a).2.Inv N:=lG I fun aQ=>{I with w:=I.w.await aQ}
theorem BE(I:x.Inv N)(a b c:Int):(run x a b c).2.Inv N:=by
 have J:Rt.Inv N {x with pe:=Fn.dN x.pe a}:={I with w:=I.w.take a}
 unfold run
 split
 ·exact I
 ·split
  ·exact I
  ·split
   ·exact I
   ·split
    ·exact J
    ·split
     ·exact{J with ro:=(pP ..).trans I.ro}
     ·split
      ·exact jd J _
      ·exact J
theorem AW{c k:Int}(hc:c<9223372036854775808)(hk:k<9223372036854775808):0≤Sf.later c k∧Sf.later c k<9223372036854775808:=by
 obtain⟨c0,c1⟩:=fN hc
 obtain⟨k0,k1⟩:=fN hk
 unfold Sf.later
 rw[Int.min_def];split<;>omega
theorem zP(I:x.Inv N){a:Int}(ha:a<9223372036854775808):(tick x a).2.Inv N:=by
 unfold tick;split
 ·exact I
 ·exact{I with ck:=AW I.ck.2 ha}
theorem yk(I:x.Inv N)(a:Int):(count x a).2.Inv N:=by unfold count;split<;>exact I
end Rx
theorem D5(pg aZ stack:Int)(h:(1≤pg∧pg≤256)∧0≤aZ∧(1≤stack∧stack≤4096)):Gl.Spec ρ Tryz.prog 14 [.agg #[i64 pg,i64 aZ,i64 stack]] [] PE
  fun r M=>∃(i:Pl) (q:Nat),r=(some ⟨q,0,none⟩,0,())∧M=i.Q q (Rt.new pg aZ stack):=by
 refine Gl.Spec.of (fun Q w h=>F.rt.dc.calls (pg,aZ,stack,()) h) fun R=> ?_
 unfold F.rt.dc
 try simp only[aq,al]
 refine ax fun b=> ?_
 refine bD (b:=b) (x:=(pg,aZ,stack,())) [] rfl tk rfl ?_
 refine ae (AA pg aZ stack h) ag ?_
 rintro _ _ ⟨i,rfl,rfl⟩
 try simp only[aq,al]
 refine ak rfl (ax fun q=> ?_)
 exact aa (x:=(some ⟨q,0,none⟩,(0:Int),())) rfl ⟨i,q,rfl,rfl⟩ ag aB
theorem uf(i:Pl)(q:Nat)(x:Rt):Gl.Spec ρ Tryz.prog 15 [.pointer (some ⟨q,0,none⟩)] (i.Q q x) RB fun r M=>r=true∧M=i.Q q x:=by
 refine Gl.Spec.of (fun Q w h=>F.fK.Whole.calls (some ⟨q,0,none⟩) h) fun R=> ?_
 unfold F.fK.Whole
 try simp only[aq,al]
 refine aH rfl ?_
 refine ah ?_
 refine ai (k:= .ptr) (b:=q) (off:=0) (x:=some ⟨i.p,0,none⟩) (by rw[af]) tk rfl ?_
 refine ae (om i x) ag ?_
 rintro x' M ⟨rfl,rfl⟩
 try simp only[aq,al]
 exact aa (x:=true) rfl ⟨rfl,rfl⟩ ag aB
abbrev sT(ρ:FR)(i:Pl)(q:Nat)(k a b c:Int)(x:Rt)(y:bg):Prop:=
 Gl.Spec ρ Tryz.prog 16 [.pointer (some ⟨q,0,none⟩),uT k a b c] (i.Q q x) G2 fun r M=>r=ki y.1.1 y.1.2∧M=i.Q q y.2
abbrev tD(ρ:FR)(i:Pl)(q:Nat)(k a b c:Int)(x:Rt)(y:bg→Prop):Prop:=
 Gl.Spec ρ Tryz.prog 16 [.pointer (some ⟨q,0,none⟩),uT k a b c] (i.Q q x) G2 fun r M=>∃z,y z∧r=ki z.1.1 z.1.2∧M=i.Q q z.2
theorem uH{i:Pl}{q:Nat}{k a b c:Int}{x:Rt}{y:bg}(h:Gl.Spec ρ Tryz.prog 16 [.pointer (some ⟨q,0,none⟩),uT k a b c] (i.Q q x) G2 fun r M=>∃n e:Int,((n,e,())=((y.1.1,y.1.2,()):RT P2)∧M=i.Q q y.2)∧r=ki n e):sT ρ i q k a b c x y:=
 Spec.post h fun r M hh=>by
  obtain⟨n,e,⟨h1,h2⟩,h3⟩:=hh
  injection h1 with h1 h4
  injection h4 with h4 _
  subst h1 h4
  exact⟨h3,h2⟩
theorem DD{i:Pl}{q:Nat}{k a b c N:Int}{x:Rt}{Y:bg→Prop}(h:Gl.Spec ρ Tryz.prog 16 [.pointer (some ⟨q,0,none⟩),uT k a b c] (i.Q q x) G2 fun r M=>∃n e:Int,(∃y:bg,Y y∧y.2.Inv N∧(n,e,())=((y.1.1,y.1.2,()):RT P2)∧M=i.Q q y.2)∧r=ki n e):tD ρ i q k a b c x fun y=>Y y∧y.2.Inv N:=
 Spec.post h fun r M hh=>by
  obtain⟨n,e,⟨y,g1,g2,h1,h2⟩,h3⟩:=hh
  injection h1 with h1 h4
  injection h4 with h4 _
  subst h1 h4
  exact⟨y,⟨g1,g2⟩,h3,h2⟩
variable(i:Pl)(q:Nat)(x:Rt){N:Int}(I:x.Inv N)(a b c:Int)
include I
theorem yR:sT ρ i q 1 a b c x (Rx.iu x a b):=by
 have _:=I
 exact uH (eP Tryz.func40 (by kernel_rfl) q 1 a b c (fun _ _ _ _=>rfl) (zJ i q 1 a b c x))
theorem zh(hN:N+10<2^49):tD ρ i q 2 a b c x fun y=>Rx.fZ x a y∧y.2.Inv (N+10):=DD (eP Tryz.func41 (by kernel_rfl) q 2 a b c (fun _ _ _ _=>rfl) (Ar i q 2 a b c x I hN))
theorem Eo(hN:N<2^50):sT ρ i q 5 a b c x (Rx.get x a b):=uH (eP Tryz.func43 (by kernel_rfl) q 5 a b c (fun _ _ _ _=>rfl) (DL i q 5 a b c x (I.ok hN)))
theorem Ec(hN:N<2^50):sT ρ i q 6 a b c x (Rx.set x a b c):=uH (eP Tryz.func44 (by kernel_rfl) q 6 a b c (fun _ _ _ _=>rfl) (DW i q 6 a b c x (I.ok hN)))
theorem DR(hN:N<2^50):sT ρ i q 7 a b c x (Rx.put x a b c):=uH (eP Tryz.func45 (by kernel_rfl) q 7 a b c (fun _ _ _ _=>rfl) (Ei i q 7 a b c x (I.ok hN)))
theorem Cw(hN:N<2^50):sT ρ i q 8 a b c x (Rx.drop x a):=uH (eP Tryz.func46 (by kernel_rfl) q 8 a b c (fun _ _ _ _=>rfl) (B5 i q 8 a b c x (I.ok hN)))
theorem Cb(hN:N<2^50):sT ρ i q 9 a b c x (Rx.root x a b):=uH (eP Tryz.func47 (by kernel_rfl) q 9 a b c (fun _ _ _ _=>rfl) (BP i q 9 a b c x (I.ok hN)))
theorem Cz(hN:N<2^50):sT ρ i q 10 a b c x (Rx.take x a):=uH (eP Tryz.func48 (by kernel_rfl) q 10 a b c (fun _ _ _ _=>rfl) (CR i q 10 a b c x (I.ok hN)))
theorem y9(hN:N+10<2^49):tD ρ i q 11 a b c x fun y=>Rx.eV x a b c y∧y.2.Inv (N+10):=DD (eP Tryz.func49 (by kernel_rfl) q 11 a b c (fun _ _ _ _=>rfl) (yO i q 11 a b c x I hN))
theorem tK(hN:N<2^50):sT ρ i q 12 a b c x (Rx.aG x a):=uH (eP Tryz.func50 (by kernel_rfl) q 12 a b c (fun _ _ _ _=>rfl) (uj i q 12 a b c x (I.ok hN)))
theorem AL(hN:N<2^50):sT ρ i q 13 a b c x (Rx.clear x a):=uH (eP Tryz.func51 (by kernel_rfl) q 13 a b c (fun _ _ _ _=>rfl) (Ae i q 13 a b c x (I.ok hN)))
theorem vg(hN:N<2^50):sT ρ i q 14 a b c x (Rx.enqueue x a):=uH (eP Tryz.func52 (by kernel_rfl) q 14 a b c (fun _ _ _ _=>rfl) (vc i q 14 a b c x (I.ok hN) I.w.r.qb))
theorem Bn(hN:N<2^50):sT ρ i q 15 a b c x (Rx.jI x):=uH (eP Tryz.func53 (by kernel_rfl) q 15 a b c (fun _ _ _ _=>rfl) (CK i q 15 a b c x (I.ok hN)))
theorem BB(hN:N<2^50):sT ρ i q 16 a b c x (Rx.eU x a):=uH (eP Tryz.func54 (by kernel_rfl) q 16 a b c (fun _ _ _ _=>rfl) (CJ i q 16 a b c x (I.ok hN)))
theorem A9(hN:N<2^50):sT ρ i q 17 a b c x (Rx.final x a):=uH (eP Tryz.func55 (by kernel_rfl) q 17 a b c (fun _ _ _ _=>rfl) (Aj i q 17 a b c x (I.ok hN)))
theorem D7(hN:N<2^50):sT ρ i q 18 a b c x (Rx.run x a b c):=uH (eP Tryz.func56 (by kernel_rfl) q 18 a b c (fun _ _ _ _=>rfl) (Dn i q 18 a b c x (I.ok hN)))
theorem vm(hN:N+1<2^50):tD ρ i q 19 a b c x fun y=>Rx.cU x a y:=Spec.post (eP Tryz.func57 (by kernel_rfl) q 19 a b c (fun _ _ _ _=>rfl) (vw i q 19 a b c x I hN)) fun r M hh=>by
 obtain⟨n,e,⟨y,g1,h1,h2⟩,h3⟩:=hh
 injection h1 with h1 h4
 injection h4 with h4 _
 subst h1 h4
 exact⟨y,g1,h3,h2⟩
theorem CT(hN:N<2^50)(ha:a<9223372036854775808):sT ρ i q 20 a b c x (Rx.tick x a):=uH (eP Tryz.func58 (by kernel_rfl) q 20 a b c (fun _ _ _ _=>rfl) (B3 i q 20 a b c x (I.ok hN) I.ck.2 ha))
theorem Aw(hN:N<2^50):sT ρ i q 21 a b c x (Rx.count x a):=uH (eP Tryz.func59 (by kernel_rfl) q 21 a b c (fun _ _ _ _=>rfl) (AM i q 21 a b c x (I.ok hN)))
theorem wi(hN:N+10<2^49){k kind:Int}(hk:(k=3∧kind=2)∨(k=4∧kind=3)):tD ρ i q k a b c x fun y=>Rx.eM x kind a y∧y.2.Inv (N+10):=
 DD (DF (B:=fun r M=>∃y:bg,Rx.eM x kind a y∧y.2.Inv (N+10)∧r=(y.1.1,y.1.2,())∧M=i.Q q y.2) q k kind a b c hk fun b1 b2=>Spec.post (Spec.wV (Cx i q b1 b2 kind k a b c x (by omega) I hN)) fun r M hh=>by
  obtain⟨M',⟨y,g1,g2,h1,h2⟩,h3⟩:=hh
  exact⟨i.Q q y.2,⟨y,g1,g2,h1,rfl⟩,by rw[h3,h2]⟩)
end Go.Proofs.YtfepdmpplahloaaGreat
namespace Go.Proofs.YtfepdmpplahloaaGreat
open Go Go.Gl
variable{ρ0 ρ:FR}{L L':List aA}{Post:Value→List aA→Prop}{T:Tree}
namespace Hn
end Hn
namespace Rx
theorem CO{mk:Rt→bg}{x:Rt}{y:bg}(h:dU mk x y)(hf:Hn.free x.hs≠none)(he:(mk x).1.2=0):y=(cW (mk x).2 (mk x).1.1,dO (mk x).2 (mk x).1.1):=by
 unfold dU at h
 rw[if_neg hf]at h
 obtain⟨z,hz,rfl⟩:=h
 rcases hz with ⟨_,rfl⟩|⟨h3,_⟩
 ·rw[if_neg (fun g=>g he)]
 ·rw[he]at h3;cases h3
def zf(cs:List aS)(h:Hd):List Int:=if h.k=1 then(match Sp.fP cs h.c with |some c=>c.2|none=>[])else if h.k=2 then Sp.upto h.n.toNat else if h.k=4 then[2]else[]
theorem B1{S:aD}{cs:List aS}{a:Int}{h:Hd}(hh:Ob.head S a=some h):Ob.refs S cs a=zf cs h:=by unfold Ob.refs zf;rw[hh];rfl
variable{x:Rt}{os:List fT}{o:fT}{h k v:Int}
theorem EV{f:Int→bg}{a:Int}(hh:Hn.held x.hs h=(a,0)):qp x h f=f a:=by
 unfold qp gA
 rw[if_neg (show¬(false=true∧h=0)from fun g=>by cases g.1),hh,if_neg (fun g=>g rfl)]
end Rx
end Go.Proofs.YtfepdmpplahloaaGreat
namespace Go.Proofs.YtfepdmpplahloaaGreat
open Go Go.Gl
variable{ρ0 ρ:FR}{L L':List aA}{Post:Value→List aA→Prop}{T:Tree}
section
variable(i:Pl)(q:Nat){N:Int}{cs:List aS}{rows:List (List Int)}{aU:Int}{S:aD}{l:List Hn.Slot}{ro wa pe:List Int}{ck rn:Int}{os:List fT}
end
end Go.Proofs.YtfepdmpplahloaaGreat
