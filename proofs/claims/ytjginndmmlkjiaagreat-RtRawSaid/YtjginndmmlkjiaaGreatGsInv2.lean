import Derived.Test.YtjginndmmlkjiaaGreatGsProc8
set_option linter.unusedSimpArgs false
set_option linter.unusedVariables false
namespace Go.Proofs.YtjginndmmlkjiaaGreat
open Go Go.Gl
variable{ρ0 ρ:FR}{L L':List aD}{Post:Value→List aD→Prop}{T:Tree}
theorem He{M M':List aD}{s:av}{xs:List Bool}{i:Int}{f:Bool→Tree}(t0:Take L (aw s 1 (xs.map bv)) L')(t:Take M (aw s 1 (xs.map bv)) M')(h0:0≤i)(h1:i<xs.length)(h:Tr ρ0 ρ L (f (xs.getD i.toNat false)) Post):
  Tr ρ0 ρ L (ix s.a s.n i 1 fun a=>rb (Sat ρ M) (.l .bool) a f) Post:=by
 refine Tr.vy t0 fun hn=>?_;rw[List.length_map]at hn;refine bD t0 h0 ae fun a0 ha=>?_;intro hle w hw;refine⟨xs.getD _ false,fun w' hw'=>?_,h hle w hw⟩;rcases(hw'.perm t.perm).sl with ⟨g1,_⟩|⟨b,off,pre,rest,g1,g2,g3,g4,g5,g6⟩;·rw[ha]at g1;cases g1
 ·rw[ha]at g1;injection g1 with g1;obtain⟨ty,hb⟩:=g6.cl;rw[g1,aO,Nat.mul_one];apply cell_of hb;rw[List.getElem?_toArray,←g2,m8 fC];exact qi ae
theorem Jf{S:aJ}{cs:List aX}(hw:aY S cs):∀o∈Ob.eR S,Mk.obj S o.a:=fun o ho=>by obtain⟨a,ha,rfl⟩:=List.mem_map.mp ho;obtain⟨h,hh⟩:=(fp hw).mp ha;unfold Ob.jh Mk.obj;grind
theorem fQ{m:List Bool}{a:Int}(h:0≤a):Sp.has m a=m.getD a.toNat false:=by unfold Sp.has;grind
theorem D8(p:Nat)(S:aJ)(lc:List (aX×av))(hw:aY S (dK lc))(x:pS)(hx:x.Ok)(hst:∀r∈refsOf S,r.2.2.2.2.1<9223372036854775808)(s:av)(m:List Bool)(hm:m.length=S.ws.length):
  Gl.Spec ρ Zp 187 [.slice s.a s.n s.c,pA p,LS x] [aw s 1 (m.map bv),ct p S lc] R1
  fun r M=>M=[aw s 1 (m.map bv),ct p S lc]∧((r=0∧∀f∈refsOf S,gO S m x f=false)∨∃f∈refsOf S,gO S m x f=true∧r=f.2.2.1):=by
 refine So (F.aa.Marks.gu.calls s _ (LC x)) fun R=>?_;unfold F.aa.Marks.gu;try simp only[c8,c9]
 refine aq fun b1=>ai (tX p S _ hw) ar ?_;rintro r2 M ⟨rfl,hn2⟩;try simp only[c8,c9]
 have hol:(Ob.eR S).length<2^14:=by have:=Sp.df hw.wf;unfold Ob.eR;rw[List.length_map];omega
 have hrl:=wU hw;have hobj:∀o∈Ob.eR S,0≤o.a∧o.a<m.length:=fun o ho=>by obtain⟨g1,g2⟩:=Mk.ke hw (Jf hw o ho);omega
 have hoin:∀a,Mk.obj S a→0≤a∧a<m.length:=fun a ha=>by obtain⟨g1,g2⟩:=Mk.ke hw ha;omega
 refine Tr.ta (s:=r2) (os:=Ob.eR S) tk fun ρ1 hle1 hobs=>?_;unfold refsOf at hst⊢;generalize Ob.eR S=os at*;obtain⟨_,lo,hlo,hro,hqs⟩:=hobs;have hll:lo.length=os.length:=by rw[←hlo];simp
 refine aM (fun n u M=>(fun i:Int=>M=ct p S lc::au b1 (Ja x)::aw s 1 (m.map bv)::R∧0≤i∧i≤os.length∧n=os.length-i.toNat∧∀f∈(os.take i.toNat).filterMap eM,gO S m x f=false) u.1) os.length ?_ ?_;·exact⟨rfl,bu,bq,bu,bu⟩
 ·rintro n ⟨(i:Int),⟨⟩⟩ M ⟨rfl,i0,i1,rfl,hno⟩ X hX;dsimp only at i0 i1 hno hX⊢;refine ag (fun h=>?_) (fun h=>?_)
  ·replace h:i<(r2.n:Int):=oT h;have hi:i.toNat<os.length:=by omega
   have hxx:lo[i.toNat]? =some lo[i.toNat]:=List.getElem?_eq_getElem ae;have hxo:os[i.toNat]? =some lo[i.toNat].1:=by have:=congrArg (fun l:List pX=>l[i.toNat]?) hlo;rw[List.getElem?_map,hxx]at this;exact this.symm
   have ht:(os.take (i+1).toNat).filterMap eM=(os.take i.toNat).filterMap eM++[lo[i.toNat].1].filterMap eM:=by rw[show(i+1).toNat=i.toNat+1 by omega,List.take_add_one,hxo,List.filterMap_append];rfl
   obtain⟨hq,hqn⟩:=hqs _ (List.mem_of_getElem? hxx);have hmo:=List.mem_of_getElem? hxo;have h5:=hrl _ hmo;have hoa:=hobj _ hmo;generalize lo[i.toNat]=y at*;obtain⟨⟨a,⟨k,c,n,f⟩,ws⟩,q⟩:=y;dsimp only at hq hqn h5 ht hoa hmo;refine bz hro i0 h fun a0 ha=>kU (x:=(a,k,c,n,f,q,())) ha hro fX (fun e v he=>?_) ?_;·have hlt:e<6:=(List.getElem?_eq_some_iff.1 he).1;rw[Nat.add_zero,eJ (g:=jQ) (m:=6) (fun _=>rfl) hxx hlt];exact he
   dsimp only;refine aq fun b7=>?_;rw[LF];refine iT ?_;refine Tr.take (A:=au _ [.int _ a,.int _ k,.int _ c,.int _ n,.bool f,.slice _ _ q.c]) tk ?_;rw[bG (n:=i+1)];have skip:(∀f',eM ⟨a,⟨k,c,n,f⟩,ws⟩=some f'→gO S m x f'=false)→Tr ρ ρ1 (ct p S lc::au b1 (Ja x)::aw s 1 (m.map bv)::R) (X (i+1,())) (SP R1 (fun r M=>M=[aw s 1 (m.map bv),ct p S lc]∧((r=0∧∀f∈os.filterMap eM,gO S m x f=false)∨∃f∈os.filterMap eM,gO S m x f=true∧r=f.2.2.1)) R):=fun hs=>by
    refine hX _ _ _ ae ⟨rfl,bq,bq,rfl,fun f' hf'=>?_⟩;dsimp only at hf';rw[ht]at hf';rcases List.mem_append.mp hf' with hf'|hf';·exact hno _ hf'
    ·obtain⟨o,ho,he⟩:=List.mem_filterMap.mp hf';rw[List.mem_singleton]at ho;subst ho;exact hs _ he
   refine iL<|jO (s:=s) (xs:=m) tk hoa.1 hoa.2<|ag (fun h1=>?_) (fun h1=>?_)
   ·refine Tr.drop .here (skip fun f' hf'=>?_);unfold eM at hf';split at hf'
    ·injection hf' with hf';subst hf';unfold gO;dsimp only;rw[fQ hoa.1];have:m.getD a.toNat false=false:=by simpa using h1
     rw[this];simp
    ·cases hf'
   ·have h1:m.getD a.toNat false=true:=by simpa using h1
    refine iL<|ag (fun h2=>?_) (fun h2=>?_)
    ·have h2:k≠4:=by simpa using h2
     exact Tr.drop .here (skip fun f' hf'=>by simp[eM,h2]at hf')
    ·have h2:k=4:=by simpa using h2
     have h5:=h5 h2;have hr1:eM ⟨a,⟨k,c,n,f⟩,ws⟩=some (a,c,ws.getD 0 0,ws.getD 1 0,ws.getD 3 0,ws.getD 4 0,()):=by simp[eM,h2]
     have hin:((a,c,ws.getD 0 0,ws.getD 1 0,ws.getD 3 0,ws.getD 4 0,()):da)∈os.filterMap eM:=List.mem_filterMap.mpr ⟨_,hmo,hr1⟩;have hstt:=hst _ hin;dsimp only at hstt;rw[hr1]at skip;replace skip:=fun hs=>skip (fun f' hf'=>by injection hf' with hf';rw[←hf'];exact hs);refine aT bL tk rfl<|ag (fun h3=>?_) (fun h3=>?_)
     ·have h3:c≠1:=by simpa using h3
      exact Tr.drop .here (skip (by unfold gO;dsimp only;rw[decide_eq_false h3];rfl))
     ·have h3:c=1:=by simpa using h3
      refine iL<|ag (fun h4=>?_) (fun h4=>?_);·exact Tr.drop .here (skip (by unfold gO;dsimp only;rw[h4];simp))
      ·refine lS b7 5 q<|cC hq (by omega) (by omega) ?_;rw[show(0:Int).toNat=0 from rfl];generalize hw0:ws.getD 0 0=w0 at*;refine aA (aK [au b1 (Ja x),au b7 [.int .i64 a,.int .i64 k,.int .i64 c,.int .i64 n,.bool f,.slice q.a q.n q.c],aw s 1 (m.map bv)] ar ?_);apply cE (ib p S _ hw _);try simp only[c8,c9]
       refine aS ar (kK [au _ _,au _ [.int _ a,.int _ k,.int _ c,.int _ n,.bool f,.slice _ _ q.c],aw s 1 _] ar (fun w h=>h) ?_);cases hh:Ob.head S w0 with
       |none=>exact bF<|Tr.drop (.skip .here) (skip (by unfold gO gU;dsimp only;rw[hh];simp))
       |some hd=>
        have how:=hoin w0 (by unfold Mk.obj;rw[hh];rfl);refine bT<|He (s:=s) (xs:=m) tk tk how.1 how.2<|ag (fun h6=>?_) (fun h6=>?_)
        ·have h6:m.getD w0.toNat false=false:=by simpa using h6
         refine hI b1 2 x.clock<|hS b7 5 q<|fO hq (by omega) (by omega)<|hI b1 3 x.free<|hI b1 4 x.ba ?_;rw[show(3:Int).toNat=3 from rfl];apply cE (Gm _ _ _ _ hx.c hstt hx.f hx.r);try simp only[c8,c9]
         have ek:gO S m x (a,c,w0,ws.getD 1 0,ws.getD 3 0,ws.getD 4 0,())=Sf.kT x.clock (ws.getD 3 0) x.free x.ba:=by unfold gO gU;dsimp only;rw[decide_eq_true h3,fQ hoa.1,h1,fQ how.1,h6,hh,h4];simp
         refine ag (fun h7=>?_) (fun h7=>?_);·exact rE w0 ⟨rfl,.inr ⟨_,hin,by rw[ek,h7],rfl⟩⟩
         ·exact Tr.drop (.skip .here) (skip (by rw[ek,h7]))
        ·have h6:m.getD w0.toNat false=true:=by simpa using h6
         exact Tr.drop (.skip .here) (skip (by unfold gO gU;dsimp only;rw[fQ how.1,h6];simp))
  ·replace h:¬i<(r2.n:Int):=oF h;rw[List.take_of_length_le ae]at hno;exact rT ⟨rfl,.inl ⟨rfl,hno⟩⟩
theorem _root_.Go.Gl.fx.part{s:av}{m:Nat}{xs:List Value}(h:fx ρ s m xs){l e:Nat}(hle:l≤e)(he:e≤s.n)(hc:s.n≤s.c):fx ρ ⟨if s.c=l then s.a else s.a.map fun b=>fa b (l*m),e-l,s.c-l⟩ m ((xs.drop (l*m)).take ((e-l)*m)):=by
 obtain⟨h1,h2⟩:=h;have h4:e*m≤s.n*m:=Nat.mul_le_mul_right _ he;have h5:_*m=e*m-l*m:=Nat.sub_mul _ _ _;refine⟨by grind,?_⟩;by_cases hn:e=l;·left;dsimp only;omega
 ·rcases h2 with h2|⟨b,off,cs,ty,fr,g1,g2,g3⟩;·omega
  ·right;refine⟨b,off+l*m,cs,ty,fr,?_,g2,fun i hi=>?_⟩;·rw[if_neg ae,g1,Option.map_some,aO]
   grind
theorem Jz{lr:List da}{r:da}{k:Nat}(h:lr.Pairwise fun a b=>bQ a≤bQ b)(h1:∀y∈lr.take k,bQ y≤bQ r)(h2:k<lr.length→bQ r≤bQ (lr.getD k d6)):(lr.take k++r::lr.drop k).Pairwise fun a b=>bQ a≤bQ b:=by
 have h':=h;rw[←List.take_append_drop k lr,List.pairwise_append]at h';obtain⟨g1,g2,g3⟩:=h';rw[List.pairwise_append,List.pairwise_cons];have h4:∀y∈lr.drop k,bQ r≤bQ y:=fun y hy=>by
  rcases Nat.lt_or_ge k lr.length with c|c;·rw[hE d6 c]at hy g2;rw[List.pairwise_cons]at g2;grind
  ·rw[List.drop_eq_nil_of_le c]at hy;cases hy
 grind
theorem FK{lr:List da}{r:da}{k:Nat}:(lr.take k++r::lr.drop k).Perm (lr++[r]):=by apply List.perm_middle.trans;rw[List.take_append_drop];grind
def ny(S:aJ)(m:List Bool)(f t:Int)(r:da):Bool:=decide (f≤r.2.1)&&(decide (r.2.1≤t)&&gU S m r)
theorem rZ(p:Nat)(S:aJ)(lc:List (aX×av))(hw:aY S (dK lc))(s:av)(m:List Bool)(hm:m.length=S.ws.length)(fr tt:Int):
  Gl.Spec ρ Zp 188 [.slice s.a s.n s.c,pA p,i64 fr,i64 tt] [aw s 1 (m.map bv),ct p S lc] RS
  fun r M=>∃lr:List da,M=[aw r 1 ((lr.map (·.1)).map i64),aw s 1 (m.map bv),ct p S lc]∧lr.Perm ((refsOf S).filter (ny S m fr tt))∧lr.Pairwise fun a b=>bQ a≤bQ b:=by
 refine So (F.aa.Marks.mF.calls s _ _ _) fun R=>?_;unfold F.aa.Marks.mF;try simp only[c8,c9]
 refine ai (tX p S _ hw) ar ?_;rintro r1 M ⟨rfl,hn1⟩;try simp only[c8,c9]
 have hol:(Ob.eR S).length<2^14:=by have:=Sp.df hw.wf;unfold Ob.eR;rw[List.length_map];omega
 have hrl:=wU hw;have hoin:∀a,Mk.obj S a→0≤a∧a<m.length:=fun a ha=>by obtain⟨g1,g2⟩:=Mk.ke hw ha;omega
 have hkey:∀f∈refsOf S,(Ob.get S f.1 4).1=bQ f:=fun f hf=>by obtain⟨h,_,_,e⟩:=(eY hw).mp hf;rw[e];rfl
 refine Tr.ta (s:=r1) (os:=Ob.eR S) tk fun ρ1 hle1 hobs=>?_;unfold refsOf at hkey⊢;generalize Ob.eR S=os at*;obtain⟨_,lo,hlo,hro,hqs⟩:=hobs;have hll:lo.length=os.length:=by rw[←hlo];simp
 refine Tr.cg 1<|aM (fun n u M=>(fun(t:av) (i:Int)=>∃lr:List da,M=aw t 1 ((lr.map (·.1)).map i64)::ct p S lc::aw s 1 (m.map bv)::R∧0≤i∧i≤os.length∧n=os.length-i.toNat∧lr.Perm (((os.take i.toNat).filterMap eM).filter (ny S m fr tt))∧lr.Pairwise fun a b=>bQ a≤bQ b) u.1 u.2.1) os.length ?_ ?_;·exact⟨[],rfl,bu,bq,bu,bu,.nil⟩
 ·rintro n ⟨(t:av),(i:Int),⟨⟩⟩ M ⟨lr,rfl,i0,i1,rfl,hper,hsrt⟩ X hX;dsimp only at i0 i1 hper hX⊢;refine ag (fun h=>?_) (fun h=>?_)
  ·replace h:i<(r1.n:Int):=oT h;have hi:i.toNat<os.length:=by omega
   have hxx:lo[i.toNat]? =some lo[i.toNat]:=List.getElem?_eq_getElem ae;have hxo:os[i.toNat]? =some lo[i.toNat].1:=by have:=congrArg (fun l:List pX=>l[i.toNat]?) hlo;rw[List.getElem?_map,hxx]at this;exact this.symm
   have ht:(os.take (i+1).toNat).filterMap eM=(os.take i.toNat).filterMap eM++[lo[i.toNat].1].filterMap eM:=by rw[show(i+1).toNat=i.toNat+1 by omega,List.take_add_one,hxo,List.filterMap_append];rfl
   have hlrl:lr.length≤os.length:=by rw[hper.length_eq];refine Nat.le_trans (List.length_filter_le _ _) (Nat.le_trans (List.length_filterMap_le _ _) ?_);rw[List.length_take];omega
   have hlrm:∀y∈lr,y∈os.filterMap eM:=fun y hy=>by have:=hper.mem_iff.mp hy;have:=(List.mem_filter.mp this).1;obtain⟨o,ho,e⟩:=List.mem_filterMap.mp this;exact List.mem_filterMap.mpr ⟨o,List.mem_of_mem_take ho,e⟩
   obtain⟨hq,hqn⟩:=hqs _ (List.mem_of_getElem? hxx);have hmo:=List.mem_of_getElem? hxo;have h5:=hrl _ hmo;generalize lo[i.toNat]=y at*;obtain⟨⟨a,⟨k,c,n,f⟩,ws⟩,q⟩:=y;dsimp only at hq hqn h5 ht hmo;refine bz hro i0 h fun a0 ha=>kU (x:=(a,k,c,n,f,q,())) ha hro fX (fun e v he=>?_) ?_;·have hlt:e<6:=(List.getElem?_eq_some_iff.1 he).1;rw[Nat.add_zero,eJ (g:=jQ) (m:=6) (fun _=>rfl) hxx hlt];exact he
   dsimp only;refine aq fun b6=>?_;rw[LF];refine iT ?_;refine Tr.take (A:=au _ [.int _ a,.int _ k,.int _ c,.int _ n,.bool f,.slice _ _ q.c]) tk ?_;rw[bG (n:=i+1)];have go:∀(t':av) (lr':List da),lr'.Perm (((os.take (i+1).toNat).filterMap eM).filter (ny S m fr tt))→(lr'.Pairwise fun a b=>bQ a≤bQ b)→Tr ρ ρ1 (aw t' 1 ((lr'.map (·.1)).map i64)::ct p S lc::aw s 1 (m.map bv)::R) (X (t',i+1,())) (SP RS (fun r M=>∃lr:List da,M=[aw r 1 ((lr.map (·.1)).map i64),aw s 1 (m.map bv),ct p S lc]∧lr.Perm ((os.filterMap eM).filter (ny S m fr tt))∧lr.Pairwise fun a b=>bQ a≤bQ b) R):=fun t' lr' h1 h2=>
    hX (os.length-(i+1).toNat) _ _ (by omega) ⟨lr',rfl,by dsimp only;omega,by dsimp only;omega,rfl,h1,h2⟩;have skip:(∀f',eM ⟨a,⟨k,c,n,f⟩,ws⟩=some f'→ny S m fr tt f'=false)→Tr ρ ρ1 (aw t 1 ((lr.map (·.1)).map i64)::ct p S lc::aw s 1 (m.map bv)::R) (X (t,i+1,())) (SP RS (fun r M=>∃lr:List da,M=[aw r 1 ((lr.map (·.1)).map i64),aw s 1 (m.map bv),ct p S lc]∧lr.Perm ((os.filterMap eM).filter (ny S m fr tt))∧lr.Pairwise fun a b=>bQ a≤bQ b) R):=fun hs=>by
    refine go t _ ?_ hsrt;rw[ht,List.filter_append];have:([(⟨a,⟨k,c,n,f⟩,ws⟩:pX)].filterMap eM).filter (ny S m fr tt)=[]:=by rw[List.filter_eq_nil_iff];intro f' hf';obtain⟨o,ho,he⟩:=List.mem_filterMap.mp hf';rw[List.mem_singleton]at ho;subst ho;rw[hs f' he];simp
    rw[this,List.append_nil];exact hper
   refine iL<|ag (fun h2=>?_) (fun h2=>?_)
   ·have h2:k≠4:=by simpa using h2
    exact Tr.drop .here (skip fun f' hf'=>by simp[eM,h2]at hf')
   have h2:k=4:=by simpa using h2
   have h5:=h5 h2;have hr1:eM ⟨a,⟨k,c,n,f⟩,ws⟩=some (a,c,ws.getD 0 0,ws.getD 1 0,ws.getD 3 0,ws.getD 4 0,()):=by simp[eM,h2]
   have hin:((a,c,ws.getD 0 0,ws.getD 1 0,ws.getD 3 0,ws.getD 4 0,()):da)∈os.filterMap eM:=List.mem_filterMap.mpr ⟨_,hmo,hr1⟩;rw[hr1]at skip;replace skip:=fun hs=>skip (fun f' hf'=>by injection hf' with hf';rw[←hf'];exact hs);refine aT bL tk rfl<|ag (fun h3=>?_) (fun h3=>?_);·have h3:c<fr:=oT h3;exact Tr.drop .here (skip (by unfold ny;dsimp only;rw[decide_eq_false ae];rfl))
   have h3:¬c<fr:=oF h3;refine aT bL tk rfl<|ag (fun h4=>?_) (fun h4=>?_);·have h4:c>tt:=oT h4;exact Tr.drop .here (skip (by unfold ny;dsimp only;rw[decide_eq_false (p:=c≤tt) (by omega)];simp))
   have h4:¬c>tt:=oF h4;refine lS b6 5 q<|cC hq (by omega) (by omega) ?_;rw[show(0:Int).toNat=0 from rfl];generalize hw0:ws.getD 0 0=w0 at*;apply cE (ib p S lc hw w0);try simp only[c8,c9]
   cases hh:Ob.head S w0 with
   |none=>exact bT<|Tr.drop (.skip .here) (Tr.take (A:=aw t 1 ((lr.map (·.1)).map i64)) tk (skip (by unfold ny gU;dsimp only;rw[hh];simp)))
   |some hd=>
   have how:=hoin w0 (by unfold Mk.obj;rw[hh];rfl);refine bF<|jO (s:=s) (xs:=m) tk how.1 how.2<|ag (fun h6=>?_) (fun h6=>?_);·exact Tr.drop (.skip .here) (Tr.take (A:=aw t 1 ((lr.map (·.1)).map i64)) tk (skip (by unfold ny gU;dsimp only;rw[fQ how.1,h6];simp)))
   have eser:ny S m fr tt (a,c,w0,ws.getD 1 0,ws.getD 3 0,ws.getD 4 0,())=true:=by unfold ny gU;dsimp only;rw[fQ how.1,h6,hh,decide_eq_true (p:=fr≤c) ae,decide_eq_true (p:=c≤tt) ae];rfl
   have hkr:bQ (a,c,w0,ws.getD 1 0,ws.getD 3 0,ws.getD 4 0,())=ws.getD 4 0:=rfl;have har:a=((a,c,w0,ws.getD 1 0,ws.getD 3 0,ws.getD 4 0,()):da).1:=rfl;have hnew:(((os.take (i+1).toNat).filterMap eM).filter (ny S m fr tt))=((os.take i.toNat).filterMap eM).filter (ny S m fr tt)++[(a,c,w0,ws.getD 1 0,ws.getD 3 0,ws.getD 4 0,())]:=by rw[ht,List.filter_append];congr 1;rw[show[(⟨a,⟨k,c,n,f⟩,ws⟩:pX)].filterMap eM=[(a,c,w0,ws.getD 1 0,ws.getD 3 0,ws.getD 4 0,())] by rw[List.filterMap_cons,hr1];rfl,List.filter_cons_of_pos eser];rfl
   rw[hnew]at go;clear skip hnew hr1;generalize((a,c,w0,ws.getD 1 0,ws.getD 3 0,ws.getD 4 0,()):da)=r at*;refine Tr.fA (s:=t) tk fun htn htc=>?_;rw[List.length_map,List.length_map,Nat.mul_one]at htn;refine Tr.cL (s:=t) tk fun ρ2 hle2 hrt=>?_;have hq2:=hq.le hle2;refine iV (fun(u:LTs [kI]) M=>∃kk:Nat,u.1=(kk:Int)∧kk≤lr.length∧(∀y∈lr.take kk,bQ y≤bQ r)∧(kk<lr.length→bQ r≤bQ (lr.getD kk d6))∧M=au b6 [.int .i64 a,.int .i64 k,.int .i64 c,.int .i64 n,.bool f,.slice q.a q.n q.c]::ct p S lc::aw s 1 (m.map bv)::R) ?_ ?_
   ·rintro⟨(j:Int),⟨⟩⟩ M ⟨kk,hj,hkk,hle,hgt,rfl⟩;dsimp only at hj;subst hj;refine aA (aK [au _ [.int _ a,.int _ k,.int _ c,.int _ n,.bool f,.slice _ _ q.c]] ar ?_);refine ei ae (by first |omega |(dsimp only;omega)) (by first |omega |(dsimp only;omega))<|jL<|ei (by first |omega |(dsimp only;omega)) (by first |omega |(dsimp only;omega)) (by first |omega |(dsimp only;omega)) ?_;have p1:=hrt.part (l:=(0:Int).toNat) (e:=(kk:Int).toNat) bu (by rw[Int.toNat_natCast];omega) htc;have p2:=hrt.part (l:=((kk:Nat):Int).toNat) (e:=((t.n:Nat):Int).toNat) (by rw[Int.toNat_natCast,Int.toNat_natCast];omega) (by rw[Int.toNat_natCast];omega) htc;have e1:((((lr.map (·.1)).map i64).drop ((0:Int).toNat*1)).take ((((kk:Nat):Int).toNat-(0:Int).toNat)*1))=((lr.take kk).map (·.1)).map i64:=by rw[Int.toNat_natCast,List.map_take,List.map_take];simp
    have e2:((((lr.map (·.1)).map i64).drop (((kk:Nat):Int).toNat*1)).take ((((t.n:Nat):Int).toNat-((kk:Nat):Int).toNat)*1))=((lr.drop kk).map (·.1)).map i64:=by rw[Int.toNat_natCast,Int.toNat_natCast,List.map_drop,List.map_drop,Nat.mul_one,Nat.mul_one,List.take_of_length_le fC]
    rw[e1]at p1;rw[e2]at p2;clear e1 e2;have hl1:((lr.take kk).map (·.1)).length≤lr.length:=by rw[List.length_map,List.length_take];omega
    have hl2:((lr.drop kk).map (·.1)).length≤lr.length:=by rw[List.length_map,List.length_drop];omega
    have fin:∀(r':av),Tr ρ ρ2 (aw r' 1 (((lr.take kk).map (·.1)++[a]++(lr.drop kk).map (·.1)).map i64)::ct p S lc::aw s 1 (m.map bv)::R) (X (r',i+1,())) (SP RS (fun r M=>∃lr:List da,M=[aw r 1 ((lr.map (·.1)).map i64),aw s 1 (m.map bv),ct p S lc]∧lr.Perm ((os.filterMap eM).filter (ny S m fr tt))∧lr.Pairwise fun a b=>bQ a≤bQ b) R):=fun r'=>by
     refine yP hle1 hle2 ?_;have e:(lr.take kk).map (·.1)++[a]++(lr.drop kk).map (·.1)=(lr.take kk++r::lr.drop kk).map (·.1):=by rw[har];simp
     rw[e];exact go _ _ (FK.trans (hper.append_right _)) (Jz hsrt hle hgt)
    refine cr ?_ ?_
    ·refine aq fun b22=>Tr.imp (A':=aw ⟨oA b22,0,0⟩ 1 (([]:List _).map i64)) tk (aw.emp _ 1)<|aS ar (cr ?_ ?_);·refine bj (s:=⟨oA b22,0,0⟩) (xs:=[]) (ys:=(lr.take kk).map (·.1)) bJ tk (Rd.ro p1) (by rw[List.length_nil];omega) fun r23 h23=>?_;rw[List.nil_append];exact cK<|dm (s:=r23) (xs:=(lr.take kk).map (·.1)) bJ tk (by omega) fun r25 h25=>bj (s:=r25) (xs:=(lr.take kk).map (·.1)++[a]) (ys:=(lr.drop kk).map (·.1)) bJ tk (Rd.ro p2) (by rw[List.length_append,List.length_singleton];omega) fun r26 h26=>tD (au b6 [.int .i64 a,.int .i64 k,.int .i64 c,.int .i64 n,.bool f,.slice q.a q.n q.c])<|fin r26
     ·refine aq fun b27=>bj (s:=⟨oA b22,0,0⟩) (xs:=[]) (ys:=(lr.take kk).map (·.1)) bJ tk (Rd.ro p1) (by rw[List.length_nil];omega) fun r23 h23=>?_;rw[List.nil_append];refine bj (s:=r23) (x:=⟨oA b27,1,1⟩) (xs:=(lr.take kk).map (·.1)) (ys:=[a]) bJ tk (Rd.cl (b:=b27) tk rfl rfl) (by rw[List.length_singleton];omega) fun r25 h25=>bj (s:=r25) (xs:=(lr.take kk).map (·.1)++[a]) (ys:=(lr.drop kk).map (·.1)) bJ tk (Rd.ro p2) (by rw[List.length_append,List.length_singleton];omega) fun r26 h26=>tD (au b27 [.int .i64 a]) ?_;exact tD (au _ [.int _ a,.int _ k,.int _ c,.int _ n,.bool f,.slice _ _ q.c])<|fin _
    ·refine aq fun b27=>aq fun b22=>Tr.imp (A:=au b22 []) (A':=aw ⟨oA b22,0,0⟩ 1 (([]:List Int).map i64)) tk (aw.emp b22 1)<|bj (s:=⟨oA b22,0,0⟩) (xs:=[]) (ys:=(lr.take kk).map (·.1)) bJ tk (Rd.ro p1) (by rw[List.length_nil];omega) fun r23 h23=>?_;rw[List.nil_append];refine bj (s:=r23) (x:=⟨oA b27,1,1⟩) (xs:=(lr.take kk).map (·.1)) (ys:=[a]) bJ tk (Rd.cl (b:=b27) tk rfl rfl) (by rw[List.length_singleton];omega) fun r25 h25=>bj (s:=r25) (xs:=(lr.take kk).map (·.1)++[a]) (ys:=(lr.drop kk).map (·.1)) bJ tk (Rd.ro p2) (by rw[List.length_append,List.length_singleton];omega) fun r26 h26=>tD (au b27 [.int .i64 a]) ?_;exact tD (au _ [.int _ a,.int _ k,.int _ c,.int _ n,.bool f,.slice _ _ q.c])<|fin _
   ·intro J hJ;clear hX go;refine Tr.take tk (Tr.take (A:=au _ [.int _ a,.int _ k,.int _ c,.int _ n,.bool f,.slice _ _ q.c]) tk ?_);refine aM (fun n' u M=>(fun j:Int=>M=au b6 [.int .i64 a,.int .i64 k,.int .i64 c,.int .i64 n,.bool f,.slice q.a q.n q.c]::ct p S lc::aw s 1 (m.map bv)::R∧0≤j∧j≤lr.length∧n'=lr.length-j.toNat∧∀y∈lr.take j.toNat,bQ y≤bQ r) u.1) lr.length ?_ ?_;·exact⟨rfl,bu,bq,bu,bu⟩
    ·rintro n' ⟨(j:Int),⟨⟩⟩ M ⟨rfl,j0,j1,rfl,hj⟩ Y hY;dsimp only at j0 j1 hj hY⊢;refine aA (aK [au _ [.int _ a,.int _ k,.int _ c,.int _ n,.bool f,.slice _ _ q.c]] ar ?_);refine ag (fun h7=>?_) (fun h7=>?_)
     ·replace h7:j<(t.n:Int):=oT h7;have hjl:j.toNat<lr.length:=by omega
      refine fO hrt j0 (by rw[List.length_map];omega)<|hS b6 5 q<|fO hq2 (by omega) (by omega) ?_;rw[show(4:Int).toNat=4 from rfl];have hy:(lr.map (·.1)).getD j.toNat 0=(lr.getD j.toNat d6).1:=by rw[List.getD_eq_getElem?_getD,List.getD_eq_getElem?_getD,List.getElem?_map,List.getElem?_eq_getElem hjl];rfl
      have hyin:lr.getD j.toNat d6∈lr:=by rw[List.getD_eq_getElem?_getD,List.getElem?_eq_getElem hjl];exact List.getElem_mem _
      have hyk:=hkey _ (hlrm _ hyin);rw[hy];apply cE (kG p S _ hw (lr.getD _ _).1 4);try simp only[c8,c9]
      refine cK<|Tr.take (A:=au _ [.int _ a,.int _ k,.int _ c,.int _ n,.bool f,.slice _ _ q.c]) tk ?_;rw[hyk,←hkr,bG (n:=j+1)];refine ag (fun h8=>?_) (fun h8=>?_)
      ·have h8:bQ _≤bQ r:=oT h8;refine hY _ _ _ ae ⟨rfl,bq,bq,rfl,fun y hy=>?_⟩;dsimp only at hy;rw[show(j+1).toNat=j.toNat+1 by omega,aE d6 hjl]at hy;rcases List.mem_append.mp hy with hy|hy;·exact hj y hy
       ·rw[List.mem_singleton]at hy;rw[hy];exact h8
      ·have h8:¬bQ _≤bQ r:=oF h8;exact hJ _ _ ⟨j.toNat,(Int.toNat_of_nonneg j0).symm,ae,hj,fun _=>by omega,rfl⟩
     ·replace h7:¬j<(t.n:Int):=oF h7;exact hJ _ _ ⟨j.toNat,(Int.toNat_of_nonneg j0).symm,ae,hj,fun g=>by omega,rfl⟩
  ·replace h:¬i<(r1.n:Int):=oF h;rw[List.take_of_length_le ae]at hper;exact rT ⟨lr,rfl,hper,hsrt⟩
end Go.Proofs.YtjginndmmlkjiaaGreat
namespace Go.Gl
open Go
variable{ρ0 ρ:FR}{L L':List aD}{Post:Value→List aD→Prop}
theorem Sat.Lz{b:Nat}{o:Obj}{w:World}(hr:ρ b=none)(H:Sat ⟨fun c=>if c=b then some o else ρ c,ρ.z⟩ L w):Sat ρ (Gl.pt b o::L) w:=by
 obtain⟨⟨h,hl,hh⟩,h3⟩:=H;have hb:h b=none:=by
  cases e:h b with
  |none=>rfl
  |some u=>grind
 refine⟨⟨fun c=>((fun c=>if c=b then some o else none) c).or _,⟨_,h,fun c=>?_,rfl,rfl,hl⟩,fun c u hu=>?_⟩,⟨fun c u hc=>?_,h3.same⟩⟩;·grind
 ·by_cases hc:c=b;·subst hc;simp at hu;subst hu;exact⟨h3.mem c o bu,hr⟩
  grind
 ·have hc':c≠b:=by grind
  exact h3.mem c u (by simp[hc',hc])
theorem Sat.emp{A:aD}{w:World}(hA:A fun _=>none)(H:Sat ρ L w):Sat ρ (A::L) w:=by obtain⟨⟨h,hl,hh⟩,h3⟩:=H;refine⟨⟨h,⟨fun _=>none,h,fun _=> .inl rfl,bu,hA,hl⟩,hh⟩,h3⟩
theorem Spec.own{P:Program}{f:FuncId}{args:List Value}{A:List aD}{r:RK}{B:RT r→List aD→Prop}{s:av}{m:Nat}{xs:List Value}(hs:∀ρ',Le ρ ρ'→fx ρ' s m xs→Gl.Spec ρ' P f args A r B):
  Gl.Spec ρ P f args (aw s m xs::A) r fun x M=>∃M',B x M'∧M=aw s m xs::M':=by
 intro R w hw;rcases Sat.sl (L:=A++R) hw with ⟨g1,g2,g3,g4,g5⟩|⟨b,off,pre,rest,g1,g2,g3,g4,g5,g6⟩;·apply (hs ρ (Le.refl _) ⟨by rw[g4,g2];simp,.inl g2⟩ R w g5).mono;rintro e w' ⟨x,M,rfl,hB,hsat⟩;exact⟨x,_,rfl,⟨M,hB,rfl⟩,Sat.emp (.inl ⟨g1,g2,g3,g4,fun _=>rfl⟩) hsat⟩
 ·obtain⟨⟨h0,⟨h1,h2,hd,rfl,⟨ty,ha⟩,hl⟩,hh⟩,h3⟩:=g6;generalize ho:Obj.cells (pre++(xs++rest)).toArray ty (0,0)=o at*;have hb1:h1 b=some o:=by rw[ha];simp
  have hr:=(hh b o (by simp[hb1])).2;have hle':Le ρ ⟨fun c=>if c=b then some o else ρ c,ρ.z⟩:=by refine⟨fun c o' hc=>?_,rfl⟩;grind
  have hw':Sat ⟨fun c=>if c=b then some o else ρ c,ρ.z⟩ (A++R) w:=by
   refine⟨⟨h2,hl,fun c u hc=>?_⟩,⟨fun c u hc=>?_,h3.same⟩⟩;·grind
   ·by_cases hcb:c=b;·grind
    ·simp[hcb]at hc;exact h3.mem c u hc
  refine(hs _ hle' ⟨g3,.inr ⟨b,off,_,ty,(0,0),g1,by simp[←ho];rfl,fun i hi=>?_⟩⟩ R w hw').mono ?_;·grind
  ·rintro e w' ⟨x,M,rfl,hB,hsat⟩;refine⟨x,_,rfl,⟨M,hB,rfl⟩,(Sat.Lz hr hsat).imp ?_⟩;intro h hh;exact .inr ⟨b,off,pre,rest,g1,g2,g3,g4,g5,ty,by rw[ho];exact hh⟩
theorem Spec.Ky{P:Program}{f:FuncId}{args:List Value}{A:List aD}{r:RK}{B:RT r→List aD→Prop}{b:Nat}{cs:List Value}(hs:∀ρ':FR,Le ρ ρ'→(∃ty,ρ' b=some (.cells cs.toArray ty (0,0)))→Gl.Spec ρ' P f args A r B):
  Gl.Spec ρ P f args (au b cs::A) r fun x M=>∃M',B x M'∧M=au b cs::M':=by
 intro R w hw;obtain⟨⟨h0,⟨h1,h2,hd,rfl,⟨ty,ha⟩,hl⟩,hh⟩,h3⟩:=hw;generalize ho:Obj.cells cs.toArray ty (0,0)=o at*;have hb1:h1 b=some o:=by rw[ha];simp
 have hr:=(hh b o (by simp[hb1])).2;have hle':Le ρ ⟨fun c=>if c=b then some o else ρ c,ρ.z⟩:=by refine⟨fun c o' hc=>?_,rfl⟩;grind
 have hw':Sat ⟨fun c=>if c=b then some o else ρ c,ρ.z⟩ (A++R) w:=by
  refine⟨⟨h2,hl,fun c u hc=>?_⟩,⟨fun c u hc=>?_,h3.same⟩⟩;·grind
  ·by_cases hcb:c=b;·grind
   ·simp[hcb]at hc;exact h3.mem c u hc
 apply (hs _ hle' ⟨ty,by simp[←ho]⟩ R w hw').mono;rintro e w' ⟨x,M,rfl,hB,hsat⟩;refine⟨x,_,rfl,⟨M,hB,rfl⟩,(Sat.Lz hr hsat).imp ?_⟩;intro h hh;exact⟨ty,by rw[ho];exact hh⟩
end Go.Gl
namespace Go.Proofs.YtjginndmmlkjiaaGreat
section
open Go Go.Gl
variable{ρ0 ρ:FR}{L L':List aD}{Post:Value→List aD→Prop}{T:Tree}
theorem D5(l0:List da):∃l:List da,l.Perm l0∧l.Pairwise fun a b=>bQ a≤bQ b:=by refine⟨l0.mergeSort fun a b=>decide (bQ a≤bQ b),List.mergeSort_perm _ _,?_⟩;have:=List.pairwise_mergeSort (le:=fun a b:da=>decide (bQ a≤bQ b)) (fun a b c h1 h2=>by grind) (fun a b=>by grind) l0;grind
theorem zs{S:aJ}(hk:rQ S){m:List Bool}{xs:List Int}{fr tt:Int}(hx:∀c,c∈xs↔(fr≤c∧c≤tt)){l lr:List da}(hp:l.Perm (refsOf S))(hs:l.Pairwise fun a b=>bQ a≤bQ b)(hp':lr.Perm ((refsOf S).filter (ny S m fr tt)))(hs':lr.Pairwise fun a b=>bQ a≤bQ b):lr.map (·.1)=cy S m xs l:=by
 have e:(fun r:da=>decide (r.2.1∈xs)&&gU S m r)=ny S m fr tt:=by unfold ny;grind
 unfold cy;rw[e];congr 1;refine GA hk (fun r hr=>(List.mem_filter.mp (hp'.mem_iff.mp hr)).1) (hp'.trans (hp.filter _).symm) hs' (hs.filter _)
theorem Fi{S:aJ}{m:List Bool}{xs:List Int}{i:Int}(i0:0≤i)(hi:i.toNat<xs.length):bV S m (xs.take (i+1).toNat)=bV S m (xs.take i.toNat)++(if(Sp.has m (xs.getD i.toNat 0)&&decide ((Ob.get S (xs.getD i.toNat 0) 1).1>0))=true then[xs.getD i.toNat 0]else[]):=by
 have ht:xs.take (i+1).toNat=xs.take i.toNat++[xs.getD i.toNat 0]:=by rw[show(i+1).toNat=i.toNat+1 by omega,aE 0 hi]
 unfold bV;grind
theorem Df{S:aJ}{m:List Bool}{fs:List Int}{i:Int}(i0:0≤i)(hi:i.toNat<fs.length):bI S m (fs.take (i+1).toNat)=cF S m (bI S m (fs.take i.toNat)) (fs.getD i.toNat 0):=by unfold bI;rw[show(i+1).toNat=i.toNat+1 by omega,aE 0 hi,List.foldl_append];rfl
theorem BJ(p:Nat)(S:aJ)(lc:List (aX×av))(hw:aY S (dK lc))(hkn:Kn S (dK lc))(hln:∀x∈lc,x.2.n=x.1.2.length)(hcl:∀c∈dK lc,c.2.length≤1023)(hkey:rQ S)(x:pS)(hx:x.Ok)(ro fs:List Int)(hro:fx ρ x.ro 1 (ro.map i64))(hfi:fx ρ x.fi 1 (fs.map i64))(hl1:ro.length<2^30)(hl2:fs.length<2^30)
  (hst:∀r∈refsOf S,r.2.2.2.2.1<9223372036854775808):
  Gl.Spec ρ Zp 131 [pA p,LS x] [ct p S lc] (.one (.g yo))
  fun r M=>∃(s1 s2 s3 s4:av) (l:List da) (m2 m3:List Bool),r=(s1,s2,s3,s4,())∧kl S (dK lc) x ro fs l m2 m3∧
   M=[aw s1 1 ((aU S m2 m3 l).map i64),aw s2 1 ((bV S m3 (aU S m2 m3 l)).map i64),aw s3 1 ((bI S m2 fs).map i64),aw s4 1 ((Mk.all m3).map i64),ct p S lc]:=by
 refine So (F.aa.Process.calls _ (LC x)) fun R=>?_;have hwl:=hw.wf.len;have hwm:=hw.wf.fF;have hoin:∀a,Mk.obj S a→0≤a∧a<S.ws.length:=fun a ha=>by obtain⟨g1,g2⟩:=Mk.ke hw ha;omega
 refine aq fun b1=>aq fun b2=>?_;rw[vM];refine ai (Kj p S _ hw.wf) ar ?_;rintro r3 M ⟨hn3,rfl⟩;refine iL<|ai (wQ p S _ hw hkn hln hcl _ _ Mk.CI _ _ hro hl1) ar ?_;rintro x' M ⟨m1,rfl,hC1,hm1⟩;refine aM (fun n u M=>∃mm:List Bool,M=aw r3 1 (mm.map bv)::ct p S lc::au b2 [.slice none 0 0,.slice none 0 0,.slice none 0 0,.slice none 0 0]::au b1 (Ja x)::R∧n=mm.count false∧Mk.ju S _ mm∧(∀a,Mk.pT S _ ro a→Sp.has mm a=true)∧∀a,Sp.has mm a=true→lH S (dK lc) (refsOf S) x (Mk.pT S (dK lc) ro) a) _ ⟨m1,rfl,rfl,hC1,fun a h=>(hm1 a).mpr (.inr h),fun a h=>?_⟩ ?_
 ·rcases(hm1 a).mp h with h|h;·rw[Mk.LB]at h;cases h
  ·exact .base h
 rintro n ⟨⟩ M ⟨mm,rfl,rfl,hC,hup,hsnd⟩ X hX;refine aN (x:=LC x) [] rfl tk rfl<|ai (D8 p S _ hw x hx hst _ _ hC.len) ar ?_;rintro r9 M ⟨rfl,hr9⟩;have hml:=hC.len;refine ag (fun h=>?_) (fun h=>?_)
 ·have h:r9=0:=eq_of_beq h;have hno:∀f∈refsOf S,gO S mm x f=false:=by
   rcases hr9 with hr9|⟨f,hf,hk,e⟩;·exact hr9.2
   ·exfalso;unfold gO gU at hk;rw[Bool.and_eq_true,Bool.and_eq_true,Bool.and_eq_true,Bool.and_eq_true,Bool.and_eq_true]at hk;obtain⟨_,_,_,⟨g4,_⟩,_⟩:=hk;rw[←e,h]at g4;exact Mk.mC hw g4
  have BT:∀a,Sp.has mm a=true↔lH S (dK lc) (refsOf S) x (Mk.pT S (dK lc) ro) a:=fun a=>⟨hsnd a,fun ha=>by
   induction ha with
   |base h=>exact hup _ h
   | @kT r a hr g1 g2 _ g4 go ga ih=>
    have hno:=hno r hr;have hm:Sp.has mm r.2.2.1=true:=by
     cases hm:Sp.has mm r.2.2.1 with
     |true=>rfl
     |false=>
      have:gO S mm x r=true:=by unfold gO gU;rw[decide_eq_true g1,g2,ih,go,hm,g4];rfl
      rw[this]at hno;cases hno
    exact hC.LQ (fun b hb _=>by rw[List.mem_singleton]at hb;rw[hb];exact hm) ga⟩;refine aq fun b10=>ai (rZ p S _ hw _ _ hC.len 1 2) ar ?_;rintro r11 M ⟨l12,rfl,hp12,hs12⟩;obtain⟨l,hpl,hsl⟩:=D5 (refsOf S);have e12:l12.map (·.1)=cy S mm [1,2] l:=zs hkey (fun c=>by simp;omega) hpl hsl hp12 hs12;rw[e12];have hll:l.length<2^14:=by rw[hpl.length_eq];exact tm hw
  have hc2:=g9 (S:=S) (m:=mm) (xs:=[1,2]) (l:=l);refine iT ?_;refine Tr.take (A:=au _ [.slice _ _ r11.c,.slice _ 0 0,.slice _ 0 0,.slice _ 0 0]) tk<|Tr.cg 1<|aM (fun n u M=>(fun i:Int=>∃o:av,M=aw o 1 ((bI S mm (fs.take i.toNat)).map i64)::au b10 [.slice r11.a r11.n r11.c,.slice none 0 0,.slice o.a o.n o.c,.slice none 0 0]::aw r11 1 ((cy S mm [1,2] l).map i64)::aw r3 1 (mm.map bv)::ct p S lc::au b2 [.slice none 0 0,.slice none 0 0,.slice none 0 0,.slice none 0 0]::au b1 (Ja x)::R∧0≤i∧i≤fs.length∧n=fs.length-i.toNat) u.1) fs.length ?_ ?_;·refine⟨⟨none,0,0⟩,?_,bu,bq,bu⟩;simp[bI]
  ·rintro n ⟨(i:Int),⟨⟩⟩ M ⟨o,rfl,i0,i1,rfl⟩ X hX;refine iL ?_;have hfn:=hfi.len;have hpl2:=sS (S:=S) (m:=mm) (fs:=fs.take i.toNat);rw[List.length_take]at hpl2;refine Tr.fu tk fun hon=>ag (fun h=>?_) (fun h=>?_)
   ·replace h:i<(x.fi.n:Int):=oT h;have hi:i.toNat<fs.length:=by omega
    have hstep:=Df (S:=S) (m:=mm) i0 hi;refine iL<|cC hfi i0 ae ?_;generalize fs.getD i.toNat 0=a at*;generalize bI S mm (fs.take i.toNat)=os at*;rw[bG (n:=i+1)];have go:∀(o':av) (os':List Int),os'=cF S mm os a→Tr ρ ρ (aw o' 1 (os'.map i64)::au b10 [.slice r11.a r11.n r11.c,.slice none 0 0,.slice o'.a o'.n o'.c,.slice none 0 0]::aw r11 1 ((cy S mm [1,2] l).map i64)::aw r3 1 (mm.map bv)::ct p S lc::au b2 [.slice none 0 0,.slice none 0 0,.slice none 0 0,.slice none 0 0]::au b1 (Ja x)::R) (X (i+1,())) (SP (.one (.g yo)) (fun r M=>∃(s1 s2 s3 s4:av) (l:List da) (m2 m3:List Bool),r=(s1,s2,s3,s4,())∧kl S (dK lc) x ro fs l m2 m3∧M=[aw s1 1 ((aU S m2 m3 l).map i64),aw s2 1 ((bV S m3 (aU S m2 m3 l)).map i64),aw s3 1 ((bI S m2 fs).map i64),aw s4 1 ((Mk.all m3).map i64),ct p S lc]) R):=fun o' os' e=>by refine hX _ _ _ ae ⟨o',?_,bq,bq,rfl⟩;rw[hstep,e]
    apply cE (ib p S _ hw a);refine Tr.take (A:=aw r3 1 _) tk (Tr.take (A:=aw r11 1 _) tk (Tr.take (A:=au b10 [.slice _ _ r11.c,.slice _ 0 0,.slice _ _ o.c,.slice _ 0 0]) tk (Tr.take (A:=aw o 1 _) tk ?_)));have elost:gU S mm (0,0,a,0,0,0,())=((Ob.head S a).isSome&& !Sp.has mm a):=rfl;cases hh:Ob.head S a with
    |none=>exact bF<|go o _ (by unfold cF;rw[if_neg (fun g=>by rw[elost,hh]at g;cases g.1)])
    |some hd=>
     have how:=hoin a (by unfold Mk.obj;rw[hh];rfl);refine bT<|jO tk how.1 ae<|ag (fun h2=>?_) (fun h2=>?_)
     ·refine iL<|ai (Spec.own fun ρ' _ hro'=>Bm o os hro' ae a) ar ?_;rintro x' M ⟨M',⟨rfl,rfl⟩,rfl⟩;refine ag (fun h3=>?_) (fun h3=>?_)
      ·have h3:a∉os:=by simpa using h3
       refine iL<|dm bJ tk ae fun r hr=>sT b10 2 ?_;refine Tr.take (A:=au _ [.slice _ _ r11.c,.slice _ 0 0,.slice _ _ r.c,.slice _ 0 0]) tk (Tr.take (A:=aw r 1 _) tk ?_);exact go r _ (by unfold cF;rw[if_pos ⟨by rw[elost,hh,fQ how.1,h2];rfl,h3⟩])
      ·have h3:a∈os:=by simpa using h3
       exact go o _ (by unfold cF;rw[if_neg (fun g=>g.2 h3)])
     ·exact go o _ (by unfold cF;rw[if_neg (fun g=>by rw[elost,fQ how.1,h2]at g;simp at g)])
   ·replace h:¬i<(x.fi.n:Int):=oF h;rw[List.take_of_length_le ae]at hon⊢;have hple:=sS (S:=S) (m:=mm) (fs:=fs);generalize hos:bI S mm fs=os at*;refine iL<|ai (Spec.own fun ρ' _ hro'=>wQ p S lc hw hkn hln hcl r3 mm hC o os hro' ae) ar ?_;rintro x' M ⟨M',⟨m3,rfl,hC3,hm3⟩,rfl⟩;have hml3:=hC3.len;refine aA (aK [au _ [.slice _ _ r11.c,.slice _ 0 0,.slice _ _ o.c,.slice _ 0 0]] ar ?_);refine jL<|ai (rZ p S _ hw _ _ hml3 3 3) ar ?_;rintro r19 M ⟨l3,rfl,hp3,hs3⟩;have e3:l3.map (·.1)=cy S m3 [3] l:=zs hkey (fun c=>by simp;omega) hpl hsl hp3 hs3;rw[e3];have hc3:=g9 (S:=S) (m:=m3) (xs:=[3]) (l:=l);refine cK<|Tr.fu tk fun hn19=>bj bJ tk (Rd.sl tk (by simp[hn19])) ae fun r20 h20=>tD (aw r19 1 _) ?_;have hcin:∀a∈aU S mm m3 l,0≤a∧a<S.ws.length:=fun a ha=>by
     have hr:∃r∈l,r.1=a:=by
      rcases List.mem_append.mp ha with ha|ha;·obtain⟨r,hr,e,_⟩:=kj.mp ha;exact⟨r,hr,e⟩
      ·obtain⟨r,hr,e,_⟩:=kj.mp ha;exact⟨r,hr,e⟩
     obtain⟨r,hr,rfl⟩:=hr;obtain⟨hd,hh,_⟩:=(eY hw).mp (hpl.mem_iff.mp hr);exact hoin _ (by unfold Mk.obj;rw[hh];rfl)
    have hclen:=KS (S:=S) (m2:=mm) (m3:=m3) (l:=l);rw[show cy S mm [1,2] l++cy S m3 [3] l=aU S mm m3 l from rfl];rw[←List.length_append,show cy S mm [1,2] l++cy S m3 [3] l=aU S mm m3 l from rfl]at h20;generalize hcl9:aU S mm m3 l=cl at*;refine iT ?_;refine Tr.take (A:=au _ [.slice _ _ r20.c,.slice _ 0 0,.slice _ _ o.c,.slice _ 0 0]) tk<|Tr.cg 1<|aM (fun n u M=>(fun i:Int=>∃o2:av,M=aw o2 1 ((bV S m3 (cl.take i.toNat)).map i64)::au b10 [.slice r20.a r20.n r20.c,.slice o2.a o2.n o2.c,.slice o.a o.n o.c,.slice none 0 0]::aw r20 1 (cl.map i64)::aw r3 1 (m3.map bv)::ct p S lc::aw o 1 (os.map i64)::au b2 [.slice none 0 0,.slice none 0 0,.slice none 0 0,.slice none 0 0]::au b1 (Ja x)::R∧0≤i∧i≤cl.length∧n=cl.length-i.toNat) u.1) cl.length ?_ ?_;·refine⟨⟨none,0,0⟩,?_,bu,bq,bu⟩;simp[bV]
    ·rintro n ⟨(i:Int),⟨⟩⟩ M ⟨o2,rfl,i0,i1,rfl⟩ X hX;refine iL ?_;have hpul:=Co (S:=S) (m:=m3) (xs:=cl.take i.toNat);rw[List.length_take]at hpul;refine ag (fun h=>?_) (fun h=>?_)
     ·replace h:i<(r20.n:Int):=oT h;have hi:i.toNat<cl.length:=by omega
      have hstep:=Fi (S:=S) (m:=m3) i0 hi;have hain:=hcin (cl.getD i.toNat 0) (by rw[List.getD_eq_getElem?_getD,List.getElem?_eq_getElem hi];exact List.getElem_mem _);refine iL ?_;apply bt tk i0 ae;generalize cl.getD i.toNat 0=a at*;rw[bG (n:=i+1)];have go:∀(o':av) (os':List Int),os'=bV S m3 (cl.take (i+1).toNat)→Tr ρ ρ (aw o' 1 (os'.map i64)::au b10 [.slice r20.a r20.n r20.c,.slice o'.a o'.n o'.c,.slice o.a o.n o.c,.slice none 0 0]::aw r20 1 (cl.map i64)::aw r3 1 (m3.map bv)::ct p S lc::aw o 1 (os.map i64)::au b2 [.slice none 0 0,.slice none 0 0,.slice none 0 0,.slice none 0 0]::au b1 (Ja x)::R) (X (i+1,())) (SP (.one (.g yo)) (fun r M=>∃(s1 s2 s3 s4:av) (l:List da) (m2 m3:List Bool),r=(s1,s2,s3,s4,())∧kl S (dK lc) x ro fs l m2 m3∧M=[aw s1 1 ((aU S m2 m3 l).map i64),aw s2 1 ((bV S m3 (aU S m2 m3 l)).map i64),aw s3 1 ((bI S m2 fs).map i64),aw s4 1 ((Mk.all m3).map i64),ct p S lc]) R):=fun o' os' e=>by refine hX _ _ _ ae ⟨o',?_,bq,bq,rfl⟩;rw[e]
      refine jO tk hain.1 ae<|ag (fun h2=>?_) (fun h2=>?_)
      ·apply cE (kG p S _ hw a 1);try simp only[c8,c9]
       refine Tr.take (A:=aw r3 1 (m3.map bv)) tk (Tr.take (A:=aw r20 1 (cl.map i64)) tk (Tr.take (A:=au b10 [.slice r20.a r20.n r20.c,.slice o2.a o2.n o2.c,.slice o.a o.n o.c,.slice none 0 0]) tk (Tr.take (A:=aw o2 1 ((bV S m3 (cl.take i.toNat)).map i64)) tk ?_)));refine ag (fun h3=>?_) (fun h3=>?_);·refine lS b10 1 o2<|dm (s:=o2) (xs:=bV S m3 (cl.take i.toNat)) bJ tk (by omega) fun r hr=>sT b10 1 ?_;refine Tr.take (A:=au b10 [.slice r20.a r20.n r20.c,.slice r.a r.n r.c,.slice o.a o.n o.c,.slice none 0 0]) tk (Tr.take (A:=aw r 1 ((bV S m3 (cl.take i.toNat)++[a]).map i64)) tk ?_);exact go r _ (by rw[hstep,fQ hain.1,h2,if_pos (by rw[Bool.true_and];exact h3)])
       ·exact go _ _ (by rw[hstep,fQ hain.1,h2,if_neg (by exact fun g=>by rw[show decide _=false from h3]at g;cases g),List.append_nil])
      ·exact go _ _ (by rw[hstep,fQ hain.1,h2,if_neg bu,List.append_nil])
     ·replace h:¬i<(r20.n:Int):=oF h;rw[List.take_of_length_le ae];refine ai (KO _ m3 ae) ar ?_;rintro r24 M rfl;apply sT b10 3;refine Tr.take (A:=au _ [.slice _ _ r20.c,.slice _ _ o2.c,.slice _ _ o.c,.slice _ _ r24.c]) tk<|iG<|iT ?_;refine Tr.take (A:=au _ [.slice r20.a r20.n r20.c,.slice o2.a o2.n o2.c,.slice o.a o.n o.c,.slice r24.a r24.n r24.c]) tk<|iG<|ax rfl ⟨r20,o2,o,r24,l,mm,m3,rfl,⟨hpl,hsl,hC,hC3,BT,fun a=>by rw[hos];exact hm3 a⟩,by rw[hcl9,hos]⟩ ar bE
 ·have h:r9≠0:=by simpa using h
  obtain⟨f,hf,hg,rfl⟩:∃f∈refsOf S,gO S mm x f=true∧r9=f.2.2.1:=by
   rcases hr9 with hr9|hr9;·exact absurd hr9.1 h
   ·exact hr9
  refine aq fun b10=>Rd.bk (m:=1) (vs:=([f.2.2.1]:List Int).map _) rfl tk fun ρ1 hle1 ro1=>ai (wQ p S _ hw hkn hln hcl _ _ hC ⟨oA b10,1,1⟩ [f.2.2.1] ro1 bu) ar ?_;rintro x' M ⟨m2,rfl,hC2,hm2⟩;unfold gO gU at hg;rw[Bool.and_eq_true,Bool.and_eq_true,Bool.and_eq_true,Bool.and_eq_true,Bool.and_eq_true]at hg;obtain⟨g1,g2,g3,⟨g4,g5⟩,g6⟩:=hg;have hold:=fun a h=>(hm2 a).mpr (.inl h);have hcnt:m2.count false<mm.count false:=by
   obtain⟨k0,k1⟩:=hoin _ g4;have hm9:=(hm2 _).mpr (.inr (.root (List.mem_singleton.mpr rfl) g4));have hl2:=hC2.len;refine ry f.2.2.1.toNat ae (fun i hi=>?_) ?_ ?_;·have:=hold i (by unfold Sp.has;rw[decide_eq_true ae,Int.toNat_natCast,hi];rfl);exact this
   ·rw[fQ k0]at g5;simpa using g5
   ·rw[fQ k0]at hm9;exact hm9
  refine yP (Le.refl _) hle1<|hX _ _ _ hcnt ⟨m2,rfl,rfl,hC2,fun a h=>hold a (hup a h),fun a h=>?_⟩;rcases(hm2 a).mp h with h|h;·exact hsnd a h
  ·exact .kT hf (oT g1) (by simpa using g2) (hsnd _ g3) g6 g4 h
namespace Hn
abbrev Slot:=Int×Int
def bM(hs:List Slot)(i:Nat):Slot:=hs.getD i (0,0)
def told(hs:List Slot)(i:Nat):Int:=i+512*((bM hs i).1+1)
def free(hs:List Slot):Option Nat:=(List.range hs.length).find? fun i=>(bM hs i).2==0
def iD(hs:List Slot)(a:Int):Int×Int:=if a<1 then(0,1)else match free hs with |some i=>(told hs i,0)|none=>(0,3)
def gH(hs:List Slot)(a:Int):List Slot:=if a<1 then hs else match free hs with |some i=>hs.set i ((bM hs i).1,a)|none=>hs
def find(hs:List Slot)(x:Int):Option Nat:=if x<512 then none else if(bM hs (x%512).toNat).2≠0∧told hs (x%512).toNat=x then some (x%512).toNat else none
def held(hs:List Slot)(x:Int):Int×Int:=match find hs x with |some i=>((bM hs i).2,0)|none=>(0,6)
def nF(hs:List Slot)(x:Int):Int:=match find hs x with |some _=>0|none=>6
def kP(hs:List Slot)(x:Int):List Slot:=match find hs x with |some i=>hs.set i ((bM hs i).1+1,0)|none=>hs
def jM(hs:List Slot)(i:Nat):List (Int×Int):=if(bM hs i).2≠0 then[(told hs i,(bM hs i).2)]else[]
def all(hs:List Slot):List (Int×Int):=(List.range hs.length).flatMap (jM hs)
structure Ok(hs:List Slot):Prop where
 len:hs.length=512
 sM:∀e∈hs,0≤e.1∧e.1<2^50
theorem Ok.get{hs:List Slot}(H:Ok hs)(i:Nat):0≤(bM hs i).1∧(bM hs i).1<2^50:=by
 unfold bM;rcases Nat.lt_or_ge i hs.length with h|h;·rw[List.getD_eq_getElem?_getD,List.getElem?_eq_getElem h];exact H.sM _ (List.getElem_mem h)
 grind
theorem xM{hs:List Slot}{i j:Nat}{e:Slot}(hi:i<hs.length):bM (hs.set i e) j=if j=i then e else bM hs j:=by unfold bM;grind
theorem Ok.set{hs:List Slot}(H:Ok hs){i:Nat}{e:Slot}(he:0≤e.1∧e.1<2^50):Ok (hs.set i e):=by
 refine⟨by rw[List.length_set];exact H.len,fun x hx=>?_⟩;rcases List.mem_or_eq_of_mem_set hx with h|h;·exact H.sM x h
 ·rw[h];exact he
theorem Ds{hs:List Slot}{i:Nat}(h:free hs=some i):i<hs.length∧(bM hs i).2=0∧∀j,j<i→(bM hs j).2≠0:=by unfold free at h;simp_all
theorem Di{hs:List Slot}(h:free hs=none):∀j,j<hs.length→(bM hs j).2≠0:=fun j hj=>by unfold free at h;grind
theorem xP{hs:List Slot}{i:Nat}(h1:i<hs.length)(h2:(bM hs i).2=0)(h3:∀j,j<i→(bM hs j).2≠0):free hs=some i:=by unfold free;simp_all
theorem vk{hs:List Slot}(h3:∀j,j<hs.length→(bM hs j).2≠0):free hs=none:=by unfold free;grind
theorem gp{hs:List Slot}(n:Nat):((List.range n).flatMap (jM hs)).length≤n:=by
 induction n with
 |zero=>simp
 |succ n ih=>
  rw[List.range_succ,List.flatMap_append,List.length_append];have:(List.flatMap (jM hs) [n]).length≤1:=by rw[List.flatMap_singleton];unfold jM;split<;>simp
  omega
end Hn
namespace Mg
def oQ:List Int→Int→List Int
 |[],x=>[x]|y::l,x=>if y<x then y::oQ l x else if y=x then y::l else x::y::l
def merge(ls:List (List Int)):List Int:=(ls.flatten.filter fun x=>decide (x>0)).foldl oQ []
theorem xg:∀{l:List Int} {x a:Int},a∈oQ l x↔(a∈l∨a=x)
 |[],x,a=>by simp[oQ]
 |y::l,x,a=>by
  unfold oQ;split;·rw[List.mem_cons,xg,List.mem_cons,or_assoc]
  grind
theorem tV:∀{l:List Int} {x:Int},l.Pairwise (·<·)→(oQ l x).Pairwise (·<·)
 |[],x,_=>by simp[oQ]
 |y::l,x,h=>by
  rw[List.pairwise_cons]at h;unfold oQ;split
  ·rename_i hx;rw[List.pairwise_cons];refine⟨fun a ha=>?_,tV h.2⟩;rcases xg.mp ha with ha|rfl;·exact h.1 a ha
   ·exact hx
  ·split;·simp_all
   ·rw[List.pairwise_cons,List.pairwise_cons];grind
theorem ux:∀(l w:List Int),w.Pairwise (·<·)→(l.foldl oQ w).Pairwise (·<·)∧∀a,a∈l.foldl oQ w↔(a∈w∨a∈l)
 |[],w,h=>⟨h,fun a=>by simp⟩
 |x::l,w,h=>by obtain⟨h1,h2⟩:=ux l (oQ w x) (tV h);refine⟨h1,fun a=>?_⟩;rw[List.foldl_cons,h2,xg,List.mem_cons,or_assoc]
theorem xO(ls:List (List Int)):(merge ls).Pairwise (·<·):=(ux _ [] .nil).1
theorem mem_merge{ls:List (List Int)}{a:Int}:a∈merge ls↔(0<a∧∃l∈ls,a∈l):=by unfold merge;rw[(ux _ [] .nil).2,List.mem_filter,List.mem_flatten,decide_eq_true_iff];grind
theorem EA{ls:List (List Int)}{l:List Int}(hs:l.Pairwise (·<·))(h:∀a,a∈l↔(0<a∧∃r∈ls,a∈r)):l=merge ls:=
 uQ hs (xO ls) fun a=>by rw[h,mem_merge]
theorem Cl:∀{l:List Int} {x:Int},(oQ l x).length≤l.length+1
 |[],x=>by simp[oQ]
 |y::l,x=>by have:=Cl (l:=l) (x:=x);unfold oQ;grind
theorem rR(ls:List (List Int)):(merge ls).length≤ls.flatten.length:=by
 have:∀(l w:List Int),(l.foldl oQ w).length≤w.length+l.length:=fun l=>by
  induction l with
  |nil=>intro w;simp
  |cons x l ih=>intro w;have h2:=Cl (l:=w) (x:=x);grind
 unfold merge;grind
end Mg
namespace Qu
def has(rows:List (List Int))(i:Int):Bool:=decide (0≤i∧i<rows.length)
def row(rows:List (List Int))(i:Int):List Int:=rows.getD i.toNat []
def bR(S:aJ)(a:Int):Bool:=match Ob.head S a with |some h=>h.k==4|none=>false
def ends(r:List Int):Int×Int:=(r.headD 0,r.getLastD 0)
def Lk(S:aJ):List Int→Prop
 |[]=>True|a::r=>a≠0∧Ob.get S a 2=(r.headD 0,0)∧Lk S r
def bP(S:aJ)(rows:List (List Int))(i a:Int):aJ:=
 if has rows i&&bR S a then(if row rows i=[]then(Ob.put S a 2 0).2 else(Ob.put (Ob.put S a 2 0).2 ((row rows i).getLastD 0) 2 a).2)else S
def dN(S:aJ)(rows:List (List Int))(i a:Int):List (List Int):=if has rows i&&bR S a then rows.set i.toNat (row rows i++[a])else rows
def jA(rows:List (List Int))(i:Int):Int×Int:=if has rows i then((row rows i).headD 0,0)else(0,2)
def dq(S:aJ)(rows:List (List Int))(i:Int):aJ:=if has rows i∧row rows i≠[]then(Ob.put S ((row rows i).headD 0) 2 0).2 else S
def fK(rows:List (List Int))(i:Int):List (List Int):=if has rows i then rows.set i.toNat (row rows i).tail else rows
end Qu
end
section
open Go Go.Gl
set_option maxRecDepth 100000
def F.handle.aW.sW.T:az:=⟨(fun|5=>[(3,.slice),(7,kI)]|_=>[]),fun _=>none,(fun|8=> .held (some 12) (gF [0,1,2,4,5,6,7,8,9,10,3,11] (.go 12 true (gF [13,14] .nil)))|_=> .quiet)⟩
def F.handle.aW.sW(p0:OA):Tree:=br (Option.isNone p0) (ret (.slice none 0 0)) (lp [.slice,kI] (fun X1 u2=>br (decide ((u2.2.1:Int)<512)) (nn p0 fun a3=>ix (some (fa a3 0)) 512 u2.2.1 2 fun a4=>dI (fa a4 1) fun x5=>br ((x5:Int) != 0) (cD<|Gl.held fun S6=>nn p0 fun a7=>ix (some (fa a7 0)) 512 u2.2.1 2 fun a8=>eI S6 (fa a8 1) fun x9=>cI 139 [pV p0,i64 u2.2.1] fun r10=>aZ S6<|nw 191 [i64 r10,i64 x9] fun b11=>ap 42 (sV u2.1) (.slice (some ⟨b11,0,none⟩) 1 1) fun r12=>X1 (r12,IntKind.wrap .i64 (u2.2.1+1),())) (X1 (u2.1,IntKind.wrap .i64 (u2.2.1+1),()))) (ret (sV u2.1))) (⟨none,0,0⟩,0,()))
theorem F.handle.aW.sW.calls(p0:OA):Cf 68 [pV p0] (F.handle.aW.sW p0):=Tryz.cd F.handle.aW.sW.T Tryz.func68
def F.root.jB.jB(p0:OA):Tree:=br (Option.isNone p0) (ret (.slice none 0 0)) (nn p0 fun a1=>cS 140 [.slice (some (fa a1 0)) 16 16] fun r2=>ret (sV r2))
theorem F.root.jB.jB.calls(p0:OA):Cf 69 [pV p0] (F.root.jB.jB p0):=Tryz.cd az.z Tryz.func69
def F.final.cj.cj(p0:OA):Tree:=br (Option.isNone p0) (ret (.slice none 0 0)) (nn p0 fun a1=>dS (fa a1 1) fun x2=>cS 140 [sV x2] fun r3=>ret (sV r3))
theorem F.final.cj.cj.calls(p0:OA):Cf 71 [pV p0] (F.final.cj.cj p0):=Tryz.cd az.z Tryz.func71
def F.final.cj.yf(p0:OA):Tree:=br (Option.isNone p0) (ret (.slice none 0 0)) (nn p0 fun a1=>dS (fa a1 2) fun x2=>cS 140 [sV x2] fun r3=>ret (sV r3))
theorem F.final.cj.yf.calls(p0:OA):Cf 72 [pV p0] (F.final.cj.yf p0):=Tryz.cd az.z Tryz.func72
def F.ref.Refs.AV(p0:OA):Tree:=br (Option.isNone p0) (ret (i64 0)) (nn p0 fun a1=>dI (fa a1 1) fun x2=>ret (i64 x2))
theorem F.ref.Refs.AV.calls(p0:OA):Cf 73 [pV p0] (F.ref.Refs.AV p0):=Tryz.cd az.z Tryz.func73
def F.queue.de.de(p0:OA):Tree:=br (Option.isNone p0) (ret (i64 0)) (nn p0 fun a1=>dS (fa a1 1) fun x2=>ret (i64 (x2.n:Nat)))
theorem F.queue.de.de.calls(p0:OA):Cf 92 [pV p0] (F.queue.de.de p0):=Tryz.cd az.z Tryz.func92
def F.ref.gB(p0:OA):Tree:=cP 157 [pV p0] fun r1=>br (Option.isNone r1) (ret (pV none)) (nw 149 [pV r1,i64 0] fun b2=>ret (pV (some (aB b2))))
theorem F.ref.gB.calls(p0:OA):Cf 96 [pV p0] (F.ref.gB p0):=Tryz.cd az.z Tryz.func96
def F.handle.gB:Tree:=nw 201 (List.replicate 1024 (i64 0:Value)) fun b1=>ret (pV (some (aB b1)))
theorem F.handle.gB.calls:Cf 97 [] (F.handle.gB):=Tryz.cd az.z Tryz.func97
def F.root.gB:Tree:=nw 205 [i64 0,i64 0,i64 0,i64 0,i64 0,i64 0,i64 0,i64 0,i64 0,i64 0,i64 0,i64 0,i64 0,i64 0,i64 0,i64 0] fun b1=>ret (pV (some (aB b1)))
theorem F.root.gB.calls:Cf 98 [] (F.root.gB):=Tryz.cd az.z Tryz.func98
def F.final.gB(p0:OA):Tree:=br (Option.isNone p0) (ret (pV none)) (nw 164 [pV p0,.slice none 0 0,.slice none 0 0] fun b1=>ret (pV (some (aB b1))))
theorem F.final.gB.calls(p0:OA):Cf 99 [pV p0] (F.final.gB p0):=Tryz.cd az.z Tryz.func99
def F.handle.aW.told(p0:OA)(p1:Int):Tree:=nn p0 fun a1=>ix (some (fa a1 0)) 512 p1 2 fun a2=>cI 200 [pV (some (fa a2 0))] fun r3=>ret (i64 (IntKind.wrap .i64 (p1+(IntKind.wrap .i64 (512*r3)))))
theorem F.handle.aW.told.calls(p0:OA)(p1:Int):Cf 139 [pV p0,i64 p1] (F.handle.aW.told p0 p1):=Tryz.cd az.z Tryz.func139
def F.queue.de.List.T:az:=⟨(fun|5=>[(6,.slice),(7,kI)]|_=>[]),fun _=>none,fun _=> .quiet⟩
def F.queue.de.List(p0:OA)(p1:Int):Tree:=cB 201 [pV p0,i64 p1] fun r1=>br (!r1) (ret (.tuple #[.slice none 0 0,i64 2])) (nn p0 fun a2=>dS (fa a2 1) fun x3=>ix x3.a x3.n p1 2 fun a4=>dI (fa a4 0) fun x5=>lp [.slice,kI] (fun X6 u7=>br ((u7.2.1:Int) != 0) (nw 3 [i64 u7.2.1] fun b8=>ap 43 (sV u7.1) (.slice (some ⟨b8,0,none⟩) 1 1) fun r9=>nn p0 fun a10=>dP (fa a10 0) fun x11=>cN 138 [pV x11,i64 u7.2.1,i64 2] [.l kI,.l kI] fun r12=>br ((r12.2.1:Int) != 0) (ret (.tuple #[sV r9,i64 0])) (X6 (r9,r12.1,()))) (ret (.tuple #[sV u7.1,i64 0]))) (⟨none,0,0⟩,x5,()))
theorem F.queue.de.List.calls(p0:OA)(p1:Int):Cf 141 [pV p0,i64 p1] (F.queue.de.List p0 p1):=Tryz.cd F.queue.de.List.T Tryz.func141
def F.ref.Refs.Clear.T:az:=⟨(fun|4=>[(15,kI)]|11=>[(31,kI)]|_=>[]),fun _=>none,fun _=> .quiet⟩
def F.ref.Refs.Clear(p0:OA)(p1:av):Tree:=br (Option.isNone p0) (ret (i64 5)) (lp [kI] (fun X1 u2=>br (decide ((u2.1:Int)<(p1.n:Nat))) (ix p1.a p1.n u2.1 1 fun a3=>dI a3 fun x4=>cN 213 [pV p0,i64 x4] [.l kI,.l kI] fun r5=>br ((r5.2.1:Int) != 0) (ret (i64 r5.2.1)) (X1 (IntKind.wrap .i64 (u2.1+1),()))) (lp [kI] (fun X3 u4=>br (decide ((u4.1:Int)<(p1.n:Nat))) (ix p1.a p1.n u4.1 1 fun a5=>dI a5 fun x6=>nn p0 fun a7=>dP (fa a7 0) fun x8=>nn x8 fun a9=>dP (fa a9 0) fun x10=>cI 165 [pV x10,i64 x6,i64 0,i64 0] fun r11=>X3 (IntKind.wrap .i64 (u4.1+1),())) (ret (i64 0))) (0,()))) (0,()))
theorem F.ref.Refs.Clear.calls(p0:OA)(p1:av):Cf 149 [pV p0,sV p1] (F.ref.Refs.Clear p0 p1):=Tryz.cd F.ref.Refs.Clear.T Tryz.func149
def F.ref.Refs.lR(p0:OA)(p1:Int):Tree:=nw 3 [i64 p1] fun b1=>cI 149 [pV p0,.slice (some ⟨b1,0,none⟩) 1 1] fun r2=>br ((r2:Int) != 0) (ret (.tuple #[.bool false,i64 r2])) (nn p0 fun a3=>dP (fa a3 0) fun x4=>nn x4 fun a5=>dP (fa a5 0) fun x6=>cN 138 [pV x6,i64 p1,i64 1] [.l kI,.l kI] fun r7=>br ((r7.2.1:Int) != 0) (ret (.tuple #[.bool false,i64 r7.2.1])) (br (decide ((r7.1:Int)<1)) (ret (.tuple #[.bool false,i64 r7.2.1])) (nn p0 fun a8=>dP (fa a8 0) fun x9=>cI 214 [pV x9,i64 (IntKind.wrap .i64 (r7.1-1)),i64 p1] fun r10=>br ((r10:Int) != 0) (ret (.tuple #[.bool false,i64 r10])) (nn p0 fun a11=>dP (fa a11 0) fun x12=>nn x12 fun a13=>dP (fa a13 0) fun x14=>cI 165 [pV x14,i64 p1,i64 1,i64 (-1)] fun r15=>ret (.tuple #[.bool true,i64 r15])))))
theorem F.ref.Refs.lR.calls(p0:OA)(p1:Int):Cf 150 [pV p0,i64 p1] (F.ref.Refs.lR p0 p1):=Tryz.cd az.z Tryz.func150
def F.final.cj.ve.T:az:=⟨(fun|2=>[(11,kI)]|_=>[]),fun _=>none,fun _=> .quiet⟩
def F.final.cj.ve(p0:OA)(p1:av):Tree:=br (Option.isNone p0) (ret (.tuple #[])) (lp [kI] (fun X1 u2=>br (decide ((u2.1:Int)<(p1.n:Nat))) (ix p1.a p1.n u2.1 1 fun a3=>dI a3 fun x4=>nn p0 fun a5=>dS (fa a5 1) fun x6=>cI 215 [sV x6,i64 x4] fun r7=>br (decide ((r7:Int)≥0)) (nn p0 fun a8=>dS (fa a8 1) fun x9=>cS 216 [sV x9,i64 r7,i64 (IntKind.wrap .i64 (r7+1))] fun r10=>nn p0 fun a11=>st (fa a11 1) [sV r10]<|nn p0 fun a12=>dS (fa a12 2) fun x13=>nw 3 [i64 x4] fun b14=>ap 43 (sV x13) (.slice (some ⟨b14,0,none⟩) 1 1) fun r15=>nn p0 fun a16=>st (fa a16 2) [sV r15]<|X1 (IntKind.wrap .i64 (u2.1+1),())) (X1 (IntKind.wrap .i64 (u2.1+1),()))) (ret (.tuple #[]))) (0,()))
theorem F.final.cj.ve.calls(p0:OA)(p1:av):Cf 151 [pV p0,sV p1] (F.final.cj.ve p0 p1):=Tryz.cd F.final.cj.ve.T Tryz.func151
def F.final.cj.Take(p0:OA)(p1:Int):Tree:=br (Option.isNone p0) (ret (.tuple #[i64 0,i64 1])) (br (decide ((p1:Int)<0)) (ret (.tuple #[i64 0,i64 1])) (nn p0 fun a1=>dS (fa a1 2) fun x2=>br (decide ((p1:Int)≥(x2.n:Nat))) (ret (.tuple #[i64 0,i64 1])) (nn p0 fun a3=>dS (fa a3 2) fun x4=>ix x4.a x4.n p1 1 fun a5=>dI a5 fun x6=>nn p0 fun a7=>dS (fa a7 2) fun x8=>cS 216 [sV x8,i64 p1,i64 (IntKind.wrap .i64 (p1+1))] fun r9=>nn p0 fun a10=>st (fa a10 2) [sV r9]<|ret (.tuple #[i64 x6,i64 0]))))
theorem F.final.cj.Take.calls(p0:OA)(p1:Int):Cf 153 [pV p0,i64 p1] (F.final.cj.Take p0 p1):=Tryz.cd az.z Tryz.func153
def F.queue.de.Poll(p0:OA)(p1:Int):Tree:=cB 201 [pV p0,i64 p1] fun r1=>br (!r1) (ret (.tuple #[i64 0,i64 2])) (nn p0 fun a2=>dS (fa a2 1) fun x3=>ix x3.a x3.n p1 2 fun a4=>dI (fa a4 0) fun x5=>br ((x5:Int)==0) (ret (.tuple #[i64 0,i64 0])) (nn p0 fun a6=>dP (fa a6 0) fun x7=>cN 138 [pV x7,i64 x5,i64 2] [.l kI,.l kI] fun r8=>br ((r8.2.1:Int) != 0) (ret (.tuple #[i64 0,i64 r8.2.1])) (st (fa a4 0) [i64 r8.1]<|br ((r8.1:Int)==0) (st (fa a4 1) [i64 0]<|nn p0 fun a9=>dP (fa a9 0) fun x10=>cI 165 [pV x10,i64 x5,i64 2,i64 0] fun r11=>ret (.tuple #[i64 x5,i64 r11])) (nn p0 fun a9=>dP (fa a9 0) fun x10=>cI 165 [pV x10,i64 x5,i64 2,i64 0] fun r11=>ret (.tuple #[i64 x5,i64 r11])))))
theorem F.queue.de.Poll.calls(p0:OA)(p1:Int):Cf 154 [pV p0,i64 p1] (F.queue.de.Poll p0 p1):=Tryz.cd az.z Tryz.func154
def F.queue.gB(p0:OA):Tree:=br (Option.isNone p0) (ret (pV none)) (nw 162 [pV p0,.slice none 0 0] fun b1=>ret (pV (some (aB b1))))
theorem F.queue.gB.calls(p0:OA):Cf 157 [pV p0] (F.queue.gB p0):=Tryz.cd az.z Tryz.func157
def F.handle.aW.Drop(p0:OA)(p1:Int):Tree:=cN 231 [pV p0,i64 p1] [.l kI,.l .bool] fun r1=>br (!r1.2.1) (ret (i64 6)) (nn p0 fun a2=>ix (some (fa a2 0)) 512 r1.1 2 fun a3=>st (fa a3 1) [i64 0]<|nn p0 fun a4=>ix (some (fa a4 0)) 512 r1.1 2 fun a5=>cN 232 [pV (some (fa a5 0))] [] fun r6=>ret (i64 0))
theorem F.handle.aW.Drop.calls(p0:OA)(p1:Int):Cf 166 [pV p0,i64 p1] (F.handle.aW.Drop p0 p1):=Tryz.cd az.z Tryz.func166
def F.root.jB.Place(p0:OA)(p1 p2:Int):Tree:=cB 233 [pV p0,i64 p1] fun r1=>br (!r1) (ret (i64 1)) (br (decide ((p2:Int)<0)) (ret (i64 1)) (nn p0 fun a2=>ix (some (fa a2 0)) 16 p1 1 fun a3=>st a3 [i64 p2]<|ret (i64 0)))
theorem F.root.jB.Place.calls(p0:OA)(p1 p2:Int):Cf 167 [pV p0,i64 p1,i64 p2] (F.root.jB.Place p0 p1 p2):=Tryz.cd az.z Tryz.func167
def F.root.jB.Ld(p0:OA)(p1:Int):Tree:=cB 233 [pV p0,i64 p1] fun r1=>br (!r1) (ret (.tuple #[i64 0,i64 1])) (nn p0 fun a2=>ix (some (fa a2 0)) 16 p1 1 fun a3=>dI a3 fun x4=>ret (.tuple #[i64 x4,i64 0]))
theorem F.root.jB.Ld.calls(p0:OA)(p1:Int):Cf 168 [pV p0,i64 p1] (F.root.jB.Ld p0 p1):=Tryz.cd az.z Tryz.func168
def F.ref.Refs.nG.T:az:=⟨(fun|11=>[(59,kI)]|_=>[]),fun _=>none,fun _=> .quiet⟩
def F.ref.Refs.nG(p0:OA)(p1 p2 p3 p4:Int):Tree:=br (Option.isNone p0) (ret (.tuple #[i64 0,i64 2])) (cI 234 [pV p0,i64 p1,i64 p2,i64 p3] fun r1=>br ((r1:Int) != 0) (ret (.tuple #[i64 0,i64 r1])) (nn p0 fun a2=>dP (fa a2 0) fun x3=>nn x3 fun a4=>dP (fa a4 0) fun x5=>cN 225 [pV x5,.agg #[i64 4,i64 p1,i64 5,.bool false]] [.l kI,.l kI] fun r6=>br ((r6.2.1:Int) != 0) (ret (.tuple #[i64 0,i64 r6.2.1])) (nn p0 fun a7=>dI (fa a7 1) fun x8=>nn p0 fun a9=>st (fa a9 1) [i64 (IntKind.wrap .i64 (x8+1))]<|nn p0 fun a10=>dI (fa a10 1) fun x11=>lp [kI] (fun X12 u13=>br (decide ((u13.1:Int)<5)) (dE ((0:Int)≤u13.1∧u13.1<((5:Nat):Int))<|nn p0 fun a14=>dP (fa a14 0) fun x15=>nn x15 fun a16=>dP (fa a16 0) fun x17=>cI 165 [pV x17,i64 r6.1,i64 u13.1,i64 (List.getD [(p2:Int),(IntKind.wrap .i64 (p3+1):Int),(0:Int),(p4:Int),(x11:Int)] (u13.1:Int).toNat 0)] fun r18=>X12 (IntKind.wrap .i64 (u13.1+1),())) (ret (.tuple #[i64 r6.1,i64 0]))) (0,()))))
theorem F.ref.Refs.nG.calls(p0:OA)(p1 p2 p3 p4:Int):Cf 172 [pV p0,i64 p1,i64 p2,i64 p3,i64 p4] (F.ref.Refs.nG p0 p1 p2 p3 p4):=Tryz.cd F.ref.Refs.nG.T Tryz.func172
def F.handle.aW.Room(p0:OA):Tree:=br (Option.isNone p0) (ret (i64 0)) (cS 68 [pV p0] fun r1=>ret (i64 (IntKind.wrap .i64 (512-(r1.n:Nat)))))
theorem F.handle.aW.Room.calls(p0:OA):Cf 174 [pV p0] (F.handle.aW.Room p0):=Tryz.cd az.z Tryz.func174
def F.ref.Refs.lB(p0:OA)(p1 p2:Int):Tree:=cN 213 [pV p0,i64 p1] [.l kI,.l kI] fun r1=>br ((r1.2.1:Int) != 0) (ret (.tuple #[i64 0,i64 r1.2.1])) (br ((r1.1:Int)==3) (ret (.tuple #[i64 0,i64 r1.2.1])) (nn p0 fun a2=>dP (fa a2 0) fun x3=>nn x3 fun a4=>dP (fa a4 0) fun x5=>cN 138 [pV x5,i64 p1,i64 0] [.l kI,.l kI] fun r6=>br ((r6.2.1:Int) != 0) (ret (.tuple #[i64 0,i64 r6.2.1])) (br ((r1.1:Int)==1) (br ((r6.1:Int) != 0) (nn p0 fun a7=>dP (fa a7 0) fun x8=>nn x8 fun a9=>dP (fa a9 0) fun x10=>cI 165 [pV x10,i64 p1,i64 3,i64 p2] fun r11=>ret (.tuple #[i64 r6.1,i64 0])) (ret (.tuple #[i64 r6.1,i64 0]))) (ret (.tuple #[i64 r6.1,i64 0])))))
theorem F.ref.Refs.lB.calls(p0:OA)(p1 p2:Int):Cf 175 [pV p0,i64 p1,i64 p2] (F.ref.Refs.lB p0 p1 p2):=Tryz.cd az.z Tryz.func175
def F.queue.de.Open(p0:OA):Tree:=br (Option.isNone p0) (ret (.tuple #[i64 0,i64 2])) (nn p0 fun a1=>dS (fa a1 1) fun x2=>br (decide (((x2.n:Nat):Int)≥8)) (ret (.tuple #[i64 0,i64 3])) (nn p0 fun a3=>dS (fa a3 1) fun x4=>nw 268 [i64 0,i64 0] fun b5=>ap 160 (sV x4) (.slice (some ⟨b5,0,none⟩) 1 1) fun r6=>nn p0 fun a7=>st (fa a7 1) [sV r6]<|nn p0 fun a8=>dS (fa a8 1) fun x9=>ret (.tuple #[i64 (IntKind.wrap .i64 ((x9.n:Nat)-1)),i64 0])))
theorem F.queue.de.Open.calls(p0:OA):Cf 176 [pV p0] (F.queue.de.Open p0):=Tryz.cd az.z Tryz.func176
def F.final.cj.uB(p0:OA)(p1:Int):Tree:=br (Option.isNone p0) (ret (i64 2)) (nn p0 fun a1=>dP (fa a1 0) fun x2=>cI 235 [pV x2,i64 p1] fun r3=>br ((r3:Int) != 0) (ret (i64 r3)) (nn p0 fun a4=>dS (fa a4 1) fun x5=>nw 3 [i64 p1] fun b6=>ap 43 (sV x5) (.slice (some ⟨b6,0,none⟩) 1 1) fun r7=>nn p0 fun a8=>st (fa a8 1) [sV r7]<|ret (i64 0)))
theorem F.final.cj.uB.calls(p0:OA)(p1:Int):Cf 177 [pV p0,i64 p1] (F.final.cj.uB p0 p1):=Tryz.cd az.z Tryz.func177
def F.handle.turns.sM(p0:OA):Tree:=nn p0 fun a1=>dI (fa a1 0) fun x2=>ret (i64 (IntKind.wrap .i64 (x2+1)))
theorem F.handle.turns.sM.calls(p0:OA):Cf 200 [pV p0] (F.handle.turns.sM p0):=Tryz.cd az.z Tryz.func200
def F.queue.de.has(p0:OA)(p1:Int):Tree:=br (decide ((p1:Int)≥0)) (cI 92 [pV p0] fun r1=>ret (.bool (decide ((p1:Int)<r1)))) (ret (.bool false))
theorem F.queue.de.has.calls(p0:OA)(p1:Int):Cf 201 [pV p0,i64 p1] (F.queue.de.has p0 p1):=Tryz.cd az.z Tryz.func201
def F.root.q9(p0:av):Tree:=cS 262 [sV p0] fun r1=>cN 196 [sV r1] [] fun r2=>cS 264 [sV r1] fun r3=>cS 263 [sV r3,.func (.func 265) #[] #[]] fun r4=>ret (sV r4)
theorem F.root.q9.calls(p0:av):Cf 212 [sV p0] (F.root.q9 p0):=Tryz.cd az.z Tryz.func212
def F.ref.Refs.uj(p0:OA)(p1:Int):Tree:=br (Option.isNone p0) (ret (.tuple #[i64 0,i64 5])) (nn p0 fun a1=>dP (fa a1 0) fun x2=>nn x2 fun a3=>dP (fa a3 0) fun x4=>cN 137 [pV x4,i64 p1] [.g [kI,kI,kI,.bool],.l kI] fun r5=>nw 72 (zc Zp 72) fun b6=>st (aB b6) [i64 r5.1.1,i64 r5.1.2.1,i64 r5.1.2.2.1,.bool r5.1.2.2.2.1]<|br ((r5.2.1:Int) != 0) (ret (.tuple #[i64 0,i64 5])) (dI (fa (aB b6) 0) fun x7=>br ((x7:Int) != 4) (ret (.tuple #[i64 0,i64 5])) (dI (fa (aB b6) 1) fun x8=>ret (.tuple #[i64 x8,i64 0]))))
theorem F.ref.Refs.uj.calls(p0:OA)(p1:Int):Cf 213 [pV p0,i64 p1] (F.ref.Refs.uj p0 p1):=Tryz.cd az.z Tryz.func213
def F.queue.de.pc(p0:OA)(p1 p2:Int):Tree:=cB 201 [pV p0,i64 p1] fun r1=>br (!r1) (ret (i64 2)) (nn p0 fun a2=>dP (fa a2 0) fun x3=>cN 137 [pV x3,i64 p2] [.g [kI,kI,kI,.bool],.l kI] fun r4=>nw 72 (zc Zp 72) fun b5=>st (aB b5) [i64 r4.1.1,i64 r4.1.2.1,i64 r4.1.2.2.1,.bool r4.1.2.2.2.1]<|br ((r4.2.1:Int) != 0) (ret (i64 5)) (dI (fa (aB b5) 0) fun x6=>br ((x6:Int) != 4) (ret (i64 5)) (nn p0 fun a7=>dP (fa a7 0) fun x8=>cI 165 [pV x8,i64 p2,i64 2,i64 0] fun r9=>br ((r9:Int) != 0) (ret (i64 r9)) (nn p0 fun a10=>dS (fa a10 1) fun x11=>ix x11.a x11.n p1 2 fun a12=>dI (fa a12 0) fun x13=>br ((x13:Int)==0) (st (fa a12 0) [i64 p2]<|st (fa a12 1) [i64 p2]<|ret (i64 0)) (dI (fa a12 1) fun x14=>st (fa a12 1) [i64 p2]<|nn p0 fun a15=>dP (fa a15 0) fun x16=>cI 165 [pV x16,i64 x14,i64 2,i64 p2] fun r17=>ret (i64 r17))))))
theorem F.queue.de.pc.calls(p0:OA)(p1 p2:Int):Cf 214 [pV p0,i64 p1,i64 p2] (F.queue.de.pc p0 p1 p2):=Tryz.cd az.z Tryz.func214
def F.handle.aW.AG(p0:OA)(p1:Int):Tree:=cN 231 [pV p0,i64 p1] [.l kI,.l .bool] fun r1=>br (!r1.2.1) (ret (.tuple #[i64 0,i64 6])) (nn p0 fun a2=>ix (some (fa a2 0)) 512 r1.1 2 fun a3=>dI (fa a3 1) fun x4=>ret (.tuple #[i64 x4,i64 0]))
theorem F.handle.aW.AG.calls(p0:OA)(p1:Int):Cf 226 [pV p0,i64 p1] (F.handle.aW.AG p0 p1):=Tryz.cd az.z Tryz.func226
def F.handle.aW.tK.T:az:=⟨(fun|6=>[(13,kI)]|_=>[]),fun _=>none,fun _=> .quiet⟩
def F.handle.aW.tK(p0:OA)(p1:Int):Tree:=br (Option.isNone p0) (ret (.tuple #[i64 0,i64 3])) (br (decide ((p1:Int)<1)) (ret (.tuple #[i64 0,i64 1])) (lp [kI] (fun X1 u2=>br (decide ((u2.1:Int)<512)) (nn p0 fun a3=>ix (some (fa a3 0)) 512 u2.1 2 fun a4=>dI (fa a4 1) fun x5=>br ((x5:Int)==0) (nn p0 fun a6=>ix (some (fa a6 0)) 512 u2.1 2 fun a7=>st (fa a7 1) [i64 p1]<|cI 139 [pV p0,i64 u2.1] fun r8=>ret (.tuple #[i64 r8,i64 0])) (X1 (IntKind.wrap .i64 (u2.1+1),()))) (ret (.tuple #[i64 0,i64 3]))) (0,())))
theorem F.handle.aW.tK.calls(p0:OA)(p1:Int):Cf 229 [pV p0,i64 p1] (F.handle.aW.tK p0 p1):=Tryz.cd F.handle.aW.tK.T Tryz.func229
def F.handle.aW.find(p0:OA)(p1:Int):Tree:=br (Option.isNone p0) (ret (.tuple #[i64 0,.bool false])) (br (decide ((p1:Int)<512)) (ret (.tuple #[i64 0,.bool false])) (dE ((512:Int)≠0)<|nn p0 fun a1=>ix (some (fa a1 0)) 512 (Int.tmod p1 512) 2 fun a2=>dI (fa a2 1) fun x3=>br ((x3:Int) != 0) (cI 139 [pV p0,i64 (Int.tmod p1 512)] fun r4=>ret (.tuple #[i64 (Int.tmod p1 512),.bool ((r4:Int)==p1)])) (ret (.tuple #[i64 (Int.tmod p1 512),.bool false]))))
theorem F.handle.aW.find.calls(p0:OA)(p1:Int):Cf 231 [pV p0,i64 p1] (F.handle.aW.find p0 p1):=Tryz.cd az.z Tryz.func231
def F.handle.turns.next(p0:OA):Tree:=nn p0 fun a1=>dI (fa a1 0) fun x2=>nn p0 fun a3=>st (fa a3 0) [i64 (IntKind.wrap .i64 (x2+1))]<|ret (.tuple #[])
theorem F.handle.turns.next.calls(p0:OA):Cf 232 [pV p0] (F.handle.turns.next p0):=Tryz.cd az.z Tryz.func232
def F.root.jB.place(p0:OA)(p1:Int):Tree:=br (!(Option.isNone p0)) (br (decide ((p1:Int)≥0)) (ret (.bool (decide ((p1:Int)<16)))) (ret (.bool false))) (ret (.bool false))
theorem F.root.jB.place.calls(p0:OA)(p1:Int):Cf 233 [pV p0,i64 p1] (F.root.jB.place p0 p1):=Tryz.cd az.z Tryz.func233
def F.ref.Refs.may(p0:OA)(p1 p2 p3:Int):Tree:=br (decide ((p1:Int)<1)) (ret (i64 1)) (br (decide ((p1:Int)>3)) (ret (i64 1)) (br (decide ((p3:Int)<(-1))) (ret (i64 2)) (nn p0 fun a1=>dP (fa a1 0) fun x2=>cI 92 [pV x2] fun r3=>br (decide ((p3:Int)≥r3)) (ret (i64 2)) (br ((p1:Int)==3) (br (decide ((p3:Int)<0)) (ret (i64 1)) (nn p0 fun a4=>dP (fa a4 0) fun x5=>nn x5 fun a6=>dP (fa a6 0) fun x7=>cN 137 [pV x7,i64 p2] [.g [kI,kI,kI,.bool],.l kI] fun r8=>nw 72 (zc Zp 72) fun b9=>st (aB b9) [i64 r8.1.1,i64 r8.1.2.1,i64 r8.1.2.2.1,.bool r8.1.2.2.2.1]<|br ((r8.2.1:Int) != 0) (ret (i64 2)) (ret (i64 0)))) (nn p0 fun a4=>dP (fa a4 0) fun x5=>nn x5 fun a6=>dP (fa a6 0) fun x7=>cN 137 [pV x7,i64 p2] [.g [kI,kI,kI,.bool],.l kI] fun r8=>nw 72 (zc Zp 72) fun b9=>st (aB b9) [i64 r8.1.1,i64 r8.1.2.1,i64 r8.1.2.2.1,.bool r8.1.2.2.2.1]<|br ((r8.2.1:Int) != 0) (ret (i64 2)) (ret (i64 0)))))))
theorem F.ref.Refs.may.calls(p0:OA)(p1 p2 p3:Int):Cf 234 [pV p0,i64 p1,i64 p2,i64 p3] (F.ref.Refs.may p0 p1 p2 p3):=Tryz.cd az.z Tryz.func234
def F.root.wO(p0:Int):Tree:=ret (.bool (decide ((p0:Int)<1)))
theorem F.root.wO.calls(p0:Int):Cf 265 [i64 p0] (F.root.wO p0):=Tryz.cd az.z Tryz.func265
variable{ρ0 ρ:FR}{L L':List aD}{Post:Value→List aD→Prop}{T:Tree}
def fB(hs:List Hn.Slot):List Value:=hs.flatMap fun e=>[i64 e.1,i64 e.2]
theorem xf:∀(hs:List Hn.Slot),(fB hs).length=2*hs.length
 |[]=>rfl
 |e::hs=>by have:=xf hs;simp only[fB,List.flatMap_cons,List.length_append,List.length_cons,List.length_nil]at this⊢;omega
theorem kL:∀{hs:List Hn.Slot} {i:Nat},i<hs.length→(fB hs)[i*2]? =some (i64 (Hn.bM hs i).1)∧(fB hs)[i*2+1]? =some (i64 (Hn.bM hs i).2)
 |[],i,h=>by cases h
 |e::hs,0,_=>⟨rfl,rfl⟩
 |e::hs,i+1,h=>by
  have:=kL (Nat.lt_of_succ_lt_succ h);have e1:(i+1)*2=i*2+1+1:=by omega
  rw[e1];exact this
theorem nZ:∀{hs:List Hn.Slot} {i:Nat} {x:Int},i<hs.length→(fB hs).set (i*2) (i64 x)=fB (hs.set i (x,(Hn.bM hs i).2))∧(fB hs).set (i*2+1) (i64 x)=fB (hs.set i ((Hn.bM hs i).1,x))
 |[],i,_,h=>by cases h
 |e::hs,0,_,_=>⟨rfl,rfl⟩
 |e::hs,i+1,x,h=>by
  have:=nZ (x:=x) (Nat.lt_of_succ_lt_succ h);have e1:(i+1)*2=i*2+1+1:=by omega
  rw[e1];exact⟨congrArg (fun l=>i64 e.1::i64 e.2::l) this.1,congrArg (fun l=>i64 e.1::i64 e.2::l) this.2⟩
abbrev kM(p:Nat)(hs:List Hn.Slot):aD:=au p (fB hs)
theorem E4(p o:Nat)(cs:List Value){n:Int}(h:cs[o]? =some (i64 n))(hn:0≤n∧n<2^50):Gl.Spec ρ Zp 200 [.pointer (some ⟨p,o,none⟩)] [au p cs] R1
  fun r M=>r=n+1∧M=[au p cs]:=by refine So (F.handle.turns.sM.calls _) fun R=>af<|aT (by rfl) tk h ?_;rw[bG];exact rT
theorem EI(p o:Nat)(cs:List Value){n:Int}(h:cs[o]? =some (i64 n))(hn:0≤n∧n<2^50):Gl.Spec ρ Zp 232 [.pointer (some ⟨p,o,none⟩)] [au p cs] (.many [])
  fun _ M=>M=[au p (cs.set o (i64 (n+1)))]:=by refine So (F.handle.turns.next.calls _) fun R=>af<|aT (by rfl) tk h ?_;rw[bG];exact af<|cz (off:=o) (by rfl) tk eV rfl<|rT rfl
theorem uD(p:Nat){hs:List Hn.Slot}(H:Hn.Ok hs){i:Nat}(hi:i<512):Gl.Spec ρ Zp 139 [pA p,i64 i] [kM p hs] R1
  fun r M=>r=Hn.told hs i∧M=[kM p hs]:=by
 refine So (F.handle.aW.told.calls _ i) fun R=>af (l9 ae ae ?_);rw[aO,aO,aO];have hl:=H.len;have hg:=H.get i;rw[show 0+0+(i:Int).toNat*2+0=i*2 by omega];apply cE (E4 p _ _ (kL ae).1 hg);have e:IntKind.wrap .i64 ((i:Int)+IntKind.wrap .i64 (512*((Hn.bM hs i).1+1)))=Hn.told hs i:=by rw[bG (n:=512*((Hn.bM hs i).1+1)),bG];rfl
 rw[e];exact rT
theorem F1(p:Nat){hs:List Hn.Slot}(H:Hn.Ok hs)(a:Int):Gl.Spec ρ Zp 229 [pA p,i64 a] [kM p hs] P2
  fun r M=>r=((Hn.iD hs a).1,(Hn.iD hs a).2,())∧M=[kM p (Hn.gH hs a)]:=by
 refine So (F.handle.aW.tK.calls _ a) fun R=>?_;have hl:=H.len;refine ak rfl (ag (fun ha=>?_) (fun ha=>?_))
 ·have ha':=oT ha;have e1:Hn.iD hs a=(0,1):=by unfold Hn.iD;rw[if_pos ha']
  have e2:Hn.gH hs a=hs:=by unfold Hn.gH;rw[if_pos ha']
  rw[e1,e2];exact rT
 have ha':=oF ha;apply aM (I:=fun n s M=>∃k:Nat,k≤512∧n=512-k∧s=((k:Int),())∧M=kM p hs::R∧∀j,j<k→(Hn.bM hs j).2≠0) 512 ⟨0,ae,rfl,rfl,rfl,fun j hj=>by omega⟩;rintro n _ _ ⟨k,hk,rfl,rfl,rfl,hz⟩ X hX;refine ag (fun hc=>?_) (fun hc=>?_)
 ·have hk':k<512:=by grind
  refine af (l9 ae ae ?_);rw[aO,aO,aO];rw[show 0+0+(k:Int).toNat*2+1=k*2+1 by omega];refine aT rfl tk (kL ae).2<|ag (fun h0=>?_) (fun h0=>?_)
  ·have h0':(Hn.bM hs k).2=0:=by simpa using h0
   refine af (l9 ae ae ?_);rw[aO,aO,aO];rw[show 0+0+(k:Int).toNat*2+1=k*2+1 by omega];apply cz rfl tk (by rw[xf,List.length_singleton];omega) rfl;have e:cH (fB hs) (k*2+1) [i64 a]=fB _:=(nZ ae).2;rw[e];have H':Hn.Ok (hs.set k ((Hn.bM hs k).1,a)):=H.set (H.get k);apply cE (uD p H' hk');have hf:=Hn.xP ae h0' hz;have e0:Hn.told (hs.set k ((Hn.bM hs k).1,a)) k=Hn.told hs k:=by unfold Hn.told;rw[Hn.xM ae,if_pos rfl]
   have e1:Hn.iD hs a=(Hn.told hs k,0):=by unfold Hn.iD;rw[if_neg ha',hf]
   have e2:Hn.gH hs a=hs.set k ((Hn.bM hs k).1,a):=by unfold Hn.gH;rw[if_neg ha',hf]
   rw[e0,e1,e2];exact rT
  ·rw[bG];refine hX _ _ _ ae ⟨k+1,ae,rfl,rfl,rfl,fun j hj=>?_⟩;grind
 ·have hk':k=512:=by grind
  subst hk';have hf:=Hn.vk (by rw[hl];exact hz);have e1:Hn.iD hs a=(0,3):=by unfold Hn.iD;rw[if_neg ha',hf]
  have e2:Hn.gH hs a=hs:=by unfold Hn.gH;rw[if_neg ha',hf]
  rw[e1,e2];exact rT
theorem yq(p:Nat){hs:List Hn.Slot}(H:Hn.Ok hs)(x:Int):Gl.Spec ρ Zp 231 [pA p,i64 x] [kM p hs] IB
  fun r M=>(match Hn.find hs x with |some i=>i<512∧r=((i:Int),true,())|none=>r.2.1=false)∧M=[kM p hs]:=by
 refine So (F.handle.aW.find.calls _ x) fun R=>?_;have hl:=H.len;refine ak rfl (ag (fun hx=>?_) (fun hx=>?_))
 ·have hx':=oT hx;have e:Hn.find hs x=none:=by unfold Hn.find;rw[if_pos hx']
  rw[e];exact rT
 refine bm bd (af ?_);have hm:Int.tmod x 512=((x%512).toNat:Nat):=by grind
 have hi:(x%512).toNat<512:=by omega
 rw[hm];apply l9 ae ae;rw[aO,aO,aO];generalize hk:(x%512).toNat=k at*;rw[show 0+0+(k:Int).toNat*2+1=k*2+1 by omega];refine aT rfl tk (kL ae).2<|ag (fun h0=>?_) (fun h0=>?_)
 ·apply cE (uD p H hi);by_cases ht:Hn.told hs k=x
  ·have e:Hn.find hs x=some k:=by unfold Hn.find;grind
   rw[e];refine ax (x:=(_,true,())) ?_ ⟨⟨hi,rfl⟩,rfl⟩ ar bE;rw[ht];simp[RK.val,p5,KD.val,LK.val]
  ·have e:Hn.find hs x=none:=by unfold Hn.find;grind
   rw[e];refine ax (x:=((k:Int),false,())) ?_ ⟨rfl,rfl⟩ ar bE;simp[RK.val,p5,KD.val,LK.val,ht]
 ·have e:Hn.find hs x=none:=by unfold Hn.find;grind
  rw[e];exact rT
theorem FM(p:Nat){hs:List Hn.Slot}(H:Hn.Ok hs)(x:Int):Gl.Spec ρ Zp 166 [pA p,i64 x] [kM p hs] R1
  fun r M=>r=Hn.nF hs x∧M=[kM p (Hn.kP hs x)]:=by
 refine So (F.handle.aW.Drop.calls _ x) fun R=>?_;have hl:=H.len;refine ai (yq p H x) ar ?_;rintro⟨i,b,u⟩ M ⟨hr,rfl⟩;cases hf:Hn.find hs x with
 |none=>
  rw[hf]at hr;have hr':b=false:=hr;subst hr';refine bT ?_;have e1:Hn.nF hs x=6:=by unfold Hn.nF;rw[hf]
  have e2:Hn.kP hs x=hs:=by unfold Hn.kP;rw[hf]
  rw[e1,e2];exact rT
 |some k=>
  rw[hf]at hr;obtain⟨hk,hr⟩:=hr;cases hr;refine ak rfl (af (l9 ae ae ?_));rw[aO,aO,aO];rw[show 0+0+(k:Int).toNat*2+1=k*2+1 by omega];apply cz rfl tk (by rw[xf,List.length_singleton];omega) rfl;have e:cH (fB hs) (k*2+1) [i64 0]=fB _:=(nZ ae).2;rw[e];refine af (l9 ae ae ?_);rw[aO,aO,aO];rw[show 0+0+(k:Int).toNat*2+0=k*2 by omega];have hg:(fB (hs.set k ((Hn.bM hs k).1,0)))[k*2]? =some (i64 (Hn.bM hs k).1):=by rw[(kL eV).1,Hn.xM ae,if_pos rfl]
  apply ai (EI p _ _ hg (H.get k)) ar;rintro x' M rfl;have e3:(fB (hs.set k ((Hn.bM hs k).1,0))).set (k*2) (i64 ((Hn.bM hs k).1+1))=fB (hs.set k ((Hn.bM hs k).1+1,0)):=by rw[(nZ eV).1,Hn.xM ae,if_pos rfl,List.set_set]
  rw[e3];have e1:Hn.nF hs x=0:=by unfold Hn.nF;rw[hf]
  have e2:Hn.kP hs x=hs.set k ((Hn.bM hs k).1+1,0):=by unfold Hn.kP;rw[hf]
  rw[e1,e2];exact rT
abbrev jb(x:Int×Int):List Value:=[i64 x.1,i64 x.2]
theorem Cw:pY Zp #[42,42] 2 16=true:=by kernel_rfl
theorem xe(p:Nat){hs:List Hn.Slot}(H:Hn.Ok hs):Gl.Spec ρ Zp 68 [pA p] [kM p hs] RS
  fun r M=>r.n=(Hn.all hs).length∧M=[aw r 2 ((Hn.all hs).flatMap jb),kM p hs]:=by
 refine So (F.handle.aW.sW.calls _) fun R=>?_;have hl:=H.len;refine bF<|Tr.cg 2<|aM (I:=fun n s M=>∃(k:Nat) (t:av),k≤512∧n=512-k∧s=(t,(k:Int),())∧t.n=((List.range k).flatMap (Hn.jM hs)).length∧M=aw t 2 (((List.range k).flatMap (Hn.jM hs)).flatMap jb)::kM p hs::R) 512 ⟨0,_,ae,rfl,rfl,rfl,rfl⟩ ?_;rintro n _ _ ⟨k,t,hk,rfl,rfl,ht,rfl⟩ X hX;try simp only[c8,c9]
 have hln:=Hn.gp (hs:=hs) k;refine ag (fun hc=>?_) (fun hc=>?_)
 ·have hk':k<512:=by grind
  refine af (l9 ae ae ?_);rw[aO,aO,aO];rw[show 0+0+(k:Int).toNat*2+1=k*2+1 by omega];apply aT rfl tk (kL ae).2;rw[bG (n:=(k:Int)+1)];have es:(List.range (k+1)).flatMap (Hn.jM hs)=(List.range k).flatMap (Hn.jM hs)++Hn.jM hs k:=by rw[List.range_succ,List.flatMap_append,List.flatMap_singleton]
  refine ag (fun h0=>?_) (fun h0=>?_)
  ·have h0':(Hn.bM hs k).2≠0:=by simpa using h0
   refine aA (aK [kM p hs] ar ?_);refine af (l9 ae ae ?_);rw[aO,aO,aO];rw[show 0+0+(k:Int).toNat*2+1=k*2+1 by omega];refine bo rfl tk (kL ae).2<|cE (uD p H hk')<|cK<|aq fun b=>eu (x:=⟨oA b,1,1⟩) Cw tk (Rd.cl tk rfl rfl) rfl eV eV fun r hr=>tD (au b [i64 _,i64 (Hn.bM _ k).2]) ?_;have e1:Hn.jM hs k=[(Hn.told hs k,(Hn.bM hs k).2)]:=by unfold Hn.jM;rw[if_pos h0']
   refine hX _ _ _ ae ⟨k+1,r,ae,rfl,rfl,?_,?_⟩;·grind
   grind
  ·have e1:Hn.jM hs k=[]:=by unfold Hn.jM;grind
   refine hX _ _ _ ae ⟨k+1,t,ae,rfl,rfl,?_,?_⟩;·grind
   grind
 ·have hk':k=512:=by grind
  subst hk';have e:Hn.all hs=(List.range 512).flatMap (Hn.jM hs):=by unfold Hn.all;rw[hl]
  rw[e];exact rT ⟨ht,rfl⟩
theorem Jj:Gl.Spec ρ Zp 97 [] [] (.one (.l .ptr)) fun r M=>∃p,r=oA p∧M=[kM p (List.replicate 512 (0,0))]:=by
 refine So F.handle.gB.calls fun R=>aq fun b=>?_;have e:(List.replicate 1024 (.int .i64 0:Value))=fB (List.replicate 512 (0,0)):=by kernel_rfl
 rw[e];exact rT ⟨b,rfl,rfl⟩
theorem uv(p:Nat)(ro:List Int)(hl:ro.length=16)(i a:Int):Gl.Spec ρ Zp 167 [pA p,i64 i,i64 a] [au p (ro.map i64)] R1
  fun r M=>r=(if(0≤i∧i<16)∧0≤a then 0 else 1)∧M=[au p ((if(0≤i∧i<16)∧0≤a then ro.set i.toNat a else ro).map i64)]:=by
 refine So (F.root.jB.Place.calls _ i a) fun R=>?_;have hp:Gl.Spec ρ Zp 233 [pA p,i64 i] [] RB fun r M=>r=decide (0≤i∧i<16)∧M=[]:=by
  refine So (F.root.jB.place.calls _ i) fun R=>bg rfl (ag (fun h=>?_) (fun h=>?_))
  ·refine ax ?_ ⟨rfl,rfl⟩ ar bE;have:decide (0≤i∧i<16)=decide (i<16):=by grind
   rw[this];rfl
  ·refine ax ?_ ⟨rfl,rfl⟩ ar bE;have:decide (0≤i∧i<16)=false:=by grind
   rw[this];rfl
 refine cE hp<|ag (fun h=>?_) (fun h=>?_)
 ·have h':¬(0≤i∧i<16):=by grind
  rw[if_neg fun g=>h' g.1,if_neg fun g=>h' g.1];exact rT
 ·have h':0≤i∧i<16:=by grind
  refine ag (fun h2=>?_) (fun h2=>?_);·have h2':=oT h2;rw[if_neg fun g=>by omega,if_neg fun g=>by omega];exact rT
  ·have h2':=oF h2;rw[if_pos ⟨h',ae⟩,if_pos ⟨h',ae⟩];refine af (l9 h'.1 ae ?_);rw[aO,aO,show 0+0+i.toNat*1=i.toNat by omega];apply cz rfl tk eV rfl;have e:cH (ro.map i64) i.toNat [i64 a]=(ro.set i.toNat a).map i64:=by simp[cH]
   rw[e];exact rT
end
end Go.Proofs.YtjginndmmlkjiaaGreat
namespace Go.Gl
open Go
variable{ρ0 ρ:FR}{L L':List aD}{Post:Value→List aD→Prop}
theorem aw.take{s:av}{xs:List Value}{l:Nat}(hl:l≤s.n)(h:HP)(H:aw s 1 xs h):aw ⟨s.a,l,s.c⟩ 1 (xs.take l) h:=by
 rcases H with ⟨g1,g2,g3,g4,g5⟩|⟨b,off,pre,rest,g1,g2,g3,g4,g5,g6⟩;·exact .inl ⟨g1,bq,g3,by rw[g4,List.take_nil],g5⟩
 ·refine .inr ⟨b,off,pre,xs.drop l++rest,g1,g2,?_,?_,bq,?_⟩;·grind
  ·grind
  ·rw[show pre++(xs.take l++(xs.drop l++rest))=pre++(xs++rest) by rw[←List.append_assoc (xs.take l),List.take_append_drop]];exact g6
theorem wV{P:Program}{tt e ty:TypeId}{z zz:Value}{s:av}{xs:List Value}{l n c:Nat}{a':Option Addr}{k:RT (.many [])→Tree}(hu:P.underlying tt=some (.slice e))
  (hi:(P.info? e).bind (·.zero)=some zz) (hz:zz.cells= #[z]) (h1:nA z=true) (t:Take L (aw s 1 xs) L') (hn:l+n=s.n) (ha:0<n→a'=s.a.map fun b=>fa b (l*1))
  (h:Tr ρ0 ρ (aw ⟨s.a,l,s.c⟩ 1 (xs.take l)::L') (k ()) Post):
  Tr ρ0 ρ L (cM P (Builtin.clear_ #[tt] ty #[.slice a' n c]) (.many []) k) Post:=by
 rcases Nat.eq_zero_or_pos n with h0|h0
 ·subst h0;refine Tr.take t (Tr.imp .here (A':=aw ⟨s.a,l,s.c⟩ 1 _) (fun hp H=>aw.take ae hp H) ?_);refine lF (fun r M=>M=aw ⟨s.a,l,s.c⟩ 1 (xs.take l)::L') (fun w hw=>?_) (fun x M hM=>by subst hM;exact h);refine⟨(),w,_,?_,rfl,hw⟩;unfold Builtin.clear_;have a0:(#[.slice a' 0 c]:Array Value)[0]? =some (.slice a' 0 c):=rfl;have t0:(#[tt]:Array TypeId)[0]? =some tt:=rfl;cases a' with
  |none=>simp only[a0,t0,Sem.run_bind,run_underlying hu,Result.andThen_ok,Sem.run_pure];rfl
  |some a=>simp only[a0,t0,Sem.run_bind,run_underlying hu,Result.andThen_ok,Sem.run_pure];rfl
 ·refine Tr.fA t fun hlen _=>Ev hu hi hz h1 t h0 ae (ha h0)<|Tr.imp .here (fun hp H=>?_) h;have:=aw.take (l:=l) ae hp H;rw[xR eV,List.take_append_of_le_length eV,List.take_take,Nat.min_self]at this;exact this
theorem Gq{P:Program}{ts:Array TypeId}{ty:TypeId}{s x:av}{bytes i j c:Nat}{xs:List Value}{k:RT (.one (.l .slice))→Tree}(hok:pY P ts 1 bytes=true)(t:Take L (aw s 1 xs) L')
  (h1:xs.all nA=true) (hij:i≤j) (hj:j≤s.n) (hx:x.n=s.n-j) (hxa:j<s.n→x.a=s.a.map fun b=>fa b j) (hc:c=s.c)
  (h:Tr ρ0 ρ (aw s 1 (cH xs i (xs.drop j))::L') (k ⟨s.a,i+(s.n-j),s.c⟩) Post):
  Tr ρ0 ρ L (cM P (Builtin.append_ ts ty #[.slice s.a i c,.slice x.a x.n x.c]) (.one (.l .slice)) k) Post:=by
 subst hc;refine Tr.take t (lF (fun r M=>r=⟨s.a,i+(s.n-j),s.c⟩∧M=aw s 1 (cH xs i (xs.drop j))::L') (fun w hw=>?_) ?_);rotate_left;·rintro r M ⟨rfl,rfl⟩;exact h
 ·unfold pY at hok;split at hok
  ·rename_i t1 t2 hts;rw[Bool.and_eq_true]at hok;obtain⟨hok1,hok2⟩:=hok;split at hok1
   ·rename_i e he;split at hok1
    ·rename_i inf hinf;simp only[Bool.and_eq_true,beq_iff_eq]at hok1;obtain⟨⟨hsz,hby⟩,hz⟩:=hok1;split at hok2
     ·rename_i e2 he2;have hsize:bZ P e=some 1:=by simp[bZ,hinf,hsz]
      have ht0:ts[0]? =some t1:=by have:=congrArg (fun l=>l[0]?) hts;simpa using this
      have ht1:ts[1]? =some t2:=by have:=congrArg (fun l=>l[1]?) hts;simpa using this
      have a0:(#[.slice s.a i s.c,.slice x.a x.n x.c]:Array Value)[0]? =some (.slice s.a i s.c):=rfl;have a1:(#[.slice s.a i s.c,.slice x.a x.n x.c]:Array Value)[1]? =some (.slice x.a x.n x.c):=rfl;unfold Builtin.append_;simp only[ht0,ht1,a0,a1,Sem.run_bind,run_underlying he,run_sizeOf hsize,run_underlying he2,Result.andThen_ok,Sem.run_pure,Bool.false_eq_true,if_false,Bool.not_false,if_true,Builtin.lenOf];rcases hw.sl with ⟨g1,g2,g3,g4,g5⟩|⟨b,off,pre,rest,g1,g2,g3,g4,g5,g6⟩
      ·have hfit:i+x.n≤s.c:=by omega
       simp only[if_pos hfit];have hx0:x.n=0:=by omega
       have hys:xs.drop j=[]:=by rw[g4];simp
       have hfc:=iw (P:=P) (w:=w) (m:=1) (ys:=[]) (by rw[hx0];rfl) (.inl hx0);refine⟨⟨s.a,i+_,s.c⟩,w,_,?_,⟨rfl,rfl⟩,?_⟩;·simp only[Sem.run_bind,hfc,Result.andThen_ok,g1,Sem.run_pure];rw[hx];rfl
       ·rw[hys];exact hw
      ·have hfit:i+x.n≤s.c:=by omega
       simp only[if_pos hfit];obtain⟨ty',hb⟩:=g6.cl;have hlen:(xs.drop j).length=x.n:=by grind
       have hfc:(Builtin.firstCells 1 x.n (.slice x.a x.n x.c)).run P w= .ok (xs.drop j).toArray w:=by
        rcases Nat.lt_or_ge j s.n with hlt|hge;·refine iw ae (.inr ⟨b,off+j,by rw[hxa hlt,g1,Option.map_some,aO],fun q hq=>?_⟩);refine(cell_of hb ?_).trans (List.getElem?_eq_getElem hq).symm;rw[List.getElem?_toArray,←g2,Nat.add_assoc,m8 ae,List.getElem_drop,List.getElem?_eq_getElem]
        ·exact iw ae (.inl ae)
       have h1':(xs.drop j).all nA=true:=by grind
       have hst:=pF (P:=P) (off:=off+i) g6 h1' eV;refine⟨⟨s.a,i+_,s.c⟩,D9 ⟨b,off+i,none⟩ 0 (xs.drop j) w,_,?_,⟨rfl,rfl⟩,?_⟩;·simp only[Sem.run_bind,hfc,Result.andThen_ok,g1,kh,aO,Nat.mul_one];erw [hst];rw[←hx];rfl
       ·have hs:=tb (xs.drop j) (off+i) 0 _ w g6;have e2:cH (pre++(xs++rest)) (off+i+0) (xs.drop j)=pre++(cH xs i (xs.drop j)++rest):=by rw[Nat.add_zero,←g2];exact pW ae
        rw[e2]at hs;exact Sat.imp (fun h hh=> .inr ⟨b,off,pre,rest,g1,g2,by rw[kB];exact g3,g4,g5,hh⟩) hs
     ·cases hok2
    ·cases hok1
   ·cases hok1
  ·cases hok
end Go.Gl
namespace Go.Proofs.YtjginndmmlkjiaaGreat
open Go Go.Gl
variable{ρ0 ρ:FR}{L L':List aD}{Post:Value→List aD→Prop}{T:Tree}
theorem CT(xs:List Int):(xs.map i64).all nA=true:=by simp[nA]
theorem Ju{a:Option Addr}:(a.map fun b=>fa b (0*1))=a:=by cases a<;>rfl
theorem qm{a:Option Addr}{c:Nat}:(if c=(0:Int).toNat then a else a.map fun b=>fa b ((0:Int).toNat*1))=a:=by
 split;·rfl
 ·exact Ju
theorem wA(s:av)(xs:List Int)(i:Nat)(hi:i<xs.length)(hl:xs.length<2^40):Gl.Spec ρ Zp 216 [.slice s.a s.n s.c,i64 i,i64 (i+1)] [aw s 1 (xs.map i64)] RS
  fun r M=>r.n=xs.length-1∧M=[aw r 1 ((xs.eraseIdx i).map i64)]:=by
 refine So (F.aL.Delete.calls s i _) fun R=>Tr.fA tk fun hlen hc=>?_;rw[List.length_map]at hlen;refine bm ⟨ae,ae⟩<|ei ae ae ae<|ak eV (aA ?_);refine ei ae ae ae<|ei ae ae ae ?_;dsimp only[sV];rw[qm];refine Gq (i:=i) (j:=i+1) (x:=⟨if s.c=((i:Int)+1).toNat then _ else s.a.map fun b=>fa b _,(_:Int).toNat-((i:Int)+1).toNat,s.c-((i:Int)+1).toNat⟩) bJ tk (CT xs) ae ae bq (fun hlt=>?_) rfl ?_;·grind
 have e:cH (xs.map i64) i ((xs.map i64).drop (i+1))=((xs.eraseIdx i)++xs.drop (xs.length-1)).map i64:=by rw[xR eV,List.length_drop,List.length_map,List.eraseIdx_eq_take_drop_succ,List.map_append,List.map_append,List.map_take,List.map_drop,List.map_drop,List.append_assoc];grind
 rw[e];have hn1:i+(s.n-(i+1))=xs.length-1:=by omega
 rw[hn1];dsimp only;apply ei ae ae ae;dsimp only;refine wV (e:=3) (zz:=i64 0) (l:=xs.length-1) (by kernel_rfl) (by kernel_rfl) rfl rfl tk ae (fun _=>?_) ?_;·grind
 rw[List.map_append,List.take_left' eV];exact rT
def cn(p hp:Nat)(wa pe:List Int):aD:=fun h=>∃i:av×av,(i.1.n=wa.length∧i.2.n=pe.length)∧star [au p [pA hp,.slice i.1.a i.1.n i.1.c,.slice i.2.a i.2.n i.2.c],aw i.1 1 (wa.map i64),aw i.2 1 (pe.map i64)] h
theorem cn.op{p hp:Nat}{wa pe:List Int}(t:Take L (cn p hp wa pe) L')(h:∀s z:av,s.n=wa.length→z.n=pe.length→Tr ρ0 ρ (au p [pA hp,.slice s.a s.n s.c,.slice z.a z.n z.c]::aw s 1 (wa.map i64)::aw z 1 (pe.map i64)::L') T Post):Tr ρ0 ρ L T Post:=
 Tr.iW (M:=fun i:av×av=>[au p [pA hp,.slice i.1.a i.1.n i.1.c,.slice i.2.a i.2.n i.2.c],aw i.1 1 (wa.map i64),aw i.2 1 (pe.map i64)]) (c:=fun i=>i.1.n=wa.length∧i.2.n=pe.length) t (fun _ h=>h) (fun i hi=>h i.1 i.2 hi.1 hi.2)
theorem cn.cl{p hp:Nat}{wa pe:List Int}{s z:av}(hs:s.n=wa.length)(hz:z.n=pe.length)(h:HP)(H:star [au p [pA hp,.slice s.a s.n s.c,.slice z.a z.n z.c],aw s 1 (wa.map i64),aw z 1 (pe.map i64)] h):cn p hp wa pe h:=⟨(s,z),⟨hs,hz⟩,H⟩
theorem IN(hp:Nat):Gl.Spec ρ Zp 99 [pA hp] [] (.one (.l .ptr)) fun r M=>∃p,r=oA p∧M=[cn p hp [] []]:=by refine So (F.final.gB.calls _) fun R=>ak rfl (aq fun b=>?_);refine Tr.cg 1 (Tr.cg 1 ?_);exact Tr.close ar (cn.cl (wa:=[]) (pe:=[]) (s:=⟨none,0,0⟩) (z:=⟨none,0,0⟩) rfl rfl)<|rT ⟨b,rfl,rfl⟩
theorem Dj(p hp:Nat)(S:aJ)(cs:List aX)(hw:aY S cs)(wa pe:List Int)(hl:wa.length<2^40)(a:Int):Gl.Spec ρ Zp 177 [pA p,i64 a] [cn p hp wa pe,aF hp S cs] R1
  fun r M=>r=(Ob.final S a).1∧M=[cn p hp (if(Ob.final S a).1=0 then wa++[a]else wa) pe,aF hp (Ob.final S a).2 cs]:=by
 refine So (F.final.cj.uB.calls _ a) fun R=>ak rfl (af (cn.op tk fun s z hs hz=>?_));refine iL<|cE (xJ _ S _ hw a)<|ag (fun h=>?_) (fun h=>?_)
 ·have h':(Ob.final S a).1≠0:=by simpa using h
  refine tC (cn.cl hs hz) ?_;rw[if_neg h'];exact rT
 ·have h':(Ob.final S a).1=0:=by simpa using h
  rw[if_pos h',h'];exact af<|iL<|dm bJ tk hl fun r hr=>af<|cz (off:=1) bL tk bu rfl<|tC (cn.cl (wa:=wa++[a]) (by rw[hr,List.length_append];rfl) hz)<|rT
theorem uU(p hp:Nat)(wa pe:List Int)(hl:wa.length≤2^30):Gl.Spec ρ Zp 71 [pA p] [cn p hp wa pe] RS
  fun r M=>r.n=wa.length∧M=[aw r 1 (wa.map i64),cn p hp wa pe]:=by refine So (F.final.cj.cj.calls _) fun R=>ak rfl (af (cn.op tk fun s z hs hz=>?_));refine iL<|Tr.fu tk fun _=>ai (clone s _ (Rd.sl .here eV) hl) ar ?_;rintro r _ ⟨hr,rfl⟩;refine tC (cn.cl hs hz) ?_;exact rT ⟨hr,rfl⟩
theorem lV(p hp:Nat)(wa pe:List Int)(hl:pe.length≤2^30):Gl.Spec ρ Zp 72 [pA p] [cn p hp wa pe] RS
  fun r M=>r.n=pe.length∧M=[aw r 1 (pe.map i64),cn p hp wa pe]:=by refine So (F.final.cj.yf.calls _) fun R=>ak rfl (af (cn.op tk fun s z hs hz=>?_));refine iL<|ai (clone z _ (Rd.sl .here eV) hl) ar ?_;rintro r _ ⟨hr,rfl⟩;refine tC (cn.cl hs hz) ?_;exact rT ⟨hr,rfl⟩
namespace Fn
def gJ(pe:List Int)(i:Int):Int×Int:=if 0≤i∧i<pe.length then(pe.getD i.toNat 0,0)else(0,1)
def eX(pe:List Int)(i:Int):List Int:=if 0≤i∧i<pe.length then pe.eraseIdx i.toNat else pe
def cF(x:List Int×List Int)(a:Int):List Int×List Int:=if a∈x.1 then(x.1.eraseIdx (x.1.idxOf a),x.2++[a])else x
def ka(wa pe l:List Int):List Int×List Int:=l.foldl cF (wa,pe)
theorem DG(x:List Int×List Int)(a:Int):(cF x a).1.length≤x.1.length∧(cF x a).2.length≤x.2.length+1:=by unfold cF;grind
theorem lg:∀(l:List Int) (x:List Int×List Int),(l.foldl cF x).1.length≤x.1.length∧(l.foldl cF x).2.length≤x.2.length+l.length
 |[],x=>⟨Nat.le_refl _,Nat.le_refl _⟩
 |a::l,x=>by have h1:=lg l (cF x a);have h2:=DG x a;grind
end Fn
theorem E9(p hp:Nat)(wa pe:List Int)(hl:pe.length<2^40)(i:Int):Gl.Spec ρ Zp 153 [pA p,i64 i] [cn p hp wa pe] P2
  fun r M=>r=((Fn.gJ pe i).1,(Fn.gJ pe i).2,())∧M=[cn p hp wa (Fn.eX pe i)]:=by
 refine So (F.final.cj.Take.calls _ i) fun R=>bF ?_;have no:¬_→Fn.gJ pe i=_∧Fn.eX pe i=pe:=fun h=>⟨if_neg h,if_neg h⟩;refine ag (fun h=>?_) (fun h=>?_);·have h':=oT h;obtain⟨e1,e2⟩:=no ae;rw[e1,e2];exact rT
 have h':=oF h;refine af (cn.op tk fun s z hs hz=>?_);refine iL<|ag (fun h2=>?_) (fun h2=>?_);·have h2':=oT h2;obtain⟨e1,e2⟩:=no ae;refine tC (cn.cl hs hz) ?_;rw[e1,e2];exact rT
 have h2':=oF h2;have hin:0≤i∧i<pe.length:=by omega
 obtain⟨k,rfl⟩:∃k:Nat,i=k:=⟨i.toNat,ae⟩;have hk:k<pe.length:=by omega
 have e1:Fn.gJ pe k=(pe.getD k 0,0):=if_pos hin;have e2:Fn.eX pe k=pe.eraseIdx k:=if_pos hin;rw[e1,e2];refine af<|iL ?_;refine bD tk ae ae fun a0 ha=>cw ha tk fX (getD_map hk)<|af<|iL ?_;rw[bG];refine ai (wA z _ k hk hl) ar ?_;rintro r _ ⟨hr,rfl⟩;refine af<|cz (off:=2) bL tk bu rfl<|tC (cn.cl hs (by rw[hr,List.length_eraseIdx,if_pos hk])) ?_;exact rT
theorem IT{A:List aD}(s:av)(xs:List Int)(hr:Rd ρ A s 1 (xs.map i64))(hl:xs.length<2^62)(v:Int):Gl.Spec ρ Zp 215 [.slice s.a s.n s.c,i64 v] A R1
  fun r M=>r=(if v∈xs then((xs.idxOf v:Nat):Int)else -1)∧M=A:=by
 refine So (F.aL.Index.calls s v) fun R=>?_;have hn:s.n=xs.length:=by have:=hr.1;simpa using this.symm
 apply aM (I:=fun n u M=>∃j:Nat,j≤xs.length∧n=xs.length-j∧u=((j:Int),())∧M=A++R∧v∉xs.take j) xs.length ⟨0,ae,rfl,rfl,rfl,bu⟩;rintro n _ _ ⟨j,hj,rfl,rfl,rfl,hv⟩ X hX;refine ag (fun hc=>?_) (fun hc=>?_)
 ·have hj':(j:Int)<s.n:=oT hc;apply jg hr (aI.app A R) ae ae;have hsp:xs=xs.take j++xs.getD j 0::xs.drop (j+1):=by simp_all
  refine ag (fun he=>?_) (fun he=>?_)
  ·have he':v=xs.getD j 0:=by simpa using he
   have hm:v∈xs:=by rw[hsp];simp[he']
   have hi:xs.idxOf v=j:=by grind
   refine ax (x:=(j:Int)) rfl ⟨?_,rfl⟩ (aI.app A R) bE;rw[if_pos hm,hi]
  ·rw[bG];refine hX _ _ _ ae ⟨j+1,ae,rfl,rfl,rfl,?_⟩;grind
 ·have hj':¬(j:Int)<s.n:=oF hc;rw[List.take_of_length_le ae]at hv;refine ax rfl ⟨?_,rfl⟩ (aI.app A R) bE;rw[if_neg hv]
theorem EO(p hp:Nat)(wa pe:List Int)(z:av)(l:List Int)(ro:fx ρ z 1 (l.map i64))(hl:wa.length+pe.length+l.length<2^40):Gl.Spec ρ Zp 151 [pA p,.slice z.a z.n z.c] [cn p hp wa pe] (.many [])
  fun _ M=>M=[cn p hp (Fn.ka wa pe l).1 (Fn.ka wa pe l).2]:=by
 refine So (F.final.cj.ve.calls _ z) fun R=>?_;have hz:z.n=l.length:=by have:=ro.1;grind
 refine bF<|aM (I:=fun m s M=>∃j:Nat,j≤l.length∧m=l.length-j∧s=((j:Int),())∧M=cn p hp (Fn.ka wa pe (l.take j)).1 (Fn.ka wa pe (l.take j)).2::R) l.length ⟨0,ae,rfl,rfl,rfl⟩ ?_;rintro m _ _ ⟨j,hj,rfl,rfl,rfl⟩ X hX;refine ag (fun hc=>?_) (fun hc=>?_)
 ·have hj':(j:Int)<z.n:=oT hc;have hjl:j<l.length:=by omega
  refine bz ro ae hj' fun a0 ha=>cu ha ro fX (getD_map hjl) ?_;have hq:=Fn.lg (l.take j) (wa,pe);have ht:=List.length_take_le j l;have es:Fn.ka wa pe (l.take (j+1))=Fn.cF (Fn.ka wa pe (l.take j)) (l.getD j 0):=by unfold Fn.ka;rw[aE 0 hjl,List.foldl_append];rfl
  change(Fn.ka wa pe (l.take j)).1.length≤wa.length∧(Fn.ka wa pe (l.take j)).2.length≤pe.length+(l.take j).length at hq;generalize Fn.ka wa pe (l.take j)=q at*;obtain⟨wa',pe'⟩:=q;dsimp only at*;rw[bG (n:=(j:Int)+1)];refine af (cn.op tk fun s y hs hy=>?_);refine iL<|cE (IT s wa' (Rd.sl .here eV) ae _) ?_;by_cases hm:l.getD j 0∈wa';·rw[if_pos hm];have hk:=List.idxOf_lt_length_of_mem hm;refine bg (by rfl) (af ?_);refine iL ?_;rw[bG];refine ai (wA s _ _ hk ae) ar ?_;rintro r _ ⟨hr,rfl⟩;refine af<|cz (off:=1) bL tk bu rfl (af ?_);have e:cH [pA hp,.slice s.a s.n s.c,.slice y.a y.n y.c] 1 [.slice r.a r.n r.c]=[pA hp,.slice r.a r.n r.c,.slice y.a y.n y.c]:=rfl;rw[e];refine iL ?_;refine dm bJ tk ae fun v hv=>af<|cz (off:=2) bL tk bu rfl ?_;have e1:Fn.cF (wa',pe') _=(wa'.eraseIdx (wa'.idxOf _),pe'++[l.getD j 0]):=if_pos hm;rw[e1]at es;exact tC (cn.cl (pe:=pe'++[l.getD j 0]) (by rw[hr,List.length_eraseIdx,if_pos hk]) (by rw[hv,List.length_append];rfl))<|hX _ _ _ ae ⟨j+1,ae,rfl,rfl,by rw[es]⟩
  ·rw[if_neg hm];refine bF ?_;have e1:Fn.cF (wa',pe') _=_:=if_neg hm;rw[e1]at es;exact tC (cn.cl hs hy)<|hX _ _ _ ae ⟨j+1,ae,rfl,rfl,by rw[es]⟩
 ·have hj':¬(j:Int)<z.n:=oF hc;rw[List.take_of_length_le ae];exact rT rfl
end Go.Proofs.YtjginndmmlkjiaaGreat
namespace Go.Gl
open Go
variable{ρ0 ρ:FR}{L L':List aD}{Post:Value→List aD→Prop}
def Ep(P:Program)(ts:Array TypeId)(kz:IntKind)(nz:Int):Bool:=
 match ts.toList with
 |[t,x]=>(match P.underlying t with
  |some (.slice e)=>(match P.info? e with |some i=>i.size==1&&i.bytes==8&&(match i.zero with |some (.int k n)=>k==kz&&n==nz|_=>false)|none=>false)
  |_=>false)&&(match P.underlying x with |some (.int _)=>true|_=>false)
 |_=>false
theorem jP{α:Type}(l:List α)(i j:Nat)(x d:α):(l.set i x).getD j d=if i=j∧i<l.length then x else l.getD j d:=by grind
theorem HV{P:Program}{ts:Array TypeId}{ty:TypeId}{kz:IntKind}{nz:Int}{n:Nat}{k:RT (.one (.l .slice))→Tree}(hok:Ep P ts kz nz=true)(h0:0<n)(hb:n<2^40)
  (h:∀r:av,r.n=n→Tr ρ0 ρ (aw r 1 (List.replicate n (.int kz nz))::L) (k r) Post):
  Tr ρ0 ρ L (cM P (Builtin.append_ ts ty #[.slice none 0 0,.int .i64 n]) (.one (.l .slice)) k) Post:=by
 refine lF (fun r M=>∃r':av,r=r'∧r'.n=n∧M=aw r' 1 (List.replicate n (.int kz nz))::L) (fun w hw=>?_) ?_;rotate_left;·rintro r M ⟨r',rfl,hr,rfl⟩;exact h r hr
 ·unfold Ep at hok;split at hok
  ·rename_i t1 t2 hts;rw[Bool.and_eq_true]at hok;obtain⟨hok1,hok2⟩:=hok;split at hok1
   ·rename_i e he;split at hok1
    ·rename_i inf hinf;simp only[Bool.and_eq_true,beq_iff_eq]at hok1;obtain⟨⟨hsz,hby⟩,hz⟩:=hok1;split at hz
     ·rename_i k1 n1 hzz;simp only[Bool.and_eq_true,beq_iff_eq]at hz;obtain⟨e1,e2⟩:=hz;rw[e1,e2]at hzz;split at hok2
      ·rename_i k3 he2;have hsize:bZ P e=some 1:=by simp[bZ,hinf,hsz]
       have hzero:(P.info? e).bind (·.zero)=some (.int kz nz):=by simp[hinf,hzz]
       have ht0:ts[0]? =some t1:=by have:=congrArg (fun l=>l[0]?) hts;simpa using this
       have ht1:ts[1]? =some t2:=by have:=congrArg (fun l=>l[1]?) hts;simpa using this
       have a0:(#[.slice none 0 0,.int .i64 n]:Array Value)[0]? =some (.slice none 0 0):=rfl;have a1:(#[.slice none 0 0,.int .i64 n]:Array Value)[1]? =some (.int .i64 n):=rfl;have hti:∀w',(typeInfo e).run P w'= .ok inf w':=fun w'=>by simp[typeInfo,hinf]
       have hwr:IntKind.i64.wrap _=n:=bG;have c0:¬((n:Int)<0):=by omega
       have c1:¬((n:Int)*inf.bytes>2^48):=by rw[hby];omega
       have c2:¬(0+n≤0):=by omega
       have c3:¬((↑(0+n):Int)>IntKind.i64.max∧(True∨inf.bytes=0)):=by
        rintro⟨hgt,_⟩;have:IntKind.i64.max=9223372036854775807:=by decide
        omega
       have c4:¬(Builtin.nextslicecap (0+n) 0*inf.bytes>2^48):=by rw[hby];have h3:=nextslicecap_le (n:=0+n) (c:=0) ae;omega
       have c5:¬(n*1=0):=by omega
       let N:=(Question.appendCap (0+n) 0 e).cut (w.tape w.drawn (Question.appendCap (0+n) 0 e));have hN:0+n≤N:=by simp only[N,Question.cut];omega
       have hch:(choose (Question.appendCap _ 0 e)).run P w= .ok N {w with drawn:=w.drawn+1}:=rfl;have hw2:Sat ρ L {w with drawn:=w.drawn+1}:=hw.drawn;let W:World:={w with drawn:=w.drawn+1};let cs:Array Value:= #[]++Builtin.zeroCells #[.int kz nz] n++Builtin.zeroCells #[.int kz nz] (N-(0+n));have hzc:(Value.int kz nz).cells= #[.int kz nz]:=rfl;refine⟨⟨oA W.heap.size,0+n,N⟩,W.alloc (.cells cs e),_,?_,⟨_,rfl,bq,rfl⟩,?_⟩;·unfold Builtin.append_;simp only[ht0,ht1,a0,a1,Sem.run_bind,run_underlying he,run_sizeOf hsize,run_underlying he2,Result.andThen_ok,Sem.run_pure,if_true,asInt,asIntOf,hwr,if_neg c0,if_neg c1,if_neg c2,if_neg c3,if_neg c4,if_neg c5,hti,Int.toNat_natCast,Bool.not_true,Bool.false_eq_true,if_false,Sem.run_ite,hch,run_askRoom,jj hzero,hzc,Builtin.firstCells,newRow,run_newObj];rfl
       ·have hnew:=Sat.zZ (t:=e) (cs:=cs.toList) hw2;refine Sat.imp (fun h hh=> .inr ⟨_,0,[],(Builtin.zeroCells #[.int kz nz] (N-(0+n))).toList,rfl,rfl,?_,?_,hN,?_⟩) hnew;·simp
        ·simp[pk]
        ·have:cs.toList=[]++(List.replicate n (.int kz nz)++(Builtin.zeroCells #[.int kz nz] (N-(0+n))).toList):=by simp only[cs,Array.toList_append,tu,List.nil_append]
         rw[←this];exact hh
      ·cases hok2
     ·cases hz
    ·cases hok1
   ·cases hok1
  ·cases hok
end Go.Gl
namespace Go.Proofs.YtjginndmmlkjiaaGreat
section
open Go Go.Gl
variable{ρ0 ρ:FR}{L L':List aD}{Post:Value→List aD→Prop}{T:Tree}
theorem IX:Ep Zp #[43,3] .i64 0=true:=by kernel_rfl
theorem H9(n:Nat)(hn:n<2^40):Gl.Spec ρ Zp 299 [.slice none 0 0,i64 n] [] RS fun r M=>r.n=0∧M=[aw r 1 []]:=by
 refine So (F.aL.Grow.calls ⟨none,0,0⟩ n) fun R=>bF ?_;dsimp only;rw[show IntKind.wrap .i64 (((0:Nat):Int)-((0:Nat):Int))=0 from rfl,bG,Int.sub_zero];refine ag (fun h=>?_) (fun h=>?_);·have h':=oT h;refine ei ae ae ae<|HV IX ae hn fun r hr=>Tr.fA tk fun hlen hc=>ei ae ae ae ?_;rw[qm];exact Tr.imp (A':=aw ⟨r.a,0,r.c⟩ 1 []) tk (fun hp H=>aw.take ae hp H)<|rT
 ·exact Tr.cg 1<|rT
abbrev nM:=av×List Int
def gz(x:nM):Value:= .slice x.1.a x.1.n x.1.c
theorem iA{l:List nM}{j:Nat}(h:j<l.length):(l.map gz)[j]? =some (LK.val .slice (l.getD j (⟨none,0,0⟩,[])).1):=by rw[List.getElem?_map,List.getD_eq_getElem?_getD,List.getElem?_eq_getElem h];rfl
theorem vj{l:List nM}{j:Nat}(h:j<l.length):(l.take (j+1)).flatMap (·.2)=(l.take j).flatMap (·.2)++(l.getD j (⟨none,0,0⟩,[])).2:=by rw[List.take_add_one,List.getElem?_eq_getElem h,List.flatMap_append,List.getD_eq_getElem?_getD,List.getElem?_eq_getElem h];simp
theorem AY{l:List nM}(j:Nat):((l.take j).flatMap (·.2)).length≤(l.flatMap (·.2)).length:=by
 conv=>rhs;rw[←List.take_append_drop j l,List.flatMap_append,List.length_append]
 omega
theorem Db(z:av)(l:List nM)(rz:fx ρ z 1 (l.map gz))(rl:∀x∈l,fx ρ x.1 1 (x.2.map i64))(hl:(l.flatMap (·.2)).length<2^39)(hl2:l.length<2^40):
  Gl.Spec ρ Zp 262 [.slice z.a z.n z.c] [] RS fun r M=>r.n=(l.flatMap (·.2)).length∧M=[aw r 1 ((l.flatMap (·.2)).map i64)]:=by
 refine So (F.aL.Concat.calls z) fun R=>?_;have hz:z.n=l.length:=by have:=rz.1;grind
 apply aM (I:=fun m s M=>∃j:Nat,j≤l.length∧m=l.length-j∧s=(((((l.take j).flatMap (·.2)).length:Nat):Int),(j:Int),())∧M=[]++R) l.length ⟨0,ae,rfl,rfl,rfl⟩;rintro m _ R ⟨j,hj,rfl,rfl,rfl⟩ X hX;try simp only[c8,c9]
 refine ag (fun hc=>?_) (fun hc=>?_)
 ·have hj':(j:Int)<z.n:=oT hc;have hjl:j<l.length:=by omega
  refine bz rz ae hj' fun a0 ha=>cu ha rz fX (iA hjl) ?_;have hr:=rl (l.getD j (⟨none,0,0⟩,[])) eV;have hr1:(l.getD j (⟨none,0,0⟩,[])).1.n=(l.getD j (⟨none,0,0⟩,[])).2.length:=by have:=hr.1;grind
  have h1:=congrArg List.length (vj hjl);rw[List.length_append]at h1;have h2:=AY (l:=l) (j+1);have e:IntKind.wrap .i64 ((((l.take j).flatMap (·.2)).length:Nat)+((l.getD j (⟨none,0,0⟩,[])).1.n:Nat))=(((l.take (j+1)).flatMap (·.2)).length:Nat):=by rw[bG];omega
  rw[e,bG];exact bF<|hX _ _ _ ae ⟨j+1,ae,rfl,rfl,rfl⟩
 ·have hj':¬(j:Int)<z.n:=oF hc;rw[List.take_of_length_le ae];refine ai (H9 _ ae) ar ?_;rintro r _ ⟨hr,rfl⟩;apply aM (I:=fun m s M=>∃(j:Nat) (t:av),j≤l.length∧m=l.length-j∧s=(t,(j:Int),())∧t.n=((l.take j).flatMap (·.2)).length∧M=aw t 1 (((l.take j).flatMap (·.2)).map i64)::R) l.length ⟨0,_,ae,rfl,rfl,hr,rfl⟩;rintro m _ _ ⟨j,t,hj,rfl,rfl,ht,rfl⟩ X hX;try simp only[c8,c9]
  refine ag (fun hc=>?_) (fun hc=>?_)
  ·have hj':(j:Int)<z.n:=oT hc;have hjl:j<l.length:=by omega
   refine bz rz ae hj' fun a0 ha=>cu ha rz fX (iA hjl) ?_;have hr:=rl (l.getD j (⟨none,0,0⟩,[])) eV;have h1:=congrArg List.length (vj hjl);rw[List.length_append]at h1;have h2:=AY (l:=l) (j+1);refine bj bJ tk (Rd.ro hr) ae fun v hv=>?_;rw[bG,←vj hjl];exact hX _ _ _ ae ⟨j+1,v,ae,rfl,rfl,ae,rfl⟩
  ·have hj':¬(j:Int)<z.n:=oF hc;rw[List.take_of_length_le ae]at ht⊢;exact rT ⟨ht,rfl⟩
namespace Cp
def new(xs:List Int)(i:Nat):Prop:=i=0∨xs.getD i 0≠xs.getD (i-1) 0
instance (xs:List Int) (i:Nat):Decidable (new xs i):=by unfold new;infer_instance
def dd(xs:List Int)(j:Nat):List Int:=(List.range j).filterMap fun i=>if new xs i then some (xs.getD i 0)else none
theorem nj(xs:List Int)(j:Nat):dd xs (j+1)=dd xs j++if new xs j then[xs.getD j 0]else[]:=by unfold dd;rw[List.range_succ,List.filterMap_append];grind
theorem Ef(xs:List Int):∀j,(dd xs j).length≤j
 |0=>Nat.le_refl _
 |j+1=>by have:=Ef xs j;rw[nj,List.length_append];split<;>simp<;>omega
theorem AH{xs:List Int}{a:Int}:∀{j:Nat},a∈dd xs j↔∃i,i<j∧a=xs.getD i 0
 |0=>by simp[dd]
 |j+1=>by
  rw[nj,List.mem_append,AH];constructor;·grind
  ·rintro⟨i,h1,h2⟩;rcases Nat.lt_succ_iff_lt_or_eq.mp h1 with h|rfl;·grind
   ·by_cases hn:new xs i;·grind
    ·unfold new at hn;grind
theorem wm{xs:List Int}(hs:∀i j,i≤j→j<xs.length→xs.getD i 0≤xs.getD j 0):∀{j:Nat},j≤xs.length→(dd xs j).Pairwise (·<·)
 |0,_=>by simp[dd]
 |j+1,hj=>by
  rw[nj,List.pairwise_append];refine⟨wm hs ae,by split<;>simp,fun a ha b hb=>?_⟩;split at hb
  ·rename_i hn;rw[List.mem_singleton]at hb;obtain⟨i,h1,rfl⟩:=AH.mp ha;rcases hn with h|h;·omega
   ·have h2:=hs i (j-1) ae ae;have h3:=hs (j-1) j ae ae;omega
  ·cases hb
end Cp
theorem Cp.wX{xs:List Int}:∀{j:Nat},j≤xs.length→(∀i,i<j→Cp.new xs i)→Cp.dd xs j=xs.take j
 |0,_,_=>rfl
 |j+1,hj,h=>by rw[Cp.nj,if_pos (h j ae),Cp.wX ae (fun i hi=>h i ae),aE 0 ae]
theorem py{ys:List Int}{k:Nat}{x:Int}(h:k<ys.length):(ys.set k x).take (k+1)=ys.take k++[x]:=by rw[aE 0 eV,List.take_set_of_le (Nat.le_refl k),jP,if_pos ⟨rfl,h⟩]
theorem rF{s:av}{xs:List Int}{j:Nat}{i:Int}{x:av}{f:Int→Tree}(t:Take L (aw s 1 (xs.map i64)) L')(hx:x=⟨if s.c=j then s.a else s.a.map fun b=>fa b (j*1),s.n-j,s.c-j⟩)(hj:j≤s.n)(h0:0≤i)(h1:i<x.n)
  (h:Tr ρ0 ρ L (f (xs.getD (j+i.toNat) 0)) Post):Tr ρ0 ρ L (ix x.a x.n i 1 fun a=>ld (.l kI) a f) Post:=by
 refine Tr.fu t fun hn=>?_;have hr:=Rd.part (ρ:=ρ) t hj ae;rw[←hx]at hr;rw[List.take_of_length_le eV]at hr;have e:(xs.drop j).getD i.toNat 0=xs.getD (j+i.toNat) 0:=by simp
 refine fun hle w hw=>?_;have hlen:=hr.len;rcases hr.2 w hw with h2|⟨b,off,hs,hc⟩;·omega
 ·refine⟨⟨b,off,none⟩,hs,h0,ae,(xs.drop j).getD _ 0,?_,by rw[e];exact h hle w hw⟩;have:=hc i.toNat eV;rw[Nat.mul_one,aO,this];exact getD_map ae
theorem Ai(s:av)(xs:List Int)(hl:xs.length<2^40):Gl.Spec ρ Zp 264 [.slice s.a s.n s.c] [aw s 1 (xs.map i64)] RS
  fun r M=>r.n=(Cp.dd xs xs.length).length∧M=[aw r 1 ((Cp.dd xs xs.length).map i64)]:=by
 refine So (F.aL.qw.calls s) fun R=>Tr.fu tk fun hn=>ag (fun h=>?_) (fun h=>?_)
 ·have h':=oT h;have e:Cp.dd xs xs.length=xs:=by have:=Cp.wX (xs:=xs) (Nat.le_refl _) (fun i hi=> .inl ae);grind
  rw[e];exact rT ⟨hn,rfl⟩
 have h':=oF h;apply aM (I:=fun m u M=>∃j:Nat,1≤j∧j≤xs.length∧m=xs.length-j∧u=((j:Int),())∧M=aw s 1 _::R∧∀i,i<j→Cp.new xs i) _ ⟨1,ae,ae,rfl,rfl,rfl,fun i hi=> .inl ae⟩;rintro m _ _ ⟨j,hj1,hj,rfl,rfl,rfl,hnew⟩ X hX;refine ag (fun hc=>?_) (fun hc=>?_)
 ·have hj':(j:Int)<s.n:=oT hc;refine aA (bt tk ae ae ?_);rw[bG];apply bt tk ae ae;rw[Int.toNat_natCast,show((j:Int)-1).toNat=j-1 by omega];refine ag (fun he=>?_) (fun he=>?_)
  ·have he':xs.getD j 0=xs.getD (j-1) 0:=by simpa using he
   have hnn:¬Cp.new xs j:=by
    rintro(g|g);·omega
    ·exact g he'
   refine Tr.fA tk fun _ hcap=>ei ae ae ae ?_;have hd1:Cp.dd xs (j+1)=xs.take j:=by rw[Cp.nj,if_neg hnn,List.append_nil,Cp.wX hj hnew]
   apply aM (I:=fun m u M=>∃(k q:Nat) (ys:List Int),1≤q∧q≤xs.length-j∧m=xs.length-q∧u=((k:Int),(q:Int),())∧M=aw s 1 (ys.map i64)::R∧ys.length=xs.length∧ys.take k=Cp.dd xs (j+q)∧k+1≤j+q∧∀i,j+q≤i+1→ys.getD i 0=xs.getD i 0) _ ⟨j,1,xs,ae,ae,rfl,rfl,rfl,rfl,hd1.symm,ae,fun _ _=>rfl⟩;rintro m _ _ ⟨k,q,ys,hq1,hq2,rfl,rfl,rfl,hyl,hyt,hkq,hyd⟩ X hX;try simp only[c8,c9]
   refine ag (fun hc=>?_) (fun hc=>?_)
   ·have hc':(q:Int)<((s.n-j:Nat):Int):=oT hc;refine aA (rF (s:=s) (j:=j) tk rfl (by omega) (by omega) (by omega) ?_);rw[wrap64 (n:=(q:Int)-1) (by omega) (by omega)];apply rF (s:=s) (j:=j) tk rfl (by omega) (by omega) (by dsimp only;omega);rw[Int.toNat_natCast,show((q:Int)-1).toNat=q-1 by omega,hyd _ (by omega),hyd _ (by omega)];rw[bG (n:=(q:Int)+1)];refine ag (fun hne=>?_) (fun hne=>?_)
    ·have hne':xs.getD (j+q) 0≠xs.getD (j+(q-1)) 0:=by simpa using hne
     have hnw:Cp.new xs (j+q):= .inr (by grind);apply rF (s:=s) (j:=j) tk rfl (by omega) (by omega) (by omega);rw[Int.toNat_natCast,hyd _ (by omega)];apply dr tk (by omega) (by omega);rw[Int.toNat_natCast,wrap64 (n:=(k:Int)+1) (by omega) (by omega)];refine hX (xs.length-(q+1)) _ _ (by omega) ⟨k+1,q+1,ys.set k (xs.getD (j+q) 0),by omega,by omega,rfl,rfl,rfl,by grind,?_,by omega,fun i hi=>?_⟩;·rw[py (by omega),hyt,←Nat.add_assoc,Cp.nj,if_pos hnw]
     grind
    ·have hne':xs.getD (j+q) 0=xs.getD (j+(q-1)) 0:=by simpa using hne
     have hnw:¬Cp.new xs (j+q):=by
      rintro(g|g);·omega
      grind
     refine hX _ _ _ ae ⟨k,q+1,ys,ae,ae,rfl,rfl,rfl,hyl,?_,ae,fun i hi=>hyd i ae⟩;rw[←Nat.add_assoc,Cp.nj,if_neg hnw,List.append_nil];exact hyt
   ·have hc':¬_<((s.n-j:Nat):Int):=oF hc;have hjq:j+q=xs.length:=by omega
    rw[hjq]at hyt;have hkl:(Cp.dd xs xs.length).length=k:=by grind
    refine Tr.fA tk fun _ hcap=>ei ae ae ae ?_;dsimp only[sV];refine wV (e:=3) (zz:=i64 0) (l:=k) (by kernel_rfl) (by kernel_rfl) rfl rfl tk ae (fun _=>?_) ?_;·grind
    apply ei ae ae ae;rw[qm,Int.toNat_natCast,←List.map_take,hyt];exact rT ⟨hkl.symm,rfl⟩
  ·have he':xs.getD j 0≠xs.getD (j-1) 0:=by simpa using he
   rw[bG];refine hX _ _ _ ae ⟨j+1,ae,ae,rfl,rfl,rfl,fun i hi=>?_⟩;rcases Nat.lt_succ_iff_lt_or_eq.mp hi with h|rfl;·exact hnew i h
   ·exact .inr he'
 ·have hj':¬(j:Int)<s.n:=oF hc;have hjl:j=xs.length:=by omega
  subst hjl;have e:Cp.dd xs xs.length=xs:=by rw[Cp.wX (Nat.le_refl _) hnew,List.take_length]
  rw[e];exact rT ⟨hn,rfl⟩
abbrev Mw:Value:= .func (.func 265) #[] #[]
theorem G1(x:Int):Gl.Spec ρ Zp 265 [i64 x] [] RB fun r M=>r=decide (x<1)∧M=[]:=by exact So (F.root.wO.calls x) fun R=>rT
abbrev GM(x:Int):Bool:= !decide (x<1)
theorem l4{xs:List Int}{j:Nat}(h:j<xs.length):(xs.take (j+1)).filter GM=(xs.take j).filter GM++if xs.getD j 0<1 then[]else[xs.getD j 0]:=by rw[aE 0 h,List.filter_append];grind
theorem Hq(s:av)(xs:List Int)(hl:xs.length<2^40):Gl.Spec ρ Zp 300 [.slice s.a s.n s.c,Mw] [aw s 1 (xs.map i64)] R1
  fun r M=>((r= -1∧xs.filter GM=xs)∨∃i:Nat,r=i∧i<xs.length∧xs.getD i 0<1∧(xs.take i).filter GM=xs.take i)∧M=[aw s 1 (xs.map i64)]:=by
 refine So (F.aL.kZ.calls s _) fun R=>Tr.fu tk fun hn=>aM (I:=fun m u M=>∃j:Nat,j≤xs.length∧m=xs.length-j∧u=((j:Int),())∧M=aw s 1 _::R∧(xs.take j).filter GM=xs.take j) xs.length ⟨0,ae,rfl,rfl,rfl,rfl⟩ ?_;rintro m _ _ ⟨j,hj,rfl,rfl,rfl,hf⟩ X hX;refine ag (fun hc=>?_) (fun hc=>?_)
 ·have hj':(j:Int)<s.n:=oT hc;have hjl:j<xs.length:=by omega
  refine bt tk ae ae<|mK Tryz.func265 (by kernel_rfl) (G1 _) .nil ?_;rintro _ _ ⟨rfl,rfl⟩;refine ag (fun h=>?_) (fun h=>?_);·refine ax rfl ⟨.inr ⟨j,rfl,hjl,oT h,hf⟩,rfl⟩ ar bE
  ·have h':¬xs.getD j 0<1:=oF h;rw[bG];refine hX _ _ _ ae ⟨j+1,ae,rfl,rfl,rfl,?_⟩;rw[l4 hjl,if_neg h',hf,aE 0 hjl]
 ·have hj':¬(j:Int)<s.n:=oF hc;rw[List.take_of_length_le ae]at hf;exact rT ⟨.inl ⟨rfl,hf⟩,rfl⟩
theorem As(s:av)(xs:List Int)(hl:xs.length<2^40):Gl.Spec ρ Zp 263 [.slice s.a s.n s.c,Mw] [aw s 1 (xs.map i64)] RS
  fun r M=>r.n=(xs.filter GM).length∧M=[aw r 1 ((xs.filter GM).map i64)]:=by
 refine So (F.aL.lE.calls s _) fun R=>Tr.fu tk fun hn=>ai (Hq s _ hl) ar ?_;rintro r _ ⟨hr,rfl⟩;rcases hr with ⟨rfl,hf⟩|⟨i,rfl,hi,hlt,hf⟩;·refine bT ?_;rw[hf];exact rT ⟨hn,rfl⟩
 refine bF ?_;rw[bG];have hf1:xs.take i=(xs.take (i+1)).filter GM:=by rw[l4 hi,if_pos hlt,List.append_nil,hf]
 apply aM (I:=fun m u M=>∃(k j:Nat) (ys:List Int),k<j∧j≤xs.length∧m=xs.length-j∧u=((k:Int),(j:Int),())∧M=aw s 1 (ys.map i64)::R∧ys.length=xs.length∧ys.take k=(xs.take j).filter GM∧∀q,j≤q→ys.getD q 0=xs.getD q 0) _ ⟨i,i+1,xs,ae,ae,rfl,rfl,rfl,rfl,hf1,fun _ _=>rfl⟩;rintro m _ _ ⟨k,j,ys,hkj,hj,rfl,rfl,rfl,hyl,hyt,hyd⟩ X hX;try simp only[c8,c9]
 refine ag (fun hc=>?_) (fun hc=>?_)
 ·have hj':(j:Int)<s.n:=oT hc;have hjl:j<xs.length:=by omega
  apply bt tk ae ae;rw[Int.toNat_natCast,hyd j (Nat.le_refl _)];refine mK Tryz.func265 (by kernel_rfl) (G1 _) .nil ?_;rintro _ _ ⟨rfl,rfl⟩;rw[bG (n:=(j:Int)+1)];refine ag (fun h=>?_) (fun h=>?_)
  ·have h':¬xs.getD j 0<1:=by grind
   apply dr tk ae ae;rw[Int.toNat_natCast,bG (n:=(k:Int)+1)];refine hX _ _ _ ae ⟨k+1,j+1,ys.set k _,ae,ae,rfl,rfl,rfl,eV,?_,fun q hq=>?_⟩;·rw[py ae,hyt,l4 hjl,if_neg h']
   ·rw[jP,if_neg ae];exact hyd q ae
  ·have h':xs.getD j 0<1:=by grind
   refine hX _ _ _ ae ⟨k,j+1,ys,ae,ae,rfl,rfl,rfl,hyl,?_,fun q hq=>hyd q ae⟩;rw[hyt,l4 hjl,if_pos h',List.append_nil]
 ·have hj':¬(j:Int)<s.n:=oF hc;rw[List.take_of_length_le (l:=xs) ae]at hyt;have hkl:(xs.filter GM).length=k:=by grind
  refine Tr.fA tk fun _ hcap=>ei ae ae ae ?_;dsimp only[sV];refine wV (e:=3) (zz:=i64 0) (l:=k) (by kernel_rfl) (by kernel_rfl) rfl rfl tk ae (fun _=>?_) ?_;·rw[if_neg ae,Int.toNat_natCast]
  apply ei ae ae ae;rw[qm,Int.toNat_natCast,←List.map_take,hyt];exact rT ⟨hkl.symm,rfl⟩
theorem HH(xs:List Int):(Sp.sort xs).Pairwise (·≤·):=by have:=List.pairwise_mergeSort (le:=fun x y:Int=>decide (x≤y)) (by intro a b c;simp;omega) (by intro a b;simp;omega) xs;exact this.imp bu
theorem Hj(ls:List (List Int)):(Cp.dd (Sp.sort ls.flatten) (Sp.sort ls.flatten).length).filter GM=Mg.merge ls:=by
 refine Mg.EA ?_ fun a=>?_
 ·refine List.Pairwise.filter _ (Cp.wm (fun i j hij hj=>?_) (Nat.le_refl _));have hp:=HH ls.flatten;rw[List.getD_eq_getElem?_getD,List.getD_eq_getElem?_getD,List.getElem?_eq_getElem hj,List.getElem?_eq_getElem (Nat.lt_of_le_of_lt hij hj)];rcases Nat.lt_or_eq_of_le hij with h|rfl;·exact List.pairwise_iff_getElem.mp hp i j _ _ h
  ·exact Int.le_refl _
 ·rw[List.mem_filter,Cp.AH];have hm:a∈ls.flatten↔∃i,i<(Sp.sort ls.flatten).length∧a=(Sp.sort ls.flatten).getD i 0:=by
   have hp:(Sp.sort ls.flatten).Perm ls.flatten:=List.mergeSort_perm _ _;rw[←hp.mem_iff,List.mem_iff_getElem];constructor;·rintro⟨i,hi,rfl⟩;exact⟨i,hi,eV⟩
   grind
  rw[←hm,List.mem_flatten];grind
theorem Ew(z:av)(l:List nM)(rz:fx ρ z 1 (l.map gz))(rl:∀x∈l,fx ρ x.1 1 (x.2.map i64))(hl:(l.flatMap (·.2)).length<2^39)(hl2:l.length<2^40):
  Gl.Spec ρ Zp 212 [.slice z.a z.n z.c] [] RS fun r M=>r.n=(Mg.merge (l.map (·.2))).length∧M=[aw r 1 ((Mg.merge (l.map (·.2))).map i64)]:=by refine So (F.root.q9.calls z) fun R=>ai (Db z l rz rl hl hl2) ar ?_;rintro r _ ⟨hr,rfl⟩;apply ai (wG r (l.flatMap (·.2)) ae) ar;rintro _ _ rfl;refine ai (Ai r (Sp.sort (l.flatMap (·.2))) (by rw[Sp.kC];omega)) ar ?_;rintro r2 _ ⟨hr2,rfl⟩;have hdl:=Cp.Ef (Sp.sort (l.flatMap (·.2))) (Sp.sort (l.flatMap (·.2))).length;rw[Sp.kC]at hdl;refine ai (As _ (Cp.dd (Sp.sort (l.flatMap (·.2))) (Sp.sort (l.flatMap (·.2))).length) (by rw[Sp.kC];omega)) ar ?_;rintro r3 _ ⟨hr3,rfl⟩;have e:=Hj (l.map (·.2));rw[←List.flatMap_def]at e;rw[e]at hr3⊢;exact rT ⟨hr3,rfl⟩
abbrev jS(rows:List (List Int)):List Value:=fB (rows.map Qu.ends)
theorem xF(rows:List (List Int))(i:Nat):Hn.bM (rows.map Qu.ends) i=Qu.ends (rows.getD i []):=by unfold Hn.bM;rw[List.getD_eq_getElem?_getD,List.getD_eq_getElem?_getD,List.getElem?_map];cases rows[i]? <;>rfl
theorem oK(rows:List (List Int)):(jS rows).length=2*rows.length:=by rw[xf,List.length_map]
theorem nU{rows:List (List Int)}{i:Nat}(h:i<rows.length):(jS rows)[i*2]? =some (i64 ((rows.getD i []).headD 0))∧(jS rows)[i*2+1]? =some (i64 ((rows.getD i []).getLastD 0)):=by have:=kL (hs:=rows.map Qu.ends) (i:=i) eV;rw[xF]at this;exact this
theorem zF{rows:List (List Int)}{i:Nat}{r:List Int}(h:i<rows.length):((jS rows).set (i*2) (i64 (r.headD 0))).set (i*2+1) (i64 (r.getLastD 0))=jS (rows.set i r):=by
 have hl:i<(rows.map Qu.ends).length:=by grind
 rw[(nZ (x:=r.headD 0) hl).1,(nZ eV).2,Hn.xM hl,if_pos rfl,List.set_set];unfold jS;rw[List.map_set];rfl
theorem C9{rows:List (List Int)}{i:Nat}{r:List Int}(h:i<rows.length)(he:r.headD 0=(rows.getD i []).headD 0):(jS rows).set (i*2+1) (i64 (r.getLastD 0))=jS (rows.set i r):=by
 have hl:i<(rows.map Qu.ends).length:=by grind
 rw[(nZ (x:=r.getLastD 0) hl).2,xF];unfold jS;rw[List.map_set];have:Qu.ends r=((Qu.ends (rows.getD i [])).1,r.getLastD 0):=by unfold Qu.ends;rw[he]
 rw[this]
theorem AO{rows:List (List Int)}{i:Nat}{r:List Int}(h:i<rows.length)(he:r.getLastD 0=(rows.getD i []).getLastD 0):(jS rows).set (i*2) (i64 (r.headD 0))=jS (rows.set i r):=by
 have hl:i<(rows.map Qu.ends).length:=by grind
 rw[(nZ (x:=r.headD 0) hl).1,xF];unfold jS;rw[List.map_set];have:Qu.ends r=(r.headD 0,(Qu.ends (rows.getD i [])).2):=by unfold Qu.ends;rw[he]
 rw[this]
def db(p hp:Nat)(rows:List (List Int)):aD:=fun h=>∃s:av,s.n=rows.length∧star [au p [pA hp,.slice s.a s.n s.c],aw s 2 (jS rows)] h
theorem db.op{p hp:Nat}{rows:List (List Int)}(t:Take L (db p hp rows) L')(h:∀s:av,s.n=rows.length→Tr ρ0 ρ (au p [pA hp,.slice s.a s.n s.c]::aw s 2 (jS rows)::L') T Post):Tr ρ0 ρ L T Post:=
 Tr.iW (M:=fun s:av=>[au p [pA hp,.slice s.a s.n s.c],aw s 2 (jS rows)]) t (fun _ h=>h) h
theorem db.cl{p hp:Nat}{rows:List (List Int)}{s:av}(hs:s.n=rows.length)(h:HP)(H:star [au p [pA hp,.slice s.a s.n s.c],aw s 2 (jS rows)] h):db p hp rows h:=⟨s,hs,H⟩
theorem IW(hp:Nat):Gl.Spec ρ Zp 157 [pA hp] [] (.one (.l .ptr)) fun r M=>∃p,r=oA p∧M=[db p hp []]:=by refine So (F.queue.gB.calls _) fun R=>ak rfl (aq fun b=>?_);exact Tr.cg 2<|Tr.close ar (db.cl (rows:=[]) (s:=⟨none,0,0⟩) rfl)<|rT ⟨b,rfl,rfl⟩
theorem mL(p hp:Nat)(rows:List (List Int)):Gl.Spec ρ Zp 92 [pA p] [db p hp rows] R1 fun r M=>r=(rows.length:Nat)∧M=[db p hp rows]:=by refine So (F.queue.de.de.calls _) fun R=>ak rfl (af (db.op tk fun s hs=>?_));refine iL<|tC (db.cl hs) ?_;rw[hs];exact rT
theorem qQ(p hp:Nat)(rows:List (List Int))(i:Int):Gl.Spec ρ Zp 201 [pA p,i64 i] [db p hp rows] RB fun r M=>r=Qu.has rows i∧M=[db p hp rows]:=by
 refine So (F.queue.de.has.calls _ i) fun R=>ag (fun h=>?_) (fun h=>?_)
 ·refine cE (mL p _ _)<|ax ?_ ⟨rfl,rfl⟩ ar bE;have:Qu.has rows i=decide (i<rows.length):=by unfold Qu.has;grind
  rw[this];rfl
 ·refine ax ?_ ⟨rfl,rfl⟩ ar bE;have:Qu.has rows i=false:=by unfold Qu.has;grind
  rw[this];rfl
theorem JA:pY Zp #[160,160] 2 16=true:=by kernel_rfl
theorem Ff(p hp:Nat)(rows:List (List Int))(hr:rows.length≤8):Gl.Spec ρ Zp 176 [pA p] [db p hp rows] P2
  fun r M=>r=(if rows.length=8 then((0:Int),(3:Int),())else(((rows.length:Nat):Int),(0:Int),()))∧M=[db p hp (if rows.length=8 then rows else rows++[[]])]:=by
 refine So (F.queue.de.Open.calls _) fun R=>ak rfl (af (db.op tk fun s hs=>?_));refine iL<|ag (fun h=>?_) (fun h=>?_)
 ·have h':=oT h;have h8:rows.length=8:=by omega
  refine tC (db.cl hs) ?_;rw[if_pos h8,if_pos h8];exact rT
 ·have h':=oF h;have h8:rows.length≠8:=by omega
  rw[if_neg h8,if_neg h8];refine af<|iL<|aq fun b=>eu (x:=⟨oA b,1,1⟩) JA tk (Rd.cl tk rfl rfl) rfl bq bq fun r hr=>tD (au b [i64 0,i64 0])<|af ?_;refine cz (off:=1) (by rw[aO]) tk (by simp) rfl<|af ?_;have e:cH [pA hp,.slice s.a s.n s.c] 1 [.slice r.a r.n r.c]=[pA hp,.slice r.a r.n r.c]:=rfl;rw[e];apply lS _ 1 r;have hrn:r.n=(rows++[[]]).length:=by grind
  have e2:jS rows++[i64 0,i64 0]=jS (rows++[[]]):=by unfold jS fB;rw[List.map_append,List.flatMap_append];rfl
  rw[e2];refine tC (db.cl hrn) ?_;have hw:IntKind.wrap .i64 ((r.n:Nat)-1)=(rows.length:Nat):=by rw[List.length_append,List.length_singleton]at hrn;rw[bG];omega
  rw[hw];exact rT
theorem bx{S:aJ}{a:Int}(h:Qu.bR S a=true):∃hd,Ob.head S a=some hd∧hd.k=4:=by unfold Qu.bR at h;grind
theorem jm{S:aJ}{cs:List aX}(hw:aY S cs){a:Int}{hd:Hd}(hh:Ob.head S a=some hd)(hk:hd.k=4):hd.n=5:=by have:=Ob.q7 hw hh;unfold Sp.fk at this;grind
theorem Ax{S:aJ}{a i x:Int}{h:Hd}(hh:Ob.head S a=some h)(h0:0≤i)(h1:i<h.n):(Ob.put S a i x).1=0:=by
 have e:Ob.fieldAt S a i=(a+1+i,0):=by unfold Ob.fieldAt;grind
 unfold Ob.put;rw[e];rfl
theorem Aq{S:aJ}{a i x:Int}(h:(Ob.get S a i).2=0):(Ob.put S a i x).1=0:=by unfold Ob.get at h;unfold Ob.put;grind
theorem jo{rows:List (List Int)}{i:Int}(h:Qu.has rows i=true):0≤i∧i.toNat<rows.length:=by unfold Qu.has at h;grind
theorem ku{rows:List (List Int)}{i:Int}(h:Qu.has rows i=true):Qu.row rows i∈rows:=by unfold Qu.row;rw[List.getD_eq_getElem?_getD,List.getElem?_eq_getElem (jo h).2];exact List.getElem_mem _
def Qu.ik(S:aJ)(rows:List (List Int))(i a:Int):Int:=
 if Qu.has rows i then(if Qu.bR S a then(if Qu.row rows i=[]then 0 else(Ob.put (Ob.put S a 2 0).2 ((Qu.row rows i).getLastD 0) 2 a).1)else 5)else 2
theorem Kx:zc Zp 72=[i64 0,i64 0,i64 0,.bool false]:=by kernel_rfl
theorem GL(p hp:Nat)(S:aJ)(cs:List aX)(hw:aY S cs)(rows:List (List Int))(hz:∀r∈rows,∀a∈r,a≠0)(i a:Int):
  Gl.Spec ρ Zp 214 [pA p,i64 i,i64 a] [db p hp rows,aF hp S cs] R1
  fun r M=>r=Qu.ik S rows i a∧M=[db p hp (Qu.dN S rows i a),aF hp (Qu.bP S rows i a) cs]:=by
 refine So (F.queue.de.pc.calls _ i a) fun R=>cE (qQ p _ _ i)<|ag (fun h=>?_) (fun h=>?_)
 ·have h':Qu.has rows i=false:=by simpa using h
  have e1:Qu.ik S rows i a=2:=by unfold Qu.ik;rw[h'];rfl
  have e2:Qu.dN S rows i a=rows:=by unfold Qu.dN;rw[h'];rfl
  have e3:Qu.bP S rows i a=S:=by unfold Qu.bP;rw[h'];rfl
  rw[e1,e2,e3];exact rT
 have h':Qu.has rows i=true:=by simpa using h
 refine af (db.op tk fun s hs=>?_);refine iL<|cE (du _ S _ hw a)<|aq fun b=>?_;rw[Kx];refine iT ?_;cases hh:Ob.head S a with
 |none=>
  refine bT ?_;have hR:Qu.bR S a=false:=by unfold Qu.bR;rw[hh]
  have e1:Qu.ik S rows i a=5:=by unfold Qu.ik;rw[h',hR];rfl
  have e2:Qu.dN S rows i a=rows:=by unfold Qu.dN;rw[h',hR];rfl
  have e3:Qu.bP S rows i a=S:=by unfold Qu.bP;rw[h',hR];rfl
  refine tC (db.cl hs) ?_;rw[e1,e2,e3];exact rT
 |some hd=>
  apply ak rfl;have e:cH [i64 0,i64 0,i64 0,.bool false] 0 [.int .i64 (Ob.jX (some hd)).1.1,.int .i64 (Ob.jX (some hd)).1.2.1,.int .i64 (Ob.jX (some hd)).1.2.2.1,.bool (Ob.jX (some hd)).1.2.2.2.1]=hd.cs:=rfl;rw[e];refine lI _ 0 hd.k<|tD (au b hd.cs)<|ag (fun h4=>?_) (fun h4=>?_)
  ·have hR:Qu.bR S a=false:=by unfold Qu.bR;rw[hh];simpa using h4
   have e1:Qu.ik S rows i a=5:=by unfold Qu.ik;rw[h',hR];rfl
   have e2:Qu.dN S rows i a=rows:=by unfold Qu.dN;rw[h',hR];rfl
   have e3:Qu.bP S rows i a=S:=by unfold Qu.bP;rw[h',hR];rfl
   refine tC (db.cl hs) ?_;rw[e1,e2,e3];exact rT
  have hk:hd.k=4:=by simpa using h4
  have hR:Qu.bR S a=true:=by unfold Qu.bR;rw[hh];simpa using hk
  have hn:=jm hw hh hk;refine iN<|cE (fD _ S _ hw a 2 0) ?_;rw[Ax hh ae ae];refine ak rfl (af ?_);refine iL ?_;obtain⟨hi0,hi1⟩:=jo h';refine bD tk hi0 ae fun a0 ha=>cw ha tk fX (nU hi1).1 ?_;have hrow:rows.getD i.toNat []=Qu.row rows i:=rfl;rw[hrow];have e2:Qu.dN S rows i a=rows.set i.toNat (Qu.row rows i++[a]):=by unfold Qu.dN;rw[h',hR];rfl
  refine ag (fun h0=>?_) (fun h0=>?_)
  ·have hr:Qu.row rows i=[]:=by
    have hm:=hz _ (ku h');cases hc:Qu.row rows i with
    |nil=>rfl
    |cons x r=>grind
   have e1:Qu.ik S rows i a=0:=by unfold Qu.ik;grind
   have e3:Qu.bP S rows i a=(Ob.put S a 2 0).2:=by unfold Qu.bP;grind
   refine iR (j:=i.toNat*2) ha tk fX (by rw[oK,List.length_singleton];omega) rfl<|iR (j:=i.toNat*2+1) ha tk fX (by rw[kB,oK,List.length_singleton];omega) rfl ?_;have e4:cH (cH (jS rows) (i.toNat*2) [i64 a]) (i.toNat*2+1) [i64 a]=jS (rows.set i.toNat (Qu.row rows i++[a])):=by rw[←zF hi1,hr];rfl
   rw[e4];refine tC (db.cl (rows:=rows.set i.toNat (Qu.row _ i++[a])) (by rw[List.length_set];exact hs)) ?_;rw[e1,e2,e3];exact rT
  ·have hr:Qu.row rows i≠[]:=fun e=>by rw[e]at h0;simp at h0
   have e1:Qu.ik S rows i a=(Ob.put (Ob.put S a 2 0).2 ((Qu.row rows i).getLastD 0) 2 a).1:=by unfold Qu.ik;grind
   have e3:Qu.bP S rows i a=(Ob.put (Ob.put S a 2 0).2 ((Qu.row rows i).getLastD 0) 2 a).2:=by unfold Qu.bP;grind
   refine cw ha tk fX (nU hi1).2<|iR (j:=i.toNat*2+1) ha tk fX (by rw[oK,List.length_singleton];omega) rfl ?_;have e4:cH (jS rows) (i.toNat*2+1) [i64 a]=jS (rows.set i.toNat (Qu.row rows i++[a])):=by rw[←C9 hi1 (r:=Qu.row rows i++[a]) (by rw[hrow];cases hq:Qu.row rows i with |nil=>exact absurd hq hr|cons x r=>rfl)];simp[cH]
   rw[e4];refine iN<|cE (fD _ (Ob.put S a 2 0).2 _ (hw.put a 2 0) _ 2 a) ?_;refine tC (db.cl (rows:=rows.set i.toNat (Qu.row _ i++[a])) (by rw[List.length_set];exact hs)) ?_;rw[e1,e2,e3];exact rT
theorem Qu.Lk.get{S:aJ}:∀{r pre:List Int} {a:Int},Qu.Lk S (pre++a::r)→a≠0∧Ob.get S a 2=(r.headD 0,0)
 |r,[],a,h=>⟨h.1,h.2.1⟩
 |r,x::pre,a,h=>Qu.Lk.get (pre:=pre) h.2.2
theorem Qu.Lk.ne{S:aJ}:∀{r:List Int},Qu.Lk S r→∀a∈r,a≠0
 |[],_,a,h=>by cases h
 |x::r,H,a,h=>by
  rcases List.mem_cons.mp h with rfl|h;·exact H.1
  ·exact Qu.Lk.ne H.2.2 a h
theorem Fu(p hp:Nat)(S:aJ)(cs:List aX)(hw:aY S cs)(rows:List (List Int))(hk:∀r∈rows,Qu.Lk S r)(i:Int):
  Gl.Spec ρ Zp 154 [pA p,i64 i] [db p hp rows,aF hp S cs] P2
  fun r M=>r=((Qu.jA rows i).1,(Qu.jA rows i).2,())∧M=[db p hp (Qu.fK rows i),aF hp (Qu.dq S rows i) cs]:=by
 refine So (F.queue.de.Poll.calls _ i) fun R=>cE (qQ p _ _ i)<|ag (fun h=>?_) (fun h=>?_)
 ·have h':Qu.has rows i=false:=by simpa using h
  have e1:Qu.jA rows i=(0,2):=by unfold Qu.jA;rw[h'];rfl
  have e2:Qu.fK rows i=rows:=by unfold Qu.fK;rw[h'];rfl
  have e3:Qu.dq S rows i=S:=by unfold Qu.dq;rw[h'];rfl
  rw[e1,e2,e3];exact rT
 have h':Qu.has rows i=true:=by simpa using h
 obtain⟨hi0,hi1⟩:=jo h';have hrow:rows.getD i.toNat []=Qu.row rows i:=rfl;have e1:Qu.jA rows i=((Qu.row rows i).headD 0,0):=by unfold Qu.jA;rw[h'];rfl
 have e2:Qu.fK rows i=rows.set i.toNat (Qu.row rows i).tail:=by unfold Qu.fK;rw[h'];rfl
 refine af (db.op tk fun s hs=>?_);refine iL<|bD tk hi0 ae fun a0 ha=>cw ha tk fX (nU hi1).1 ?_;rw[hrow];have hl:=hk _ (ku h');cases hr:Qu.row rows i with
 |nil=>
  refine bT ?_;have e3:Qu.dq S rows i=S:=by unfold Qu.dq;grind
  have e4:rows.set i.toNat (Qu.row rows i).tail=rows:=by apply List.ext_getElem?;grind
  refine tC (db.cl hs) ?_;rw[e1,e2,e3,e4,hr];exact rT
 |cons x r=>
  rw[hr]at hl;obtain⟨hx,hg⟩:=Qu.Lk.get (pre:=[]) hl;refine ak (by simpa using hx) (af ?_);refine iL<|cE (iC _ S _ hw x 2) ?_;rw[hg];refine bF<|iR (j:=i.toNat*2) ha tk fX (by rw[oK,List.length_singleton];omega) rfl ?_;have hpx:(Ob.put S x 2 0).1=0:=Aq (by rw[hg]);have e3:Qu.dq S rows i=(Ob.put S x 2 0).2:=by unfold Qu.dq;grind
  refine ag (fun h0=>?_) (fun h0=>?_)
  ·have hr0:r=[]:=by
    cases r with
    |nil=>rfl
    |cons y r=>
     have:y=0:=by simpa using h0
     exact absurd this (Qu.Lk.ne hl y bu)
   subst hr0;apply iR (j:=i.toNat*2+1) ha tk fX (by rw[kB,oK,List.length_singleton];omega) rfl;have e4:cH (cH (jS rows) (i.toNat*2) [i64 (List.headD [] 0)]) (i.toNat*2+1) [i64 0]=jS (rows.set i.toNat (Qu.row rows i).tail):=by rw[←zF hi1,hr];rfl
   rw[e4];refine iN<|cE (fD _ S _ hw x 2 0) ?_;refine tC (db.cl (rows:=rows.set i.toNat (Qu.row _ i).tail) (by rw[List.length_set];exact hs)) ?_;rw[e1,e2,e3,hpx,hr];exact rT
  ·have e4:cH (jS rows) (i.toNat*2) [i64 (r.headD 0)]=jS (rows.set i.toNat (Qu.row rows i).tail):=by rw[hr];show _=jS (rows.set i.toNat r);rw[←AO hi1 (r:=r) eV];simp[cH]
   rw[e4];refine iN<|cE (fD _ S _ hw x 2 0) ?_;refine tC (db.cl (rows:=rows.set i.toNat (Qu.row _ i).tail) (by rw[List.length_set];exact hs)) ?_;rw[e1,e2,e3,hpx,hr];exact rT
abbrev SE:RK:= .many [.l .slice,.l kI]
theorem yz(p hp:Nat)(S:aJ)(cs:List aX)(hw:aY S cs)(rows:List (List Int))(i:Int)(h':Qu.has rows i=true)(hk:Qu.Lk S (Qu.row rows i))(hn:(Qu.row rows i).length≤2^30):
  Gl.Spec ρ Zp 141 [pA p,i64 i] [db p hp rows,aF hp S cs] SE
  fun r M=>(∃s:av,r=(s,0,())∧s.n=(Qu.row rows i).length∧M=[aw s 1 ((Qu.row rows i).map i64),db p hp rows,aF hp S cs]):=by
 refine So (F.queue.de.List.calls _ i) fun R=>cE (qQ p _ _ i)<|ak (by rw[h'];rfl) ?_;obtain⟨hi0,hi1⟩:=jo h';have hrow:rows.getD i.toNat []=Qu.row rows i:=rfl;refine af (db.op tk fun s hs=>?_);refine iL<|bD tk hi0 ae fun a0 ha=>cw ha tk fX (nU hi1).1 ?_;rw[hrow];refine tC (db.cl hs)<|Tr.cg 1 ?_;generalize hq:Qu.row rows i=q at*;apply aM (I:=fun n st M=>∃(pre r:List Int) (t:av),q=pre++r∧n=r.length∧st=(t,r.headD 0,())∧t.n=pre.length∧M=aw t 1 (pre.map i64)::db p hp rows::aF hp S cs::R) q.length ⟨[],q,_,rfl,rfl,rfl,rfl,rfl⟩;rintro n _ _ ⟨pre,r,t,he,rfl,rfl,ht,rfl⟩ X hX;cases r with
 |nil=>refine bF ?_;rw[List.append_nil]at he;subst he;exact rT ⟨t,rfl,ht,rfl⟩
 |cons a r=>
  rw[he]at hk;obtain⟨h0,hg⟩:=Qu.Lk.get hk;refine bg (by simpa using h0) (aq fun b=>?_);refine eu (s:=t) (x:=⟨oA b,1,1⟩) (ys:=[i64 a]) bJ tk (Rd.cl tk rfl rfl) rfl eV eV fun r2 hr2=>tD (au b [i64 a]) ?_;refine af (db.op tk fun s hs=>?_);refine iL<|tC (db.cl hs) ?_;apply cE (iC _ S _ hw a 2);rw[hg];refine bF ?_;have e:pre.map i64++[i64 a]=(pre++[a]).map i64:=by simp
  rw[e];refine tP [aw _ 1 _,db p _ rows,aF _ S cs] (hX _ _ _ bu ⟨pre++[a],r,r2,eV,rfl,rfl,eV,rfl⟩)
def eL(p hp:Nat)(rows:List (List Int))(n:Int):aD:=fun h=>∃q:Nat,star [au p [pA q,i64 n],db q hp rows] h
theorem eL.op{p hp:Nat}{rows:List (List Int)}{n:Int}(t:Take L (eL p hp rows n) L')(h:∀q:Nat,Tr ρ0 ρ (au p [pA q,i64 n]::db q hp rows::L') T Post):Tr ρ0 ρ L T Post:=
 Tr.iW (M:=fun q:Nat=>[au p [pA q,i64 n],db q hp rows]) (c:=fun _=>True) t (fun _ ⟨q,h⟩=>⟨q,trivial,h⟩) (fun q _=>h q)
theorem eL.cl{p q hp:Nat}{rows:List (List Int)}{n:Int}(h:HP)(H:star [au p [pA q,i64 n],db q hp rows] h):eL p hp rows n h:=⟨q,H⟩
namespace Rf
def may(S:aJ)(rows:List (List Int))(c o q:Int):Int:=
 if c<1 then 1 else if c>3 then 1 else if q< -1 then 2 else if q≥rows.length then 2 else if c=3∧q<0 then 1 else if(Ob.head S o).isNone then 2 else 0
def ja(S:aJ)(a:Int):Nat→List Int→aJ
 |_,[]=>S|i,x::xs=>ja (Ob.put S a i x).2 a (i+1) xs
def bS(S:aJ)(cs:List aX)(rows:List (List Int))(n c o q t:Int):Int×Int×aJ×Int:=
 if may S rows c o q≠0 then(0,may S rows c o q,S,n)else
 if(Ob.make S cs ⟨4,c,5,false⟩).2.1≠0 then(0,(Ob.make S cs ⟨4,c,5,false⟩).2.1,(Ob.make S cs ⟨4,c,5,false⟩).2.2,n)else
 ((Ob.make S cs ⟨4,c,5,false⟩).1,0,ja (Ob.make S cs ⟨4,c,5,false⟩).2.2 (Ob.make S cs ⟨4,c,5,false⟩).1 0 [o,q+1,0,t,n+1],n+1)
def str(S:aJ)(a:Int):Int×Int:=match Ob.head S a with |some h=>if h.k=4 then(h.c,0)else(0,5)|none=>(0,5)
def iu(S:aJ)(l:List Int):aJ:=l.foldl (fun S a=>(Ob.put S a 0 0).2) S
def clear(S:aJ)(l:List Int):Int×aJ:=if l.all (Qu.bR S)then(0,iu S l)else(5,S)
def qn(S:aJ)(a:Int):Int:=(Ob.get (Ob.put S a 0 0).2 a 1).1
def dJ(S:aJ)(rows:List (List Int))(a:Int):(Bool×Int)×aJ×List (List Int):=
 if Qu.bR S a then
  (if qn S a<1 then((false,0),(Ob.put S a 0 0).2,rows)else
   if Qu.ik (Ob.put S a 0 0).2 rows (qn S a-1) a≠0 then((false,Qu.ik (Ob.put S a 0 0).2 rows (qn S a-1) a),Qu.bP (Ob.put S a 0 0).2 rows (qn S a-1) a,Qu.dN (Ob.put S a 0 0).2 rows (qn S a-1) a)else
   ((true,0),(Ob.put (Qu.bP (Ob.put S a 0 0).2 rows (qn S a-1) a) a 1 (-1)).2,Qu.dN (Ob.put S a 0 0).2 rows (qn S a-1) a))
 else((false,5),S,rows)
def aC(S:aJ)(a t:Int):(Int×Int)×aJ:=
 if(str S a).2≠0∨(str S a).1=3 then((0,(str S a).2),S)else
 (((Ob.get S a 0).1,0),if(str S a).1=1∧(Ob.get S a 0).1≠0 then(Ob.put S a 3 t).2 else S)
theorem uh{S:aJ}{a:Int}:(str S a).2=if Qu.bR S a then 0 else 5:=by unfold str Qu.bR;grind
end Rf
theorem HR(hp:Nat):Gl.Spec ρ Zp 96 [pA hp] [] (.one (.l .ptr)) fun r M=>∃p,r=oA p∧M=[eL p hp [] 0]:=by refine So (F.ref.gB.calls _) fun R=>ai (IW _) ar ?_;rintro _ _ ⟨q,rfl,rfl⟩;refine ak rfl (aq fun b=>?_);refine tC (eL.cl) ?_;exact rT ⟨b,rfl,rfl⟩
theorem BC(p hp:Nat)(rows:List (List Int))(n:Int):Gl.Spec ρ Zp 73 [pA p] [eL p hp rows n] R1 fun r M=>r=n∧M=[eL p hp rows n]:=by refine So (F.ref.Refs.AV.calls _) fun R=>ak rfl (af (eL.op tk fun q=>?_));refine iL<|tC (eL.cl) ?_;exact rT
theorem gN{q hp:Nat}{rows:List (List Int)}{f:Option Addr→Tree}{a:Addr}(ha:a=⟨q,0,none⟩)(t:Take L (db q hp rows) L')(h:Tr ρ0 ρ (db q hp rows::L') (f (oA hp)) Post):Tr ρ0 ρ L (ld (.l .ptr) a f) Post:=by subst ha;exact db.op t fun s hs=>iL<|tC (db.cl hs)<|h
theorem pZ(p hp:Nat)(S:aJ)(cs:List aX)(hw:aY S cs)(rows:List (List Int))(n a:Int):Gl.Spec ρ Zp 213 [pA p,i64 a] [eL p hp rows n,aF hp S cs] P2
  fun r M=>r=((Rf.str S a).1,(Rf.str S a).2,())∧M=[eL p hp rows n,aF hp S cs]:=by
 refine So (F.ref.Refs.uj.calls _ a) fun R=>ak rfl (af (eL.op tk fun q=>?_));refine lP _ 0 q (af ?_);refine gN bL tk<|tC (eL.cl) ?_;refine cE (du _ S _ hw a)<|aq fun b=>?_;rw[Kx];refine iT ?_;cases hh:Ob.head S a with
 |none=>
  refine bT ?_;have e1:Rf.str S a=(0,5):=by unfold Rf.str;rw[hh]
  rw[e1];exact rT
 |some hd=>
  refine bF ?_;have e:cH [i64 0,i64 0,i64 0,.bool false] 0 [.int .i64 (Ob.jX (some hd)).1.1,.int .i64 (Ob.jX (some hd)).1.2.1,.int .i64 (Ob.jX (some hd)).1.2.2.1,.bool (Ob.jX (some hd)).1.2.2.2.1]=hd.cs:=rfl;rw[e];refine iL<|ag (fun h4=>?_) (fun h4=>?_)
  ·have e1:Rf.str S a=(0,5):=by unfold Rf.str;grind
   rw[e1];exact rT
  ·have e1:Rf.str S a=(hd.c,0):=by unfold Rf.str;grind
   rw[e1];exact iL<|rT
theorem HJ(p hp:Nat)(S:aJ)(cs:List aX)(hw:aY S cs)(rows:List (List Int))(n c o i:Int):Gl.Spec ρ Zp 234 [pA p,i64 c,i64 o,i64 i] [eL p hp rows n,aF hp S cs] R1
  fun r M=>r=Rf.may S rows c o i∧M=[eL p hp rows n,aF hp S cs]:=by
 refine So (F.ref.Refs.may.calls _ c o i) fun R=>ag (fun h1=>?_) (fun h1=>?_)
 ·have e:Rf.may S rows c o i=1:=by unfold Rf.may;grind
  rw[e];exact rT
 refine ag (fun h2=>?_) (fun h2=>?_)
 ·have e:Rf.may S rows c o i=1:=by unfold Rf.may;grind
  rw[e];exact rT
 refine ag (fun h3=>?_) (fun h3=>?_)
 ·have e:Rf.may S rows c o i=2:=by unfold Rf.may;grind
  rw[e];exact rT
 refine af (eL.op tk fun q=>?_);refine iL<|cE (mL q _ _)<|ag (fun h4=>?_) (fun h4=>?_)
 ·have e:Rf.may S rows c o i=2:=by unfold Rf.may;grind
  refine tC (eL.cl) ?_;rw[e];exact rT
 have key:∀(hc:¬(c=3∧i<0)),Tr ρ ρ (aF hp S cs::eL p hp rows n::R) (call Zp 137 [pA hp,i64 o] HE fun(r8:RT HE)=>
   nw 72 (zc Zp 72) fun b9=>st (⟨b9,0,none⟩) [.int .i64 r8.1.1,.int .i64 r8.1.2.1,.int .i64 r8.1.2.2.1,.bool r8.1.2.2.2.1]<|
   br ((r8.2.1:Int) != 0) (ret (.int .i64 2)) (ret (.int .i64 0))) (SP R1 (fun r M=>r=Rf.may S rows c o i∧M=[eL p hp rows n,aF hp S cs]) R):=fun hc=>by
  refine cE (du _ S _ hw o)<|aq fun b=>?_;rw[Kx];refine iT ?_;cases hh:Ob.head S o with
  |none=>
   have e:Rf.may S rows c o i=2:=by unfold Rf.may;grind
   refine bT ?_;rw[e];exact rT
  |some hd=>
   have e:Rf.may S rows c o i=0:=by unfold Rf.may;grind
   refine bF ?_;rw[e];exact rT
 refine ag (fun h5=>?_) (fun h5=>?_)
 ·refine ag (fun h6=>?_) (fun h6=>?_)
  ·have e:Rf.may S rows c o i=1:=by unfold Rf.may;grind
   refine tC (eL.cl) ?_;rw[e];exact rT
  ·have h6':=oF h6;refine af<|lP _ 0 q (af ?_);refine gN bL tk<|tC (eL.cl) ?_;exact tP [aF _ S cs,eL p _ _ n] (key (fun g=>h6' g.2))
 ·have h5':c≠3:=by simpa using h5
  refine af<|lP _ 0 q (af ?_);refine gN bL tk<|tC (eL.cl) ?_;exact tP [aF _ S cs,eL p _ _ n] (key (fun g=>h5' g.1))
theorem aY.ja{cs:List aX}:∀{l:List Int} {S:aJ} {a:Int} {i:Nat},aY S cs→aY (Rf.ja S a i l) cs
 |[],_,_,_,h=>h
 |x::l,S,a,i,h=>aY.ja (l:=l) (h.put a i x)
theorem wh:∀{l:List Int} {S:aJ} {a:Int} {i:Nat} {x:Int},Rf.ja S a i (l++[x])=(Ob.put (Rf.ja S a i l) a ((i+l.length:Nat):Int) x).2
 |[],_,_,_,_=>rfl
 |y::l,S,a,i,x=>by show Rf.ja (Ob.put S a i y).2 a (i+1) (l++[x])=_;rw[wh,List.length_cons,show i+(l.length+1)=i+1+l.length by omega];rfl
theorem D4(p hp:Nat)(S:aJ)(cs:List aX)(hw:aY S cs)(rows:List (List Int))(n c o i t:Int)(hn:0≤n∧n<2^50)(hrl:rows.length≤8):
  Gl.Spec ρ Zp 172 [pA p,i64 c,i64 o,i64 i,i64 t] [eL p hp rows n,aF hp S cs] P2
  fun r M=>r=((Rf.bS S cs rows n c o i t).1,(Rf.bS S cs rows n c o i t).2.1,())∧M=[eL p hp rows (Rf.bS S cs rows n c o i t).2.2.2,aF hp (Rf.bS S cs rows n c o i t).2.2.1 cs]:=by
 refine So (F.ref.Refs.nG.calls (oA p) c o i t) fun R=>?_;unfold F.ref.Refs.nG;refine ak rfl<|cE (HJ p _ S _ hw _ n c o i)<|ag (fun h=>?_) (fun h=>?_)
 ·have h':Rf.may S rows c o i≠0:=by simpa using h
  have e:Rf.bS S cs rows n c o i t=(0,Rf.may S rows c o i,S,n):=by unfold Rf.bS;rw[if_pos h']
  rw[e];exact rT
 have h':Rf.may S rows c o i=0:=by simpa using h
 have hi: -1≤i∧i<rows.length:=by unfold Rf.may at h';omega
 refine af (eL.op tk fun q=>?_);refine lP _ 0 q (af ?_);refine gN bL tk<|cE (sH _ S _ hw ⟨4,c,5,false⟩)<|ag (fun hm=>?_) (fun hm=>?_)
 ·have e:Rf.bS S cs rows n c o i t=(0,(Ob.make S cs ⟨4,c,5,false⟩).2.1,(Ob.make S cs ⟨4,c,5,false⟩).2.2,n):=by unfold Rf.bS;grind
  refine tC (eL.cl) ?_;rw[e];exact rT
 have e:Rf.bS S cs rows n c o i t=((Ob.make S cs ⟨4,c,5,false⟩).1,0,Rf.ja (Ob.make S cs ⟨4,c,5,false⟩).2.2 (Ob.make S cs ⟨4,c,5,false⟩).1 0 [o,i+1,0,t,n+1],n+1):=by unfold Rf.bS;grind
 rw[e];have hw1:=hw.make ⟨4,c,5,false⟩;generalize(Ob.make S cs ⟨4,c,5,false⟩).2.2=S1 at hw1⊢;generalize(Ob.make S cs ⟨4,c,5,false⟩).1=a at*;refine af<|lI _ 1 n (af ?_);refine cz (off:=1) (by rw[aO]) tk (by simp) rfl (af ?_);rw[wrap64 (n:=n+1) (by omega) (by omega),wrap64 (n:=i+1) (by omega) (by omega)];have e1:cH [pA q,i64 n] 1 [.int .i64 (n+1)]=[pA q,i64 (n+1)]:=rfl;rw[e1];refine lI _ 1 (n+1)<|tC (eL.cl (p:=p) (q:=q) (hp:=hp) (rows:=rows) (n:=n+1))<|aM (I:=fun m s M=>∃j:Nat,j≤5∧m=5-j∧s=((j:Int),())∧M=eL p hp rows (n+1)::aF hp (Rf.ja S1 a 0 ([o,i+1,0,t,n+1].take j)) cs::R) 5 ⟨0,by omega,rfl,rfl,rfl⟩ ?_;rintro m _ _ ⟨j,hj,rfl,rfl,rfl⟩ X hX;refine ag (fun hc=>?_) (fun hc=>?_)
 ·have hj':(j:Int)<5:=oT hc;refine bm ⟨ae,ae⟩ (af (eL.op tk fun q=>?_));refine lP _ 0 q (af ?_);refine gN bL tk<|tC (eL.cl) ?_;apply cE (fD _ _ _ (aY.ja hw1) a j (List.getD [o,i+1,0,t,n+1] (j:Int).toNat 0));rw[bG (n:=(j:Int)+1)];have hjl:j<[o,i+1,0,t,n+1].length:=by show j<5;omega
  have e2:[o,i+1,0,t,n+1].take (j+1)=[o,i+1,0,t,n+1].take j++[List.getD [o,i+1,0,t,n+1] (j:Int).toNat 0]:=by simp_all
  have e3:(Ob.put (Rf.ja S1 a 0 ([o,i+1,0,t,n+1].take j)) a j (List.getD [o,i+1,0,t,n+1] (j:Int).toNat 0)).2=Rf.ja S1 a 0 ([o,i+1,0,t,n+1].take (j+1)):=by rw[e2,wh,List.length_take,Nat.zero_add,Nat.min_eq_left ae]
  rw[e3];exact tP [eL p _ _ _,aF _ _ cs] (hX _ _ _ ae ⟨j+1,ae,rfl,rfl,rfl⟩)
 ·have hj':¬(j:Int)<5:=oF hc;have:j=5:=by omega
  subst this;exact rT
theorem aY.iu{cs:List aX}:∀{l:List Int} {S:aJ},aY S cs→aY (Rf.iu S l) cs
 |[],_,h=>h
 |a::l,S,h=>aY.iu (l:=l) (h.put a 0 0)
theorem z7(l:List Int)(S:aJ)(a:Int):Rf.iu S (l++[a])=(Ob.put (Rf.iu S l) a 0 0).2:=by unfold Rf.iu;simp
theorem wv{l:List Int}{j:Nat}(h:j<l.length):l.take (j+1)=l.take j++[l.getD j 0]:=by simp_all
theorem FL{l:List Int}{j:Nat}(h:j<l.length):(l.map i64)[j]? =some (i64 (l.getD j 0)):=by grind
theorem rC(p hp:Nat)(S:aJ)(cs:List aX)(hw:aY S cs)(rows:List (List Int))(n:Int)(z:av)(l:List Int)(ro:fx ρ z 1 (l.map i64))(hl:l.length<2^40):
  Gl.Spec ρ Zp 149 [pA p,.slice z.a z.n z.c] [eL p hp rows n,aF hp S cs] R1
  fun r M=>r=(Rf.clear S l).1∧M=[eL p hp rows n,aF hp (Rf.clear S l).2 cs]:=by
 refine So (F.ref.Refs.Clear.calls _ z) fun R=>?_;have hz:z.n=l.length:=by have:=ro.1;grind
 refine bF<|aM (I:=fun m s M=>∃j:Nat,j≤l.length∧m=l.length-j∧s=((j:Int),())∧M=eL p hp rows n::aF hp S cs::R∧∀k,k<j→Qu.bR S (l.getD k 0)=true) l.length ⟨0,ae,rfl,rfl,rfl,fun k hk=>by omega⟩ ?_;rintro m _ _ ⟨j,hj,rfl,rfl,rfl,hR⟩ X hX;refine ag (fun hc=>?_) (fun hc=>?_)
 ·have hj':(j:Int)<z.n:=oT hc;have hjl:j<l.length:=by omega
  refine bz ro ae hj' fun a0 ha=>cu ha ro fX (FL hjl)<|cE (pZ p _ S _ hw _ n _) ?_;rw[Rf.uh];by_cases hr:Qu.bR S (l.getD j 0)=true;·rw[if_pos hr];refine bF ?_;rw[bG];refine hX _ _ _ ae ⟨j+1,ae,rfl,rfl,rfl,fun k hk=>?_⟩;grind
  ·rw[if_neg hr];refine bT ?_;have e:Rf.clear S l=(5,S):=by unfold Rf.clear;grind
   rw[e];exact rT
 ·have e:Rf.clear S l=(0,Rf.iu S l):=by unfold Rf.clear;rw[if_pos];rw[List.all_eq_true];intro a ha;obtain⟨k,hk,rfl⟩:=List.mem_iff_getElem.mp ha;grind
  rw[e];apply aM (I:=fun m s M=>∃j:Nat,j≤l.length∧m=l.length-j∧s=((j:Int),())∧M=eL p hp rows n::aF hp (Rf.iu S (l.take j)) cs::R) l.length ⟨0,ae,rfl,rfl,rfl⟩;rintro m _ _ ⟨j,hj,rfl,rfl,rfl⟩ X hX;refine ag (fun hc=>?_) (fun hc=>?_)
  ·have hj':(j:Int)<z.n:=oT hc;have hjl:j<l.length:=by omega
   refine bz ro ae hj' fun a0 ha=>cu ha ro fX (FL hjl)<|af (eL.op tk fun q=>?_);refine lP _ 0 q (af ?_);refine gN bL tk<|tC (eL.cl) ?_;apply cE (fD _ _ _ (aY.iu hw) _ 0 0);rw[bG];rw[←z7,←wv hjl];exact tP [eL p _ _ n,aF _ _ cs] (hX _ _ _ ae ⟨j+1,ae,rfl,rfl,rfl⟩)
  ·have hj':¬(j:Int)<z.n:=oF hc;rw[List.take_of_length_le ae];exact rT
theorem cm{S:aJ}{cs:List aX}(hw:aY S cs){a i x:Int}(b:Int):Ob.head (Ob.put S a i x).2 b=Ob.head S b:=by
 cases hb:Ob.head S b with
 |none=>obtain⟨ws',e,hl⟩:=xI S a i x;rw[e];unfold Ob.head at hb⊢;rw[kp hl];grind
 |some h=>
  by_cases g:(Ob.fieldAt S a i).2=0;·obtain⟨hd,hh,h0,h1,_⟩:=Ob.gv hw g;exact((Ob.qO hw hh h0 h1).2 _ _ hb).1
  ·have e:(Ob.put S a i x).2=S:=by unfold Ob.put;rw[if_pos g]
   rw[e,hb]
theorem CN{S:aJ}{cs:List aX}(hw:aY S cs){a i x b:Int}(h0:0≤i)(hr:Qu.bR S a=true)(h5:i<5):Qu.bR (Ob.put S a i x).2 b=Qu.bR S b:=by unfold Qu.bR;rw[cm hw]
theorem sF(p hp:Nat)(S:aJ)(cs:List aX)(hw:aY S cs)(rows:List (List Int))(hz:∀r∈rows,∀a∈r,a≠0)(n a:Int)(hb:Qu.bR S a=true→Rf.qn S a<2^62):
  Gl.Spec ρ Zp 150 [pA p,i64 a] [eL p hp rows n,aF hp S cs] (.many [.l .bool,.l kI])
  fun r M=>r=((Rf.dJ S rows a).1.1,(Rf.dJ S rows a).1.2,())∧M=[eL p hp (Rf.dJ S rows a).2.2 n,aF hp (Rf.dJ S rows a).2.1 cs]:=by
 refine So (F.ref.Refs.lR.calls _ a) fun R=>aq fun b=>ai (Spec.Ky (cs:=[i64 a]) fun ρ' _ ⟨ty,hty⟩=>rC p hp S cs hw rows n ⟨oA b,1,1⟩ [a] ⟨rfl,.inr ⟨b,0,_,ty,_,rfl,hty,fun i hi=>by simp⟩⟩ bu) ar ?_;rintro _ _ ⟨_,⟨rfl,rfl⟩,rfl⟩;refine tD _ ?_;have ec:Rf.clear S [a]=if Qu.bR S a then(0,(Ob.put S a 0 0).2)else(5,S):=by unfold Rf.clear;rw[List.all_cons,List.all_nil,Bool.and_true];rfl
 by_cases hr:Qu.bR S a=true;rotate_left
 ·rw[ec,if_neg hr];refine bT ?_;have e:Rf.dJ S rows a=((false,5),S,rows):=by unfold Rf.dJ;rw[if_neg hr]
  rw[e];exact rT
 rw[ec,if_pos hr];replace hb:=hb hr;have hw1:=hw.put a 0 0;have hr1:Qu.bR (Ob.put S a 0 0).2 a=true:=by rw[CN hw ae hr ae];exact hr
 have hqn:(Ob.get (Ob.put S a 0 0).2 a 1).1=Rf.qn S a:=rfl;have hg:(Ob.get (Ob.put S a 0 0).2 a 1).2=0:=by obtain⟨hd1,hh1,hk1⟩:=bx hr1;rw[Ob.eb hh1 ae (by rw[jm hw1 hh1 hk1];omega)]
 refine ak rfl (af (eL.op tk fun q=>?_));refine lP _ 0 q (af ?_);apply gN bL tk;have hq:Rf.dJ S rows a=(if Rf.qn S a<1 then((false,0),(Ob.put S a 0 0).2,rows)else
   if Qu.ik (Ob.put S a 0 0).2 rows (Rf.qn S a-1) a≠0 then((false,Qu.ik (Ob.put S a 0 0).2 rows (Rf.qn S a-1) a),Qu.bP (Ob.put S a 0 0).2 rows (Rf.qn S a-1) a,Qu.dN (Ob.put S a 0 0).2 rows (Rf.qn S a-1) a)else
   ((true,0),(Ob.put (Qu.bP (Ob.put S a 0 0).2 rows (Rf.qn S a-1) a) a 1 (-1)).2,Qu.dN (Ob.put S a 0 0).2 rows (Rf.qn S a-1) a)):=by unfold Rf.dJ;rw[if_pos hr]
 rw[hq];apply cE (iC _ (Ob.put S a 0 0).2 _ hw1 a 1);rw[hg,hqn];refine ak rfl (ag (fun h1=>?_) (fun h1=>?_));·have h1':Rf.qn S a<1:=oT h1;rw[if_pos h1'];refine tC (eL.cl) ?_;exact rT
 have h1':¬Rf.qn S a<1:=oF h1;rw[if_neg h1'];refine iN ?_;rw[bG (n:=Rf.qn S a-1)];apply cE (GL q _ (Ob.put S a 0 0).2 _ hw1 _ hz _ a);have hw2:aY (Qu.bP (Ob.put S a 0 0).2 rows (Rf.qn S a-1) a) cs:=by
  unfold Qu.bP;split
  ·split;·exact hw1.put _ _ _
   ·exact(hw1.put _ _ _).put _ _ _
  ·exact hw1
 have hr2:Qu.bR (Qu.bP (Ob.put S a 0 0).2 rows (Rf.qn S a-1) a) a=true∨Qu.ik (Ob.put S a 0 0).2 rows (Rf.qn S a-1) a≠0:=by
  unfold Qu.bP Qu.ik;rw[hr1,Bool.and_true];by_cases g:Qu.has rows (Rf.qn S a-1)=true
  ·rw[if_pos g,if_pos g,if_pos rfl];have hr3:Qu.bR (Ob.put (Ob.put S a 0 0).2 a 2 0).2 a=true:=by rw[CN hw1 ae hr1 ae];exact hr1
   by_cases g2:Qu.row rows (Rf.qn S a-1)=[];·grind
   ·rw[if_neg g2,if_neg g2];obtain⟨hd3,hh3,hk3⟩:=bx hr3;refine .inl ?_;unfold Qu.bR;rw[cm (hw1.put a 2 0),hh3];simpa using hk3
  grind
 refine ag (fun h2=>?_) (fun h2=>?_)
 ·have h2':Qu.ik (Ob.put S a 0 0).2 rows (Rf.qn S a-1) a≠0:=by simpa using h2
  rw[if_pos h2'];refine tC (eL.cl) ?_;exact rT
 ·have h2':Qu.ik (Ob.put S a 0 0).2 rows (Rf.qn S a-1) a=0:=by simpa using h2
  rw[if_neg fun g=>g h2'];have hr4:=hr2.resolve_right fun g=>g h2';obtain⟨hd4,hh4,hk4⟩:=bx hr4;refine af<|lP _ 0 q (af ?_);refine gN bL tk<|tC (eL.cl) ?_;apply cE (fD _ _ _ hw2 a 1 _);rw[Ax hh4 ae (by rw[jm hw2 hh4 hk4];omega)];exact rT
theorem xA(p hp:Nat)(S:aJ)(cs:List aX)(hw:aY S cs)(rows:List (List Int))(n a t:Int):
  Gl.Spec ρ Zp 175 [pA p,i64 a,i64 t] [eL p hp rows n,aF hp S cs] P2
  fun r M=>r=((Rf.aC S a t).1.1,(Rf.aC S a t).1.2,())∧M=[eL p hp rows n,aF hp (Rf.aC S a t).2 cs]:=by
 refine So (F.ref.Refs.lB.calls _ a t) fun R=>cE (pZ p _ S _ hw _ n a)<|ag (fun h=>?_) (fun h=>?_)
 ·have h':(Rf.str S a).2≠0:=by simpa using h
  have e:Rf.aC S a t=((0,(Rf.str S a).2),S):=by unfold Rf.aC;rw[if_pos (.inl h')]
  rw[e];exact rT
 have h':(Rf.str S a).2=0:=by simpa using h
 refine ag (fun h3=>?_) (fun h3=>?_)
 ·have h3':(Rf.str S a).1=3:=by simpa using h3
  have e:Rf.aC S a t=((0,(Rf.str S a).2),S):=by unfold Rf.aC;rw[if_pos (.inr h3')]
  rw[e];exact rT
 have hr:Qu.bR S a=true:=by rw[Rf.uh]at h';grind
 obtain⟨hd,hh,hk⟩:=bx hr;have hn5:=jm hw hh hk;have hg:(Ob.get S a 0).2=0:=by rw[Ob.eb hh ae ae]
 have e:Rf.aC S a t=(((Ob.get S a 0).1,0),if(Rf.str S a).1=1∧(Ob.get S a 0).1≠0 then(Ob.put S a 3 t).2 else S):=by unfold Rf.aC;grind
 rw[e];refine af (eL.op tk fun q=>?_);refine lP _ 0 q (af ?_);refine gN bL tk<|cE (iC _ S _ hw a 0) ?_;rw[hg];refine bF ?_;generalize(Ob.get S a 0).1=x at*;refine ag (fun h4=>?_) (fun h4=>?_)
 ·have h4':(Rf.str S a).1=1:=by simpa using h4
  refine ag (fun h5=>?_) (fun h5=>?_)
  ·have h5':x≠0:=by simpa using h5
   rw[if_pos ⟨h4',h5'⟩];refine af<|lP _ 0 q (af ?_);refine gN bL tk<|tC (eL.cl) ?_;apply cE (fD _ S _ hw a 3 t);exact rT
  ·have h5':x=0:=by simpa using h5
   rw[if_neg fun g=>g.2 h5'];refine tC (eL.cl) ?_;exact rT
 ·have h4':(Rf.str S a).1≠1:=by simpa using h4
  rw[if_neg fun g=>h4' g.1];refine tC (eL.cl) ?_;exact rT
end
section
open Go Go.Gl
set_option maxRecDepth 100000
def F.gc.aQ.View.T:az:=⟨fun _=>[],fun _=>none,(fun|3=> .held (some 49) (gF [0,1,2,3,5,6,7,8,10,11,12,13,15,17,18,19,20,22,23,24,25,27,28,29,30,31,32,33,34,36,37,38,39,40,41,42,44,45,46,47,4,9,14,16,21,26,35,43,48] (.go 49 true .nil))|_=> .quiet)⟩
def F.gc.aQ.View(p0:OA):Tree:=nw 46 (zc Zp 46) fun b1=>br (Option.isNone p0) (st (aB b1) [.slice none 0 0,.slice none 0 0,.slice none 0 0,.slice none 0 0,.slice none 0 0,.slice none 0 0,i64 0,i64 0,i64 0,i64 0]<|dG [.slice,.slice,.slice,.slice,.slice,.slice,kI,kI,kI,kI] (aB b1) fun x2=>ret (.agg #[sV x2.1,sV x2.2.1,sV x2.2.2.1,sV x2.2.2.2.1,sV x2.2.2.2.2.1,sV x2.2.2.2.2.2.1,i64 x2.2.2.2.2.2.2.1,i64 x2.2.2.2.2.2.2.2.1,i64 x2.2.2.2.2.2.2.2.2.1,i64 x2.2.2.2.2.2.2.2.2.2.1])) (cD<|Gl.held fun S2=>nn p0 fun a3=>eP S2 (fa a3 4) fun x4=>nn p0 fun a5=>eP S2 (fa a5 1) fun x6=>nn p0 fun a7=>eP S2 (fa a7 2) fun x8=>nn p0 fun a9=>eP S2 (fa a9 3) fun x10=>nn p0 fun a11=>eP S2 (fa a11 3) fun x12=>nn p0 fun a13=>eI S2 (fa a13 8) fun x14=>nn p0 fun a15=>eP S2 (fa a15 0) fun x16=>nn p0 fun a17=>eP S2 (fa a17 4) fun x18=>nn x18 fun a19=>eP S2 (fa a19 0) fun x20=>nn p0 fun a21=>eI S2 (fa a21 9) fun x22=>cS 67 [pV x4] fun r23=>aZ S2<|cS 68 [pV x6] fun r24=>aZ S2<|cS 69 [pV x8] fun r25=>aZ S2<|cS 70 [pV p0] fun r26=>aZ S2<|cS 71 [pV x10] fun r27=>aZ S2<|cS 72 [pV x12] fun r28=>aZ S2<|cI 73 [pV x16] fun r29=>aZ S2<|cI 74 [pV x20] fun r30=>aZ S2<|st (aB b1) [sV r23,sV r24,sV r25,sV r26,sV r27,sV r28,i64 x14,i64 r29,i64 r30,i64 x22]<|dG [.slice,.slice,.slice,.slice,.slice,.slice,kI,kI,kI,kI] (aB b1) fun x31=>ret (.agg #[sV x31.1,sV x31.2.1,sV x31.2.2.1,sV x31.2.2.2.1,sV x31.2.2.2.2.1,sV x31.2.2.2.2.2.1,i64 x31.2.2.2.2.2.2.1,i64 x31.2.2.2.2.2.2.2.1,i64 x31.2.2.2.2.2.2.2.2.1,i64 x31.2.2.2.2.2.2.2.2.2.1]))
theorem F.gc.aQ.View.calls(p0:OA):Cf 20 [pV p0] (F.gc.aQ.View p0):=Tryz.cd F.gc.aQ.View.T Tryz.func20
def F.gc.gB.T:az:=⟨fun _=>[],fun _=>none,(fun|9=> .held (some 9) (gF [0,4,6,7,1,2,3,5,8] (.go 9 true (gF [10,11] .nil)))|_=> .quiet)⟩
def F.gc.gB(p0:LTs [kI,kI,kI]):Tree:=nw 23 [i64 p0.1,i64 p0.2.1,i64 p0.2.2.1] fun b1=>dI (fa (aB b1) 0) fun x2=>cN 94 [i64 x2] [.l .ptr,.l kI] fun r3=>br ((r3.2.1:Int) != 0) (ret (.tuple #[pV none,i64 r3.2.1])) (dI (fa (aB b1) 1) fun x4=>br (decide ((x4:Int)<0)) (ret (.tuple #[pV none,i64 1])) (dI (fa (aB b1) 2) fun x5=>cN 95 [i64 x5] [.l .ptr,.l kI] fun r6=>br ((r6.2.1:Int) != 0) (ret (.tuple #[pV none,i64 r6.2.1])) (cD<|Gl.held fun S7=>eG S7 [kI,kI,kI] (aB b1) fun x8=>cP 96 [pV r3.1] fun r9=>aZ S7<|cP 97 [] fun r10=>aZ S7<|cP 98 [] fun r11=>aZ S7<|cP 99 [pV r3.1] fun r12=>aZ S7<|nw 132 [pV r9,pV r10,pV r11,pV r12,pV r3.1,i64 x8.1,i64 x8.2.1,i64 x8.2.2.1,i64 0,i64 0] fun b13=>ret (.tuple #[pV (some (aB b13)),i64 0]))))
theorem F.gc.gB.calls(p0:LTs [kI,kI,kI]):Cf 37 [.agg #[i64 p0.1,i64 p0.2.1,i64 p0.2.2.1]] (F.gc.gB p0):=Tryz.cd F.gc.gB.T Tryz.func37
def F.gc.aQ.om.T:az:=⟨(fun|3=>[(3,.slice),(15,kI)]|_=>[]),fun _=>none,fun _=> .quiet⟩
def F.gc.aQ.om(p0:OA):Tree:=nn p0 fun a1=>dP (fa a1 0) fun x2=>nn x2 fun a3=>dP (fa a3 0) fun x4=>cI 92 [pV x4] fun r5=>lp [.slice,kI] (fun X6 u7=>br (decide ((u7.2.1:Int)<r5)) (nn p0 fun a8=>dP (fa a8 0) fun x9=>nn x9 fun a10=>dP (fa a10 0) fun x11=>cN 141 [pV x11,i64 u7.2.1] [.l .slice,.l kI] fun r12=>nw 43 [sV r12.1] fun b13=>ap 44 (sV u7.1) (.slice (some ⟨b13,0,none⟩) 1 1) fun r14=>X6 (r14,IntKind.wrap .i64 (u7.2.1+1),())) (ret (sV u7.1))) (⟨none,0,0⟩,0,())
theorem F.gc.aQ.om.calls(p0:OA):Cf 70 [pV p0] (F.gc.aQ.om p0):=Tryz.cd F.gc.aQ.om.T Tryz.func70
def F.gc.aQ.K5(p0:OA):Tree:=br (Option.isNone p0) (ret (i64 0)) (nn p0 fun a1=>dI (fa a1 9) fun x2=>ret (i64 x2))
theorem F.gc.aQ.K5.calls(p0:OA):Cf 79 [pV p0] (F.gc.aQ.K5 p0):=Tryz.cd az.z Tryz.func79
def F.gc.aQ.Collect.T:az:=⟨(fun|8=>[(38,kI)]|_=>[]),(fun|4=>some [(6,.adr),(7,kI)]|_=>none),(fun|3=> .held (some 7) (gF [0,1,2,3,4,5] (.two (gF [6] (.two (.go 7 true (gF [8,9,10,11,12,13] .nil)) (gF [11] (.go 7 true (gF [8,9,10,12,13] .nil))))) (gF [11,6] (.go 7 true (gF [8,9,10,12,13] .nil)))))|6=> .tail 6 |12=> .tail 6 |13=> .tail 6 |_=> .quiet)⟩
def F.gc.aQ.Collect(p0:OA)(p1:Bool):Tree:=nw 120 (zc Zp 120) fun b1=>br (Option.isNone p0) (st (aB b1) [.slice none 0 0,.slice none 0 0,.slice none 0 0,.slice none 0 0]<|dG [.slice,.slice,.slice,.slice] (aB b1) fun x2=>ret (.tuple #[.agg #[sV x2.1,sV x2.2.1,sV x2.2.2.1,sV x2.2.2.2.1],i64 2])) (jn (fun(j3:LTs [.adr,kI])=>br ((j3.2.1:Int) != 0) (st (aB b1) [.slice none 0 0,.slice none 0 0,.slice none 0 0,.slice none 0 0]<|dG [.slice,.slice,.slice,.slice] (aB b1) fun x4=>ret (.tuple #[.agg #[sV x4.1,sV x4.2.1,sV x4.2.2.1,sV x4.2.2.2.1],i64 j3.2.1])) (cD<|nn p0 fun a4=>dP (fa a4 0) fun x5=>dS (fa j3.1 0) fun x6=>cI 149 [pV x5,sV x6] fun r7=>dS (fa j3.1 1) fun x8=>lp [kI] (fun X9 u10=>br (decide ((u10.1:Int)<(x8.n:Nat))) (ix x8.a x8.n u10.1 1 fun a11=>dI a11 fun x12=>nn p0 fun a13=>dP (fa a13 0) fun x14=>cN 150 [pV x14,i64 x12] [.l .bool,.l kI] fun r15=>X9 (IntKind.wrap .i64 (u10.1+1),())) (cD<|nn p0 fun a11=>dP (fa a11 3) fun x12=>dS (fa j3.1 2) fun x13=>cN 151 [pV x12,sV x13] [] fun r14=>cD<|nn p0 fun a15=>dP (fa a15 4) fun x16=>dS (fa j3.1 3) fun x17=>cI 152 [pV x16,sV x17] fun r18=>nn p0 fun a19=>dI (fa a19 9) fun x20=>nn p0 fun a21=>st (fa a21 9) [i64 (IntKind.wrap .i64 (x20+1))]<|dG [.slice,.slice,.slice,.slice] j3.1 fun x22=>st (aB b1) [sV x22.1,sV x22.2.1,sV x22.2.2.1,sV x22.2.2.2.1]<|dG [.slice,.slice,.slice,.slice] (aB b1) fun x23=>ret (.tuple #[.agg #[sV x23.1,sV x23.2.1,sV x23.2.2.1,sV x23.2.2.2.1],i64 0]))) (0,()))) fun J2=>cD<|Gl.held fun S24=>nn p0 fun a25=>eP S24 (fa a25 4) fun x26=>both (cG 148 [pV p0,.bool p1] [.slice,.slice,kI,kI,kI,.bool,kI] fun r27=>aZ S24<|both (cN 147 [pV x26,.agg #[sV r27.1,sV r27.2.1,i64 r27.2.2.1,i64 r27.2.2.2.1,i64 r27.2.2.2.2.1,.bool r27.2.2.2.2.2.1,i64 r27.2.2.2.2.2.2.1]] [.g [.slice,.slice,.slice,.slice],.l kI] fun r28=>nw 120 (zc Zp 120) fun b29=>st (aB b29) [sV r28.1.1,sV r28.1.2.1,sV r28.1.2.2.1,sV r28.1.2.2.2.1]<|J2 (⟨b29,0,none⟩,r28.2.1,())) (nw 120 (zc Zp 120) fun b30=>aZ S24<|cN 147 [pV x26,.agg #[sV r27.1,sV r27.2.1,i64 r27.2.2.1,i64 r27.2.2.2.1,i64 r27.2.2.2.2.1,.bool r27.2.2.2.2.2.1,i64 r27.2.2.2.2.2.2.1]] [.g [.slice,.slice,.slice,.slice],.l kI] fun r31=>st (aB b30) [sV r31.1.1,sV r31.1.2.1,sV r31.1.2.2.1,sV r31.1.2.2.2.1]<|J2 (⟨b30,0,none⟩,r31.2.1,()))) (nw 120 (zc Zp 120) fun b32=>aZ S24<|cG 148 [pV p0,.bool p1] [.slice,.slice,kI,kI,kI,.bool,kI] fun r33=>aZ S24<|cN 147 [pV x26,.agg #[sV r33.1,sV r33.2.1,i64 r33.2.2.1,i64 r33.2.2.2.1,i64 r33.2.2.2.2.1,.bool r33.2.2.2.2.2.1,i64 r33.2.2.2.2.2.2.1]] [.g [.slice,.slice,.slice,.slice],.l kI] fun r34=>st (aB b32) [sV r34.1.1,sV r34.1.2.1,sV r34.1.2.2.1,sV r34.1.2.2.2.1]<|J2 (⟨b32,0,none⟩,r34.2.1,())))
theorem F.gc.aQ.Collect.calls(p0:OA)(p1:Bool):Cf 90 [pV p0,.bool p1] (F.gc.aQ.Collect p0 p1):=Tryz.cd F.gc.aQ.Collect.T Tryz.func90
def F.gc.aQ.In.T:az:=⟨(fun|5=>[(5,.slice),(20,kI)]|10=>[(6,.slice),(33,kI)]|_=>[]),fun _=>none,(fun|14=> .held (some 52) (gF [0,1,2,3,4,6,7,8,9,10,14,15,16,17,19,20,21,22,23,24,25,26,27,28,29,31,32,33,34,35,36,37,40,41,42,43,44,45,46,47,48,49,50,5,11,12,13,18,30,38,39,51] (.go 52 true .nil))|_=> .quiet)⟩
def F.gc.aQ.In(p0:OA)(p1:Bool):Tree:=nw 181 (zc Zp 181) fun b1=>br (Option.isNone p0) (st (aB b1) [.slice none 0 0,.slice none 0 0,i64 0,i64 0,i64 0,.bool false,i64 0]<|dG [.slice,.slice,kI,kI,kI,.bool,kI] (aB b1) fun x2=>ret (.agg #[sV x2.1,sV x2.2.1,i64 x2.2.2.1,i64 x2.2.2.2.1,i64 x2.2.2.2.2.1,.bool x2.2.2.2.2.2.1,i64 x2.2.2.2.2.2.2.1])) (nn p0 fun a2=>dP (fa a2 1) fun x3=>cS 68 [pV x3] fun r4=>lp [.slice,kI] (fun X5 u6=>br (decide ((u6.2.1:Int)<(r4.n:Nat))) (ix r4.a r4.n u6.2.1 2 fun a7=>dG [kI,kI] a7 fun x8=>nw 191 (zc Zp 191) fun b9=>st (aB b9) [i64 x8.1,i64 x8.2.1]<|dI (fa (aB b9) 1) fun x10=>nw 3 [i64 x10] fun b11=>ap 43 (sV u6.1) (.slice (some ⟨b11,0,none⟩) 1 1) fun r12=>X5 (r12,IntKind.wrap .i64 (u6.2.1+1),())) (cS 70 [pV p0] fun r7=>lp [.slice,kI] (fun X8 u9=>br (decide ((u9.2.1:Int)<(r7.n:Nat))) (ix r7.a r7.n u9.2.1 1 fun a10=>dS a10 fun x11=>sG x11.a x11.c 0 (if(1:Int)<(x11.n:Nat)then(1:Int)else(x11.n:Nat)) 1 fun s12=>ap 43 (sV u9.1) (sV s12) fun r13=>X8 (r13,IntKind.wrap .i64 (u9.2.1+1),())) (cD<|Gl.held fun S10=>nn p0 fun a11=>eP S10 (fa a11 2) fun x12=>nn p0 fun a13=>eP S10 (fa a13 3) fun x14=>nn p0 fun a15=>eP S10 (fa a15 3) fun x16=>nn p0 fun a17=>eI S10 (fa a17 8) fun x18=>nn p0 fun a19=>eP S10 (fa a19 4) fun x20=>nn x20 fun a21=>eP S10 (fa a21 0) fun x22=>nn p0 fun a23=>eP S10 (fa a23 4) fun x24=>nn x24 fun a25=>eP S10 (fa a25 0) fun x26=>nn p0 fun a27=>eI S10 (fa (fa a27 5) 1) fun x28=>nn p0 fun a29=>eI S10 (fa (fa a29 5) 2) fun x30=>cS 69 [pV x12] fun r31=>aZ S10<|cS 72 [pV x14] fun r32=>aZ S10<|nw 43 [sV u6.1,sV r31,sV u9.1,sV r32] fun b33=>aZ S10<|cS 212 [.slice (some ⟨b33,0,none⟩) 4 4] fun r34=>aZ S10<|cS 71 [pV x16] fun r35=>aZ S10<|cI 179 [pV x22] fun r36=>aZ S10<|cI 74 [pV x26] fun r37=>aZ S10<|st (aB b1) [sV r34,sV r35,i64 x18,i64 (IntKind.wrap .i64 (r36-r37)),i64 x28,.bool p1,i64 x30]<|dG [.slice,.slice,kI,kI,kI,.bool,kI] (aB b1) fun x38=>ret (.agg #[sV x38.1,sV x38.2.1,i64 x38.2.2.1,i64 x38.2.2.2.1,i64 x38.2.2.2.2.1,.bool x38.2.2.2.2.2.1,i64 x38.2.2.2.2.2.2.1]))) (⟨none,0,0⟩,0,()))) (⟨none,0,0⟩,0,()))
theorem F.gc.aQ.In.calls(p0:OA)(p1:Bool):Cf 148 [pV p0,.bool p1] (F.gc.aQ.In p0 p1):=Tryz.cd F.gc.aQ.In.T Tryz.func148
def F.gc.aQ.Clock(p0:OA):Tree:=br (Option.isNone p0) (ret (i64 0)) (nn p0 fun a1=>dI (fa a1 8) fun x2=>ret (i64 x2))
theorem F.gc.aQ.Clock.calls(p0:OA):Cf 173 [pV p0] (F.gc.aQ.Clock p0):=Tryz.cd az.z Tryz.func173
def F.gc.aQ.JX(p0:OA)(p1:Int):Tree:=br (!(Option.isNone p0)) (nn p0 fun a1=>dI (fa a1 8) fun x2=>nw 3 [i64 p1] fun b3=>cI 236 [i64 x2,.slice (some ⟨b3,0,none⟩) 1 1] fun r4=>nn p0 fun a5=>st (fa a5 8) [i64 r4]<|ret (.tuple #[])) (ret (.tuple #[]))
theorem F.gc.aQ.JX.calls(p0:OA)(p1:Int):Cf 178 [pV p0,i64 p1] (F.gc.aQ.JX p0 p1):=Tryz.cd az.z Tryz.func178
variable{ρ0 ρ:FR}{L L':List aD}{Post:Value→List aD→Prop}{T:Tree}
structure Rt where
 S:aJ
 cs:List aX
 rows:List (List Int)
 bb:Int
 hs:List Hn.Slot
 ro:List Int
 wa:List Int
 pe:List Int
 pg:Int
 ba:Int
 stack:Int
 ck:Int
 rn:Int
structure Pl where
 p:Nat
 r:Nat
 h:Nat
 o:Nat
 f:Nat
 b:Nat
abbrev Pl.cs(i:Pl)(x:Rt):List Value:=[pA i.r,pA i.h,pA i.o,pA i.f,pA i.b,i64 x.pg,i64 x.ba,i64 x.stack,i64 x.ck,i64 x.rn]
abbrev Pl.A(i:Pl)(x:Rt):List aD:=[au i.p (i.cs x),eL i.r i.b x.rows x.bb,kM i.h x.hs,au i.o (x.ro.map i64),cn i.f i.b x.wa x.pe,aF i.b x.S x.cs]
def Rt.new(pg ba stack:Int):Rt:=⟨Sp.ch pg.toNat,[],[],0,List.replicate 512 (0,0),List.replicate 16 0,[],[],pg,ba,stack,0,0⟩
theorem EU:Gl.Spec ρ Zp 98 [] [] (.one (.l .ptr)) fun r M=>∃p,r=oA p∧M=[au p ((List.replicate 16 (0:Int)).map i64)]:=by exact So F.root.gB.calls fun R=>aq fun b=>rT ⟨b,rfl,rfl⟩
theorem tL(p:Nat)(ro:List Int)(hl:ro.length=16):Gl.Spec ρ Zp 69 [pA p] [au p (ro.map i64)] RS
  fun r M=>r.n=16∧M=[aw r 1 (ro.map i64),au p (ro.map i64)]:=by refine So (F.root.jB.jB.calls _) fun R=>ak rfl (af ?_);refine ai (clone ⟨oA p,16,16⟩ ro (Rd.cl .here rfl (by simp[hl])) ae) ar ?_;rintro r _ ⟨hr,rfl⟩;exact rT ⟨by rw[hr,hl],rfl⟩
def Sf.later(c k:Int):Int:=Sf.none c+min (9223372036854775807-Sf.none c) (Sf.none k)
theorem Bd(c k:Int)(hc:c<9223372036854775808)(hk:k<9223372036854775808)(b:Nat):Gl.Spec ρ Zp 236 [i64 c,.slice (oA b) 1 1] [au b [i64 k]] R1
  fun r M=>r=Sf.later c k∧M=[au b [i64 k]]:=by
 refine So (F.soft.oH.calls c ⟨oA b,1,1⟩) fun R=>cE (jZ c) ?_;obtain⟨c0,c1⟩:=iK hc;obtain⟨k0,k1⟩:=iK hk;apply aM (I:=fun m u M=>M=au b [i64 k]::R∧((m=1∧u=(Sf.none c,0,()))∨(m=0∧u=(Sf.later c k,1,())))) 1 ⟨rfl,.inl ⟨rfl,rfl⟩⟩;rintro m _ _ ⟨rfl,⟨rfl,rfl⟩|⟨rfl,rfl⟩⟩ X hX
 ·try simp only[c8,c9]
  refine bT<|jg (s:=⟨oA b,1,1⟩) (xs:=[k]) (Rd.cl .here rfl rfl) ar ae bu<|cE (jZ k) ?_;have e1:IntKind.wrap .i64 _=9223372036854775807-Sf.none c:=bG;rw[e1];have e2:(if(9223372036854775807-Sf.none c:Int)<Sf.none k then(9223372036854775807-Sf.none c:Int)else Sf.none k)=min (9223372036854775807-Sf.none c) (Sf.none k):=by omega
  rw[e2,bG (n:=Sf.none c+min (9223372036854775807-Sf.none c) (Sf.none k))];exact hX 0 _ _ ae ⟨rfl,.inr ⟨rfl,rfl⟩⟩
 ·exact bF<|rT
theorem wg(p:Nat)(S:aJ)(hl:64≤S.ws.length)(hl2:S.ws.length<2^40):Gl.Spec ρ Zp 179 [pA p] [aP p S] R1
  fun r M=>r=((S.ws.length-64:Nat):Int)∧M=[aP p S]:=by refine So (F.space.aV.Cap.calls _) fun R=>ak rfl (af (aP.op tk fun pa pp ms ml ls ll h1 h2 n1 n2=>?_));refine iL<|cE (rq _ _) ?_;refine tC (aP.cl h1 h2) ?_;rw[bG];refine ax ?_ ⟨rfl,rfl⟩ ar bE;rw[show((S.ws.length:Nat):Int)-64=((S.ws.length-64:Nat):Int) by omega];rfl
theorem KN(pg ba stack:Int)(h:(1≤pg∧pg≤256)∧0≤ba∧(1≤stack∧stack≤4096)):Gl.Spec ρ Zp 37 [.agg #[i64 pg,i64 ba,i64 stack]] [] PE
  fun r M=>∃i:Pl,r=(oA i.p,0,())∧M=i.A (Rt.new pg ba stack):=by refine So (F.gc.gB.calls (pg,ba,stack,())) fun R=>aq fun b=>lI b 0 pg<|ai (tn _ h.1.1 h.1.2) ar ?_;rintro _ _ ⟨pb,rfl,rfl⟩;refine bF<|lI b 1 ba<|bF<|lI b 2 stack<|ai (wN _ h.2.2.1 h.2.2.2) ar ?_;rintro _ _ ⟨pt,rfl,rfl⟩;refine bF<|tD _ ?_;refine aA (aK [au b [i64 pg,i64 ba,i64 stack]] ar ?_);refine jL<|jL<|jL<|ai (HR _) ar ?_;rintro _ _ ⟨pr,rfl,rfl⟩;refine cK<|ai Jj ar ?_;rintro _ _ ⟨ph,rfl,rfl⟩;refine cK<|ai EU ar ?_;rintro _ _ ⟨po,rfl,rfl⟩;refine cK<|ai (IN _) ar ?_;rintro _ _ ⟨pf,rfl,rfl⟩;refine aS ar (aq fun p=>?_);exact rT ⟨⟨p,pr,ph,po,pf,pb⟩,rfl,rfl⟩
theorem Im(pg ba stack:Int)(h:¬((1≤pg∧pg≤256)∧0≤ba∧(1≤stack∧stack≤4096))):Gl.Spec ρ Zp 37 [.agg #[i64 pg,i64 ba,i64 stack]] [] PE
  fun r M=>r=(none,1,())∧M=[]:=by
 refine So (F.gc.gB.calls (pg,ba,stack,())) fun R=>aq fun b=>lI b 0 pg ?_;by_cases h1:1≤pg∧pg≤256
 ·refine ai (tn _ h1.1 h1.2) ar ?_;rintro _ _ ⟨pb,rfl,rfl⟩;refine bF<|lI b 1 ba<|ag (fun h2=>?_) (fun h2=>?_);·exact rT
  ·have h2':=oF h2;refine lI b 2 stack<|cE (AK _ (fun g=>h ⟨h1,ae,g⟩))<|bT ?_;exact rT
 ·refine cE (zJ _ h1)<|bT ?_;exact rT
theorem Iv(i:Pl)(x:Rt)(k:Int)(hc:x.ck<9223372036854775808)(hk:k<9223372036854775808):Gl.Spec ρ Zp 178 [pA i.p,i64 k] [au i.p (i.cs x)] (.many [])
  fun _ M=>M=[au i.p (i.cs {x with ck:=Sf.later x.ck k})]:=by refine So (F.gc.aQ.JX.calls _ k) fun R=>bg rfl (af ?_);refine iL<|aq fun b=>cE (Bd _ k hc hk b)<|af ?_;exact cz (off:=8) bL tk bu rfl<|rT rfl
theorem yF(i:Pl)(x:Rt):Gl.Spec ρ Zp 173 [pA i.p] [au i.p (i.cs x)] R1 fun r M=>r=x.ck∧M=[au i.p (i.cs x)]:=by refine So (F.gc.aQ.Clock.calls _) fun R=>ak rfl (af ?_);exact iL<|rT
theorem Iq(i:Pl)(x:Rt):Gl.Spec ρ Zp 79 [pA i.p] [au i.p (i.cs x)] R1 fun r M=>r=x.rn∧M=[au i.p (i.cs x)]:=by refine So (F.gc.aQ.K5.calls _) fun R=>ak rfl (af ?_);exact iL<|rT
abbrev lL(x:nM):aD:=aw x.1 1 (x.2.map i64)
theorem Tr.Ch:∀(l:List nM) {ρ:FR} {L:List aD},(∀ρ',Le ρ ρ'→(∀x∈l,fx ρ' x.1 1 (x.2.map i64))→Tr ρ0 ρ' L T Post)→Tr ρ0 ρ (l.map lL++L) T Post
 |[],ρ,L,h=>h ρ (Le.refl ρ) (fun x hx=>by cases hx)
 |x::l,ρ,L,h=>Tr.cL .here fun ρ1 hle ro=>Tr.Ch l fun ρ2 hle2 h2=>h ρ2 (hle.trans hle2) fun y hy=>by
   rcases List.mem_cons.mp hy with rfl|hy;·exact ro.le hle2
   ·exact h2 y hy
theorem Tr.nW(l:List nM)(t:Take L (star (l.map lL)) L')(h:∀ρ',Le ρ ρ'→(∀x∈l,fx ρ' x.1 1 (x.2.map i64))→Tr ρ0 ρ' L' T Post):Tr ρ0 ρ L T Post:=
 Tr.take t fun hle w hw=>Tr.Ch l h hle w hw.uT
theorem fx.head{s:av}{xs:List Int}(h:fx ρ s 1 (xs.map i64))(k:Nat)(hk:k≤s.n):fx ρ ⟨s.a,k,s.c⟩ 1 ((xs.take k).map i64):=by obtain⟨h1,h2⟩:=h;refine⟨by grind,?_⟩;grind
theorem w8:pY Zp #[44,44] 1 24=true:=by kernel_rfl
structure uS(S:aJ)(rows:List (List Int)):Prop where
 sZ:rows.length≤8
 lk:∀r∈rows,Qu.Lk S r
 len:∀r∈rows,r.length≤2^20
theorem FY{rows:List (List Int)}{j:Nat}(h:j<rows.length):Qu.has rows j=true∧Qu.row rows j∈rows∧Qu.row rows j=rows[j]:=by
 have h1:Qu.has rows j=true:=by unfold Qu.has;grind
 refine⟨h1,ku h1,?_⟩;unfold Qu.row;grind
theorem C1(i:Pl)(x:Rt)(hw:aY x.S x.cs)(hr:uS x.S x.rows):Gl.Spec ρ Zp 70 [pA i.p] [au i.p (i.cs x),eL i.r i.b x.rows x.bb,aF i.b x.S x.cs] RS
  fun r M=>∃l:List nM,l.map (·.2)=x.rows∧(∀y∈l,y.1.n=y.2.length∧y.1.n≤y.1.c)∧r.n=x.rows.length∧M=[aw r 1 (l.map gz),star (l.map lL),au i.p (i.cs x),eL i.r i.b x.rows x.bb,aF i.b x.S x.cs]:=by
 refine So (F.gc.aQ.om.calls _) fun R=>?_;unfold F.gc.aQ.om;try simp only[c8,c9]
 refine af<|lP _ 0 _ (af (eL.op tk fun q=>?_));refine iL<|cE (mL q _ _) ?_;try simp only[c8,c9]
 refine tC (eL.cl (p:=i.r) (q:=q) (hp:=i.b) (rows:=x.rows) (n:=x.bb))<|Tr.cg 1<|Tr.close (A:=star (([]:List _).map lL)) .nil (fun h H=>H) ?_;refine tP [aw ⟨none,0,0⟩ 1 (([]:List nM).map gz),star _,au _ _,eL i.r _ _ x.bb,aF _ _ x.cs] ?_;refine aM (I:=fun m u M=>∃(j:Nat) (t:av) (l:List nM),j≤x.rows.length∧m=x.rows.length-j∧u=(t,(j:Int),())∧l.map (·.2)=x.rows.take j∧(∀y∈l,y.1.n=y.2.length∧y.1.n≤y.1.c)∧t.n=j∧
  M=[aw t 1 (l.map gz),star (l.map lL),au i.p (i.cs x),eL i.r i.b x.rows x.bb,aF i.b x.S x.cs]++R) x.rows.length ⟨0,_,[],by omega,rfl,rfl,rfl,(fun y hy=>by cases hy),rfl,rfl⟩ ?_;rintro m _ _ ⟨j,t,l,hj,rfl,rfl,hl,hy,ht,rfl⟩ X hX;try simp only[c8,c9]
 refine ag (fun hc=>?_) (fun hc=>?_)
 ·have hj':(j:Int)<(x.rows.length:Nat):=oT hc;have hjl:j<x.rows.length:=by omega
  obtain⟨r1,r2,r3⟩:=FY hjl;refine af<|lP _ 0 _ (af (eL.op tk fun q=>?_));refine iL ?_;have hlen:=hr.len _ r2;refine ai (yz q _ _ _ hw _ j r1 (hr.lk _ r2) ae) ar ?_;rintro _ _ ⟨s,rfl,hs,rfl⟩;try simp only[c8,c9]
  refine tC (eL.cl (p:=i.r) (q:=q) (hp:=i.b) (rows:=x.rows) (n:=x.bb))<|aq fun b=>?_;have hfew:=hr.sZ;refine eu (s:=t) (x:=⟨oA b,1,1⟩) (ys:=[.slice s.a s.n s.c]) w8 tk (Rd.cl tk rfl rfl) rfl (by grind) (by grind) fun v hv=>tD (au b [.slice s.a s.n s.c]) ?_;refine Tr.fA (s:=s) (m:=1) (xs:=(Qu.row x.rows j).map i64) tk fun _ hcap=>?_;rw[wrap64 (by omega) (by omega)];have e1:l.map gz++[.slice s.a s.n s.c]=(l++[(s,Qu.row x.rows j)]).map gz:=by rw[List.map_append];rfl
  rw[e1];refine Tr.close (M:=[star (l.map lL),aw s 1 ((Qu.row x.rows j).map i64)]) (A:=star ((l++[(s,Qu.row x.rows j)]).map lL)) ar (fun h H=>by rw[List.map_append];exact iU H)<|tP [aw v 1 _,star _,au _ _,eL _ _ _ x.bb,aF _ _ x.cs]<|hX _ _ _ ae ⟨j+1,v,l++[(s,Qu.row _ j)],ae,rfl,rfl,?_,?_,by rw[hv,ht],rfl⟩;·simp_all
  grind
 ·have hj':¬(j:Int)<(x.rows.length:Nat):=oF hc;have hjl:j=x.rows.length:=by omega
  rw[List.take_of_length_le ae]at hl;exact rT ⟨l,hl,hy,by rw[ht,hjl],rfl⟩
def Rt.used(x:Rt):Int:=((Sp.each x.S).map (Sp.cV x.S)).sum
theorem Kb{l:List Int}{f:Int→Int}{k:Int}(h:∀a∈l,0≤f a∧f a≤k):0≤(l.map f).sum∧(l.map f).sum≤k*l.length:=by
 induction l with
 |nil=>simp
 |cons a l ih=>have h1:=h a (.head _);have h2:=ih fun b hb=>h b (.tail _ hb);rw[List.map_cons,List.sum_cons,List.length_cons,Int.natCast_succ,Int.mul_add];omega
theorem o0{S:aJ}(hw:Wf S):0≤((Sp.each S).map (Sp.cV S)).sum∧((Sp.each S).map (Sp.cV S)).sum≤2^23:=by
 have hb:∀a∈Sp.each S,0≤Sp.cV S a∧Sp.cV S a≤1024:=fun a ha=>by obtain⟨n,rfl,_,w,h1,h2,h3,_⟩:=Sp.jD hw ha;unfold Sp.cV;grind
 have h1:=Kb hb;have h2:=Sp.df hw;omega
def Rt.roots(x:Rt):List Int:=Mg.merge [(Hn.all x.hs).map (·.2),x.ro,x.rows.flatMap (·.take 1),x.pe]
def Rt.free(x:Rt):Int:=((x.S.ws.length-64:Nat):Int)-x.used
structure Rt.Ok(x:Rt):Prop where
 hw:aY x.S x.cs
 rows:uS x.S x.rows
 hs:Hn.Ok x.hs
 ro:x.ro.length=16
 wa:x.wa.length≤2^20
 pe:x.pe.length≤2^20
 ws:64≤x.S.ws.length
theorem Br{l:List (List Int)}{k:Nat}(h:∀r∈l,r.length≤k):l.flatten.length≤k*l.length:=by
 induction l with
 |nil=>simp
 |cons a l ih=>have h1:=h a (.head _);have h2:=ih fun b hb=>h b (.tail _ hb);rw[List.flatten_cons,List.length_append,List.length_cons,Nat.mul_succ];omega
theorem m6{rows:List (List Int)}:(rows.flatMap (·.take 1)).length≤rows.length:=by have:=Br (l:=rows.map (·.take 1)) (k:=1) (fun r hr=>by grind);grind
theorem FW:zc Zp 181=[.slice none 0 0,.slice none 0 0,.int .i64 0,.int .i64 0,.int .i64 0,.bool false,.int .i64 0]:=by kernel_rfl
theorem K7:zc Zp 191=[i64 0,i64 0]:=by kernel_rfl
abbrev L3:RK:= .one (.g [.slice,.slice,kI,kI,kI,.bool,kI])
theorem cx:pY Zp #[43,43] 1 8=true:=by kernel_rfl
theorem Aj{M:List aD}{hp:Nat}{S:aJ}{cs:List aX}{T:Tree}(t:Take L (aF hp S cs) L')(h:∀ps pt:Nat,Tr ρ0 ρ (au hp [pA ps,pA pt]::aP ps S::cA pt cs::L') T Post):Tr ρ0 ρ L T Post:=aF.op t h
theorem JS(i:Pl)(x:Rt)(H:x.Ok)(all:Bool):Gl.Spec ρ Zp 148 [pA i.p,.bool all] (i.A x) L3
  fun r M=>∃s1 s2:av,r=(s1,s2,x.ck,x.free,x.ba,all,x.stack,())∧s1.n=x.roots.length∧s2.n=x.wa.length∧M=aw s1 1 (x.roots.map i64)::aw s2 1 (x.wa.map i64)::i.A x:=by
 refine So (F.gc.aQ.In.calls _ _) fun R=>?_;have hhl:=H.hs.len;refine aq fun b1=>?_;rw[FW];refine ak rfl (af ?_);refine iL<|ai (xe _ H.hs) ar ?_;rintro ha _ ⟨hha,rfl⟩;have hal:(Hn.all x.hs).length≤512:=by unfold Hn.all;rw[hhl];exact Hn.gp _
 refine Tr.cL tk fun ρ1 hle1 roh=>Tr.cg 1<|tP ([aw ⟨none,0,0⟩ 1 ((((Hn.all x.hs).take 0).map (·.2)).map i64),au b1 [.slice _ 0 0,.slice _ 0 0,.int _ 0,.int _ 0,.int _ 0,.bool false,.int _ 0]]++i.A x) ?_;refine aM (I:=fun m u M=>∃(j:Nat) (t:av),j≤(Hn.all x.hs).length∧m=(Hn.all x.hs).length-j∧u=(t,(j:Int),())∧t.n=j∧
  M=([aw t 1 ((((Hn.all x.hs).take j).map (·.2)).map i64),au b1 [.slice none 0 0,.slice none 0 0,.int .i64 0,.int .i64 0,.int .i64 0,.bool false,.int .i64 0]]++i.A x)++R) (Hn.all x.hs).length ⟨0,_,by omega,rfl,rfl,rfl,rfl⟩ ?_;rintro m _ _ ⟨j,t,hj,rfl,rfl,ht,rfl⟩ X hX;try simp only[c8,c9]
 refine ag (fun hc=>?_) (fun hc=>?_)
 ·have hj':(j:Int)<ha.n:=oT hc;have hjl:j<(Hn.all x.hs).length:=by omega
  obtain⟨g1,g2⟩:=kL hjl;refine bz roh ae hj' fun a0 ha0=>cu ha0 roh (by rintro b o rfl;rw[aO,aO];rfl) g1<|cu ha0 roh (by rintro b o rfl;rw[aO,aO];rfl) g2 ?_;simp only[JL];refine aq fun b9=>?_;rw[K7];refine iT ?_;refine lI _ 1 _<|tD _ ?_;refine dm bJ tk eV fun v hv=>?_;rw[bG];have e:((Hn.all x.hs).take j).map (·.2)++[(Hn.bM (Hn.all x.hs) j).2]=((Hn.all x.hs).take (j+1)).map (·.2):=by rw[aE (0,0) hjl,List.map_append];rfl
  rw[e];rw[List.length_map,List.length_take,Nat.min_eq_left ae]at hv;exact hX _ _ _ ae ⟨j+1,v,ae,rfl,rfl,hv,rfl⟩
 ·have hj':¬(j:Int)<ha.n:=oF hc;rw[List.take_of_length_le ae];refine Tr.cL tk fun ρ2 hle2 HD=>ai (C1 i x H.hw H.rows) ar ?_;rintro r _ ⟨l,hl,hly,hrn,rfl⟩;have hll:l.length=x.rows.length:=by grind
  have hfew:=H.rows.sZ;refine Tr.cL tk fun ρ3 hle3 ror=>Tr.nW l tk fun ρ4 hle4 rol=>?_;replace ror:=ror.le hle4;refine Tr.cg 1<|tP ([aw ⟨none,0,0⟩ 1 (((x.rows.take 0).flatMap (·.take 1)).map i64),au _ [.slice _ 0 0,.slice _ 0 0,.int _ 0,.int _ 0,.int _ 0,.bool false,.int _ 0]]++i.A x) ?_;refine aM (I:=fun m u M=>∃(j:Nat) (t:av),j≤x.rows.length∧m=x.rows.length-j∧u=(t,(j:Int),())∧t.n=((x.rows.take j).flatMap (·.take 1)).length∧
   M=([aw t 1 (((x.rows.take j).flatMap (·.take 1)).map i64),au b1 [.slice none 0 0,.slice none 0 0,.int .i64 0,.int .i64 0,.int .i64 0,.bool false,.int .i64 0]]++i.A x)++R) x.rows.length ⟨0,_,by omega,rfl,rfl,rfl,rfl⟩ ?_;rintro m _ _ ⟨j,u,hj,rfl,rfl,hu,rfl⟩ X hX;try simp only[c8,c9]
  have hfl:=m6 (rows:=x.rows.take j);refine ag (fun hc=>?_) (fun hc=>?_)
  ·have hj':(j:Int)<r.n:=oT hc;have hjl:j<l.length:=by omega
   refine bz ror ae hj' fun a0 ha=>cu ha ror fX (iA hjl) ?_;have hmem:l.getD j (⟨none,0,0⟩,[])∈l:=by grind
   obtain⟨hy1,hy2⟩:=hly _ hmem;have ro1:=rol _ hmem;have ex:x.rows[j]? =some (l.getD j (⟨none,0,0⟩,[])).2:=by grind
   generalize l.getD j (⟨none,0,0⟩,[])=y at*;obtain⟨k,hk,hk2⟩:∃k:Nat,(if(1:Int)<y.1.n then(1:Int)else y.1.n)=k∧k=min 1 y.1.n:=by grind
   rw[hk];apply ei ae ae ae;rw[qm,Int.toNat_natCast,show k-(0:Int).toNat=k by omega,show y.1.c-(0:Int).toNat=y.1.c by omega];have ro2:=fx.head ro1 k ae;have et:y.2.take k=y.2.take 1:=by grind
   rw[et]at ro2;refine bj cx tk (Rd.ro ro2) eV fun v hv=>?_;rw[bG];have e:(x.rows.take j).flatMap (·.take 1)++y.2.take 1=(x.rows.take (j+1)).flatMap (·.take 1):=by
    conv=>rhs;rw[List.take_add_one,ex,List.flatMap_append]
    simp
   rw[e];rw[←List.length_append,e]at hv;exact hX _ _ _ ae ⟨j+1,v,ae,rfl,rfl,hv,rfl⟩
  ·have hj':¬(j:Int)<r.n:=oF hc;rw[List.take_of_length_le ae]at hu hfl⊢;refine Tr.cL tk fun ρ5 hle5 rou=>Aj (M:=[]) tk fun ps pt=>aA (aK [au i.p _,au _ [pA ps,pA pt]] ar ?_);refine af (hP _ 2 _ ?_);refine af (hP _ 3 _ ?_);refine af (hP _ 3 _ ?_);refine af (hI _ 8 _ ?_);refine af (hP _ 4 _ ?_);refine af (hP _ 0 _ ?_);refine af (hP _ 4 _ ?_);refine af (hP _ 0 _ ?_);refine af (bo bL tk rfl ?_);refine af (bo bL tk rfl ?_);have hwl:=H.hw.wf.len;have hwm:=H.hw.wf.fF;have hro:=H.ro;have hpe:=H.pe;have hwa:=H.wa;refine ai (tL _ _ H.ro) ar ?_;rintro q1 _ ⟨hq1,rfl⟩;refine Tr.cL tk fun ρ6 hle6 ro6=>ma hle6 ar<|ai (lV _ _ _ x.pe ae) ar ?_;rintro q2 _ ⟨hq2,rfl⟩;refine Tr.cL tk fun ρ7 hle7 ro7=>?_;have hle67:=hle6.trans hle7;refine ma hle67 ar<|aq fun b3=>ma hle67 ar<|Tr.kT (b:=b3) (cs:=[(t,(Hn.all x.hs).map (·.2)),(q1,x.ro),(u,x.rows.flatMap (·.take 1)),(q2,x.pe)].map gz) tk fun ρ8 ⟨ty,hb3⟩ hle8=>?_;have hle68:=hle67.trans hle8;have hfl2:((([(t,(Hn.all x.hs).map (·.2)),(q1,x.ro),(u,x.rows.flatMap (·.take 1)),(q2,x.pe)]:List nM)).flatMap (·.2)).length<2^39:=by grind
   refine ai (Ew ⟨oA b3,4,4⟩ [(t,(Hn.all _).map _),_,_,_] ⟨rfl,.inr ⟨b3,0,_,ty,_,rfl,hb3,fun i hi=>?_⟩⟩ ?_ hfl2 bu) ar ?_;·simp
   ·intro y hy;simp only[List.mem_cons,List.not_mem_nil,or_false]at hy;rcases hy with rfl|rfl|rfl|rfl;·exact HD.le (hle3.trans (hle4.trans (hle5.trans hle68)))
    ·exact ro6.le (hle7.trans hle8)
    ·exact rou.le hle68
    ·exact ro7.le hle8
   rintro q3 _ ⟨hq3,rfl⟩;refine ma hle68 ar<|ai (uU _ _ x.wa _ ae) ar ?_;rintro q4 _ ⟨hq4,rfl⟩;refine ma hle68 ar<|cE (wg _ _ H.ws ae) ?_;refine ma hle68 ar<|cE (pO _ _ H.hw.wf) ?_;apply ma hle68 ar;have hul:=o0 H.hw.wf;rw[bG];refine iT ?_;refine aN (x:=(q3,q4,x.ck,x.free,x.ba,all,x.stack,())) [] rfl tk rfl<|tC (aF.cl) ?_;exact rT ⟨q3,q4,rfl,hq3,hq4,rfl⟩
def QB(S:aJ):Prop:=∀a,Qu.bR S a=true→(Ob.get S a 1).1<2^62
def NZ(rows:List (List Int)):Prop:=∀r∈rows,∀a∈r,a≠0
theorem QB.put{S:aJ}{cs:List aX}(hw:aY S cs)(H:QB S){a i x:Int}(hx:i≠1∨x<2^62):QB (Ob.put S a i x).2:=by
 intro b hb;have hb':Qu.bR S b=true:=by unfold Qu.bR at hb⊢;rw[cm hw]at hb;exact hb
 obtain⟨hd,hh,hk⟩:=bx hb';have hn:=jm hw hh hk;by_cases g:(Ob.fieldAt S a i).2=0
 ·obtain⟨ha,hha,h0,h1,_⟩:=Ob.gv hw g;rw[((Ob.qO hw (x:=x) hha h0 h1).2 _ _ hh).2 1 ae ae];split;·omega
  ·exact H b hb'
 ·have e:(Ob.put S a i x).2=S:=by unfold Ob.put;rw[if_pos g]
  rw[e];exact H b hb'
theorem F3{S:aJ}{cs:List aX}(hw:aY S cs){a:Int}(h:Qu.bR S a=true):a≠0:=fun e=>by obtain⟨hd,hh,_⟩:=bx h;rw[e]at hh;exact Mk.mC hw (by unfold Mk.obj;rw[hh];rfl)
theorem mO{S:aJ}{cs:List aX}(hw:aY S cs)(hq:QB S)(rows:List (List Int))(i a:Int):aY (Qu.bP S rows i a) cs∧QB (Qu.bP S rows i a):=by
 unfold Qu.bP;split
 ·split;·exact⟨hw.put _ _ _,hq.put hw (.inl bd)⟩
  ·exact⟨(hw.put _ _ _).put _ _ _,(hq.put hw (.inl bd)).put (hw.put _ _ _) (.inl bd)⟩
 ·exact⟨hw,hq⟩
theorem zX{S:aJ}{cs:List aX}(hw:aY S cs){rows:List (List Int)}(hz:NZ rows)(i a:Int):NZ (Qu.dN S rows i a):=by
 unfold Qu.dN;split
 ·rename_i h;rw[Bool.and_eq_true]at h;intro r hr b hb;rcases List.mem_or_eq_of_mem_set hr with hr|rfl;·exact hz r hr b hb
  ·rcases List.mem_append.mp hb with hb|hb;·exact hz _ (ku h.1) b hb
   ·rw[List.mem_singleton]at hb;subst hb;exact F3 hw h.2
 ·exact hz
theorem xw{S:aJ}{cs:List aX}(hw:aY S cs)(hq:QB S){rows:List (List Int)}(hz:NZ rows)(a:Int):aY (Rf.dJ S rows a).2.1 cs∧QB (Rf.dJ S rows a).2.1∧NZ (Rf.dJ S rows a).2.2∧(Qu.bR S a=true→Rf.qn S a<2^62):=by
 have hw1:=hw.put a 0 0;have hq1:QB (Ob.put S a 0 0).2:=hq.put hw (.inl bd);refine⟨?_,?_,?_,fun h=>?_⟩
 ·unfold Rf.dJ;split
  ·split;·exact hw1
   ·split;·exact(mO hw1 hq1 _ _ _).1
    ·exact(mO hw1 hq1 _ _ _).1.put _ _ _
  ·exact hw
 ·unfold Rf.dJ;split
  ·split;·exact hq1
   ·split;·exact(mO hw1 hq1 _ _ _).2
    ·exact(mO hw1 hq1 _ _ _).2.put (mO hw1 hq1 _ _ _).1 (.inr bd)
  ·exact hq
 ·unfold Rf.dJ;split
  ·split;·exact hz
   ·split;·exact zX hw1 hz _ _
    ·exact zX hw1 hz _ _
  ·exact hz
 ·apply hq1 a;unfold Qu.bR at h⊢;rw[cm hw];exact h
theorem ud{cs:List aX}:∀{l:List Int} {S:aJ},aY S cs→QB S→aY (Rf.iu S l) cs∧QB (Rf.iu S l)
 |[],_,hw,hq=>⟨hw,hq⟩
 |a::l,S,hw,hq=>ud (l:=l) (hw.put a 0 0) (hq.put hw (.inl (by decide)))
def Rf.cc(S:aJ)(rows:List (List Int))(l:List Int):aJ×List (List Int):=l.foldl (fun q a=>(Rf.dJ q.1 q.2 a).2) (S,rows)
theorem o8{cs:List aX}:∀{l:List Int} {S:aJ} {rows:List (List Int)},aY S cs→QB S→NZ rows→aY (Rf.cc S rows l).1 cs∧QB (Rf.cc S rows l).1∧NZ (Rf.cc S rows l).2
 |[],_,_,hw,hq,hz=>⟨hw,hq,hz⟩
 |a::l,S,rows,hw,hq,hz=>by obtain⟨h1,h2,h3,_⟩:=xw hw hq hz a;exact o8 (l:=l) h1 h2 h3
theorem vN(S:aJ)(rows:List (List Int))(l:List Int)(a:Int):Rf.cc S rows (l++[a])=(Rf.dJ (Rf.cc S rows l).1 (Rf.cc S rows l).2 a).2:=by unfold Rf.cc;simp
def Rt.after(x:Rt)(cl pu pn lv:List Int):Rt:=
 {x with S:=Sw.fo (Rf.cc (Rf.clear x.S cl).2 x.rows pu).1 lv,rows:=(Rf.cc (Rf.clear x.S cl).2 x.rows pu).2,wa:=(Fn.ka x.wa x.pe pn).1,pe:=(Fn.ka x.wa x.pe pn).2,rn:=x.rn+1}
def Rt.CS(x:Rt)(s1 s2:av)(all:Bool):pS:=⟨s1,s2,x.ck,x.free,x.ba,all,x.stack⟩
structure Rt.L6(x:Rt):Prop extends x.Ok where
 qb:QB x.S
 st:∀r∈refsOf x.S,r.2.2.2.2.1<9223372036854775808
 ck:x.ck<9223372036854775808
 ba:x.ba<9223372036854775808
 stack:1≤x.stack∧x.stack≤4096
 rn:0≤x.rn∧x.rn<2^60
theorem uL{S:aJ}{rows:List (List Int)}(h:uS S rows):NZ rows:=fun r hr a ha=>(h.lk r hr).ne a ha
abbrev BY(a b c d:av):List Value:=[.slice a.a a.n a.c,.slice b.a b.n b.c,.slice c.a c.n c.c,.slice d.a d.n d.c]
theorem BL(i:Pl)(x:Rt)(H:x.L6)(all:Bool):Gl.Spec ρ Zp 90 [pA i.p,.bool all] (i.A x) OE
  fun r M=>∃(z1 z2 s1 s2 s3 s4:av) (l:List da) (m2 m3:List Bool),kl x.S x.cs (x.CS z1 z2 all) x.roots x.wa l m2 m3∧r=((s1,s2,s3,s4,()),0,())∧
   M=[aw s1 1 ((aU x.S m2 m3 l).map i64),aw s2 1 ((bV x.S m3 (aU x.S m2 m3 l)).map i64),aw s3 1 ((bI x.S m2 x.wa).map i64),aw s4 1 ((Mk.all m3).map i64)]++
    i.A (x.after (aU x.S m2 m3 l) (bV x.S m3 (aU x.S m2 m3 l)) (bI x.S m2 x.wa) (Mk.all m3)):=by
 refine So (F.gc.aQ.Collect.calls _ _) fun R=>?_;have hw:=H.hw;refine aq fun b1=>?_;rw[vM];refine bF ?_;refine iV (fun j M=>∃(b:Nat) (z1 z2 s1 s2 s3 s4:av) (l:List da) (m2 m3:List Bool),j=(⟨b,0,none⟩,0,())∧kl x.S x.cs (x.CS z1 z2 all) x.roots x.wa l m2 m3∧
  M=[au b (BY s1 s2 s3 s4),au b1 (BY ⟨none,0,0⟩ ⟨none,0,0⟩ ⟨none,0,0⟩ ⟨none,0,0⟩),aw s1 1 ((aU x.S m2 m3 l).map i64),aw s2 1 ((bV x.S m3 (aU x.S m2 m3 l)).map i64),aw s3 1 ((bI x.S m2 x.wa).map i64),aw s4 1 ((Mk.all m3).map i64)]++(i.A x++R)) ?_ ?_
 ·rintro _ _ ⟨b,z1,z2,s1,s2,s3,s4,l,m2,m3,rfl,hco,rfl⟩;have hlf:=kl.sZ hw hco;have hcl:(aU x.S m2 m3 l).length<2^20:=by unfold aU;rw[List.length_append];have h1:=g9 (S:=x.S) (m:=m2) (xs:=[1,2]) (l:=l);have h2:=g9 (S:=x.S) (m:=m3) (xs:=[3]) (l:=l);omega
  have hpu:(bV x.S m3 (aU x.S m2 m3 l)).length<2^20:=by unfold bV;grind
  have hpn:(bI x.S m2 x.wa).length≤x.wa.length:=sS;have hlv:(Mk.all m3).length<2^40:=by have h1:=Mk.gp (m:=m3);have h2:=hco.c3.len;have hwl:=H.hw.wf.len;have hwm:=H.hw.wf.fF;omega
  have hwa:=H.wa;have hpe:=H.pe;generalize hce:aU x.S m2 m3 l=cl at*;generalize hpue:bV x.S m3 cl=pu at*;generalize hpne:bI x.S m2 x.wa=pn at*;generalize hlve:Mk.all m3=lv at*;refine ak rfl (aA (af ?_));refine iL<|iL<|ai (Spec.own fun ρ1 hle1 r1=>rC i.r i.b x.S x.cs hw x.rows x.bb s1 cl r1 ae) ar ?_;rintro _ _ ⟨_,⟨rfl,rfl⟩,rfl⟩;refine iL ?_;have hS1:aY (Rf.clear x.S cl).2 x.cs∧QB (Rf.clear x.S cl).2:=by
   unfold Rf.clear;split;·exact ud hw H.qb
   ·exact⟨hw,H.qb⟩
  generalize hSe:(Rf.clear x.S cl).2=S1 at*;refine Tr.fu (s:=s2) tk fun hn2=>tP [aw _ 1 _,aw _ 1 _,aw _ 1 _,aw _ 1 _,au b _,au _ _,au _ _,eL _ _ _ x.bb,kM _ x.hs,au _ _,cn _ _ _ x.pe,aF _ _ x.cs] ?_;refine aM (I:=fun m u M=>∃j:Nat,j≤pu.length∧m=pu.length-j∧u=((j:Int),())∧
   M=[aw s1 1 (cl.map i64),aw s2 1 (pu.map i64),aw s3 1 (pn.map i64),aw s4 1 (lv.map i64),au b (BY s1 s2 s3 s4),au b1 (BY ⟨none,0,0⟩ ⟨none,0,0⟩ ⟨none,0,0⟩ ⟨none,0,0⟩),au i.p (i.cs x),eL i.r i.b (Rf.cc S1 x.rows (pu.take j)).2 x.bb,kM i.h x.hs,au i.o (x.ro.map i64),cn i.f i.b x.wa x.pe,aF i.b (Rf.cc S1 x.rows (pu.take j)).1 x.cs]++R) pu.length ⟨0,by omega,rfl,rfl,rfl⟩ ?_;rintro m _ _ ⟨j,hj,rfl,rfl,rfl⟩ X hX;refine ag (fun hc=>?_) (fun hc=>?_)
  ·have hj':(j:Int)<s2.n:=oT hc;have hjl:j<pu.length:=by omega
   refine bt tk ae ae<|iN ?_;obtain⟨e1,e2,e3⟩:=o8 (l:=pu.take j) hS1.1 hS1.2 (uL H.rows);have e4:=(xw e1 e2 e3 (pu.getD j 0)).2.2.2;apply cE (sF i.r i.b (Rf.cc S1 _ _).1 _ e1 (Rf.cc S1 _ _).2 e3 _ (pu.getD j 0) e4);rw[bG];have es:Rf.cc S1 x.rows (pu.take (j+1))=(Rf.dJ (Rf.cc S1 x.rows (pu.take j)).1 (Rf.cc S1 x.rows (pu.take j)).2 (pu.getD j 0)).2:=by rw[aE 0 hjl,vN]
   rw[←es];exact tP [aw s1 1 (cl.map i64),aw s2 1 (pu.map i64),aw s3 1 (pn.map i64),aw s4 1 (lv.map i64),au b _,au b1 _,au i.p (i.cs x),eL i.r i.b (Rf.cc S1 x.rows _).2 x.bb,kM i.h x.hs,au i.o _,cn i.f i.b x.wa x.pe,aF i.b (Rf.cc S1 x.rows _).1 x.cs] (hX _ _ _ ae ⟨j+1,ae,rfl,rfl,rfl⟩)
  ·have hj':¬(j:Int)<s2.n:=oF hc;rw[List.take_of_length_le ae];obtain⟨e1,e2,e3⟩:=o8 (l:=pu) hS1.1 hS1.2 (uL H.rows);generalize hq:Rf.cc S1 x.rows pu=q at*;obtain⟨S2,rows2⟩:=q;refine aA (af ?_);refine iL<|iL<|ai (Spec.own fun ρ1 hle1 r1=>EO i.f i.b x.wa x.pe s3 pn r1 ae) ar ?_;rintro _ _ ⟨_,rfl,rfl⟩;refine aA (af ?_);refine iL<|iL<|Tr.fu (s:=s4) tk fun hn4=>?_;refine cE (yV _ _ _ e1 _ _ (Rd.sl .here eV) hlv)<|af ?_;refine iL ?_;have hrn:=H.rn;rw[bG (n:=x.rn+1)];refine af<|cz (off:=9) bL tk bu rfl<|iG<|iT ?_;apply aN [] rfl tk rfl;have h2:S2=(Rf.cc S1 x.rows pu).1:=by rw[hq]
   have h3:rows2=(Rf.cc S1 x.rows pu).2:=by rw[hq]
   subst h2 h3 hSe hlve hpne hpue hce;exact rT ⟨z1,z2,s1,s2,s3,s4,l,m2,m3,hco,rfl,rfl⟩
 ·intro X hX;refine aA (aK [au i.p _] ar ?_);refine af (hP _ 4 _ ?_);have hroots:x.roots.length<2^30:=by
   have h1:=Mg.rR [(Hn.all x.hs).map (·.2),x.ro,x.rows.flatMap (·.take 1),x.pe];have h2:(Hn.all x.hs).length≤512:=by unfold Hn.all;rw[H.hs.len];exact Hn.gp _
   have h3:=m6 (rows:=x.rows);have h4:=H.rows.sZ;have h5:=H.pe;have h6:=H.ro;simp only[List.flatten_cons,List.flatten_nil,List.length_append,List.length_nil,List.length_map]at h1;unfold Rt.roots;omega
  have hful:=o0 H.hw.wf;have hwl:=H.hw.wf.len;have hwm:=H.hw.wf.fF;have proc:∀(ρ':FR) (s1 s2:av),fx ρ' s1 1 (x.roots.map i64)→fx ρ' s2 1 (x.wa.map i64)→Gl.Spec ρ' Zp 147 [pA i.b,LS (x.CS s1 s2 all)] [aF i.b x.S x.cs] OE _:=fun ρ' s1 s2 r1 r2=>
   xE i.b x.S x.cs H.hw (x.CS s1 s2 all) ⟨H.ck,(by show x.free<_;unfold Rt.free Rt.used;omega),H.ba⟩ x.roots x.wa r1 r2 hroots (by have:=H.wa;omega) H.st H.stack;refine cr ?_ ?_
  ·refine ai (JS i x H.toOk _) ar ?_;rintro _ _ ⟨z1,z2,rfl,hz1,hz2,rfl⟩;refine aS ar (cr ?_ ?_);·refine ai (Spec.own fun ρ1 hle1 r1=>Spec.own fun ρ2 hle2 r2=>proc ρ2 z1 z2 (r1.le hle2) r2) ar ?_;rintro _ _ ⟨_,⟨_,⟨s1,s2,s3,s4,l,m2,m3,rfl,hco,rfl⟩,rfl⟩,rfl⟩;refine aq fun b=>iT ?_;refine tD (aw _ 1 _) ?_;refine tD (aw _ 1 _) ?_;exact tP ([au b _,au _ _,aw _ 1 _,aw _ 1 _,aw _ 1 _,aw _ 1 _]++i.A x) (hX _ _ ⟨b,z1,z2,s1,s2,s3,s4,l,m2,m3,rfl,hco,rfl⟩)
   ·refine aq fun b=>aS ar<|ai (Spec.own fun ρ1 hle1 r1=>Spec.own fun ρ2 hle2 r2=>proc ρ2 z1 z2 (r1.le hle2) r2) ar ?_;rintro _ _ ⟨_,⟨_,⟨s1,s2,s3,s4,l,m2,m3,rfl,hco,rfl⟩,rfl⟩,rfl⟩;refine iT ?_;refine tD (aw _ 1 _) ?_;refine tD (aw _ 1 _) ?_;exact tP ([au b _,au _ _,aw _ 1 _,aw _ 1 _,aw _ 1 _,aw _ 1 _]++i.A x) (hX _ _ ⟨b,z1,z2,s1,s2,s3,s4,l,m2,m3,rfl,hco,rfl⟩)
  ·refine aq fun b=>aS ar<|ai (JS i x H.toOk _) ar ?_;rintro _ _ ⟨z1,z2,rfl,hz1,hz2,rfl⟩;refine cK<|ai (Spec.own fun ρ1 hle1 r1=>Spec.own fun ρ2 hle2 r2=>proc ρ2 z1 z2 (r1.le hle2) r2) ar ?_;rintro _ _ ⟨_,⟨_,⟨s1,s2,s3,s4,l,m2,m3,rfl,hco,rfl⟩,rfl⟩,rfl⟩;refine iT ?_;refine tD (aw _ 1 _) ?_;refine tD (aw _ 1 _) ?_;exact tP ([au b _,au _ _,aw _ 1 _,aw _ 1 _,aw _ 1 _,aw _ 1 _]++i.A x) (hX _ _ ⟨b,z1,z2,s1,s2,s3,s4,l,m2,m3,rfl,hco,rfl⟩)
def dp(p ps pt:Nat)(S:aJ)(cs:List aX):aD:=fun h=>star [au p [pA ps,pA pt],aP ps S,cA pt cs] h
theorem dp.op{p ps pt:Nat}{S:aJ}{cs:List aX}(t:Take L (dp p ps pt S cs) L')(h:Tr ρ0 ρ (au p [pA ps,pA pt]::aP ps S::cA pt cs::L') T Post):Tr ρ0 ρ L T Post:=
 Tr.iW (M:=fun _:Unit=>[au p [pA ps,pA pt],aP ps S,cA pt cs]) (c:=fun _=>True) t (fun _ h=>⟨(),trivial,h⟩) (fun _ _=>h)
theorem dp.cl{p ps pt:Nat}{S:aJ}{cs:List aX}(h:HP)(H:star [au p [pA ps,pA pt],aP ps S,cA pt cs] h):dp p ps pt S cs h:=H
theorem aF.MC{p:Nat}{S:aJ}{cs:List aX}(t:Take L (aF p S cs) L')(h:∀ps pt:Nat,Tr ρ0 ρ (dp p ps pt S cs::L') T Post):Tr ρ0 ρ L T Post:=
 aF.op t fun ps pt=>tC (dp.cl (p:=p) (ps:=ps) (pt:=pt) (S:=S) (cs:=cs)) (h ps pt)
theorem dp.ME{p ps pt:Nat}{S:aJ}{cs:List aX}(t:Take L (dp p ps pt S cs) L')(h:Tr ρ0 ρ (aF p S cs::L') T Post):Tr ρ0 ρ L T Post:=
 Tr.imp t (fun h H=>aF.cl (p:=p) (ps:=ps) (pt:=pt) (S:=S) (cs:=cs) h H) h
theorem qt(p ps pt:Nat)(S:aJ)(cs:List aX)(hw:aY S cs)(a:Int):Gl.Spec ρ Zp 137 [pA p,i64 a] [dp p ps pt S cs] HE
  fun r M=>r=Ob.jX (Ob.head S a)∧M=[dp p ps pt S cs]:=by
 refine So (F.object.bN.Head.calls _ a) fun R=>aq fun b1=>?_;rw[EX];refine ak rfl (af (dp.op tk ?_));refine iL<|cE (nC _ S hw.wf a) ?_;cases hf:Sp.find S a with
 |none=>
  have e:Ob.head S a=none:=by unfold Ob.head;rw[hf]
  rw[e];refine bT<|iT ?_;refine aN (x:=(_,_,_,false,())) [] rfl tk rfl<|tC (dp.cl) ?_;exact rT
 |some x=>
  obtain⟨s,w⟩:=x;refine ak rfl (ag (fun h=>?_) (fun h=>?_))
  ·have h:¬s=a:=by simpa[Sp.found]using h
   have e:Ob.head S a=none:=by unfold Ob.head;grind
   rw[e];refine iT ?_;refine aN (x:=(_,_,_,false,())) [] rfl tk rfl<|tC (dp.cl) ?_;exact rT
  ·have h:s=a:=by simpa[Sp.found]using h
   have e:Ob.head S a=some (Sp.uf (S.ws.getD s 0)):=by unfold Ob.head;grind
   obtain⟨n,w',rfl,g1,g2,g3,g4,g5⟩:=Ob.bU hw e;have hsn:s=n:=by omega
   subst hsn;rw[e];generalize Sp.uf (S.ws.getD s 0)=hd at g2 g3 g4⊢;have hb:=Sp.cb g3;refine iN<|nq _ S s ae tk ?_;rw[Int.toNat_natCast,g2];refine bF<|cE (zG _ g3)<|aq fun b2=>cz rfl tk bu rfl (ak rfl ?_);refine aN (x:=hd.t) [] rfl tk rfl<|iT ?_;refine aN [] rfl tk rfl<|tC (dp.cl) ?_;exact rT
theorem vB(p ps pt:Nat)(S:aJ)(cs:List aX)(hw:aY S cs)(a i:Int):Gl.Spec ρ Zp 199 [pA p,i64 a,i64 i] [dp p ps pt S cs] P2
  fun r M=>r=((Ob.fieldAt S a i).1,(Ob.fieldAt S a i).2,())∧M=[dp p ps pt S cs]:=by
 have hm:=hw.wf.fF;have hl:=hw.wf.len;refine So (F.object.bN.field.calls _ a i) fun R=>cE (qt p _ _ S _ hw a)<|aq fun b2=>?_;rw[EX];cases hh:Ob.head S a with
 |none=>
  have e:Ob.fieldAt S a i=(0,2):=by unfold Ob.fieldAt;rw[hh]
  rw[e];refine cz rfl tk bu rfl (bg rfl ?_);exact rT
 |some hd=>
  obtain⟨n,w,rfl,_,_,g3,g4,g5⟩:=Ob.bU hw hh;refine cz rfl tk bu rfl (ak rfl ?_);refine ag (fun h1=>?_) (fun h1=>?_)
  ·have e:Ob.fieldAt S n i=(0,1):=by unfold Ob.fieldAt;grind
   rw[e];exact rT
  ·have h1:=oF h1;refine lI _ 2 hd.n<|ag (fun h2=>?_) (fun h2=>?_)
   ·have e:Ob.fieldAt S n i=(0,1):=by unfold Ob.fieldAt;grind
    rw[e];exact rT
   ·have h2:=oF h2;have e:Ob.fieldAt S n i=(n+1+i,0):=by unfold Ob.fieldAt;grind
    rw[e,bG (n:=(n:Int)+1),bG];exact rT
theorem si(p ps pt:Nat)(S:aJ)(cs:List aX)(hw:aY S cs)(a i:Int):Gl.Spec ρ Zp 138 [pA p,i64 a,i64 i] [dp p ps pt S cs] P2
  fun r M=>r=((Ob.get S a i).1,(Ob.get S a i).2,())∧M=[dp p ps pt S cs]:=by
 refine So (F.object.bN.Field.calls _ a i) fun R=>cE (vB p _ _ S _ hw a i)<|ag (fun h=>?_) (fun h=>?_)
 ·have h:(Ob.fieldAt S a i).2≠0:=by simpa using h
  have e:Ob.get S a i=(0,(Ob.fieldAt S a i).2):=by unfold Ob.get;rw[if_pos h]
  rw[e];exact rT
 ·have h:(Ob.fieldAt S a i).2=0:=by simpa using h
  have e:Ob.get S a i=(S.ws.getD (Ob.fieldAt S a i).1.toNat 0,0):=by unfold Ob.get;grind
  obtain⟨hd,h1,h2,h3,h4,h5,h6⟩:=Ob.gv hw h;rw[e];refine af (dp.op tk ?_);refine iL<|nq _ S (Ob.fieldAt S a i).1 ae tk<|tC (dp.cl) ?_;exact rT
theorem sP(p ps pt:Nat)(S:aJ)(cs:List aX)(hw:aY S cs):Gl.Spec ρ Zp 67 [pA p] [dp p ps pt S cs] RS
  fun r M=>M=[pL r (Ob.eR S),dp p ps pt S cs]∧r.n=(Ob.eR S).length:=by
 have hel:=Sp.df hw.wf;refine So (F.object.bN.iQ.calls _) fun R=>ak rfl (af (dp.op tk ?_));refine iL<|ai (jw _ S hw.wf) ar ?_;rintro s M ⟨hs,rfl⟩;refine tC (dp.cl) ?_;refine Tr.cL tk fun ρ' hle hro=>Tr.none<|Tr.cg 6 ?_;refine aM (fun m u M=>(fun(t:av) (i:Int)=>∃l:List (pX×av),M=aw t 6 (l.flatMap jQ)::star (l.map yk)::dp p ps pt S cs::R∧0≤i∧i≤(Sp.each S).length∧m=(Sp.each S).length-i.toNat∧t.n=i.toNat∧
   l.map (·.1)=((Sp.each S).take i.toNat).map (Ob.jh S)∧∀x∈l,x.2.n=x.1.ws.length) u.1 u.2.1) (Sp.each S).length ?_ ?_;·exact⟨[],rfl,bu,bu,bu,rfl,bu,bu⟩
 ·rintro m ⟨(t:av),(i:Int),⟨⟩⟩ M ⟨l,rfl,h0,h1,rfl,htn,hl,hln⟩ X hX;dsimp only at*;refine ag (fun h=>?_) (fun h=>?_)
  ·replace h:i<(s.n:Int):=oT h;have hi:i.toNat<(Sp.each S).length:=by omega
   refine bz hro h0 h fun a0 ha=>cu ha hro fX (getD_map hi) ?_;have hmem:(Sp.each S).getD i.toNat 0∈Sp.each S:=by grind
   have htk:=aE 0 hi;generalize(Sp.each S).getD i.toNat 0=a at hmem htk⊢;obtain⟨n,rfl,hn,w,hf,w1,w2,w3⟩:=Sp.jD hw.wf hmem;obtain⟨hd,hm,hwd,hfit⟩:=hw.obj n w hf;have hb:=Sp.cb hm;have hhd:Ob.head S n=some hd:=by unfold Ob.head;rw[hf];dsimp only;rw[if_pos rfl,hwd,Sp.jc hm]
   obtain⟨ln,hln2⟩:∃ln:Nat,hd.n=ln:=⟨hd.n.toNat,ae⟩;refine aq fun b8=>?_;rw[LF];refine iT ?_;apply cE (qt p _ _ S _ hw n);rw[hhd];apply cz (off:=1) bL tk (by simp[cH]) rfl;have e8:cH (cH [.int .i64 0,.int .i64 0,.int .i64 0,.int .i64 0,.bool false,.slice none 0 0] 0 [.int .i64 (n:Int),.int .i64 0,.int .i64 0,.int .i64 0,.bool false,.slice none 0 0]) 1
     [.int .i64 (Ob.jX (some hd)).1.1,.int .i64 (Ob.jX (some hd)).1.2.1,.int .i64 (Ob.jX (some hd)).1.2.2.1,.bool (Ob.jX (some hd)).1.2.2.2.1]=[i64 n,i64 hd.k,i64 hd.c,i64 ln,.bool hd.f,.slice none 0 0]:=by rw[←hln2];rfl
   rw[e8];refine aT bL tk rfl<|Tr.cg 1<|Tr.take (A:=au _ [i64 n,i64 hd.k,i64 hd.c,i64 ln,.bool hd.f,.slice _ 0 0]) tk ?_;refine aM (fun m u M=>(fun(j:Int)=>∃q:av,M=au b8 [i64 n,i64 hd.k,i64 hd.c,i64 ln,.bool hd.f,.slice q.a q.n q.c]::aw q 1 (((List.range j.toNat).map fun i:Nat=>(Ob.get S n i).1).map i64)::dp p ps pt S cs::aw t 6 (l.flatMap jQ)::star (l.map yk)::R∧
     0≤j∧j≤ln∧m=ln-j.toNat∧q.n=j.toNat) u.1) ln ?_ ?_;·grind
   ·rintro m ⟨(j:Int),⟨⟩⟩ M ⟨q,rfl,j0,j1,rfl,hq⟩ Y hY;refine ag (fun h2=>?_) (fun h2=>?_)
    ·replace h2:j<(ln:Int):=oT h2;apply cE (si p _ _ S _ hw n j);refine iL<|aq fun b=>eu (x:=⟨oA b,1,1⟩) (ys:=[i64 (Ob.get S n j).1]) bJ tk (Rd.cl tk rfl rfl) rfl eV eV fun r hr=>cz (off:=5) bL tk bu rfl ?_;have e:((List.range j.toNat).map fun i:Nat=>(Ob.get S n i).1).map i64++[i64 (Ob.get S n j).1]=((List.range (j+1).toNat).map fun i:Nat=>(Ob.get S n i).1).map i64:=by rw[show(j+1).toNat=j.toNat+1 by omega,List.range_succ,List.map_append,List.map_append];grind
     rw[e];refine tD (au b [i64 (Ob.get S n j).1]) ?_;rw[bG];exact hY _ _ _ ae ⟨r,rfl,bq,bq,rfl,eV⟩
    ·replace h2:¬j<(ln:Int):=oF h2;have hjl:j.toNat=ln:=by omega
     rw[hjl]at hq⊢;refine iG<|aq fun b9=>?_;refine eu (x:=⟨oA b9,1,1⟩) (ys:=[i64 n,i64 hd.k,i64 hd.c,i64 ln,.bool hd.f,.slice q.a q.n q.c]) xp tk (Rd.cl tk rfl rfl) rfl eV eV fun r hr=>?_;have hat:Ob.jh S n=⟨n,hd,(List.range ln).map fun i:Nat=>(Ob.get S n i).1⟩:=by unfold Ob.jh;grind
     have hfl:l.flatMap jQ++[i64 n,i64 hd.k,i64 hd.c,i64 ln,.bool hd.f,.slice q.a q.n q.c]=(l++[(Ob.jh S n,q)]).flatMap jQ:=by rw[List.flatMap_append,List.flatMap_cons,List.flatMap_nil,List.append_nil,hat];simp only[jQ,hln2]
     rw[hfl];refine Tr.imp (A:=star (l.map _)) (A':=star ((l++([]:List _)).map yk)) tk bu ?_;have hw2:((List.range ln).map fun i:Nat=>(Ob.get S n i).1)=(Ob.jh S n).ws:=by rw[hat]
     rw[hw2];refine Tr.close (A:=star _) ar (fun h H=>dR (P:=yk) (x:=(Ob.jh S n,q)) h H)<|tD (au _ [i64 n,i64 hd.k,i64 hd.c,i64 ln,.bool hd.f,.slice _ _ q.c]) ?_;refine tD (au _ [i64 n,i64 hd.k,i64 hd.c,i64 ln,.bool hd.f,.slice _ _ q.c]) ?_;refine Tr.take (A:=aw r 6 _) tk ?_;rw[bG];refine hX ((Sp.each S).length-(i+1).toNat) _ _ ae ⟨l++[(Ob.jh S n,q)],rfl,bq,bq,rfl,eV,?_,?_⟩;·grind
     grind
  ·replace h:¬i<(s.n:Int):=oF h;have hie:i.toNat=(Sp.each S).length:=by omega
   rw[hie,List.take_length]at hl;have htl:t.n=(Ob.eR S).length:=by rw[htn,hie];simp[Ob.eR]
   exact Tr.close ar (pL.cl htl hl hln)<|rT ⟨rfl,htl⟩
theorem C2(p hp ps pt:Nat)(S:aJ)(cs:List aX)(hw:aY S cs)(rows:List (List Int))(i:Int)(h':Qu.has rows i=true)(hk:Qu.Lk S (Qu.row rows i))(hn:(Qu.row rows i).length≤2^30):
  Gl.Spec ρ Zp 141 [pA p,i64 i] [db p hp rows,dp hp ps pt S cs] SE
  fun r M=>(∃s:av,r=(s,0,())∧s.n=(Qu.row rows i).length∧M=[aw s 1 ((Qu.row rows i).map i64),db p hp rows,dp hp ps pt S cs]):=by
 refine So (F.queue.de.List.calls _ i) fun R=>cE (qQ p _ _ i)<|ak (by rw[h'];rfl) ?_;obtain⟨hi0,hi1⟩:=jo h';have hrow:rows.getD i.toNat []=Qu.row rows i:=rfl;refine af (db.op tk fun s hs=>?_);refine iL<|bD tk hi0 ae fun a0 ha=>cw ha tk fX (nU hi1).1 ?_;rw[hrow];refine tC (db.cl hs)<|Tr.cg 1 ?_;generalize hq:Qu.row rows i=q at*;apply aM (I:=fun n st M=>∃(pre r:List Int) (t:av),q=pre++r∧n=r.length∧st=(t,r.headD 0,())∧t.n=pre.length∧M=aw t 1 (pre.map i64)::db p hp rows::dp hp ps pt S cs::R) q.length ⟨[],q,_,rfl,rfl,rfl,rfl,rfl⟩;rintro n _ _ ⟨pre,r,t,he,rfl,rfl,ht,rfl⟩ X hX;cases r with
 |nil=>refine bF ?_;rw[List.append_nil]at he;subst he;exact rT ⟨t,rfl,ht,rfl⟩
 |cons a r=>
  rw[he]at hk;obtain⟨h0,hg⟩:=Qu.Lk.get hk;refine bg (by simpa using h0) (aq fun b=>?_);refine eu (s:=t) (x:=⟨oA b,1,1⟩) (ys:=[i64 a]) bJ tk (Rd.cl tk rfl rfl) rfl eV eV fun r2 hr2=>tD (au b [i64 a]) ?_;refine af (db.op tk fun s hs=>?_);refine iL<|tC (db.cl hs) ?_;apply cE (si _ _ _ S _ hw a 2);rw[hg];refine bF ?_;have e:pre.map i64++[i64 a]=(pre++[a]).map i64:=by simp
  rw[e];refine tP [aw _ 1 _,db p _ rows,dp _ _ _ S cs] (hX _ _ _ bu ⟨pre++[a],r,r2,eV,rfl,rfl,eV,rfl⟩)
theorem Al(i:Pl)(ps pt:Nat)(x:Rt)(hw:aY x.S x.cs)(hr:uS x.S x.rows):Gl.Spec ρ Zp 70 [pA i.p] [au i.p (i.cs x),eL i.r i.b x.rows x.bb,dp i.b ps pt x.S x.cs] RS
  fun r M=>∃l:List nM,l.map (·.2)=x.rows∧(∀y∈l,y.1.n=y.2.length∧y.1.n≤y.1.c)∧r.n=x.rows.length∧M=[aw r 1 (l.map gz),star (l.map lL),au i.p (i.cs x),eL i.r i.b x.rows x.bb,dp i.b ps pt x.S x.cs]:=by
 refine So (F.gc.aQ.om.calls _) fun R=>?_;unfold F.gc.aQ.om;try simp only[c8,c9]
 refine af<|lP _ 0 _ (af (eL.op tk fun q=>?_));refine iL<|cE (mL q _ _) ?_;try simp only[c8,c9]
 refine tC (eL.cl (p:=i.r) (q:=q) (hp:=i.b) (rows:=x.rows) (n:=x.bb))<|Tr.cg 1<|Tr.close (A:=star (([]:List _).map lL)) .nil (fun h H=>H) ?_;refine tP [aw ⟨none,0,0⟩ 1 (([]:List nM).map gz),star _,au _ _,eL _ _ _ x.bb,dp i.b ps pt _ x.cs] ?_;refine aM (I:=fun m u M=>∃(j:Nat) (t:av) (l:List nM),j≤x.rows.length∧m=x.rows.length-j∧u=(t,(j:Int),())∧l.map (·.2)=x.rows.take j∧(∀y∈l,y.1.n=y.2.length∧y.1.n≤y.1.c)∧t.n=j∧
  M=[aw t 1 (l.map gz),star (l.map lL),au i.p (i.cs x),eL i.r i.b x.rows x.bb,dp i.b ps pt x.S x.cs]++R) x.rows.length ⟨0,_,[],by omega,rfl,rfl,rfl,(fun y hy=>by cases hy),rfl,rfl⟩ ?_;rintro m _ _ ⟨j,t,l,hj,rfl,rfl,hl,hy,ht,rfl⟩ X hX;try simp only[c8,c9]
 refine ag (fun hc=>?_) (fun hc=>?_)
 ·have hj':(j:Int)<(x.rows.length:Nat):=oT hc;have hjl:j<x.rows.length:=by omega
  obtain⟨r1,r2,r3⟩:=FY hjl;refine af<|lP _ 0 _ (af (eL.op tk fun q=>?_));refine iL ?_;have hlen:=hr.len _ r2;refine ai (C2 q _ ps _ _ _ hw _ j r1 (hr.lk _ r2) ae) ar ?_;rintro _ _ ⟨s,rfl,hs,rfl⟩;try simp only[c8,c9]
  refine tC (eL.cl (p:=i.r) (q:=q) (hp:=i.b) (rows:=x.rows) (n:=x.bb))<|aq fun b=>?_;have hfew:=hr.sZ;refine eu (s:=t) (x:=⟨oA b,1,1⟩) (ys:=[.slice s.a s.n s.c]) w8 tk (Rd.cl tk rfl rfl) rfl (by grind) (by grind) fun v hv=>tD (au b [.slice s.a s.n s.c]) ?_;refine Tr.fA (s:=s) (m:=1) (xs:=(Qu.row x.rows j).map i64) tk fun _ hcap=>?_;rw[wrap64 (by omega) (by omega)];have e1:l.map gz++[.slice s.a s.n s.c]=(l++[(s,Qu.row x.rows j)]).map gz:=by rw[List.map_append];rfl
  rw[e1];refine Tr.close (M:=[star (l.map lL),aw s 1 ((Qu.row x.rows j).map i64)]) (A:=star ((l++[(s,Qu.row x.rows j)]).map lL)) ar (fun h H=>by rw[List.map_append];exact iU H)<|tP [aw v 1 _,star _,au _ _,eL _ _ _ x.bb,dp _ _ _ _ x.cs]<|hX _ _ _ ae ⟨j+1,v,l++[(s,Qu.row _ j)],ae,rfl,rfl,?_,?_,by rw[hv,ht],rfl⟩;·simp_all
  grind
 ·have hj':¬(j:Int)<(x.rows.length:Nat):=oF hc;have hjl:j=x.rows.length:=by omega
  rw[List.take_of_length_le ae]at hl;exact rT ⟨l,hl,hy,by rw[ht,hjl],rfl⟩
theorem Ik{M M':List aD}{p ps pt:Nat}{S:aJ}{cs:List aX}{a:Addr}{f:Option Addr→Tree}(t:Take M (dp p ps pt S cs) M')(ha:a=⟨p,0,none⟩)(h:Tr ρ0 ρ L (f (oA ps)) Post):Tr ρ0 ρ L (xY (Sat ρ M) .ptr a f) Post:=
 fun hle w hw=>⟨oA ps,fun w' hw'=>by have h1:Sat ρ (star [au p [pA ps,pA pt],aP ps S,cA pt cs]::M') w':=hw'.perm t.perm;obtain⟨ty,hb⟩:=Sat.cl h1.uT;rw[ha];exact cell_of hb rfl,h hle w hw⟩
theorem GV:zc Zp 46=[.slice none 0 0,.slice none 0 0,.slice none 0 0,.slice none 0 0,.slice none 0 0,.slice none 0 0,i64 0,i64 0,i64 0,i64 0]:=by kernel_rfl
abbrev Ho:List LK:=[.slice,.slice,.slice,.slice,.slice,.slice,kI,kI,kI,kI]
theorem Iu(i:Pl)(x:Rt)(H:x.Ok):Gl.Spec ρ Zp 20 [pA i.p] (i.A x) (.one (.g Ho))
  fun r M=>∃(so sh sr sq sf sp:av) (l:List nM),r=(so,sh,sr,sq,sf,sp,x.ck,x.bb,x.used,x.rn,())∧
   (so.n=(Ob.eR x.S).length∧sh.n=(Hn.all x.hs).length∧sr.n=16∧sq.n=x.rows.length∧sf.n=x.wa.length∧sp.n=x.pe.length)∧
   l.map (·.2)=x.rows∧(∀y∈l,y.1.n=y.2.length∧y.1.n≤y.1.c)∧
   M=[pL so (Ob.eR x.S),aw sh 2 ((Hn.all x.hs).flatMap jb),aw sr 1 (x.ro.map i64),aw sq 1 (l.map gz),star (l.map lL),aw sf 1 (x.wa.map i64),aw sp 1 (x.pe.map i64)]++i.A x:=by refine So (F.gc.aQ.View.calls _) fun R=>?_;have hwa:=H.wa;have hpe:=H.pe;refine aq fun b1=>?_;rw[GV];refine bF<|aF.MC tk fun ps pt=>aA (aK [au i.p _,dp _ _ _ _ x.cs] ar ?_);refine af (hP _ 4 _ ?_);refine af (hP _ 1 _ ?_);refine af (hP _ 2 _ ?_);refine af (hP _ 3 _ ?_);refine af (hP _ 3 _ ?_);refine af (hI _ 8 _ ?_);refine af (hP _ 0 _ ?_);refine af (hP _ 4 _ ?_);refine af (Ik tk bL ?_);refine af (hI _ 9 _ ?_);refine ai (sP _ _ _ _ _ H.hw) ar ?_;rintro so _ ⟨rfl,hso⟩;refine cK<|ai (xe _ H.hs) ar ?_;rintro sh _ ⟨hsh,rfl⟩;refine cK<|ai (tL _ _ H.ro) ar ?_;rintro sr _ ⟨hsr,rfl⟩;refine cK<|ai (Al i _ _ x H.hw H.rows) ar ?_;rintro sq _ ⟨l,hl,hly,hsq,rfl⟩;refine cK<|ai (uU _ _ x.wa _ ae) ar ?_;rintro sf _ ⟨hsf,rfl⟩;refine cK<|ai (lV _ _ _ x.pe ae) ar ?_;rintro sp _ ⟨hsp,rfl⟩;refine cK<|cE (BC _ _ _ _) ?_;refine cK<|dp.op tk<|cE (pO _ _ H.hw.wf) ?_;refine tC (dp.cl) ?_;refine cK<|iT ?_;exact aN (x:=(so,sh,sr,sq,sf,sp,x.ck,x.bb,x.used,x.rn,())) [] rfl tk rfl<|dp.ME tk<|rT ⟨so,sh,sr,sq,sf,sp,l,rfl,⟨hso,hsh,hsr,hsq,hsf,hsp⟩,hl,hly,rfl⟩
def bX(p:Nat)(hs:List Hn.Slot):aD:=fun h=>∃i:av×av,star [au p [bY i.1,bY i.2],aw i.1 1 ((hs.map (·.2)).map i64),aw i.2 1 ((hs.map (·.1)).map i64)] h
theorem bX.op{p:Nat}{hs:List Hn.Slot}(t:Take L (bX p hs) L')(h:∀a k:av,Tr ρ0 ρ (au p [bY a,bY k]::aw a 1 ((hs.map (·.2)).map i64)::aw k 1 ((hs.map (·.1)).map i64)::L') T Post):Tr ρ0 ρ L T Post:=
 Tr.iW (M:=fun i:av×av=>[au p [bY i.1,bY i.2],aw i.1 1 ((hs.map (·.2)).map i64),aw i.2 1 ((hs.map (·.1)).map i64)]) (c:=fun _=>True) t (fun _ ⟨i,h⟩=>⟨i,trivial,h⟩) (fun i _=>h i.1 i.2)
theorem bX.cl{p:Nat}{hs:List Hn.Slot}{a k:av}(h:HP)(H:star [au p [bY a,bY k],aw a 1 ((hs.map (·.2)).map i64),aw k 1 ((hs.map (·.1)).map i64)] h):bX p hs h:=⟨(a,k),H⟩
namespace Hn
theorem Ie(hs:List Slot)(i:Nat):(hs.map (·.1)).getD i 0=(bM hs i).1:=by unfold bM;grind
theorem Gh(hs:List Slot)(i:Nat):(hs.map (·.2)).getD i 0=(bM hs i).2:=by unfold bM;grind
theorem L0(hs:List Slot)(i:Nat)(y:Int):(hs.set i ((bM hs i).1,y)).map (·.1)=hs.map (·.1):=by
 apply List.ext_getElem?;intro j;rw[List.getElem?_map,List.getElem?_map,List.getElem?_set];by_cases e:i=j
 ·by_cases h:i<hs.length;·unfold bM;grind
  grind
 ·rw[if_neg e]
end Hn
theorem JV:Gl.Spec ρ Zp 40 [] [] (.one (.l .ptr)) fun r M=>∃b,r=oA b∧M=[bX b (List.replicate 512 (0,0))]:=by
 refine So F.aa.lG.calls fun R=>?_;have m1:∀{ρ0 ρ:FR} {L:List aD} {Post:Value→List aD→Prop} {k:RT (.one (.l .slice))→Tree},(∀b,Tr ρ0 ρ (aw ⟨oA b,(512:Int).toNat,(512:Int).toNat⟩ 1 (List.replicate (512:Int).toNat (Value.cells (.int .i64 0)).toList).flatten::L) (k ⟨oA b,(512:Int).toNat,(512:Int).toNat⟩) Post)→
   Tr ρ0 ρ L (cM Zp (Instr.makeSlice 43 (.int .i64 512) (.int .i64 512)) (.one (.l .slice)) k) Post:=fun h=>
  mg (e:=3) (m:=1) (bytes:=8) (z:= .int .i64 0) (by kernel_rfl) (by kernel_rfl) rfl (by omega) (by omega) (by omega) h;have ez:(List.replicate (512:Int).toNat (Value.cells (.int .i64 0)).toList).flatten=(List.replicate 512 0).map i64:=by kernel_rfl
 have cl:∀(b:Nat) (a k:av) (h:HP),star [au b [bY a,bY k],aw a 1 ((List.replicate 512 (0:Int)).map i64),aw k 1 ((List.replicate 512 (0:Int)).map i64)] h→bX b (List.replicate 512 (0,0)) h:=fun b a k h H=>by apply bX.cl (a:=a) (k:=k) h;rw[List.map_replicate,List.map_replicate (f:=fun x:Hn.Slot=>x.1)];exact H
 refine aA (aK [] .nil (cr ?_ ?_));·refine m1 fun b1=>m1 fun b2=>?_;rw[ez];exact aq fun b=>tC (cl b ⟨oA b1,(512:Int).toNat,(512:Int).toNat⟩ ⟨oA b2,(512:Int).toNat,(512:Int).toNat⟩)<|rT ⟨b,rfl,rfl⟩
 ·refine m1 fun b1=>aS .nil (m1 fun b2=>?_);rw[ez];exact aq fun b=>tC (cl b ⟨oA b2,(512:Int).toNat,(512:Int).toNat⟩ ⟨oA b1,(512:Int).toNat,(512:Int).toNat⟩)<|rT ⟨b,rfl,rfl⟩
theorem I7(p:Nat){hs:List Hn.Slot}(H:Hn.Ok hs)(a:Int):Gl.Spec ρ Zp 125 [pA p,i64 a] [bX p hs] G2
  fun r M=>r=((Hn.iD hs a).1,(Hn.iD hs a).2,())∧M=[bX p (Hn.gH hs a)]:=by
 refine So (F.aa.aW.tK.calls _ a) fun R=>?_;have hl:=H.len;refine aq fun b1=>?_;rw[gk];refine ag (fun hc=>?_) (fun hc=>?_)
 ·have hc:=oT hc;have e1:Hn.iD hs a=(0,1):=by unfold Hn.iD;rw[if_pos hc]
  have e2:Hn.gH hs a=hs:=by unfold Hn.gH;rw[if_pos hc]
  rw[e1,e2];refine iT ?_;exact aN (x:=(_,_,())) [] rfl tk rfl<|rT
 have hc:=oF hc;refine bX.op tk fun sa sk=>Tr.fu tk fun hna=>Tr.fu (s:=sk) tk fun hnk=>?_;rw[List.length_map]at hna hnk;refine tP [au p [bY sa,bY sk],aw _ 1 _,aw _ 1 _,au _ [.int _ 0,.int _ 0]]<|aM (I:=fun n s M=>∃k:Nat,k≤512∧n=512-k∧s=((k:Int),())∧(∀j,j<k→(Hn.bM hs j).2≠0)∧M=[au p [bY sa,bY sk],aw sa 1 _,aw sk 1 _,au b1 [.int .i64 0,.int .i64 0]]++R) 512 ⟨0,ae,rfl,rfl,fun j hj=>by omega,rfl⟩ ?_;rintro n _ _ ⟨k,hk,rfl,rfl,hz,rfl⟩ X hX;refine af<|iL<|ag (fun hc2=>?_) (fun hc2=>?_)
 ·have hk':(k:Int)<sa.n:=oT hc2;refine af<|iL<|bt tk ae (by rw[List.length_map];omega) ?_;rw[Int.toNat_natCast,Hn.Gh,bG (n:=(k:Int)+1)];refine ag (fun h0=>?_) (fun h0=>?_)
  ·have h0:(Hn.bM hs k).2=0:=by simpa using h0
   have hf:=Hn.xP ae h0 hz;have e1:Hn.iD hs a=(Hn.told hs k,0):=by unfold Hn.iD;rw[if_neg hc,hf]
   have e2:Hn.gH hs a=hs.set k ((Hn.bM hs k).1,a):=by unfold Hn.gH;rw[if_neg hc,hf]
   have ht:=H.get k;refine af<|iL<|dr tk ae (by rw[List.length_map];omega)<|af<|iL ?_;apply bt tk ae (by rw[List.length_map];omega);rw[Int.toNat_natCast,Hn.Ie,wrap64 (n:=(Hn.bM hs k).1+1) ae ae,wrap64 (n:=512*((Hn.bM hs k).1+1)) ae ae,bG];refine iT ?_;have es:(hs.map (·.2)).set k a=(hs.set k ((Hn.bM hs k).1,a)).map (·.2):=by rw[List.map_set]
   rw[es,e1,e2];exact aN (x:=(Hn.told _ k,_,())) [] rfl tk rfl<|Tr.close (M:=[au p [bY sa,bY sk],aw _ 1 _,aw _ 1 _]) ar (fun h H=>bX.cl (p:=p) (hs:=hs.set k ((Hn.bM hs k).1,a)) h (by rw[Hn.L0];exact H))<|rT
  ·have h0:(Hn.bM hs k).2≠0:=by simpa using h0
   refine hX _ _ _ ae ⟨k+1,ae,rfl,rfl,fun j hj=>?_,rfl⟩;by_cases e:j=k;·subst e;exact h0
   ·exact hz j ae
 ·have hk':¬(k:Int)<sa.n:=oF hc2;have hf:=Hn.vk fun j hj=>hz j ae;have e1:Hn.iD hs a=(0,3):=by unfold Hn.iD;rw[if_neg hc,hf]
  have e2:Hn.gH hs a=hs:=by unfold Hn.gH;rw[if_neg hc,hf]
  rw[e1,e2];refine iT ?_;refine aN (x:=(_,_,())) [] rfl tk rfl<|tC (bX.cl) ?_;exact rT
theorem Hn.yr{hs:List Hn.Slot}(H:Hn.Ok hs){x:Int}(hx:¬x<512)(hx2:x<9223372036854775808):Hn.find hs x=if(Hn.bM hs (x%512).toNat).2≠0∧x/512=(Hn.bM hs (x%512).toNat).1+1 then some (x%512).toNat else none:=by
 unfold Hn.find;rw[if_neg hx];have e:Hn.told hs (x%512).toNat=x↔x/512=(Hn.bM hs (x%512).toNat).1+1:=by unfold Hn.told;omega
 simp only[e]
theorem BZ(p:Nat){hs:List Hn.Slot}(H:Hn.Ok hs)(x:Int)(hx2:x<9223372036854775808):Gl.Spec ρ Zp 42 [pA p,i64 x] [bX p hs] G2
  fun r M=>r=((Hn.held hs x).1,(Hn.held hs x).2,())∧M=[bX p hs]:=by
 refine So (F.aa.aW.AG.calls _ x) fun R=>?_;have hl:=H.len;refine aq fun b1=>?_;rw[gk];refine ag (fun hc=>?_) (fun hc=>?_)
 ·have hc:=oT hc;have e1:Hn.held hs x=(0,6):=by unfold Hn.held Hn.find;rw[if_pos hc]
  rw[e1];refine iT ?_;exact aN (x:=(_,_,())) [] rfl tk rfl<|rT
 have hc:=oF hc;refine bX.op tk fun sa sk=>Tr.fu tk fun hna=>Tr.fu (s:=sk) tk fun hnk=>bm bd (af ?_);refine iL ?_;have em:Int.tmod x 512=x%512:=Int.tmod_eq_emod_of_nonneg ae;have ed:Int.tdiv x 512=x/512:=Int.tdiv_eq_ediv_of_nonneg ae;rw[em,ed];have hfd:=Hn.yr H hc hx2;have ht:=H.get (x%512).toNat;apply bt tk ae (by rw[List.length_map];omega);rw[Hn.Gh];refine ag (fun h0=>?_) (fun h0=>?_)
 ·have h0:(Hn.bM hs (x%512).toNat).2=0:=by simpa using h0
  rw[if_neg (fun g=>g.1 h0)]at hfd;have e1:Hn.held hs x=(0,6):=by unfold Hn.held;rw[hfd]
  rw[e1];refine iT ?_;refine aN (x:=(_,_,())) [] rfl tk rfl<|tC (bX.cl) ?_;exact rT
 have h0:(Hn.bM hs (x%512).toNat).2≠0:=by simpa using h0
 refine bm bd (af ?_);refine iL ?_;apply bt tk ae (by rw[List.length_map];omega);rw[Hn.Ie,wrap64 (n:=x/512) ae ae,wrap64 (n:=(Hn.bM hs (x%512).toNat).1+1) ae ae];refine ag (fun h1=>?_) (fun h1=>?_)
 ·have h1:x/512≠(Hn.bM hs (x%512).toNat).1+1:=by simpa using h1
  rw[if_neg (fun g=>h1 g.2)]at hfd;have e1:Hn.held hs x=(0,6):=by unfold Hn.held;rw[hfd]
  rw[e1];refine iT ?_;refine aN (x:=(_,_,())) [] rfl tk rfl<|tC (bX.cl) ?_;exact rT
 ·have h1:x/512=(Hn.bM hs (x%512).toNat).1+1:=by simpa using h1
  rw[if_pos ⟨h0,h1⟩]at hfd;have e1:Hn.held hs x=((Hn.bM hs (x%512).toNat).2,0):=by unfold Hn.held;rw[hfd]
  rw[e1];refine af<|iL<|bt tk ae (by rw[List.length_map];omega) ?_;rw[Hn.Gh];refine iT ?_;refine aN (x:=((Hn.bM _ (x%512).toNat).2,_,())) [] rfl tk rfl<|tC (bX.cl) ?_;exact rT
theorem HK(p:Nat){hs:List Hn.Slot}(H:Hn.Ok hs)(x:Int)(hx2:x<9223372036854775808):Gl.Spec ρ Zp 50 [pA p,i64 x] [bX p hs] R1
  fun r M=>r=Hn.nF hs x∧M=[bX p (Hn.kP hs x)]:=by
 refine So (F.aa.aW.Drop.calls _ x) fun R=>?_;have hl:=H.len;refine cE (BZ p H x hx2)<|aq fun b2=>?_;rw[gk];refine iT ?_;cases hf:Hn.find hs x with
 |none=>
  have e1:Hn.held hs x=(0,6):=by unfold Hn.held;rw[hf]
  have e2:Hn.nF hs x=6:=by unfold Hn.nF;rw[hf]
  have e3:Hn.kP hs x=hs:=by unfold Hn.kP;rw[hf]
  rw[e1,e2,e3];exact lI _ 1 6<|bF<|lI _ 1 6<|rT
 |some i=>
  have e1:(Hn.held hs x).2=0:=by unfold Hn.held;rw[hf]
  have e2:Hn.nF hs x=0:=by unfold Hn.nF;rw[hf]
  have e3:Hn.kP hs x=hs.set i ((Hn.bM hs i).1+1,0):=by unfold Hn.kP;rw[hf]
  have hx:¬x<512:=fun g=>by unfold Hn.find at hf;rw[if_pos g]at hf;cases hf
  have hi:i=(x%512).toNat:=by
   rw[Hn.yr H hx hx2]at hf;split at hf;·injection hf with hf;exact hf.symm
   ·cases hf
  have ht:=H.get i;have em:Int.tmod x 512=x%512:=Int.tmod_eq_emod_of_nonneg ae;rw[e1,e2,e3,em];refine lI _ 1 0<|bT<|bX.op tk fun sa sk=>Tr.fu tk fun hna=>Tr.fu (s:=sk) tk fun hnk=>bm bd (af ?_);refine iL<|dr tk ae (by rw[List.length_map];omega) (af ?_);refine iL ?_;apply bt tk ae (by rw[List.length_map];omega);rw[Hn.Ie,←hi,bG (n:=(Hn.bM hs i).1+1)];apply dr tk ae (by rw[List.length_map];omega);rw[←hi];have es:(hs.map (·.2)).set i 0=(hs.set i ((Hn.bM hs i).1+1,0)).map (·.2):=by rw[List.map_set]
  have et:(hs.map (·.1)).set i ((Hn.bM hs i).1+1)=(hs.set i ((Hn.bM hs i).1+1,0)).map (·.1):=by rw[List.map_set]
  rw[es,et];refine tC (bX.cl) ?_;exact lI _ 1 0<|rT
theorem BI(p:Nat){hs:List Hn.Slot}(H:Hn.Ok hs):Gl.Spec ρ Zp 76 [pA p] [bX p hs] RS
  fun r M=>r.n=(Hn.all hs).length∧M=[aw r 2 ((Hn.all hs).flatMap jb),bX p hs]:=by
 refine So (F.aa.aW.sW.calls _) fun R=>?_;have hl:=H.len;refine bX.op tk fun sa sk=>Tr.fu tk fun hna=>Tr.fu (s:=sk) tk fun hnk=>?_;rw[List.length_map]at hna hnk;refine Tr.cg 2<|tP [aw ⟨none,0,0⟩ 2 [],au p [bY sa,bY sk],aw _ 1 _,aw _ 1 _]<|aM (I:=fun n s M=>∃(k:Nat) (t:av),k≤512∧n=512-k∧s=(t,(k:Int),())∧t.n=((List.range k).flatMap (Hn.jM hs)).length∧M=[aw t 2 (((List.range k).flatMap (Hn.jM hs)).flatMap jb),au p [bY sa,bY sk],aw sa 1 _,aw sk 1 _]++R) 512 ⟨0,_,ae,rfl,rfl,rfl,rfl⟩ ?_;rintro n _ _ ⟨k,t,hk,rfl,rfl,ht,rfl⟩ X hX;dsimp only;have hln:=Hn.gp (hs:=hs) k;refine af<|iL<|ag (fun hc=>?_) (fun hc=>?_)
 ·have hk':(k:Int)<sa.n:=oT hc;have htn:=H.get k;refine af<|iL<|bt tk ae (by rw[List.length_map];omega) ?_;rw[Int.toNat_natCast,Hn.Gh,bG (n:=(k:Int)+1)];have es:(List.range (k+1)).flatMap (Hn.jM hs)=(List.range k).flatMap (Hn.jM hs)++Hn.jM hs k:=by rw[List.range_succ,List.flatMap_append,List.flatMap_singleton]
  refine ag (fun h0=>?_) (fun h0=>?_)
  ·have h0':(Hn.bM hs k).2≠0:=by simpa using h0
   refine aA (aK [au p [bY sa,bY sk],aw _ 1 _,aw _ 1 _] ar ?_);refine af (hS p 1 _ ?_);refine tU tk tk ae (by rw[List.length_map];omega)<|af (hS p 0 _ ?_);apply tU tk tk ae (by rw[List.length_map];omega);rw[Int.toNat_natCast,Hn.Ie,Hn.Gh,wrap64 (n:=(Hn.bM hs k).1+1) ae ae,wrap64 (n:=512*((Hn.bM hs k).1+1)) ae ae,bG];refine aq fun b=>eu (x:=⟨oA b,1,1⟩) (ys:=[i64 (Hn.told _ k),i64 (Hn.bM _ k).2]) Cw tk (Rd.cl tk rfl rfl) rfl (by dsimp only;omega) (by dsimp only;omega) fun r hr=>tD (au b [i64 _,i64 (Hn.bM _ k).2]) ?_;have e1:Hn.jM hs k=[(Hn.told hs k,(Hn.bM hs k).2)]:=by unfold Hn.jM;rw[if_pos h0']
   refine hX _ _ _ ae ⟨k+1,r,ae,rfl,rfl,?_,?_⟩;·rw[hr,es,e1,List.length_append,ht];rfl
   ·rw[es,e1,List.flatMap_append];rfl
  ·have h0':(Hn.bM hs k).2=0:=by simpa using h0
   have e1:Hn.jM hs k=[]:=by unfold Hn.jM;rw[if_neg fun h=>h h0']
   refine hX _ _ _ ae ⟨k+1,t,ae,rfl,rfl,?_,?_⟩;·rw[es,e1,List.append_nil];exact ht
   ·rw[es,e1,List.append_nil]
 ·have hk':¬(k:Int)<sa.n:=oF hc;have hk5:k=512:=by omega
  subst hk5;have e:Hn.all hs=(List.range 512).flatMap (Hn.jM hs):=by unfold Hn.all;rw[hl]
  rw[e];refine tC (bX.cl) ?_;exact rT ⟨ht,rfl⟩
theorem Gg(c k:Int)(hc:c<9223372036854775808)(hk:k<9223372036854775808)(b:Nat):Gl.Spec ρ Zp 61 [i64 c,.slice (oA b) 1 1] [au b [i64 k]] R1
  fun r M=>r=Sf.later c k∧M=[au b [i64 k]]:=by
 refine So (F.aa.oH.calls c ⟨oA b,1,1⟩) fun R=>?_;obtain⟨c0,c1⟩:=iK hc;obtain⟨k0,k1⟩:=iK hk;apply aM (I:=fun m u M=>M=au b [i64 k]::R∧((m=1∧u=(Sf.none c,0,()))∨(m=0∧u=(Sf.later c k,1,())))) 1 ⟨rfl,.inl ⟨rfl,rfl⟩⟩;rintro m _ _ ⟨rfl,⟨rfl,rfl⟩|⟨rfl,rfl⟩⟩ X hX;try dsimp only
 ·try simp only[c8,c9]
  refine bg rfl<|jg (A:=[au b [i64 k]]) (s:=⟨oA b,1,1⟩) (xs:=[k]) (Rd.cl .here rfl rfl) ar (by omega) (by rw[List.length_singleton];omega) ?_;rw[show List.getD [k] (0:Int).toNat 0=k from rfl,show(if k>0 then k else 0)=Sf.none k from rfl,wrap64 (n:=9223372036854775807-Sf.none c) (by omega) (by omega)];refine ag (fun h=>?_) (fun h=>?_)
  ·have h:Sf.none k>9223372036854775807-Sf.none c:=oT h;have e:Sf.later c k=9223372036854775807:=by unfold Sf.later;rw[Int.min_def];split<;>omega
   rw[e];exact rT
  ·have h:=oF h;have e:Sf.later c k=Sf.none c+Sf.none k:=by unfold Sf.later;rw[Int.min_def];split<;>omega
   rw[bG (n:=Sf.none c+Sf.none k),←e];exact hX 0 _ _ ae ⟨rfl,.inr ⟨rfl,rfl⟩⟩
 ·exact bF<|rT
theorem Mg.EY{l:List Int}{x:Int}:∀{k:Nat},k≤l.length→(∀j,j<k→l.getD j 0<x)→Mg.oQ l x=l.take k++Mg.oQ (l.drop k) x:=fun{k}=>by
 induction k generalizing l with
 |zero=>intro _ _;rfl
 |succ k ih=>
  intro hk h;match l,hk with
  |y::l,hk=>have h0:=h 0 ae;have h0:y<x:=h0;have:=ih (by simpa using hk) fun j hj=>h (j+1) ae;show Mg.oQ (y::l) x=y::(l.take k++Mg.oQ (l.drop k) x);rw[←this];show(if y<x then y::Mg.oQ l x else _)=_;rw[if_pos h0]
theorem I3(s:av)(l:List Int)(hl:l.length<2^38)(x:Int):Gl.Spec ρ Zp 240 [bY s,i64 x] [aw s 1 (l.map i64)] RS
  fun r M=>r.n=(Mg.oQ l x).length∧M=[aw r 1 ((Mg.oQ l x).map i64)]:=by
 refine So (F.aa.with.calls s x) fun R=>Tr.fA tk fun hn hcap=>?_;rw[List.length_map,Nat.mul_one]at hn;refine iV (fun u M=>∃k:Nat,u=((k:Int),())∧k≤l.length∧(∀j,j<k→l.getD j 0<x)∧(k<l.length→¬l.getD k 0<x)∧M=aw s 1 (l.map i64)::R) ?_ ?_
 ·rintro _ _ ⟨k,rfl,hk,h1,h2,rfl⟩;refine iV (fun _ M=>(k<l.length→x<l.getD k 0)∧M=aw s 1 (l.map i64)::R) ?_ ?_
  ·rintro _ _ ⟨h3,rfl⟩;have ew:Mg.oQ l x=([]++(l.drop 0).take (k-0))++[x]++(l.drop k).take (l.length-k):=by
    rw[Mg.EY hk h1,List.append_assoc,List.nil_append,List.drop_zero,Nat.sub_zero];congr 1;rw[List.take_of_length_le (by rw[List.length_drop];omega)];rcases Nat.lt_or_ge k l.length with hlt|hge
    ·rw[List.drop_eq_getElem_cons hlt];have e:l.getD k 0=l[k]:=by rw[List.getD_eq_getElem?_getD,List.getElem?_eq_getElem hlt];rfl
     show(if l[k]<x then _ else if l[k]=x then _ else x::l[k]::l.drop (k+1))=_;rw[if_neg ae,if_neg ae];rfl
    ·rw[List.drop_of_length_le hge];rfl
   have e1:((l.drop 0).take (k-0)).length=k:=by simp;omega
   have e2:((l.drop k).take (l.length-k)).length=l.length-k:=by simp
   rw[ew];refine aA (aK [] .nil ?_);refine ei ae ae ae (ei ae ae ae ?_);rw[show(((s.n:Nat):Int)).toNat-((k:Int)).toNat=l.length-k by omega];refine cr ?_ ?_
   ·refine aq fun b8=>Tr.imp (A':=aw ⟨oA b8,0,0⟩ 1 (([]:List _).map i64)) tk (aw.nI rfl)<|cr ?_ ?_;·exact bj (s:=⟨oA b8,0,0⟩) cx tk (Rd.part (lo:=0) (hi:=k) tk ae ae) (by rw[e1];show 0+k<_;omega) fun v1 hv1=>dm bJ tk (by rw[List.nil_append,e1];omega) fun v2 hv2=>bj cx tk (Rd.part (lo:=k) tk ae ae) (by rw[e2,List.length_append,List.nil_append,e1];show k+1+_<_;omega) fun v3 hv3=>tD (aw s 1 _)<|rT ⟨by rw[hv3];simp only[List.length_append],rfl⟩
    ·refine aq fun b13=>bj (s:=⟨oA b8,0,0⟩) cx tk (Rd.part (lo:=0) (hi:=k) tk ae ae) (by rw[e1];show 0+k<_;omega) fun v1 hv1=>bj (x:=⟨oA b13,1,1⟩) (ys:=[x]) cx tk (Rd.cl tk rfl rfl) (by rw[List.nil_append,e1];show k+1<_;omega) fun v2 hv2=>bj cx tk (Rd.part (lo:=k) tk ae ae) (by rw[e2,List.length_append,List.nil_append,e1];show k+1+_<_;omega) fun v3 hv3=>tD (aw s 1 _) ?_;refine tD (au _ [i64 x]) ?_;exact rT ⟨by rw[hv3];simp only[List.length_append],rfl⟩
   ·refine aq fun b17=>aS .nil (aq fun b8=>?_);refine Tr.imp (A':=aw ⟨oA b8,0,0⟩ 1 (([]:List _).map i64)) tk (aw.nI rfl)<|bj (s:=⟨oA b8,0,0⟩) cx tk (Rd.part (lo:=0) (hi:=k) tk ae ae) (by rw[e1];show 0+k<_;omega) fun v1 hv1=>bj (x:=⟨oA b17,1,1⟩) (ys:=[x]) cx tk (Rd.cl tk rfl rfl) (by rw[List.nil_append,e1];show k+1<_;omega) fun v2 hv2=>bj cx tk (Rd.part (lo:=k) tk ae ae) (by rw[e2,List.length_append,List.nil_append,e1];show k+1+_<_;omega) fun v3 hv3=>tD (aw s 1 _) ?_;refine tD (au _ [i64 x]) ?_;exact rT ⟨by rw[hv3];simp only[List.length_append],rfl⟩
  ·intro J hJ;refine ag (fun hc=>?_) (fun hc=>?_)
   ·have hc:(k:Int)<s.n:=oT hc;have hlt:k<l.length:=by omega
    refine bt tk ae ae<|ag (fun h3=>?_) (fun h3=>?_)
    ·have h3:l.getD k 0=x:=by simpa using h3
     have ew:Mg.oQ l x=l:=by
      rw[Mg.EY hk h1];conv=>rhs;rw[←List.take_append_drop k l]
      congr 1;rw[List.drop_eq_getElem_cons hlt];have e:l.getD k 0=l[k]:=by rw[List.getD_eq_getElem?_getD,List.getElem?_eq_getElem hlt];rfl
      rw[e]at h3;show(if l[k]<x then _ else if l[k]=x then l[k]::l.drop (k+1)else _)=_;rw[if_neg ae,if_pos h3]
     rw[ew];exact rT ⟨hn.symm,rfl⟩
    ·have h3:l.getD k 0≠x:=by simpa using h3
     exact hJ () _ ⟨fun _=>by omega,rfl⟩
   ·have hc:¬(k:Int)<s.n:=oF hc;exact hJ () _ ⟨fun g=>by omega,rfl⟩
 ·intro J hJ;apply aM (I:=fun m u M=>∃k:Nat,m=l.length-k∧u=((k:Int),())∧k≤l.length∧(∀j,j<k→l.getD j 0<x)∧M=aw s 1 _::R) l.length ⟨0,rfl,rfl,ae,fun j hj=>by omega,rfl⟩;rintro m _ _ ⟨k,rfl,rfl,hk,h1,rfl⟩ X hX;refine ag (fun hc=>?_) (fun hc=>?_)
  ·have hc:(k:Int)<s.n:=oT hc;refine bt tk ae ae<|ag (fun h3=>?_) (fun h3=>?_)
   ·have h3:=oT h3;rw[bG (n:=(k:Int)+1)];refine hX _ _ _ ae ⟨k+1,rfl,rfl,ae,fun j hj=>?_,rfl⟩;by_cases e:j=k;·subst e;exact h3
    ·exact h1 j ae
   ·have h3:=oF h3;exact hJ _ _ ⟨k,rfl,hk,h1,fun _=>h3,rfl⟩
  ·have hc:¬(k:Int)<s.n:=oF hc;exact hJ _ _ ⟨k,rfl,hk,h1,fun g=>by omega,rfl⟩
theorem Mg.Bu(ls:List (List Int))(r:List Int)(j:Nat)(hj:j<r.length):((ls.flatten++r.take (j+1)).filter fun x=>decide (x>0)).foldl oQ []=if r.getD j 0>0 then oQ (((ls.flatten++r.take j).filter fun x=>decide (x>0)).foldl oQ []) (r.getD j 0)else((ls.flatten++r.take j).filter fun x=>decide (x>0)).foldl oQ []:=by rw[aE 0 hj,←List.append_assoc,List.filter_append,List.foldl_append];grind
theorem Mg.IE(xs:List Int):((xs.filter fun x=>decide (x>0)).foldl oQ []).length≤xs.length:=by have:=Mg.rR [xs];unfold Mg.merge at this;simpa using this
theorem Eo(z:av)(l:List nM)(rz:fx ρ z 1 (l.map gz))(rl:∀x∈l,fx ρ x.1 1 (x.2.map i64))(hl:(l.flatMap (·.2)).length<2^38)(hl2:l.length<2^38):
  Gl.Spec ρ Zp 190 [bY z] [] RS fun r M=>r.n=(Mg.merge (l.map (·.2))).length∧M=[aw r 1 ((Mg.merge (l.map (·.2))).map i64)]:=by
 refine So (F.aa.q9.calls z) fun R=>?_;have hzn:z.n=l.length:=by have:=rz.1;rw[List.length_map,Nat.mul_one]at this;exact this.symm
 have hpart:∀j,(((l.map (·.2)).take j).flatten).length≤(l.flatMap (·.2)).length:=fun j=>by rw[←List.map_take,←List.flatMap_def];exact AY j
 refine Tr.cg 1 ?_;refine aM (I:=fun m u M=>∃(j:Nat) (t:av),j≤l.length∧m=l.length-j∧u=(t,(j:Int),())∧t.n=(((((l.map (·.2)).take j).flatten).filter fun x=>decide (x>0)).foldl Mg.oQ []).length∧
  M=aw t 1 ((((((l.map (·.2)).take j).flatten).filter fun x=>decide (x>0)).foldl Mg.oQ []).map i64)::R) l.length ⟨0,_,by omega,rfl,rfl,rfl,rfl⟩ ?_;rintro m _ _ ⟨j,t,hj,rfl,rfl,ht,rfl⟩ X hX;refine ag (fun hc=>?_) (fun hc=>?_)
 ·have hc:(j:Int)<z.n:=oT hc;have hjl:j<l.length:=by omega
  have hmem:l.getD j (⟨none,0,0⟩,[])∈l:=by rw[List.getD_eq_getElem?_getD,List.getElem?_eq_getElem hjl];exact List.getElem_mem _
  have ro1:=rl _ hmem;have hcell:=iA hjl;have hrow:(l.map (·.2)).take (j+1)=(l.map (·.2)).take j++[(l.getD j (⟨none,0,0⟩,[])).2]:=by rw[List.take_add_one,List.getElem?_map,List.getElem?_eq_getElem hjl,List.getD_eq_getElem?_getD,List.getElem?_eq_getElem hjl];rfl
  have hp1:=hpart (j+1);rw[hrow,List.flatten_append,List.length_append]at hp1;generalize l.getD j (⟨none,0,0⟩,[])=y at*;have hyn:=ro1.len;rw[show([y.2]:List (List Int)).flatten=y.2 by simp]at hp1;refine aM (I:=fun m u M=>∃(k:Nat) (t:av),k≤y.2.length∧m=y.2.length-k∧u=(t,(k:Int),())∧t.n=(((((l.map (·.2)).take j).flatten++y.2.take k).filter fun x=>decide (x>0)).foldl Mg.oQ []).length∧
   M=aw t 1 ((((((l.map (·.2)).take j).flatten++y.2.take k).filter fun x=>decide (x>0)).foldl Mg.oQ []).map i64)::R) y.2.length ⟨0,t,by omega,rfl,rfl,by rw[List.take_zero,List.append_nil];exact ht,by rw[List.take_zero,List.append_nil]⟩ ?_;rintro m _ _ ⟨k,t',hk,rfl,rfl,ht',rfl⟩ Y hY;try dsimp only
  have ldrow:∀{f:av→Tree} {L:List aD},Tr ρ ρ L (f y.1) (SP RS (fun r M=>r.n=(Mg.merge (l.map (·.2))).length∧M=[aw r 1 ((Mg.merge (l.map (·.2))).map i64)]) R)→Tr ρ ρ L (ix z.a z.n (j:Int) 1 fun a=>ld (.l .slice) a f) (SP RS (fun r M=>r.n=(Mg.merge (l.map (·.2))).length∧M=[aw r 1 ((Mg.merge (l.map (·.2))).map i64)]) R):=fun h=>by exact bz rz ae ae fun a0 ha=>cu ha rz fX hcell h
  refine ldrow<|ag (fun hc2=>?_) (fun hc2=>?_)
  ·have hc2:(k:Int)<y.1.n:=oT hc2;refine ldrow<|cC ro1 ae ae ?_;rw[Int.toNat_natCast,bG (n:=(k:Int)+1)];have hm:=Mg.Bu ((l.map (·.2)).take j) y.2 k ae;have hfl:=Mg.IE (((l.map (·.2)).take j).flatten++y.2.take k);rw[List.length_append,List.length_take]at hfl;refine ag (fun h3=>?_) (fun h3=>?_);·have h3:=oT h3;rw[if_pos h3]at hm;refine ldrow<|cC ro1 ae ae ?_;rw[Int.toNat_natCast];refine ai (I3 t' (((((l.map (·.2)).take j).flatten++y.2.take k).filter fun x=>decide (x>0)).foldl Mg.oQ []) (by omega) (y.2.getD k 0)) ar ?_;rintro r _ ⟨hr,rfl⟩;rw[←hm]at hr⊢;exact hY (y.2.length-(k+1)) _ _ (by omega) ⟨k+1,r,by omega,rfl,rfl,hr,rfl⟩
   ·have h3:¬y.2.getD k 0>0:=oF h3;rw[if_neg h3]at hm;refine hY _ _ _ ae ⟨k+1,t',ae,rfl,rfl,by rw[hm];exact ht',by rw[hm]⟩
  ·have hc2:¬(k:Int)<y.1.n:=oF hc2;rw[bG (n:=(j:Int)+1)];have e:((l.map (·.2)).take (j+1)).flatten=((l.map (·.2)).take j).flatten++y.2.take k:=by rw[hrow,List.flatten_append,List.take_of_length_le (l:=y.2) (i:=k) ae];simp
   refine hX _ _ _ ae ⟨j+1,t',ae,rfl,rfl,by rw[e];exact ht',by rw[e]⟩
 ·have hc:¬(j:Int)<z.n:=oF hc;have e:(l.map (·.2)).take j=l.map _:=List.take_of_length_le (by rw[List.length_map];omega);rw[e]at ht⊢;exact rT ⟨ht,rfl⟩
set_option maxRecDepth 100000
def F.mq.Whole(p0:OA):Tree:=br (!(Option.isNone p0)) (nn p0 fun a1=>dP (fa a1 0) fun x2=>br (!(Option.isNone x2)) (nn p0 fun a3=>dP (fa a3 0) fun x4=>nn x4 fun a5=>dP (fa a5 0) fun x6=>br (!(Option.isNone x6)) (nn p0 fun a7=>dP (fa a7 0) fun x8=>nn x8 fun a9=>dP (fa a9 0) fun x10=>nn x10 fun a11=>dP (fa a11 0) fun x12=>br (!(Option.isNone x12)) (nn p0 fun a13=>dP (fa a13 1) fun x14=>br (!(Option.isNone x14)) (nn p0 fun a15=>dP (fa a15 2) fun x16=>br (!(Option.isNone x16)) (nn p0 fun a17=>dP (fa a17 3) fun x18=>br (!(Option.isNone x18)) (nn p0 fun a19=>dP (fa a19 3) fun x20=>nn x20 fun a21=>dP (fa a21 0) fun x22=>br (!(Option.isNone x22)) (nn p0 fun a23=>dP (fa a23 3) fun x24=>nn x24 fun a25=>dP (fa a25 0) fun x26=>nn x26 fun a27=>dP (fa a27 0) fun x28=>br (!(Option.isNone x28)) (nn p0 fun a29=>dP (fa a29 3) fun x30=>nn x30 fun a31=>dP (fa a31 0) fun x32=>nn x32 fun a33=>dP (fa a33 1) fun x34=>ret (.bool (!(Option.isNone x34)))) (ret (.bool false))) (ret (.bool false))) (ret (.bool false))) (ret (.bool false))) (ret (.bool false))) (ret (.bool false))) (ret (.bool false))) (ret (.bool false))) (ret (.bool false))
theorem F.mq.Whole.calls(p0:OA):Cf 38 [pV p0] (F.mq.Whole p0):=Tryz.cd az.z Tryz.func38
theorem zg(i:Pl)(x:Rt):Gl.Spec ρ Zp 38 [pA i.p] (i.A x) RB fun r M=>r=true∧M=i.A x:=by refine So (F.mq.Whole.calls _) fun R=>eL.op tk fun q=>cn.op tk fun s z hs hz=>aF.op tk fun ps pt=>bg rfl (af ?_);refine iL<|bg rfl (af ?_);refine iL ?_;refine iN<|bg rfl (af ?_);refine iL ?_;refine iN<|af<|gN bL tk<|bg rfl (af ?_);refine iL<|bg rfl (af ?_);refine iL<|bg rfl (af ?_);refine iL<|bg rfl (af ?_);refine iL ?_;refine iN<|bg rfl (af ?_);refine iL ?_;refine iN<|iN<|bg rfl (af ?_);refine iL ?_;refine iN<|iN<|tC (aF.cl) ?_;refine tC (cn.cl hs hz) ?_;refine tC (eL.cl) ?_;exact rT
theorem uA{n:Nat}(h0:1≤n)(a:Int):Ob.head (Sp.ch n) a=none:=by unfold Ob.head;rw[rY h0]
theorem cQ{S:aJ}{cs:List aX}(hw:aY S cs){a i x:Int}(b:Int):Qu.bR (Ob.put S a i x).2 b=Qu.bR S b:=by unfold Qu.bR;rw[cm hw]
theorem kV{S:aJ}{cs:List aX}(hw:aY S cs){a i x b j:Int}{hd:Hd}(hb:Ob.head S b=some hd)(h0:0≤j)(h1:j<hd.n):Ob.get (Ob.put S a i x).2 b j=if b=a∧j=i then(x,0)else Ob.get S b j:=by
 by_cases g:(Ob.fieldAt S a i).2=0;·obtain⟨ha,hha,i0,i1,_⟩:=Ob.gv hw g;exact((Ob.qO hw hha i0 i1).2 _ _ hb).2 j h0 h1
 ·have e:(Ob.put S a i x).2=S:=by unfold Ob.put;rw[if_pos g]
  rw[e,if_neg];rintro⟨rfl,rfl⟩;exact g (by unfold Ob.fieldAt;grind)
theorem cR{S:aJ}{cs:List aX}(hw:aY S cs){a i x b j:Int}(hr:Qu.bR S b=true)(h0:0≤j)(h5:j<5):Ob.get (Ob.put S a i x).2 b j=if b=a∧j=i then(x,0)else Ob.get S b j:=by obtain⟨hd,hh,hk⟩:=bx hr;have:=jm hw hh hk;exact kV hw hh h0 ae
theorem wP{S S':aJ}:∀{r:List Int},(∀b∈r,Ob.get S' b 2=Ob.get S b 2)→Qu.Lk S r→Qu.Lk S' r
 |[],_,_=>trivial
 |a::r,h,H=>⟨H.1,by rw[h a (.head _)];exact H.2.1,wP (fun b hb=>h b (.tail _ hb)) H.2.2⟩
theorem qu{b:Int}{r:List Int}(h:r≠[]):r.getLastD b∈r:=by
 cases r with
 |nil=>exact absurd rfl h
 |cons a r=>grind
theorem Cb{S S':aJ}{a:Int}(ha:a≠0)(h2:Ob.get S' a 2=(0,0)):∀{r:List Int},r.Nodup→(∀b∈r,Ob.get S' b 2=if b=r.getLastD 0 then(a,0)else Ob.get S b 2)→Qu.Lk S r→Qu.Lk S' (r++[a])
 |[],_,_,_=>⟨ha,h2,trivial⟩
 |[b],_,h,H=>⟨H.1,(by simp_all),ha,h2,trivial⟩
 |b::c::r,hn,h,H=>by
  obtain⟨n1,n2⟩:=List.nodup_cons.mp hn;have e:(b::c::r).getLastD 0=(c::r).getLastD 0:=by rfl
  rw[e]at h;have hne:b≠(c::r).getLastD 0:=fun e=>n1 eV;refine⟨H.1,?_,Cb ha h2 n2 (fun d hd=>h d (.tail _ hd)) H.2.2⟩;rw[h b (.head _),if_neg hne,H.2.1];rfl
theorem rD(a:Int):∀{rows:List (List Int)} {i:Nat} (h:i<rows.length),(rows.set i (rows[i]++[a])).flatten.Perm (a::rows.flatten)
 |[],i,h=>absurd h (by simp)
 |r::rows,0,h=>by simp
 |r::rows,i+1,h=>by
  have hi:i<rows.length:=by simpa using h
  have ih:=rD a hi;grind
theorem rS:∀{rows:List (List Int)} {i:Nat} (h:i<rows.length) {b:Int} {t:List Int},rows[i]=b::t→rows.flatten.Perm (b::(rows.set i t).flatten)
 |[],i,h,_,_,_=>absurd h (by simp)
 |r::rows,0,h,b,t,e=>by grind
 |r::rows,i+1,h,b,t,e=>by have ih:=rS (i:=i) (by simpa using h) e;grind
theorem C5{rows:List (List Int)}(h:rows.flatten.Nodup){i j:Nat}(hi:i<rows.length)(hj:j<rows.length)(hne:i≠j){x:Int}(h1:x∈rows[i])(h2:x∈rows[j]):False:=by unfold List.Nodup at h;rw[List.pairwise_flatten]at h;have h:=List.pairwise_iff_getElem.mp h.2;grind
theorem Cr{rows:List (List Int)}(h:rows.flatten.Nodup){i:Nat}(hi:i<rows.length):rows[i].Nodup:=by grind
theorem nV{rows:List (List Int)}{i:Nat}(hi:i<rows.length){x:Int}(h:x∈rows[i]):x∈rows.flatten:=List.mem_flatten.mpr ⟨_,List.getElem_mem hi,h⟩
structure QI(S:aJ)(rows:List (List Int)):Prop where
 sZ:rows.length≤8
 lk:∀r∈rows,Qu.Lk S r
 qr:∀a∈rows.flatten,Qu.bR S a=true∧(Ob.get S a 1).1= -1
 nd:rows.flatten.Nodup
namespace QI
variable{S S':aJ}{cs:List aX}{rows:List (List Int)}
theorem mono(H:QI S rows)(h:∀a∈rows.flatten,Qu.bR S' a=true∧(Ob.get S' a 1).1= -1∧Ob.get S' a 2=Ob.get S a 2):QI S' rows:=
 ⟨H.sZ,fun r hr=>wP (fun b hb=>(h b (List.mem_flatten.mpr ⟨r,hr,hb⟩)).2.2) (H.lk r hr),fun a ha=>⟨(h a ha).1,(h a ha).2.1⟩,H.nd⟩
theorem put(hw:aY S cs)(H:QI S rows){a i x:Int}(hc:(i≠1∧i≠2)∨a∉rows.flatten):QI (Ob.put S a i x).2 rows:=H.mono fun b hb=>by
 have hr:=(H.qr b hb).1;have hn:∀j,j=1∨j=2→¬(b=a∧j=i):=fun j hj g=>by grind
 rw[cQ hw,cR hw hr bd bd,cR hw hr bd bd,if_neg (hn 1 (.inl rfl)),if_neg (hn 2 (.inr rfl))];exact⟨hr,(H.qr b hb).2,rfl⟩
theorem iu(hw:aY S cs)(H:QI S rows)(l:List Int):QI (Rf.iu S l) rows:=by
 induction l generalizing S with
 |nil=>exact H
 |cons a l ih=>exact ih (hw.put _ _ _) (H.put hw (.inl ⟨by decide,by decide⟩))
theorem GZ(H:QI S rows){a:Int}(h:(Ob.get S a 1).1≠-1):a∉rows.flatten:=fun ha=>h (H.qr a ha).2
theorem push(hw:aY S cs)(H:QI S rows){a i:Int}(hr:Qu.bR S a=true)(ha:a∉rows.flatten)(hi:Qu.has rows i=true):
  QI (Ob.put (Qu.bP S rows i a) a 1 (-1)).2 (Qu.dN S rows i a)∧Qu.ik S rows i a=0∧aY (Qu.bP S rows i a) cs∧(Qu.dN S rows i a).flatten.Perm (a::rows.flatten):=by
 obtain⟨i0,i1⟩:=jo hi;have he:Qu.row rows i=rows[i.toNat]:=by unfold Qu.row;grind
 have hq:Qu.dN S rows i a=rows.set i.toNat (rows[i.toNat]++[a]):=by unfold Qu.dN;rw[hi,hr,he];rfl
 have ha0:=F3 hw hr;have hnd:=Cr H.nd i1;have hlk:=H.lk _ (List.getElem_mem i1);have hw1:=hw.put a 2 0;have hS:aY (Qu.bP S rows i a) cs∧Qu.ik S rows i a=0∧∀b,Qu.bR S b=true→Qu.bR (Qu.bP S rows i a) b=true∧(∀j,0≤j→j<5→Ob.get (Qu.bP S rows i a) b j=if b=a∧j=2 then(0,0)else if rows[i.toNat]≠[]∧b=rows[i.toNat].getLastD 0∧j=2 then(a,0)else Ob.get S b j):=by
  unfold Qu.bP Qu.ik;rw[hi,hr,he];rw[Bool.and_true];rw[if_pos rfl,if_pos rfl,if_pos rfl];by_cases hn:rows[i.toNat]=[];·rw[if_pos hn,if_pos hn];refine⟨hw1,rfl,fun b hb=>⟨by rw[cQ hw];exact hb,fun j j0 j5=>?_⟩⟩;rw[cR hw hb j0 j5,if_neg (c:=rows[i.toNat]≠[]∧b=rows[i.toNat].getLastD 0∧j=2) (fun g=>g.1 hn)]
  ·rw[if_neg hn,if_neg hn];have hlm:rows[i.toNat].getLastD 0∈rows.flatten:=nV i1 (qu hn);have hlr:=(H.qr _ hlm).1;refine⟨hw1.put _ _ _,?_,fun b hb=>⟨by rw[cQ hw1,cQ hw];exact hb,fun j j0 j5=>?_⟩⟩;·obtain⟨hd,hh,hk⟩:=bx (show Qu.bR (Ob.put S a 2 0).2 _=true by rw[cQ hw];exact hlr);exact Ax hh bd (by rw[jm hw1 hh hk];decide)
   ·rw[cR hw1 (by rw[cQ hw];exact hb) j0 j5,cR hw hb j0 j5];grind
 obtain⟨s1,s2,s3⟩:=hS;have hp:(Qu.dN S rows i a).flatten.Perm (a::rows.flatten):=by rw[hq];exact rD a _
 have fin:∀b,Qu.bR S b=true→Qu.bR (Ob.put (Qu.bP S rows i a) a 1 (-1)).2 b=true∧(∀j,0≤j→j<5→Ob.get (Ob.put (Qu.bP S rows i a) a 1 (-1)).2 b j=if b=a∧j=1 then(-1,0)else if b=a∧j=2 then(0,0)else if rows[i.toNat]≠[]∧b=rows[i.toNat].getLastD 0∧j=2 then(a,0)else Ob.get S b j):=fun b hb=>by obtain⟨t1,t2⟩:=s3 b hb;exact⟨by rw[cQ s1];exact t1,fun j j0 j5=>by rw[cR s1 t1 j0 j5,t2 j j0 j5]⟩
 refine⟨⟨by rw[hq,List.length_set];exact H.sZ,fun r hr'=>?_,fun b hb=>?_,hp.nodup_iff.mpr (List.nodup_cons.mpr ⟨ha,H.nd⟩)⟩,s2,s1,hp⟩
 ·rw[hq]at hr';obtain⟨j,hj,rfl⟩:=List.mem_iff_getElem.mp hr';rw[List.length_set]at hj;rw[List.getElem_set];by_cases e:i.toNat=j
  ·rw[if_pos e];refine Cb ha0 ?_ hnd (fun b hb=>?_) hlk;·grind
   ·have hbm:=nV i1 hb;have hba:b≠a:=fun e=>ha (e▸hbm);rw[(fin b (H.qr b hbm).1).2 2 bd bd,if_neg (fun g=>hba g.1),if_neg (fun g=>hba g.1)];grind
  ·rw[if_neg e];refine wP (fun b hb=>?_) (H.lk _ (List.getElem_mem hj));have hbm:=nV hj hb;have hba:b≠a:=fun e=>ha (e▸hbm);rw[(fin b (H.qr b hbm).1).2 2 bd bd,if_neg (fun g=>hba g.1),if_neg (fun g=>hba g.1),if_neg (fun g=>C5 H.nd i1 hj e (qu g.1) (g.2.1▸hb))]
 ·rcases List.mem_cons.mp (hp.mem_iff.mp hb)with rfl|hb;·grind
  ·have hba:b≠a:=fun e=>ha (e▸hb);obtain⟨t1,t2⟩:=fin b (H.qr b hb).1;exact⟨t1,by rw[t2 1 bd bd,if_neg (fun g=>hba g.1),if_neg (fun g=>hba g.1),if_neg bu];exact(H.qr b hb).2⟩
theorem dJ(hw:aY S cs)(H:QI S rows)(a:Int):QI (Rf.dJ S rows a).2.1 (Rf.dJ S rows a).2.2∧aY (Rf.dJ S rows a).2.1 cs∧∀b,b∈(Rf.dJ S rows a).2.2.flatten→b=a∨b∈rows.flatten:=by
 unfold Rf.dJ;by_cases hr:Qu.bR S a=true
 ·have hw1:=hw.put a 0 0;have H1:QI (Ob.put S a 0 0).2 rows:=H.put hw (.inl ⟨by decide,by decide⟩);have hr1:Qu.bR (Ob.put S a 0 0).2 a=true:=by rw[cQ hw];exact hr
  rw[if_pos hr];by_cases hq:Rf.qn S a<1;·grind
  ·rw[if_neg hq];have ha:a∉rows.flatten:=H1.GZ (by unfold Rf.qn at hq;omega);by_cases hh:Qu.has rows (Rf.qn S a-1)=true;·obtain⟨p1,p2,p3,p4⟩:=H1.push hw1 hr1 ha hh;rw[if_neg (fun g=>g p2)];exact⟨p1,p3.put _ _ _,fun b hb=>by grind⟩
   ·have e1:Qu.ik (Ob.put S a 0 0).2 rows (Rf.qn S a-1) a=2:=by unfold Qu.ik;rw[if_neg hh]
    have e2:Qu.bP (Ob.put S a 0 0).2 rows (Rf.qn S a-1) a=(Ob.put S a 0 0).2:=by unfold Qu.bP;grind
    have e3:Qu.dN (Ob.put S a 0 0).2 rows (Rf.qn S a-1) a=rows:=by unfold Qu.dN;grind
    grind
 grind
theorem cc(l:List Int):∀{S:aJ} {rows:List (List Int)},aY S cs→QI S rows→QI (Rf.cc S rows l).1 (Rf.cc S rows l).2∧aY (Rf.cc S rows l).1 cs∧∀b,b∈(Rf.cc S rows l).2.flatten→b∈l∨b∈rows.flatten:=by
 induction l with
 |nil=>exact fun hw H=>⟨H,hw,fun b hb=> .inr hb⟩
 |cons a l ih=>
  intro S rows hw H;obtain⟨h1,h2,h3⟩:=H.dJ hw a;obtain⟨g1,g2,g3⟩:=ih h2 h1;refine⟨g1,g2,fun b hb=>?_⟩;rcases g3 b hb with h|h;·exact .inl (.tail _ h)
  grind
theorem jl(hw:aY S cs)(H:QI S rows)(i:Int):QI (Qu.dq S rows i) (Qu.fK rows i)∧aY (Qu.dq S rows i) cs:=by
 unfold Qu.dq Qu.fK;by_cases hh:Qu.has rows i=true
 ·obtain⟨i0,i1⟩:=jo hh;have he:Qu.row rows i=rows[i.toNat]:=by unfold Qu.row;grind
  rw[if_pos hh,he];cases hr:rows[i.toNat]with
  |nil=>
   have:rows.set i.toNat []=rows:=by rw[←hr];simp
   grind
  |cons b t=>
   rw[if_pos ⟨hh,bu⟩];have hp:=rS i1 hr;have hnd:=hp.nodup_iff.mp H.nd;obtain⟨n1,n2⟩:=List.nodup_cons.mp hnd;have hsub:∀x,x∈(rows.set i.toNat t).flatten→x∈rows.flatten∧x≠b:=fun x hx=>⟨hp.mem_iff.mpr (.tail _ hx),fun e=>n1 (e▸hx)⟩;have H0:QI S (rows.set i.toNat t):=by
    refine⟨by rw[List.length_set];exact H.sZ,fun r hr'=>?_,fun a ha=>H.qr a (hsub a ha).1,n2⟩;rcases List.mem_or_eq_of_mem_set hr' with h|rfl;·exact H.lk r h
    ·have:=H.lk _ (List.getElem_mem i1);rw[hr]at this;exact this.2.2
   exact⟨H0.put hw (.inr n1),hw.put _ _ _⟩
 grind
theorem open_(H:QI S rows)(h:rows.length<8):QI S (rows++[[]]):=by
 have e:(rows++[[]]).flatten=rows.flatten:=by simp
 refine⟨by simp;omega,fun r hr=>?_,by rw[e];exact H.qr,by rw[e];exact H.nd⟩;rcases List.mem_append.mp hr with hr|hr;·exact H.lk r hr
 ·rw[List.mem_singleton]at hr;subst hr;trivial
end QI
theorem ui:∀{l m:List Int},l.Nodup→(∀a∈l,a∈m)→l.length≤m.length
 |[],_,_,_=>Nat.zero_le _
 |a::l,m,hn,h=>by
  obtain⟨n1,n2⟩:=List.nodup_cons.mp hn;have:=ui (m:=m.erase a) n2 fun b hb=>by grind
  grind
theorem QI.Gn{S:aJ}{cs:List aX}{rows:List (List Int)}(hw:aY S cs)(H:QI S rows):uS S rows:=by
 refine⟨H.sZ,H.lk,fun r hr=>?_⟩;obtain⟨i,hi,rfl⟩:=List.mem_iff_getElem.mp hr;have:=ui (Cr H.nd hi) (m:=Sp.each S) fun a ha=>by obtain⟨hd,hh,_⟩:=bx (H.qr a (nV hi ha)).1;exact(fp hw).mpr ⟨hd,hh⟩
 have:=Sp.df hw.wf;omega
structure RI(S:aJ)(bb:Int):Prop where
 q:∀a,Qu.bR S a=true→(Ob.get S a 1).1<2^62
 t:∀a,Qu.bR S a=true→(Ob.get S a 3).1<9223372036854775808
 k:∀a,Qu.bR S a=true→1≤(Ob.get S a 4).1∧(Ob.get S a 4).1≤bb
 inj:∀a b,Qu.bR S a=true→Qu.bR S b=true→(Ob.get S a 4).1=(Ob.get S b 4).1→a=b
namespace RI
variable{S S':aJ}{cs:List aX}{bb:Int}
theorem mono(H:RI S bb)(h:∀a,Qu.bR S' a=true→Qu.bR S a=true∧(Ob.get S' a 1).1<2^62∧(Ob.get S' a 3).1<9223372036854775808∧Ob.get S' a 4=Ob.get S a 4):RI S' bb:=
 ⟨fun a ha=>(h a ha).2.1,fun a ha=>(h a ha).2.2.1,fun a ha=>by rw[(h a ha).2.2.2];exact H.k a (h a ha).1,
  fun a b ha hb e=>H.inj a b (h a ha).1 (h b hb).1 (by grind)⟩
theorem put(hw:aY S cs)(H:RI S bb){a i x:Int}(hc:Qu.bR S a=false∨i≠4∧(i=1→x<2^62)∧(i=3→x<9223372036854775808)):RI (Ob.put S a i x).2 bb:=H.mono fun b hb=>by
 rw[cQ hw]at hb;rw[cR hw hb bd bd,cR hw hb bd bd,cR hw hb bd bd];rcases hc with hc|⟨h4,h1,h3⟩
 ·have hne:b≠a:=fun e=>by grind
  rw[if_neg (fun g=>hne g.1),if_neg (fun g=>hne g.1),if_neg (fun g=>hne g.1)];exact⟨hb,H.q b hb,H.t b hb,rfl⟩
 ·refine⟨hb,?_,?_,eV⟩
  ·split;·omega
   ·exact H.q b hb
  ·split;·omega
   ·exact H.t b hb
theorem qb(H:RI S bb):QB S:=H.q
theorem st(hw:aY S cs)(H:RI S bb):∀r∈refsOf S,r.2.2.2.2.1<9223372036854775808:=fun r hr=>by
 obtain⟨h,hh,hk,e⟩:=(eY hw).mp hr;have:Qu.bR S r.1=true:=by unfold Qu.bR;rw[hh];simpa using hk
 rw[e];exact H.t _ this
theorem key(hw:aY S cs)(H:RI S bb):rQ S:=fun r hr r' hr' e=>by
 obtain⟨h,hh,hk,e1⟩:=(eY hw).mp hr;obtain⟨h',hh',hk',e2⟩:=(eY hw).mp hr';have t1:Qu.bR S r.1=true:=by unfold Qu.bR;rw[hh];simpa using hk
 have t2:Qu.bR S r'.1=true:=by unfold Qu.bR;grind
 refine Jh hw hr hr' (H.inj _ _ t1 t2 ?_);rw[e1,e2]at e;exact e
theorem iu(hw:aY S cs)(H:RI S bb)(l:List Int):RI (Rf.iu S l) bb:=by
 induction l generalizing S with
 |nil=>exact H
 |cons a l ih=>exact ih (hw.put _ _ _) (H.put hw (.inr ⟨by decide,(fun h=>by cases h),(fun h=>by cases h)⟩))
theorem bP(hw:aY S cs)(H:RI S bb)(rows:List (List Int))(i a:Int):RI (Qu.bP S rows i a) bb∧aY (Qu.bP S rows i a) cs:=by
 have p2:∀{S:aJ} {a x:Int},aY S cs→RI S bb→RI (Ob.put S a 2 x).2 bb:=fun hw H=>H.put hw (.inr ⟨by decide,(fun h=>by cases h),(fun h=>by cases h)⟩);unfold Qu.bP;split
 ·split;·exact⟨p2 hw H,hw.put _ _ _⟩
  ·exact⟨p2 (hw.put _ _ _) (p2 hw H),(hw.put _ _ _).put _ _ _⟩
 ·exact⟨H,hw⟩
theorem dJ(hw:aY S cs)(H:RI S bb)(rows:List (List Int))(a:Int):RI (Rf.dJ S rows a).2.1 bb∧aY (Rf.dJ S rows a).2.1 cs:=by
 have h1:RI (Ob.put S a 0 0).2 bb:=H.put hw (.inr ⟨by decide,(fun h=>by cases h),(fun h=>by cases h)⟩);have hw1:=hw.put a 0 0;unfold Rf.dJ;split
 ·split;·exact⟨h1,hw1⟩
  ·obtain⟨h2,hw2⟩:=h1.bP hw1 rows (Rf.qn S a-1) a;split;·exact⟨h2,hw2⟩
   ·exact⟨h2.put hw2 (.inr ⟨by decide,fun _=>by decide,(fun h=>by cases h)⟩),hw2.put _ _ _⟩
 ·exact⟨H,hw⟩
theorem cc(l:List Int):∀{S:aJ} {rows:List (List Int)},aY S cs→RI S bb→RI (Rf.cc S rows l).1 bb:=by
 induction l with
 |nil=>exact fun _ H=>H
 |cons a l ih=>intro S rows hw H;obtain⟨h1,h2⟩:=H.dJ hw rows a;exact ih h2 h1
end RI
def Fl(S:aJ)(a:Int):Prop:=∃hd,Ob.head S a=some hd∧hd.f=true
theorem Fl.obj{S:aJ}{a:Int}(h:Fl S a):Mk.obj S a:=by obtain⟨hd,hh,_⟩:=h;unfold Mk.obj;rw[hh];rfl
structure FI(S:aJ)(wa pe:List Int):Prop where
 nd:(wa++pe).Nodup
 fl:∀a∈wa++pe,Fl S a
namespace FI
variable{S S':aJ}{cs:List aX}{wa pe:List Int}
theorem mono(H:FI S wa pe)(h:∀a∈wa++pe,Fl S a→Fl S' a):FI S' wa pe:=⟨H.nd,fun a ha=>h a ha (H.fl a ha)⟩
theorem cT(H:FI S wa pe)(h:∀b,Ob.head S' b=Ob.head S b):FI S' wa pe:=H.mono fun a _ g=>by obtain⟨hd,h1,h2⟩:=g;exact⟨hd,by rw[h];exact h1,h2⟩
theorem len(hw:aY S cs)(H:FI S wa pe):wa.length+pe.length≤8192:=by
 have h1:=ui H.nd (m:=Sp.each S) fun a ha=>by obtain⟨hd,hh,_⟩:=H.fl a ha;exact(fp hw).mpr ⟨hd,hh⟩
 rw[List.length_append]at h1;have:=Sp.df hw.wf;omega
theorem await(hw:aY S cs)(H:FI S wa pe)(a:Int):FI (Ob.final S a).2 (if(Ob.final S a).1=0 then wa++[a]else wa) pe:=by
 cases hh:Ob.head S a with
 |none=>
  have e:Ob.final S a=(2,S):=by unfold Ob.final;rw[hh]
  rw[e];exact H
 |some h=>
  by_cases hk:h.k=4
  ·have e:Ob.final S a=(5,S):=by unfold Ob.final;grind
   rw[e];exact H
  ·cases hf:h.f with
   |true=>
    have e:Ob.final S a=(4,S):=by unfold Ob.final;grind
    rw[e];exact H
   |false=>
    obtain⟨h1,h2,h3,_⟩:=Ob.lJ hw hh hk hf;rw[if_pos h1];have hn:a∉wa++pe:=fun ha=>by obtain⟨hd,g1,g2⟩:=H.fl a ha;grind
    have hp:(wa++[a]++pe).Perm (a::(wa++pe)):=by simp
    refine⟨hp.nodup_iff.mpr (List.nodup_cons.mpr ⟨hn,H.nd⟩),fun b hb=>?_⟩;by_cases e:b=a;·subst e;exact⟨_,h2,rfl⟩
    ·rcases List.mem_cons.mp (hp.mem_iff.mp hb)with g|g;·exact absurd g e
     ·obtain⟨hd,g1,g2⟩:=H.fl b g;exact⟨hd,h3 _ _ e g1,g2⟩
theorem take(H:FI S wa pe)(i:Int):FI S wa (Fn.eX pe i):=by
 unfold Fn.eX;split;·have hs:(wa++pe.eraseIdx i.toNat).Sublist _:=(List.eraseIdx_sublist ..).append_left wa;exact⟨H.nd.sublist hs,fun a ha=>H.fl a (hs.subset ha)⟩
 ·exact H
theorem Bi(x:List Int×List Int)(a:Int):((Fn.cF x a).1++(Fn.cF x a).2).Perm (x.1++x.2):=by
 unfold Fn.cF;split;·have e:x.1.eraseIdx _=x.1.erase a:=List.erase_eq_eraseIdx_of_idxOf (rfl) |>.symm;grind
 ·exact .refl _
theorem Dn(l:List Int):∀(x:List Int×List Int),((l.foldl Fn.cF x).1++(l.foldl Fn.cF x).2).Perm (x.1++x.2):=by
 induction l with
 |nil=>exact fun _=> .refl _
 |cons a l ih=>exact fun x=>(ih _).trans (Bi x a)
theorem mem_erase{l:List Int}(h:l.Nodup){a b:Int}:b∈l.eraseIdx (l.idxOf a)↔(b∈l∧b≠a):=by have e:l.eraseIdx _=l.erase a:=List.erase_eq_eraseIdx_of_idxOf (rfl) |>.symm;grind
theorem qa(l:List Int):∀(x:List Int×List Int),x.1.Nodup→(∀b,b∈(l.foldl Fn.cF x).1↔(b∈x.1∧b∉l))∧(∀b,b∈(l.foldl Fn.cF x).2→(b∈x.2∨b∈l)):=by
 induction l with
 |nil=>simp
 |cons a l ih=>
  intro x hn;have hn1:(Fn.cF x a).1.Nodup∧(∀b,b∈(Fn.cF x a).1↔(b∈x.1∧b≠a))∧∀b,b∈(Fn.cF x a).2→(b∈x.2∨b=a):=by
   unfold Fn.cF;split;·refine⟨hn.sublist (List.eraseIdx_sublist ..),fun b=>mem_erase hn,fun b hb=>?_⟩;grind
   grind
  grind
end FI
theorem oL{cs:List aX}(l:List Int):∀{S:aJ},aY S cs→∀b,Ob.head (Rf.iu S l) b=Ob.head S b:=by
 induction l with
 |nil=>exact fun _ _=>rfl
 |cons a l ih=>intro S hw b;exact(ih (hw.put a 0 0) b).trans (cm hw b)
theorem nc{S:aJ}{cs:List aX}(hw:aY S cs)(rows:List (List Int))(i a b:Int):Ob.head (Qu.bP S rows i a) b=Ob.head S b:=by
 unfold Qu.bP;split
 ·split;·exact cm hw b
  ·exact(cm (hw.put _ _ _) b).trans (cm hw b)
 ·rfl
theorem mQ{S:aJ}{cs:List aX}(hw:aY S cs)(rows:List (List Int))(i a:Int):aY (Qu.bP S rows i a) cs:=by
 unfold Qu.bP;split
 ·split;·exact hw.put _ _ _
  ·exact(hw.put _ _ _).put _ _ _
 ·exact hw
theorem mG{S:aJ}{cs:List aX}(hw:aY S cs)(rows:List (List Int))(a b:Int):Ob.head (Rf.dJ S rows a).2.1 b=Ob.head S b:=by
 have hw1:=hw.put a 0 0;unfold Rf.dJ;split
 ·split;·exact cm hw b
  ·split;·exact(nc hw1 _ _ _ b).trans (cm hw b)
   ·exact(cm (mQ hw1 _ _ _) b).trans ((nc hw1 _ _ _ b).trans (cm hw b))
 ·rfl
theorem BH{S:aJ}{cs:List aX}(hw:aY S cs)(rows:List (List Int))(a:Int):aY (Rf.dJ S rows a).2.1 cs:=by
 have hw1:=hw.put a 0 0;unfold Rf.dJ;split
 ·split;·exact hw1
  ·split;·exact mQ hw1 _ _ _
   ·exact(mQ hw1 _ _ _).put _ _ _
 ·exact hw
theorem rm{cs:List aX}(l:List Int):∀{S:aJ} {rows:List (List Int)},aY S cs→∀b,Ob.head (Rf.cc S rows l).1 b=Ob.head S b:=by
 induction l with
 |nil=>exact fun _ _=>rfl
 |cons a l ih=>intro S rows hw b;exact(ih (BH hw _ a) b).trans (mG hw _ a b)
theorem iP(S:aJ)(a i x:Int):(Ob.put S a i x).2.ws.length=S.ws.length:=by obtain⟨ws',e,hl⟩:=xI S a i x;rw[e];exact hl
theorem HN(l:List Int):∀{S:aJ},(Rf.iu S l).ws.length=S.ws.length:=by
 induction l with
 |nil=>exact rfl
 |cons a l ih=>intro S;exact(ih).trans (iP ..)
theorem vF(S:aJ)(rows:List (List Int))(i a:Int):(Qu.bP S rows i a).ws.length=S.ws.length:=by
 unfold Qu.bP;split
 ·split;·exact iP ..
  ·exact(iP ..).trans (iP ..)
 ·rfl
theorem Cu(S:aJ)(rows:List (List Int))(a:Int):(Rf.dJ S rows a).2.1.ws.length=S.ws.length:=by
 unfold Rf.dJ;split
 ·split;·exact iP ..
  ·split;·exact(vF ..).trans (iP ..)
   ·exact(iP ..).trans ((vF ..).trans (iP ..))
 ·rfl
theorem Eu(l:List Int):∀{S:aJ} {rows:List (List Int)},(Rf.cc S rows l).1.ws.length=S.ws.length:=by
 induction l with
 |nil=>exact rfl
 |cons a l ih=>intro S rows;exact(ih).trans (Cu ..)
structure Wl(S:aJ)(cs:List aX)(rows:List (List Int))(bb:Int)(wa pe:List Int):Prop where
 hw:aY S cs
 q:QI S rows
 r:RI S bb
 f:FI S wa pe
 ws:64≤S.ws.length
namespace Wl
variable{S S':aJ}{cs:List aX}{rows:List (List Int)}{bb:Int}{wa pe:List Int}
theorem put(H:Wl S cs rows bb wa pe){a i x:Int}(hc:Qu.bR S a=false∨i≠1∧i≠2∧i≠4∧(i=3→x<9223372036854775808)):Wl (Ob.put S a i x).2 cs rows bb wa pe:=by
 refine⟨H.hw.put _ _ _,H.q.put H.hw ?_,H.r.put H.hw ?_,H.f.cT (cm H.hw),by rw[iP];exact H.ws⟩
 ·rcases hc with hc|hc;·exact .inr fun ha=>by rw[(H.q.qr a ha).1]at hc;cases hc
  omega
 grind
theorem mA(hw:aY S cs){h:Hd}(h0:(Ob.make S cs h).2.1=0){b:Int}{hd:Hd}(hh:Ob.head (Ob.make S cs h).2.2 b=some hd):(b=(Ob.make S cs h).1∧hd=h)∨(b≠(Ob.make S cs h).1∧Ob.head S b=some hd):=by
 have hm:=Ob.jE hw h0;have hb:=(fp (hw.make h)).mpr ⟨hd,hh⟩;rcases List.mem_cons.mp ((wD hw h0).mem_iff.mp hb)with e|g;·grind
 ·obtain⟨h',hh'⟩:=(fp hw).mp g;obtain⟨k1,k2,_⟩:=Ob.eU hw h0 hh';grind
theorem yW(hw:aY S cs)(h:Hd)(hl:64≤S.ws.length):64≤(Ob.make S cs h).2.2.ws.length:=by
 by_cases h0:(Ob.make S cs h).2.1=0;·obtain⟨b,n,e1,e2,e3,e4,e5,e6,_⟩:=Ob.l6 hw h0;rw[e6,List.length_set];have:=lY e5;omega
 ·have e:(Ob.make S cs h).2.2=S:=by unfold Ob.make at h0⊢;grind
  rw[e];exact hl
theorem ky{h:Hd}(h0:(Ob.make S cs h).2.1≠0):(Ob.make S cs h).2.2=S∧(Ob.make S cs h).1=0:=by unfold Ob.make at h0⊢;grind
theorem Ee(hw:aY S cs){h:Hd}(h0:(Ob.make S cs h).2.1=0){b:Int}(hr:Qu.bR S b=true):Qu.bR (Ob.make S cs h).2.2 b=true∧b≠(Ob.make S cs h).1∧∀j,0≤j→j<5→Ob.get (Ob.make S cs h).2.2 b j=Ob.get S b j:=by obtain⟨hd,hh,hk⟩:=bx hr;obtain⟨k1,k2,k3⟩:=Ob.eU hw h0 hh;have hn:=jm hw hh hk;exact⟨by unfold Qu.bR;rw[k1];simpa using hk,k2,fun j j0 j5=>k3 j j0 ae⟩
theorem make(H:Wl S cs rows bb wa pe){h:Hd}(hk:h.k≠4):Wl (Ob.make S cs h).2.2 cs rows bb wa pe:=by
 by_cases h0:(Ob.make S cs h).2.1=0
 ·have hw:=H.hw;refine⟨hw.make h,H.q.mono fun a ha=>?_,H.r.mono fun a ha=>?_,H.f.mono fun a _ g=>?_,yW hw h H.ws⟩;·obtain⟨g1,g2⟩:=H.q.qr a ha;obtain⟨k1,_,k3⟩:=Ee hw h0 g1;grind
  ·obtain⟨hd,hh,hk'⟩:=bx ha;rcases mA hw h0 hh with ⟨_,e⟩|⟨_,g⟩;·grind
   ·have hr:Qu.bR S a=true:=by unfold Qu.bR;rw[g];simpa using hk'
    obtain⟨_,_,k3⟩:=Ee hw h0 hr;rw[k3 1 bd bd,k3 3 bd bd];exact⟨hr,H.r.q a hr,H.r.t a hr,k3 4 bd bd⟩
  ·obtain⟨hd,hh,hf⟩:=g;exact⟨hd,(Ob.eU hw h0 hh).1,hf⟩
 ·rw[(ky h0).1];exact H
theorem qx{a:Int}(l:List Int):∀{S:aJ} {i:Nat},aY S cs→∀{b:Int} {j:Nat},Qu.bR S b=true→j<5→Ob.get (Rf.ja S a i l) b j=if b=a∧i≤j∧j<i+l.length then(l.getD (j-i) 0,0)else Ob.get S b j:=by
 induction l with
 |nil=>intro S i hw b j _ _;rw[if_neg bu];rfl
 |cons x l ih=>intro S i hw b j hb hj;have e:=ih (S:=(Ob.put S a i x).2) (i:=i+1) (hw.put _ _ _) (by rw[cQ hw];exact hb) hj;show Ob.get (Rf.ja (Ob.put S a i x).2 a (i+1) l) b j=_;rw[e,cR hw hb ae ae];grind
theorem mr{a:Int}(l:List Int):∀{S:aJ} {i:Nat},aY S cs→∀b,Ob.head (Rf.ja S a i l) b=Ob.head S b:=by
 induction l with
 |nil=>exact fun _ _=>rfl
 |cons x l ih=>intro S i hw b;exact(ih (hw.put a i x) b).trans (cm hw b)
theorem Ex{a:Int}(l:List Int):∀{S:aJ} {i:Nat},(Rf.ja S a i l).ws.length=S.ws.length:=by
 induction l with
 |nil=>exact rfl
 |cons x l ih=>intro S i;exact(ih).trans (iP ..)
theorem bS(H:Wl S cs rows bb wa pe)(c o q t:Int)(ht:t<9223372036854775808)(hs:0≤bb):Wl (Rf.bS S cs rows bb c o q t).2.2.1 cs rows (Rf.bS S cs rows bb c o q t).2.2.2 wa pe∧bb≤(Rf.bS S cs rows bb c o q t).2.2.2∧(Rf.bS S cs rows bb c o q t).2.2.2≤bb+1:=by
 unfold Rf.bS;by_cases h1:Rf.may S rows c o q≠0;·grind
 rw[if_neg h1];by_cases h2:(Ob.make S cs ⟨4,c,5,false⟩).2.1≠0;·rw[(ky h2).1];grind
 rw[if_neg h2];have h0:(Ob.make S cs ⟨4,c,5,false⟩).2.1=0:=by simpa using h2
 have hw:=H.hw;have hqb:q<rows.length:=by unfold Rf.may at h1;omega
 have hfew:=H.q.sZ;dsimp only;have hm:=Ob.jE hw h0;have hw1:=hw.make ⟨4,c,5,false⟩;have hra:Qu.bR (Ob.make S cs ⟨4,c,5,false⟩).2.2 (Ob.make S cs ⟨4,c,5,false⟩).1=true:=by unfold Qu.bR;rw[hm];rfl
 have rj:∀b,Qu.bR S b=true→Qu.bR (Ob.make S cs ⟨4,c,5,false⟩).2.2 b=true∧b≠(Ob.make S cs ⟨4,c,5,false⟩).1∧∀j,0≤j→j<5→Ob.get (Ob.make S cs ⟨4,c,5,false⟩).2.2 b j=Ob.get S b j:=fun b hb=>Ee hw h0 hb;have isr:∀b,Qu.bR (Ob.make S cs ⟨4,c,5,false⟩).2.2 b=true→b=(Ob.make S cs ⟨4,c,5,false⟩).1∨Qu.bR S b=true:=fun b hb=>by
  obtain⟨hd,hh,hk'⟩:=bx hb;rcases mA hw h0 hh with ⟨e,_⟩|⟨_,g⟩;·exact .inl e
  ·exact .inr (by unfold Qu.bR;rw[g];simpa using hk')
 have hf1:FI (Ob.make S cs ⟨4,c,5,false⟩).2.2 wa pe:=H.f.mono fun a _ g=>by obtain⟨hd,hh,hf⟩:=g;exact⟨hd,(Ob.eU hw h0 hh).1,hf⟩
 have hwl:=yW hw ⟨4,c,5,false⟩ H.ws;generalize(Ob.make S cs ⟨4,c,5,false⟩).2.2=S1 at*;generalize(Ob.make S cs ⟨4,c,5,false⟩).1=a at*;have hR:∀b,Qu.bR (Rf.ja S1 a 0 [o,q+1,0,t,bb+1]) b=Qu.bR S1 b:=fun b=>by unfold Qu.bR;rw[mr _ hw1]
 have g0:∀b,Qu.bR S b=true→∀j:Nat,j<5→Ob.get (Rf.ja S1 a 0 [o,q+1,0,t,bb+1]) b j=Ob.get S b j:=fun b hb j hj=>by obtain⟨k1,k2,k3⟩:=rj b hb;rw[qx _ hw1 k1 hj,if_neg (fun g=>k2 g.1),k3 j ae ae]
 have ga:∀j:Nat,j<5→Ob.get (Rf.ja S1 a 0 [o,q+1,0,t,bb+1]) a j=([o,q+1,0,t,bb+1].getD j 0,0):=fun j hj=>by rw[qx _ hw1 hra hj,if_pos ⟨rfl,ae,by omega⟩];rfl
 refine⟨⟨aY.ja hw1,H.q.mono fun b hb=>?_,⟨fun b hb=>?_,fun b hb=>?_,fun b hb=>?_,fun b b' hb hb' e=>?_⟩,hf1.cT (mr _ hw1),by rw[Ex];exact hwl⟩,ae,ae⟩;·obtain⟨k1,k2⟩:=H.q.qr b hb;grind
 ·rw[hR]at hb;rcases isr b hb with rfl|hb;·grind
  ·have e:(Ob.get _ b 1).1=(Ob.get S b 1).1:=congrArg Prod.fst (g0 b hb 1 bd);rw[e];exact H.r.q b hb
 ·rw[hR]at hb;rcases isr b hb with rfl|hb;·have e:(Ob.get _ b 3).1=_:=congrArg Prod.fst (ga 3 bd);rw[e];exact ht
  ·have e:(Ob.get _ b 3).1=(Ob.get S b 3).1:=congrArg Prod.fst (g0 b hb 3 bd);rw[e];exact H.r.t b hb
 ·rw[hR]at hb;rcases isr b hb with rfl|hb;·grind
  ·have e:(Ob.get _ b 4).1=(Ob.get S b 4).1:=congrArg Prod.fst (g0 b hb 4 bd);have:=H.r.k b hb;omega
 ·rw[hR]at hb hb';have e4:∀b,Qu.bR S b=true→(Ob.get (Rf.ja S1 a 0 [o,q+1,0,t,bb+1]) b 4).1≤bb:=fun b hb=>by have e:(Ob.get _ b 4).1=(Ob.get S b 4).1:=congrArg Prod.fst (g0 b hb 4 bd);rw[e];exact(H.r.k b hb).2
  have ea:(Ob.get _ a 4).1=bb+1:=congrArg Prod.fst (ga 4 bd);rcases isr b hb with rfl|hb;·grind
  ·rcases isr b' hb' with rfl|hb';·have:=e4 b hb;omega
   ·apply H.r.inj b _ hb hb';grind
theorem await(H:Wl S cs rows bb wa pe)(a:Int):Wl (Ob.final S a).2 cs rows bb (if(Ob.final S a).1=0 then wa++[a]else wa) pe:=by
 have hf:=H.f.await H.hw a;have hw':=H.hw.final a;by_cases h0:(Ob.final S a).1=0
 ·cases hh:Ob.head S a with
  |none=>unfold Ob.final at h0;rw[hh]at h0;cases h0
  |some h=>
   have hk:h.k≠4:=fun hk=>by unfold Ob.final at h0;grind
   have hff:h.f=false:=by
    cases hff:h.f with
    |false=>rfl
    |true=>unfold Ob.final at h0;grind
   obtain⟨k1,k2,k3,k4⟩:=Ob.lJ H.hw hh hk hff;have hpg:(Ob.final S a).2.pg=S.pg∧(Ob.final S a).2.ws.length=S.ws.length:=by unfold Ob.final;grind
   have hR:∀b,Qu.bR S b=true→Qu.bR (Ob.final S a).2 b=true∧∀j,0≤j→j<5→Ob.get (Ob.final S a).2 b j=Ob.get S b j:=fun b hb=>by obtain⟨hd,g1,g2⟩:=bx hb;have hn:=jm H.hw g1 g2;refine⟨by unfold Qu.bR;grind,fun j j0 j5=>k4 _ _ j g1 j0 ae⟩
   have hR':∀b,Qu.bR (Ob.final S a).2 b=true→Qu.bR S b=true:=fun b hb=>by
    obtain⟨hd,g1,g2⟩:=bx hb;have:b∈Sp.each S:=by obtain⟨n,w,rfl,hfd,_⟩:=Ob.bU hw' g1;refine(fP H.hw.wf).mpr ⟨n,w,rfl,?_⟩;rw[←hfd];generalize hS:(Ob.final S a).2=S' at*;obtain⟨ws',pg'⟩:=S';obtain⟨e1,e2⟩:=hpg;subst e1;exact(kp e2 _).symm
    obtain⟨h',hh'⟩:=(fp H.hw).mp this;by_cases e:b=a;·grind
    ·unfold Qu.bR;grind
   refine⟨hw',H.q.mono fun b hb=>?_,H.r.mono fun b hb=>?_,hf,by rw[hpg.2];exact H.ws⟩;·obtain⟨g1,g2⟩:=H.q.qr b hb;grind
   ·have hb':=hR' b hb;obtain⟨t1,t2⟩:=hR b hb';rw[t2 1 bd bd,t2 3 bd bd];exact⟨hb',H.r.q b hb',H.r.t b hb',t2 4 bd bd⟩
 ·have e:(Ob.final S a).2=S:=by unfold Ob.final at h0⊢;grind
  grind
theorem take(H:Wl S cs rows bb wa pe)(i:Int):Wl S cs rows bb wa (Fn.eX pe i):=⟨H.hw,H.q,H.r,H.f.take i,H.ws⟩
theorem dJ(H:Wl S cs rows bb wa pe)(a:Int):Wl (Rf.dJ S rows a).2.1 cs (Rf.dJ S rows a).2.2 bb wa pe:=by obtain⟨h1,h2,_⟩:=H.q.dJ H.hw a;exact⟨h2,h1,(H.r.dJ H.hw _ a).1,H.f.cT (mG H.hw _ a),by rw[Cu];exact H.ws⟩
theorem jl(H:Wl S cs rows bb wa pe)(i:Int):Wl (Qu.dq S rows i) cs (Qu.fK rows i) bb wa pe:=by
 obtain⟨h1,h2⟩:=H.q.jl H.hw i;refine⟨h2,h1,?_,?_,?_⟩
 ·unfold Qu.dq;split;·exact H.r.put H.hw (.inr ⟨by decide,(fun h=>by cases h),(fun h=>by cases h)⟩)
  ·exact H.r
 ·unfold Qu.dq;split;·exact H.f.cT (cm H.hw)
  ·exact H.f
 ·unfold Qu.dq;split;·rw[iP];exact H.ws
  ·exact H.ws
theorem open_(H:Wl S cs rows bb wa pe)(h:rows.length<8):Wl S cs (rows++[[]]) bb wa pe:=⟨H.hw,H.q.open_ h,H.r,H.f,H.ws⟩
theorem aC(H:Wl S cs rows bb wa pe)(a t:Int)(ht:t<9223372036854775808):Wl (Rf.aC S a t).2 cs rows bb wa pe:=by
 unfold Rf.aC;split;·exact H
 ·split;·exact H.put (.inr ⟨by decide,by decide,by decide,fun _=>ht⟩)
  ·exact H
theorem clear(H:Wl S cs rows bb wa pe)(l:List Int):Wl (Rf.clear S l).2 cs rows bb wa pe:=by
 unfold Rf.clear;split;·exact⟨aY.iu H.hw,H.q.iu H.hw l,H.r.iu H.hw l,H.f.cT (oL l H.hw),by rw[HN];exact H.ws⟩
 ·exact H
theorem wM{R:List Int}:∀{r:List Int},Qu.Lk S r→(∀b∈r,Qu.bR S b=true)→(∀b∈r.take 1,Mk.pT S cs R b)→∀b∈r,Mk.pT S cs R b
 |[],_,_,_,b,hb=>by cases hb
 |a::r,H,hr,h,b,hb=>by
  have ha:=h a (by simp);rcases List.mem_cons.mp hb with rfl|hb;·exact ha
  ·refine wM (r:=r) H.2.2 (fun c hc=>hr c (.tail _ hc)) (fun c hc=>?_) b hb;cases r with
   |nil=>cases hc
   |cons d r=>
    have:c=d:=by simpa using hc
    subst this;refine .step ha ?_ ?_
    ·refine Mk.p6.mpr ⟨2,?_,?_⟩;·obtain⟨hd,hh,hk⟩:=bx (hr a (.head _));unfold Ob.refs;grind
     ·rw[H.2.1];exact⟨rfl,rfl⟩
    ·obtain⟨hd,hh,_⟩:=bx (hr c (.tail _ (.head _)));unfold Mk.obj;rw[hh];rfl
theorem after(H:Wl S cs rows bb wa pe){x:pS}{ro:List Int}{l:List da}{m2 m3:List Bool}(hC:kl S cs x ro wa l m2 m3)(h1:∀r∈rows,∀b∈r.take 1,b∈ro)(h2:∀b∈pe,b∈ro):
  Wl (Sw.fo (Rf.cc (Rf.clear S (aU S m2 m3 l)).2 rows (bV S m3 (aU S m2 m3 l))).1 (Mk.all m3)) cs (Rf.cc (Rf.clear S (aU S m2 m3 l)).2 rows (bV S m3 (aU S m2 m3 l))).2 bb (Fn.ka wa pe (bI S m2 wa)).1 (Fn.ka wa pe (bI S m2 wa)).2:=by
 have hw:=H.hw;have H1:=H.clear (aU S m2 m3 l);have hh1:∀b,Ob.head (Rf.clear S (aU S m2 m3 l)).2 b=Ob.head S b:=fun b=>by
  unfold Rf.clear;split;·exact oL _ hw b
  ·rfl
 generalize hpu:bV S m3 (aU S m2 m3 l)=pu at*;generalize(Rf.clear S (aU S m2 m3 l)).2=S1 at*;obtain⟨e1,e2,e3⟩:=QI.cc pu H1.hw H1.q;have e4:=RI.cc pu (rows:=rows) H1.hw H1.r;have e5:=rm pu (rows:=rows) H1.hw;have e6:(Rf.cc S1 rows pu).1.ws.length=S1.ws.length:=Eu pu;have hws:=H1.ws;generalize(Rf.cc S1 rows pu).1=S2 at*;generalize(Rf.cc S1 rows pu).2=rows2 at*;have L:=Sw.nN e2 (Mk.all m3);generalize Sw.fo S2 (Mk.all m3)=S3 at*;have hd3:∀b hd,Ob.head S3 b=some hd→Ob.head S2 b=some hd:=fun b hd hh=>by rw[L.head]at hh;grind
 have hl3:∀b,Sp.has m3 b=true→Ob.head S3 b=Ob.head S2 b:=fun b hb=>by rw[L.head,if_neg];intro g;unfold Sw.dead at g;rw[List.mem_filter,decide_eq_true_iff]at g;exact g.2 (Mk.ko.mpr hb)
 have hg3:∀b,Qu.bR S3 b=true→∀j,0≤j→j<5→Ob.get S3 b j=Ob.get S2 b j:=fun b hb j j0 j5=>by obtain⟨hd,hh,hk⟩:=bx hb;have hn:=jm L.hw hh hk;rw[Ob.eb hh j0 ae,Ob.eb (hd3 b hd hh) j0 ae,L.ws]
 have m23:∀b,Sp.has m2 b=true→Sp.has m3 b=true:=fun b hb=>(hC.Dk b).mpr (.inl hb);have hroot:∀b,b∈ro→Mk.obj S b→Sp.has m3 b=true:=fun b hb ho=>m23 b ((hC.BT b).mpr (.base (.root hb ho)));have lrow:∀b∈rows2.flatten,Sp.has m3 b=true:=fun b hb=>by
  rcases e3 b hb with h|h;·rw[←hpu]at h;unfold bV at h;grind
  ·obtain⟨r,hr,hbr⟩:=List.mem_flatten.mp h;have hR:∀b∈r,Qu.bR S b=true:=fun c hc=>(H.q.qr c (List.mem_flatten.mpr ⟨r,hr,hc⟩)).1;refine m23 b ((hC.BT b).mpr (.base (wM (H.q.lk r hr) hR (fun c hc=> .root (h1 r hr c hc) ?_) b hbr)));obtain⟨hd,hh,_⟩:=bx (hR c (List.mem_of_mem_take hc));unfold Mk.obj;rw[hh];rfl
 have hnd:wa.Nodup:=H.f.nd.sublist (List.sublist_append_left ..);obtain⟨q1,q2⟩:=FI.qa (bI S m2 wa) (wa,pe) hnd;have hp:=FI.Dn (bI S m2 wa) (wa,pe);refine⟨L.hw,e1.mono fun b hb=>?_,e4.mono fun b hb=>?_,⟨hp.nodup_iff.mpr H.f.nd,fun b hb=>?_⟩,by rw[L.ws,e6];exact hws⟩
 ·obtain⟨g1,g2⟩:=e1.qr b hb;have hr3:Qu.bR S3 b=true:=by unfold Qu.bR at g1⊢;grind
  grind
 ·obtain⟨hd,hh,hk⟩:=bx hb;have g1:Qu.bR S2 b=true:=by unfold Qu.bR;grind
  rw[hg3 b hb 1 bd bd,hg3 b hb 3 bd bd];exact⟨g1,e4.q b g1,e4.t b g1,hg3 b hb 4 bd bd⟩
 ·have hf:=H.f.fl b (hp.mem_iff.mp hb);have hlive:Sp.has m3 b=true:=by
   rcases List.mem_append.mp hb with h|h
   ·obtain⟨t1,t2⟩:=(q1 b).mp h;rw[AB]at t2;apply m23 b;cases e:Sp.has m2 b with
    |true=>rfl
    |false=>exact absurd ⟨t1,hf.obj,by rw[e];simp⟩ t2
   ·rcases q2 b h with h|h;·exact hroot b (h2 b h) hf.obj
    ·exact(hC.Dk b).mpr (.inr (.root h hf.obj))
  obtain⟨hd,hh,hff⟩:=hf;exact⟨hd,eV,hff⟩
end Wl
structure HI(N:Int)(hs:List Hn.Slot):Prop where
 len:hs.length=512
 sM:∀e∈hs,0≤e.1∧e.1≤N
theorem HI.ok{N:Int}{hs:List Hn.Slot}(H:HI N hs)(h:N<2^50):Hn.Ok hs:=⟨H.len,fun e he=>by have:=H.sM e he;omega⟩
theorem HI.get{N:Int}{hs:List Hn.Slot}(H:HI N hs){i:Nat}(hi:i<512):0≤(Hn.bM hs i).1∧(Hn.bM hs i).1≤N:=by unfold Hn.bM;rw[List.getD_eq_getElem?_getD,List.getElem?_eq_getElem (by rw[H.len];exact hi)];exact H.sM _ (List.getElem_mem _)
theorem HI.le{N M:Int}{hs:List Hn.Slot}(H:HI N hs)(h:N≤M):HI M hs:=⟨H.len,fun e he=>by have:=H.sM e he;omega⟩
theorem HI.hold{N:Int}{hs:List Hn.Slot}(H:HI N hs)(a:Int):HI N (Hn.gH hs a):=by
 unfold Hn.gH;split;·exact H
 ·split
  ·rename_i i hi;obtain⟨h1,_,_⟩:=Hn.Ds hi;rw[H.len]at h1;refine⟨by rw[List.length_set];exact H.len,fun e he=>?_⟩;rcases List.mem_or_eq_of_mem_set he with h|rfl;·exact H.sM e h
   ·exact H.get h1
  ·exact H
theorem HI.drop{N:Int}{hs:List Hn.Slot}(H:HI N hs)(hN:0≤N)(x:Int):HI (N+1) (Hn.kP hs x):=by
 unfold Hn.kP;split
 ·rename_i i hi;have h1:i<512:=by unfold Hn.find at hi;grind
  refine⟨by rw[List.length_set];exact H.len,fun e he=>?_⟩;rcases List.mem_or_eq_of_mem_set he with h|rfl;·have:=H.sM e h;omega
  ·have:=H.get h1;omega
 ·exact H.le ae
structure Rt.Inv(N:Int)(x:Rt):Prop where
 w:Wl x.S x.cs x.rows x.bb x.wa x.pe
 h:HI N x.hs
 ro:x.ro.length=16
 ck:0≤x.ck∧x.ck<9223372036854775808
 bb:0≤x.bb∧x.bb≤N
 rn:0≤x.rn∧x.rn≤N
 ba:0≤x.ba∧x.ba<9223372036854775808
 stack:1≤x.stack∧x.stack≤4096
namespace Rt.Inv
variable{N:Int}{x:Rt}
theorem le{M:Int}(H:x.Inv N)(h:N≤M):x.Inv M:={H with h:=H.h.le h,bb:=⟨H.bb.1,by have:=H.bb.2;omega⟩,rn:=⟨H.rn.1,by have:=H.rn.2;omega⟩}
theorem JW(H:x.Inv N)(h:N<2^50):x.L6:=by have hl:=H.w.f.len H.w.hw;have h1:=H.rn;exact{hw:=H.w.hw,rows:=H.w.q.Gn H.w.hw,hs:=H.h.ok h,ro:=H.ro,wa:=by omega,pe:=by omega,ws:=H.w.ws,qb:=H.w.r.qb,st:=H.w.r.st H.w.hw,ck:=H.ck.2,ba:=H.ba.2,stack:=H.stack,rn:=⟨h1.1,ae⟩}
theorem ok(H:x.Inv N)(h:N<2^50):x.Ok:=(H.JW h).toOk
theorem sb(H:x.Inv N):∀r∈x.rows,∀b∈r.take 1,b∈x.roots:=fun r hr b hb=>by unfold Rt.roots;refine Mg.mem_merge.mpr ⟨?_,x.rows.flatMap (·.take 1),by simp,List.mem_flatMap.mpr ⟨r,hr,hb⟩⟩;obtain⟨hd,hh,_⟩:=bx (H.w.q.qr b (List.mem_flatten.mpr ⟨r,hr,List.mem_of_mem_take hb⟩)).1;obtain⟨n,w,e,_⟩:=Ob.bU H.w.hw hh;have:b≠0:=fun e=>Mk.mC H.w.hw (by unfold Mk.obj;rw[←e,hh];rfl);omega
theorem uP(H:x.Inv N):∀b∈x.pe,b∈x.roots:=fun b hb=>by unfold Rt.roots;refine Mg.mem_merge.mpr ⟨?_,x.pe,by simp,hb⟩;obtain⟨hd,hh,_⟩:=H.w.f.fl b (List.mem_append_right _ hb);obtain⟨n,w,e,_⟩:=Ob.bU H.w.hw hh;have:b≠0:=fun e=>Mk.mC H.w.hw (by unfold Mk.obj;rw[←e,hh];rfl);omega
theorem after(H:x.Inv N){y:pS}{l:List da}{m2 m3:List Bool}(hC:kl x.S x.cs y x.roots x.wa l m2 m3):(x.after (aU x.S m2 m3 l) (bV x.S m3 (aU x.S m2 m3 l)) (bI x.S m2 x.wa) (Mk.all m3)).Inv (N+1):=by have h1:=H.rn;have h2:=H.bb;exact{w:=H.w.after hC H.sb H.uP,h:=H.h.le ae,ro:=H.ro,ck:=H.ck,bb:=⟨h2.1,by show x.bb≤_;omega⟩,rn:=⟨by show 0≤x.rn+1;omega,by show x.rn+1≤N+1;omega⟩,ba:=H.ba,stack:=H.stack}
theorem new{pg ba stack:Int}(h:(1≤pg∧pg≤256)∧0≤ba∧(1≤stack∧stack≤4096))(hr:ba<9223372036854775808):(Rt.new pg ba stack).Inv 0:=by
 have h0:1≤pg.toNat:=by omega
 have h1:pg.toNat≤256:=by omega
 have hno:∀a,Qu.bR (Sp.ch pg.toNat) a=true→False:=fun a ha=>by obtain⟨hd,hh,_⟩:=bx ha;rw[uA h0 a]at hh;cases hh
 have hws:64≤(Sp.ch pg.toNat).ws.length:=by show 64≤(List.replicate (pg.toNat*64) (0:Int)).length;grind
 refine{w:=⟨BO h0 h1,⟨Nat.zero_le _,(fun r hr=>by cases hr),(fun a ha=>by cases ha),.nil⟩,⟨fun a ha=>(hno a ha).elim,fun a ha=>(hno a ha).elim,fun a ha=>(hno a ha).elim,fun a _ ha=>(hno a ha).elim⟩,⟨.nil,(fun a ha=>by cases ha)⟩,hws⟩,h:=⟨List.length_replicate,fun e he=>by rw[List.eq_of_mem_replicate he];decide⟩,ro:=List.length_replicate,ck:=⟨Int.le_refl 0,(by decide:(0:Int)<9223372036854775808)⟩,bb:=⟨Int.le_refl 0,Int.le_refl 0⟩,rn:=⟨Int.le_refl 0,Int.le_refl 0⟩,ba:=⟨h.2.1,hr⟩,stack:=h.2.2}
end Rt.Inv
end
end Go.Proofs.YtjginndmmlkjiaaGreat
