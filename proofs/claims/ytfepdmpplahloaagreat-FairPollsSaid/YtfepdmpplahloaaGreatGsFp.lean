/- What a collection does, plainly; rounds that come to an end. -/
import Derived.Test.YtfepdmpplahloaaGreatGsAu
set_option linter.unusedSimpArgs false
set_option linter.unusedVariables false
namespace Go.Proofs.YtfepdmpplahloaaGreat
open Go Go.Gl
abbrev yv:ay:=⟨none,0,0⟩
def Rt.Bq(x:Rt)(all:Bool)(a:Int):Prop:=fW x.S x.cs (refsOf x.S) (x.Bh yv yv all) (Mk.jM x.S x.cs x.roots) a
structure CF(x x':Rt)(all:Bool)(l:List bW)(m2 m3:List Bool)(cl pu pn:List Int):Prop where
 A:Fz x.S x'.S x.rows x'.rows cl pu m3 (fun a=>(Ob.get x.S a 1).1-1)
 tw:∀a,Sp.has m2 a=true↔x.Bq all a
 rJ:∀a,Sp.has m3 a=true↔(Sp.has m2 a=true∨Mk.jM x.S x.cs pn a)
 Ex:∀a,a∈cl↔∃h,Ob.head x.S a=some h∧h.k=4∧Mk.obj x.S (Ob.get x.S a 0).1∧¬Sp.has (if h.c=3 then m3 else m2) (Ob.get x.S a 0).1=true
 Ek:∀a,a∈pu↔(a∈cl∧Sp.has m3 a=true∧(Ob.get x.S a 1).1>0)
 E3:∀a,a∈pn↔(a∈x.wa∧Mk.obj x.S a∧¬Sp.has m2 a=true)
 nd:cl.Nodup
 eq:x'={x with S:=x'.S,rows:=x'.rows,wa:=(Fn.jK x.wa x.pe pn).1,pe:=(Fn.jK x.wa x.pe pn).2,rn:=x.rn+1}
 qt:∀a,Sp.has m3 a=true→∀b∈Mk.kids x.S x.cs a,Mk.obj x.S b→Sp.has m3 b=true
 o3:∀a,Sp.has m3 a=true→Mk.obj x.S a
 FW:cl=aT x.S m2 m3 l
 FX:pu=bG x.S m3 cl
 FV:pn=bA x.S m2 x.wa
 eS:x'.S=Sw.cz (Rf.bq (Rf.clear x.S cl).2 x.rows pu).1 (Mk.all m3)
 eR:x'.rows=(Rf.bq (Rf.clear x.S cl).2 x.rows pu).2
theorem Fk{S:aD}{cs:List aS}(hw:aO S cs){b:Int}{hd:Hd}(hh:Ob.head S b=some hd)(hk:hd.k=4):1≤hd.c∧hd.c≤3:=by
 have hc:=Ob.mQ hw hh
 obtain⟨k,c,n,f⟩:=hd
 unfold Sp.cC at hc
 dsimp only at hk hc⊢
 subst hk
 simp at hc
 omega
theorem Rt.fh.cf{x x':Rt}{all:Bool}{N:Int}(h:x.fh x' all)(I:x.Inv N)(D:x.uo):∃l m2 m3 cl pu pn,CF x x' all l m2 m3 cl pu pn:=by
 obtain⟨z1,z2,l,m2,m3,hC,rfl⟩:=h
 have hw:=I.w.hw
 refine⟨l,m2,m3,aT x.S m2 m3 l,bG x.S m3 (aT x.S m2 m3 l),bA x.S m2 x.wa,?_⟩
 refine⟨FF hw I.w.q hC (fun a=>(Ob.get x.S a 1).1-1) rfl rfl (fun a ha=>⟨by omega,by
  have:=D.qn a (oL hw hC ((List.mem_filter.mp ha).1));omega⟩) (nI hw hC),fun a=> ?_,hC.rJ,fun a=> ?_,fun a=> ?_,fun a=>pv,nI hw hC,rfl,hC.c3.qt,hC.c3.obj,rfl,rfl,rfl,rfl,rfl⟩
 ·rw[hC.tw]
  exact⟨fW.mono (x:=x.Bh z1 z2 all) (x':=x.Bh yv yv all) (fun _ h=>h) ⟨rfl,rfl,rfl,rfl⟩ fun _ h=>h,fW.mono (x:=x.Bh yv yv all) (x':=x.Bh z1 z2 all) (fun _ h=>h) ⟨rfl,rfl,rfl,rfl⟩ fun _ h=>h⟩
 ·unfold aT
  rw[List.mem_append,jq hw hC.perm,jq hw hC.perm]
  constructor
  ·rintro(⟨h,h1,h2,h3,h4,h5⟩|⟨h,h1,h2,h3,h4,h5⟩)
   ·refine⟨h,h1,h2,h4,?_⟩
    rw[if_neg (fun e=>by rw[e]at h3;simp at h3)];exact h5
   ·refine⟨h,h1,h2,h4,?_⟩
    rw[if_pos (List.mem_singleton.mp h3)];exact h5
  ·rintro⟨h,h1,h2,h4,h5⟩
   have hc:=Fk hw h1 h2
   by_cases e:h.c=3
   ·rw[if_pos e]at h5
    exact .inr ⟨h,h1,h2,by rw[e];simp,h4,h5⟩
   ·rw[if_neg e]at h5
    refine .inl ⟨h,h1,h2,?_,h4,h5⟩
    have:h.c=1∨h.c=2:=by omega
    simpa using this
 ·unfold bG
  rw[List.mem_filter,Bool.and_eq_true,decide_eq_true_iff]
namespace CF
variable{x x':Rt}{all:Bool}{l:List bW}{m2 m3:List Bool}{cl pu pn:List Int}
theorem obj(H:CF x x' all l m2 m3 cl pu pn)(a:Int):Mk.obj x'.S a↔Sp.has m3 a=true:=H.A.obj a
theorem hs(H:CF x x' all l m2 m3 cl pu pn):x'.hs=x.hs:=by rw[H.eq]
theorem ro(H:CF x x' all l m2 m3 cl pu pn):x'.ro=x.ro:=by rw[H.eq]
theorem ck(H:CF x x' all l m2 m3 cl pu pn):x'.ck=x.ck:=by rw[H.eq]
theorem cs(H:CF x x' all l m2 m3 cl pu pn):x'.cs=x.cs:=by rw[H.eq]
theorem aU(H:CF x x' all l m2 m3 cl pu pn):x'.aU=x.aU:=by rw[H.eq]
theorem aZ(H:CF x x' all l m2 m3 cl pu pn):x'.aZ=x.aZ:=by rw[H.eq]
theorem wa(H:CF x x' all l m2 m3 cl pu pn):x'.wa=(Fn.jK x.wa x.pe pn).1:=by rw[H.eq]
end CF
theorem qX{cs:List aS}:∀(l:List Int) {S:aD} {rows:List (List Int)},aO S cs→Sp.each (Rf.bq S rows l).1=Sp.each S∧(∀b,Sp.find (Rf.bq S rows l).1 b=Sp.find S b)∧(Rf.bq S rows l).1.ws.length=S.ws.length
 |[],_,_,_=>⟨rfl,fun _=>rfl,rfl⟩
 |a::l,S,rows,hw=>by
  have p:∀{S:aD},aO S cs→∀b i v,Sp.each (Ob.put S b i v).2=Sp.each S∧(∀c,Sp.find (Ob.put S b i v).2 c=Sp.find S c)∧(Ob.put S b i v).2.ws.length=S.ws.length:=fun hw b i v=>⟨kj hw b i v,lZ _ b i v,dt _ b i v⟩
  have tr:∀{S1 S2 S3:aD},(Sp.each S2=Sp.each S1∧(∀c,Sp.find S2 c=Sp.find S1 c)∧S2.ws.length=S1.ws.length)→(Sp.each S3=Sp.each S2∧(∀c,Sp.find S3 c=Sp.find S2 c)∧S3.ws.length=S2.ws.length)→(Sp.each S3=Sp.each S1∧(∀c,Sp.find S3 c=Sp.find S1 c)∧S3.ws.length=S1.ws.length):=fun h g=>⟨g.1.trans h.1,fun c=>(g.2.1 c).trans (h.2.1 c),g.2.2.trans h.2.2⟩
  have ps:∀{S:aD},aO S cs→∀i v,Sp.each (Qu.bh S rows i v)=Sp.each S∧(∀c,Sp.find (Qu.bh S rows i v) c=Sp.find S c)∧(Qu.bh S rows i v).ws.length=S.ws.length:=fun{S} hw i v=>by
   unfold Qu.bh
   split
   ·split
    ·exact p hw _ _ _
    ·exact tr (p hw v 2 0) (p (hw.put v 2 0) _ _ _)
   ·exact⟨rfl,fun _=>rfl,rfl⟩
  have e1:Sp.each (Rf.ct S rows a).2.1=Sp.each S∧(∀c,Sp.find (Rf.ct S rows a).2.1 c=Sp.find S c)∧(Rf.ct S rows a).2.1.ws.length=S.ws.length:=by
   have hw1:=hw.put a 0 0
   unfold Rf.ct
   split
   ·split
    ·exact p hw _ _ _
    ·split
     ·exact tr (p hw a 0 0) (ps hw1 _ _)
     ·exact tr (tr (p hw a 0 0) (ps hw1 _ _)) (p (jf hw1 _ _ _) _ _ _)
   ·exact⟨rfl,fun _=>rfl,rfl⟩
  exact tr e1 (qX l (S:=(Rf.ct S rows a).2.1) (rows:=(Rf.ct S rows a).2.2) (sj hw rows a))
theorem ue{cs:List aS}:∀(l:List Int) {S:aD},aO S cs→Sp.each (Rf.eJ S l)=Sp.each S∧(∀b,Sp.find (Rf.eJ S l) b=Sp.find S b)∧(Rf.eJ S l).ws.length=S.ws.length
 |[],_,_=>⟨rfl,fun _=>rfl,rfl⟩
 |a::l,S,hw=>by
  obtain⟨h1,h2,h3⟩:=ue l (S:=(Ob.put S a 0 0).2) (hw.put a 0 0)
  exact⟨h1.trans (kj hw a 0 0),fun b=>(h2 b).trans (lZ S a 0 0 b),h3.trans (dt S a 0 0)⟩
theorem vy{cs:List aS}(l:List Int){S:aD}(hw:aO S cs):Sp.each (Rf.clear S l).2=Sp.each S∧(∀b,Sp.find (Rf.clear S l).2 b=Sp.find S b)∧(Rf.clear S l).2.ws.length=S.ws.length:=by
 unfold Rf.clear
 split
 ·exact ue l hw
 ·exact⟨rfl,fun _=>rfl,rfl⟩
theorem qu{l:List Int}{p:Int→Bool}{f:Int→Int}(h:∀a∈l,0≤f a):((l.filter p).map f).sum≤(l.map f).sum:=by
 induction l with
 |nil=>exact Int.le_refl _
 |cons a l ih=>
  have h0:=h a (.head _)
  have h1:=ih fun b hb=>h b (.tail _ hb)
  rw[List.filter_cons]
  split
  ·rw[List.map_cons,List.map_cons,List.sum_cons,List.sum_cons];omega
  ·rw[List.map_cons,List.sum_cons];omega
theorem qy{l:List Int}{f g:Int→Int}(h:∀a∈l,f a=g a):l.map f=l.map g:=List.map_congr_left h
theorem xU{x x':Rt}{all:Bool}{N:Int}(h:x.fh x' all)(I:x.Inv N):x.free≤x'.free∧x'.S.ws.length=x.S.ws.length∧Sp.each x'.S=(Sp.each x.S).filter (fun a=>(Ob.head x'.S a).isSome)∧x'.used≤x.used:=by
 obtain⟨z1,z2,l,m2,m3,hC,rfl⟩:=h
 have hw:=I.w.hw
 have W:=I.w.clear (aT x.S m2 m3 l)
 obtain⟨c1,c2,c3⟩:=vy (aT x.S m2 m3 l) hw
 obtain⟨e1,e2,e3⟩:=qX (bG x.S m3 (aT x.S m2 m3 l)) (rows:=x.rows) W.hw
 obtain⟨_,hw2,_⟩:=QI.bq (bG x.S m3 (aT x.S m2 m3 l)) W.hw W.q
 unfold Rt.after
 generalize(Rf.clear x.S (aT x.S m2 m3 l)).2=S1 at*
 generalize(Rf.bq S1 x.rows (bG x.S m3 (aT x.S m2 m3 l)))=E at*
 obtain⟨S2,rows2⟩:=E
 dsimp only at*
 have L:=Sw.jQ hw2 (Mk.all m3)
 have Le:=L.each hw2
 generalize Sw.cz S2 (Mk.all m3)=S3 at*
 have f1:Sp.each S3=(Sp.each x.S).filter (fun a=>(Ob.head S3 a).isSome):=by
  rw[Le,e1,c1]
  refine List.filter_congr fun a ha=> ?_
  have ho:(Ob.head S2 a).isSome=true:=by
   obtain⟨hd,hh⟩:=(cb hw2).mp (show a∈Sp.each S2 by rw[e1,c1];exact ha)
   rw[hh];rfl
  rw[L.head]
  by_cases g:a∈Sw.dead S2 (Mk.all m3)
  ·rw[if_pos g];simpa using g
  ·rw[if_neg g,ho];simpa using g
 have hu:((Sp.each S3).map (Sp.bj S3)).sum≤((Sp.each x.S).map (Sp.bj x.S)).sum:=by
  have g1:(Sp.each S3).map (Sp.bj S3)=(Sp.each S3).map (Sp.bj x.S):=qy fun a ha=>by
   obtain⟨n,w,rfl,hf⟩:=(cg L.hw.wf).mp ha
   have h2:=((L.find n w).mp hf).1
   exact fm (by rw[hf,←h2,e2,c2])
  rw[g1,f1]
  refine qu fun a ha=> ?_
  obtain⟨n,rfl,_,w,h1,_⟩:=Sp.iL hw.wf ha
  unfold Sp.bj;rw[h1];dsimp only;omega
 have hl:S3.ws.length=x.S.ws.length:=by rw[L.ws,e3,c3]
 refine⟨?_,hl,f1,hu⟩
 show((x.S.ws.length-64:Nat):Int)-((Sp.each x.S).map (Sp.bj x.S)).sum≤((S3.ws.length-64:Nat):Int)-((Sp.each S3).map (Sp.bj S3)).sum
 rw[hl];omega
namespace Fr
def un(S:aD)(l:List Int):aD:=l.foldl (fun S a=>(Ob.put S a 2 0).2) S
theorem wP{cs:List aS}:∀(l:List Int) {S:aD},aO S cs→aO (un S l) cs∧(∀b,Ob.head (un S l) b=Ob.head S b)∧(un S l).ws.length=S.ws.length∧Sp.each (un S l)=Sp.each S∧(∀b,Sp.find (un S l) b=Sp.find S b)
 |[],_,hw=>⟨hw,fun _=>rfl,rfl,rfl,fun _=>rfl⟩
 |a::l,S,hw=>by
  obtain⟨h1,h2,h3,h4,h5⟩:=wP l (S:=(Ob.put S a 2 0).2) (hw.put a 2 0)
  exact⟨h1,fun b=>(h2 b).trans (bb hw b),h3.trans (dt S a 2 0),h4.trans (kj hw a 2 0),fun b=>(h5 b).trans (lZ S a 2 0 b)⟩
theorem nm{cs:List aS}:∀(l:List Int) {S:aD},aO S cs→∀{b j:Int} {hd:Hd},Ob.head S b=some hd→0≤j→j<hd.n→Ob.get (un S l) b j=if b∈l∧j=2 then(0,0)else Ob.get S b j
 |[],S,_,b,j,hd,_,_,_=>by rw[if_neg (by rintro⟨h,_⟩;cases h)];rfl
 |a::l,S,hw,b,j,hd,hb,j0,j1=>by
  have e:=nm l (S:=(Ob.put S a 2 0).2) (hw.put a 2 0) (b:=b) (j:=j) (hd:=hd) (by rw[bb hw];exact hb) j0 j1
  show Ob.get (un (Ob.put S a 2 0).2 l) b j=_
  rw[e,fG hw hb j0 j1]
  by_cases h1:b∈l∧j=2
  ·rw[if_pos h1,if_pos ⟨.tail _ h1.1,h1.2⟩]
  ·rw[if_neg h1]
   by_cases h2:b=a∧j=2
   ·rw[if_pos h2,if_pos ⟨by rw[h2.1];exact .head _,h2.2⟩]
   ·rw[if_neg h2,if_neg]
    rintro⟨g1,g2⟩
    rcases List.mem_cons.mp g1 with g|g
    ·exact h2 ⟨g,g2⟩
    ·exact h1 ⟨g,g2⟩
theorem Dh{cs:List aS}{aU:Int}:∀(l:List Int) {S:aD},aO S cs→RI S aU→RI (un S l) aU
 |[],_,_,h=>h
 |a::l,S,hw,h=>Dh l (S:=(Ob.put S a 2 0).2) (hw.put a 2 0) (h.put hw (.inr ⟨by decide,(fun h=>by cases h),(fun h=>by cases h)⟩))
theorem Dc{cs:List aS}:∀(l:List Int) {S:aD},aO S cs→Sd S cs→Sd (un S l) cs
 |[],_,_,h=>h
 |a::l,S,hw,h=>Dc l (S:=(Ob.put S a 2 0).2) (hw.put a 2 0) (h.put hw (.inl (.inl rfl)))
theorem C6{cs:List aS}{n:Int}:∀(l:List Int) {S:aD},aO S cs→QN S n→QN (un S l) n
 |[],_,_,h=>h
 |a::l,S,hw,h=>C6 l (S:=(Ob.put S a 2 0).2) (hw.put a 2 0) (h.put hw (.inl (by decide)))
theorem C7{cs:List aS}{rows:List (List Int)}{ck:Int}:∀(l:List Int) {S:aD},aO S cs→Ah S rows ck→Ah (un S l) rows ck
 |[],_,_,h=>h
 |a::l,S,hw,h=>C7 l (S:=(Ob.put S a 2 0).2) (hw.put a 2 0) (h.put hw (.inr (.inl rfl)) (.inl (by decide)) (.inl (by decide)))
def emp(x:Rt):Rt:={x with S:=un x.S x.rows.flatten,rows:=List.replicate x.rows.length [],pe:=[]}
theorem mh(n:Nat):(List.replicate n ([]:List Int)).flatten=[]:=by
 rw[List.flatten_eq_nil_iff]
 intro l hl
 exact List.eq_of_mem_replicate hl
theorem BN{x:Rt}{N:Int}(I:x.Inv N):(emp x).Inv N:=by
 have hw:=I.w.hw
 obtain⟨h1,h2,h3,h4,h5⟩:=wP x.rows.flatten hw
 refine{I with w:=⟨h1,⟨by rw[show(emp x).rows=List.replicate x.rows.length []from rfl,List.length_replicate];exact I.w.q.ux,fun r hr=> ?_,fun a ha=> ?_,?_⟩,Dh _ hw I.w.r,⟨?_,fun a ha=> ?_⟩,by rw[show(emp x).S.ws.length=x.S.ws.length from h3];exact I.w.ws⟩}
 ·rw[List.eq_of_mem_replicate hr];trivial
 ·rw[show(emp x).rows=List.replicate x.rows.length []from rfl,mh]at ha;cases ha
 ·rw[show(emp x).rows=List.replicate x.rows.length []from rfl,mh];exact .nil
 ·show(x.wa++[]).Nodup
  rw[List.append_nil]
  exact I.w.f.nd.sublist (List.sublist_append_left ..)
 ·change a∈x.wa++[]at ha
  rw[List.append_nil]at ha
  obtain⟨hd,g1,g2⟩:=I.w.f.fl a (List.mem_append_left _ ha)
  exact⟨hd,(h2 a).trans g1,g2⟩
theorem Dv{x:Rt}{N:Int}(I:x.Inv N)(H:Rx.DS x):Rx.DS (emp x):=by
 have hw:=I.w.hw
 obtain⟨h1,h2,h3,h4,h5⟩:=wP x.rows.flatten hw
 refine⟨⟨?_,H.1.kn.bC h2,H.1.cl⟩,⟨Dc _ hw H.2.fY,fun t=>(H.2.hs t).bC h2,fun v hv=>(H.2.ro v hv).bC h2⟩⟩
 show QN (un x.S x.rows.flatten) ((List.replicate x.rows.length ([]:List Int)).length:Nat)
 rw[List.length_replicate]
 exact C6 _ hw H.1.qn
theorem Es{x:Rt}{N:Int}(I:x.Inv N)(H:x.Au):(emp x).Au:=by
 have hw:=I.w.hw
 have h:=C7 x.rows.flatten hw H
 show Ah (un x.S x.rows.flatten) (List.replicate x.rows.length []) x.ck
 refine h.oM (fun b hb _ hm=> ?_) fun b hb=>by rw[mh]at hb;cases hb
 have hr:=(I.w.q.qr b hm).1
 obtain⟨hd,hh,hk⟩:=aM hr
 have h5:=dm hw hh hk
 rw[nm _ hw hh (by decide) (by omega),if_pos ⟨hm,rfl⟩]
def fB(x y:Rt)(out:List Int):Prop:=∃x1,x.fh x1 false∧y=emp x1∧out=x1.rows.flatten.map fun a=>(Ob.get x1.S a 4).1
structure W(x:Rt)(N:Int):Prop where
 I:x.Inv N
 D:Rx.DS x
 A:x.Au
theorem fB.w{x y:Rt}{out:List Int}{N:Int}(H:W x N)(hN:N<2^50)(h:fB x y out):W y (N+1):=by
 obtain⟨x1,c1,rfl,rfl⟩:=h
 have I1:=c1.inv H.I
 exact⟨BN I1,Dv I1 (Rx.ox H.D H.I hN c1),Es I1 (Rx.oH H.A H.I c1)⟩
def Idle(x:Rt):Prop:=x.rows.flatten=[]∧x.pe=[]
theorem fB.idle{x y:Rt}{out:List Int}(h:fB x y out):Idle y:=by
 obtain⟨x1,c1,rfl,rfl⟩:=h
 exact⟨mh _,rfl⟩
theorem flatMap_nil{rows:List (List Int)}(h:rows.flatten=[]):rows.flatMap (·.take 1)=[]:=by
 rw[List.flatMap_eq_nil_iff]
 intro r hr
 rw[List.flatten_eq_nil_iff.mp h r hr];rfl
structure E4(x y:Rt)(out:List Int)(l:List bW)(m2 m3:List Bool)(cl pu pn:List Int):Prop where
 obj:∀a,Mk.obj y.S a↔Sp.has m3 a=true
 head:∀a,Sp.has m3 a=true→Ob.head y.S a=Ob.head x.S a
 get:∀a,Sp.has m3 a=true→∀{j:Int} {hd:Hd},Ob.head x.S a=some hd→0≤j→j<hd.n→j≠2→Ob.get y.S a j=if a∈cl∧j=0 then(0,0)else if a∈pu∧j=1 then(-1,0)else Ob.get x.S a j
 FP:∀a,Sp.has m3 a=true→Qu.ba x.S a=false→∀{hd:Hd},Ob.head x.S a=some hd→2<hd.n→Ob.get y.S a 2=Ob.get x.S a 2
 hs:y.hs=x.hs
 ro:y.ro=x.ro
 cs:y.cs=x.cs
 ck:y.ck=x.ck
 aZ:y.aZ=x.aZ
 aU:y.aU=x.aU
 free:x.free≤y.free
 wa:y.wa=(Fn.jK x.wa x.pe pn).1
 tw:∀a,Sp.has m2 a=true↔x.Bq false a
 rJ:∀a,Sp.has m3 a=true↔(Sp.has m2 a=true∨Mk.jM x.S x.cs pn a)
 Ex:∀a,a∈cl↔∃h,Ob.head x.S a=some h∧h.k=4∧Mk.obj x.S (Ob.get x.S a 0).1∧¬Sp.has (if h.c=3 then m3 else m2) (Ob.get x.S a 0).1=true
 Ek:∀a,a∈pu↔(a∈cl∧Sp.has m3 a=true∧(Ob.get x.S a 1).1>0)
 E3:∀a,a∈pn↔(a∈x.wa∧Mk.obj x.S a∧¬Sp.has m2 a=true)
 len:y.rows.length=x.rows.length
 out:∃q:List Int,(∀a,a∈q↔(a∈x.rows.flatten∨a∈pu))∧q.Nodup∧(∀a∈q,Sp.has m3 a=true∧Qu.ba x.S a=true)∧out=q.map fun a=>(Ob.get x.S a 4).1
theorem AT{x x':Rt}{all:Bool}{l:List bW}{m2 m3:List Bool}{cl pu pn:List Int}(C:CF x x' all l m2 m3 cl pu pn)(D:x.uo)(hq:∀a∈cl,Qu.ba x.S a=true){a:Int}:a∈x'.rows.flatten↔(a∈x.rows.flatten∨a∈pu):=by
 have A:=C.A
 constructor
 ·intro h
  obtain⟨r,hr,hm⟩:=List.mem_flatten.mp h
  obtain⟨j,hj,e⟩:=List.mem_iff_getElem.mp hr
  have hj':j<x.rows.length:=by rw[←A.len];exact hj
  have:=A.row j hj'
  rw[List.getD_eq_getElem?_getD,List.getElem?_eq_getElem hj,e]at this
  change r=_ at this
  rw[this]at hm
  rcases List.mem_append.mp hm with g|g
  ·left
   rw[List.getD_eq_getElem?_getD,List.getElem?_eq_getElem hj']at g
   exact List.mem_flatten.mpr ⟨_,List.getElem_mem hj',g⟩
  ·exact .inr (List.mem_filter.mp g).1
 ·intro ha
  obtain⟨j,hj,h⟩:∃j,j<x.rows.length∧a∈x'.rows.getD j []:=by
   rcases ha with h|h
   ·obtain⟨r,hr,hm⟩:=List.mem_flatten.mp h
    obtain⟨j,hj,e⟩:=List.mem_iff_getElem.mp hr
    refine⟨j,hj,?_⟩
    rw[A.row j hj]
    refine List.mem_append_left _ ?_
    rw[List.getD_eq_getElem?_getD,List.getElem?_eq_getElem hj,e];exact hm
   ·obtain⟨h1,h2,h3⟩:=(C.Ek a).mp h
    have hq2:=D.qn a (hq a h1)
    refine⟨((Ob.get x.S a 1).1-1).toNat,by omega,?_⟩
    rw[A.row _ (by omega)]
    exact List.mem_append_right _ (List.mem_filter.mpr ⟨h,by rw[beq_iff_eq];omega⟩)
  rw[←A.len]at hj
  rw[List.getD_eq_getElem?_getD,List.getElem?_eq_getElem hj]at h
  exact List.mem_flatten.mpr ⟨_,List.getElem_mem hj,h⟩
theorem fB.rd{x y:Rt}{out:List Int}{N:Int}(H:W x N)(h:fB x y out):∃l m2 m3 cl pu pn,E4 x y out l m2 m3 cl pu pn:=by
 obtain⟨x1,c1,rfl,rfl⟩:=h
 have I1:=c1.inv H.I
 have hw1:=I1.w.hw
 have hw:=H.I.w.hw
 obtain⟨f1,f2,f3,f4⟩:=xU c1 H.I
 obtain⟨l,m2,m3,cl,pu,pn,C⟩:=c1.cf H.I H.D.1
 obtain⟨u1,u2,u3,u4,u5⟩:=wP x1.rows.flatten hw1
 have hclR:∀a∈cl,Qu.ba x.S a=true:=fun a ha=>by
  obtain⟨hd,g1,g2,_⟩:=(C.Ex a).mp ha
  unfold Qu.ba;rw[g1];simpa using g2
 have hmr:=fun{a:Int}=>AT (a:=a) C H.D.1 hclR
 have hR:∀a∈x1.rows.flatten,Qu.ba x.S a=true:=fun a ha=>by
  rcases hmr.mp ha with g|g
  ·exact(H.I.w.q.qr a g).1
  ·exact hclR a ((C.Ek a).mp g).1
 have hL:∀a∈x1.rows.flatten,Sp.has m3 a=true:=fun a ha=>(C.obj a).mp (Sd.zT (I1.w.q.qr a ha).1)
 refine⟨l,m2,m3,cl,pu,pn,?_⟩
 have hg:∀a,Sp.has m3 a=true→∀{j:Int} {hd:Hd},Ob.head x.S a=some hd→0≤j→j<hd.n→j≠2→Ob.get x1.S a j=if a∈cl∧j=0 then(0,0)else if a∈pu∧j=1 then(-1,0)else Ob.get x.S a j:=fun a ha j hd hh j0 j1 j2=>C.A.get a ha hh j0 j1 (.inl j2)
 refine⟨fun a=> ?_,fun a ha=> ?_,fun a ha j hd hh j0 j1 j2=> ?_,fun a ha hr hd hh j1=> ?_,C.hs,C.ro,C.cs,C.ck,C.aZ,C.aU,?_,C.wa,C.tw,C.rJ,C.Ex,C.Ek,C.E3,?_,x1.rows.flatten,fun a=>hmr,I1.w.q.nd,fun a ha=>⟨hL a ha,hR a ha⟩,List.map_congr_left fun a ha=> ?_⟩
 ·rw[←C.obj a]
  unfold Mk.obj
  rw[show Ob.head (emp x1).S a=Ob.head x1.S a from u2 a]
 ·exact(u2 a).trans (C.A.head a ha)
 ·have hh1:Ob.head x1.S a=some hd:=(C.A.head a ha).trans hh
  rw[show Ob.get (emp x1).S a j=_ from nm _ hw1 hh1 j0 j1,if_neg (fun g=>j2 g.2)]
  exact hg a ha hh j0 j1 j2
 ·have hh1:Ob.head x1.S a=some hd:=(C.A.head a ha).trans hh
  rw[show Ob.get (emp x1).S a 2=_ from nm _ hw1 hh1 (by decide) j1,if_neg (fun g=>by have:=hR a g.1;rw[hr]at this;cases this)]
  rw[C.A.get a ha hh (by decide) j1 (.inr ⟨(fun g=>by have:=hclR a ((C.Ek a).mp g).1;rw[hr]at this;cases this),(fun g=>by have:=(H.I.w.q.qr a g).1;rw[hr]at this;cases this)⟩),if_neg (by simp),if_neg (by simp)]
 ·have e:(emp x1).used=x1.used:=by
   show((Sp.each (un x1.S x1.rows.flatten)).map (Sp.bj (un x1.S x1.rows.flatten))).sum=((Sp.each x1.S).map (Sp.bj x1.S)).sum
   rw[u4]
   congr 1
   exact List.map_congr_left fun a _=>fm (u5 a)
  have e2:(emp x1).free=x1.free:=by
   unfold Rt.free
   rw[e,show(emp x1).S.ws.length=x1.S.ws.length from u3]
  rw[e2];exact f1
 ·show(List.replicate x1.rows.length ([]:List Int)).length=_
  rw[List.length_replicate];exact C.A.len
 ·have hr:=hR a ha
  obtain⟨hd,hh,hk⟩:=aM hr
  have h5:=dm hw hh hk
  rw[hg a (hL a ha) hh (by decide) (by omega) (by decide),if_neg (by simp),if_neg (by simp)]
end Fr
end Go.Proofs.YtfepdmpplahloaaGreat
