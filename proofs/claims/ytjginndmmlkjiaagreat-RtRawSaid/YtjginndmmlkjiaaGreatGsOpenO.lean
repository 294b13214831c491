import Derived.Test.YtjginndmmlkjiaaGreatGsErr
import Derived.Test.YtjginndmmlkjiaaGreatGsTr20B
import Derived.OpenShut
import Derived.ProofKit
set_option linter.unusedSimpArgs false
set_option linter.unusedVariables false
namespace Go.Proofs.YtjginndmmlkjiaaGreat
section
open Go Go.Gl
variable{ρ0 ρ:FR}{L L':List aD}{Post:Value→List aD→Prop}{T:Tree}
namespace Rx
theorem DH{mk:Rt→bH}{x:Rt}{N:Int}(hm:qG mk)(I:x.Inv N){y:bH}(h:tv mk x y):y.2.Inv (N+5):=by
 have I0:=hm _ _ I;rcases h with ⟨_,rfl⟩|⟨_,x1,c1,h⟩;·exact I0.le ae
 ·have I1:=hm _ _ (c1.inv I0);rcases h with ⟨_,rfl⟩|⟨_,x2,c2,rfl⟩;·exact I1.le ae
  ·exact(hm _ _ (c2.inv I1)).le ae
theorem p8{mk:Rt→bH}{x:Rt}{N:Int}(hm:qG mk)(I:x.Inv N){y:bH}(h:dv mk x y):y.2.Inv (N+10):=by
 unfold dv at h;split at h;·rw[h];exact I.le ae
 ·obtain⟨z,hz,rfl⟩:=h;have Iz:=(DH hm I hz).le (show N+5≤N+10 by omega);split;·exact Iz
  ·exact lj Iz _
theorem Hv{x:Rt}{N k a b c:Int}(I:x.Inv N)(ha:a<9223372036854775808){y:bH}(h:Cq x k a b c y):y.2.Inv (N+10):=by
 have hN0:0≤N:=by have:=I.bb;omega
 rcases o5 k with rfl|rfl|rfl|rfl|rfl|rfl|rfl|rfl|rfl|rfl|rfl|rfl|rfl|rfl|rfl|rfl|rfl|rfl|rfl|rfl|rfl|hk
 ·rw[show y=gw x a b from h];unfold gw;split;·exact I.le ae
  ·exact Rt.Inv.le {I with w:=⟨I.w.hw.eE (by have:=oC b 32;omega),I.w.q,I.w.r,I.w.f,I.w.ws⟩} ae
 ·change fm x a y at h;unfold fm at h;split at h;·exact p8 (gI (show(1:Int)≠4 by decide)) I h
  ·rw[h];exact I.le ae
 ·change dQ x 2 a y at h;unfold dQ at h;split at h;·rw[h];exact I.le ae
  ·exact p8 (gI (show(2:Int)≠4 by decide)) I h
 ·change dQ x 3 a y at h;unfold dQ at h;split at h;·rw[h];exact I.le ae
  ·exact p8 (gI (show(3:Int)≠4 by decide)) I h
 ·rw[show y=get x a b from h];exact(Ct I a b).le ae
 ·rw[show y=set x a b c from h];exact(B7 I a b c).le ae
 ·rw[show y=put x a b c from h];exact(Ck I a b c).le ae
 ·rw[show y=drop x a from h];exact(y9 I hN0 a).le ae
 ·rw[show y=root x a b from h];exact(zN I a b).le ae
 ·rw[show y=take x a from h];exact(yI I a).le ae
 ·change gq x a b c y at h;unfold gq at h;split at h;·rw[h];exact I.le ae
  ·split at h;·rw[h];exact I.le ae
   ·exact p8 (mJ _ _ _) I h
 ·rw[show y=aC x a from h];exact(qM I a).le ae
 ·rw[show y=clear x a from h];exact(vU I a).le ae
 ·rw[show y=enqueue x a from h];exact(sx I a).le ae
 ·rw[show y=lO x from h];exact(zM I).le ae
 ·rw[show y=jl x a from h];exact(zj I a).le ae
 ·rw[show y=final x a from h];exact(vT I a).le ae
 ·rw[show y=run x a b c from h];exact(Ca I a b c).le ae
 ·change cJ x a y at h;unfold cJ at h;split at h;·rw[h];exact I.le ae
  ·obtain⟨x',c1,rfl⟩:=h;exact(c1.inv I).le ae
 ·rw[show y=tick x a from h];exact(yR I ha).le ae
 ·rw[show y=count x a from h];exact(wI I a).le ae
 ·rw[mM hk]at h;rw[h];exact I.le ae
theorem Lw{x:Rt}{N k a b c:Int}(H:Fr.W x N)(hN:N+10<2^49)(ha:a<9223372036854775808){y:bH}(h:Cq x k a b c y):Fr.W y.2 (N+10):=
 ⟨Hv H.I ha h,K2 H.D H.I hN h,KY H.A H.I ha h⟩
theorem Lb{x x':Rt}{N:Int}{all:Bool}(H:Fr.W x N)(hN:N<2^50)(h:x.jF x' all):Fr.W x' (N+1):=⟨h.inv H.I,sX H.D H.I hN h,s9 H.A H.I h⟩
theorem oN{x:Rt}{N:Int}(H:Fr.W x N){h:Int}(h0:(fh x h false).2=0):Mk.obj x.S (fh x h false).1:=by
 have hok:=H.D.2.fh h false;have e:fh x h false=Hn.held x.hs h:=by unfold fh;rw[if_neg (fun g=>by cases g.1)]
 rw[e]at h0 hok⊢;refine hok.resolve_left fun h1=>?_;unfold Hn.held at h0 h1;cases hf:Hn.find x.hs h with
 |none=>rw[hf]at h0;cases h0
 |some i=>
  rw[hf]at h1;unfold Hn.find at hf;split at hf;·cases hf
  ·split at hf;·rename_i g;injection hf with hf;rw[hf]at g;exact g.1 h1
   ·cases hf
end Rx
structure Doc(x:Rt)(lc:List (aX×av))(N:Int):Prop where
 w:Fr.W x N
 cs:x.cs=dK lc
 ln:∀z∈lc,z.2.n=z.1.2.length
theorem Doc.hw{x:Rt}{lc:List (aX×av)}{N:Int}(H:Doc x lc N):aY x.S (dK lc):=H.cs▸H.w.I.w.hw
theorem iJ.ld{d:Dl}{x:Rt}{k:LK}{off:Nat}{v:LT k}{f:LT k→Tree}{a:Addr}(t:Take L (iJ d x) L')(ha:a=⟨d.p,off,none⟩)
  (hv:∀s:av,[pA d.h,pA d.r,pA d.n,bY s,pA d.f,i64 x.ck,i64 x.ba,i64 x.stack,i64 x.rn][off]? =some (k.val v)) (h:Tr ρ0 ρ (iJ d x::L') (f v) Post):Tr ρ0 ρ L (ld (.l k) a f) Post:=by exact iJ.op t fun s hs=>aT ha tk (hv s)<|Tr.close ar (iJ.cl hs) h
theorem bc(e n:Int):Gl.Spec ρ Zp 44 [i64 e,i64 n] [] G2 fun r M=>r=dt n e∧M=[]:=by
 refine So (F.aj.Ml.calls e n) fun R=>aq fun b1=>?_;rw[oo];refine ag (fun h=>?_) (fun h=>?_)
 ·have h:e≠0:=by simpa using h
  refine iT ?_;refine aN (x:=(e,_,())) [] rfl tk rfl<|ax ?_ ⟨rfl,rfl⟩ ar bE;unfold dt;rw[if_pos h];rfl
 ·have h:e=0:=by simpa using h
  subst h;refine iT ?_;exact aN (x:=(_,n,())) [] rfl tk rfl<|rT
theorem aG{b2:Nat}{u v:Int}{r:LTs [kI,kI]}{B:RT G2→List aD→Prop}{A R LL LR:List aD}(t:aI LL (au b2 [i64 u,i64 v]::A) LR)(he:Gl.Ends LR R)(hB:B r A):
  Tr ρ0 ρ LL (st (⟨b2,0,none⟩) [.int .i64 r.1,.int .i64 r.2.1]<|ld (.g [kI,kI]) (⟨b2,0,none⟩) fun(x9:LTs _)=>ret (.agg #[.int .i64 x9.1,.int .i64 x9.2.1])) (SP G2 B R):=by obtain⟨e,n,⟨⟩⟩:=r;exact Tr.perm t.perm<|iT<|aN (x:=(e,n,())) [] rfl .here rfl<|ax rfl hB (aI.app A _).ly (.skip he)
theorem DZ{x:Rt}{v:Int}(h:1≤v):Rx.iE x v=Hn.iD x.hs v∧Rx.eD x v={x with hs:=Hn.gH x.hs v}:=by
 unfold Rx.iE Rx.eD;rw[if_neg (show¬v=0 by omega),if_neg (show¬v=0 by omega)];refine⟨?_,rfl⟩;by_cases e:Hn.free x.hs=none;·rw[if_pos e];unfold Hn.iD;rw[if_neg ae,e]
 ·rw[if_neg e]
theorem nD(d:Dl)(x:Rt)(lc:List (aX×av))(H:Hn.Ok x.hs)(v:Int)(hv:0≤v):Gl.Spec ρ Zp 48 [pA d.p,i64 v] (d.A x lc) G2
  fun r M=>r=dt (Rx.iE x v).1 (Rx.iE x v).2∧M=d.A (Rx.eD x v) lc:=by
 refine So (F.aj.aQ.Gt.calls _ v) fun R=>aq fun b1=>?_;rw[oo];refine ag (fun h=>?_) (fun h=>?_)
 ·have h:v=0:=by simpa using h
  subst h;exact aG (r:=(0,0,())) ar bE ⟨rfl,rfl⟩
 ·have h:v≠0:=by simpa using h
  obtain⟨e1,e2⟩:=DZ (x:=x) (v:=v) ae;rw[e1,e2];refine af (iJ.ld tk bL (fun _=>rfl) ?_);refine cE (I7 _ H v)<|aq fun b5=>?_;rw[gk];refine iT<|aT bL tk rfl<|aT bL tk rfl<|cE (bc (Hn.iD _ v).2 (Hn.iD _ v).1) ?_;exact aG ar bE ⟨rfl,rfl⟩
theorem Hu(p:Nat){hs:List Hn.Slot}(H:Hn.Ok hs):Gl.Spec ρ Zp 56 [pA p] [bX p hs] R1
  fun r M=>r=512-((Hn.all hs).length:Nat)∧M=[bX p hs]:=by
 refine So (F.aa.aW.Room.calls _) fun R=>?_;have hl:(Hn.all hs).length≤512:=by unfold Hn.all;rw[H.len];exact Hn.gp _
 refine ai (BI p H) ar ?_;rintro r _ ⟨hr,rfl⟩;rw[bG,hr];exact Tr.drop tk<|rT
theorem qc(d:Dl)(x:Rt)(H:Hn.Ok x.hs){k:Int→Tree}(t:Take L (bX d.n x.hs) L')(h0:Hn.free x.hs=none→Tr ρ0 ρ (bX d.n x.hs::L') (k 0) Post)(h1:∀r:Int,r≠0→Hn.free x.hs≠none→Tr ρ0 ρ (bX d.n x.hs::L') (k r) Post):
  Tr ρ0 ρ L (call Zp 56 [pA d.n] (.one (.l kI)) k) Post:=by
 refine ai (Hu _ H) (.cons t .nil) ?_;rintro _ _ ⟨rfl,rfl⟩;have:=Hn.zd H.len;by_cases e:Hn.free x.hs=none;·rw[this.mpr e];exact h0 e
 ·exact h1 _ (fun g=>e (this.mp ae)) e
theorem bO.L8{p hp:Nat}{rows:List (List Int)}{bb:Int}{f:Option Addr→Tree}{a:Addr}(t:Take L (bO p hp rows bb) L')(ha:a=⟨p,0,none⟩)(h:Tr ρ0 ρ (bO p hp rows bb::L') (f (oA hp)) Post):Tr ρ0 ρ L (ld (.l .ptr) a f) Post:=by exact bO.op t fun z l hz hl=>aT ha tk rfl<|Tr.close ar (bO.cl hz hl) h
theorem yX(p hp:Nat)(S:aJ)(lc:List (aX×av))(hw:aY S (dK lc))(rows:List (List Int))(bb a t:Int):Gl.Spec ρ Zp 127 [pA p,i64 a,i64 t] [bO p hp rows bb,ct hp S lc] G2
  fun r M=>r=((Rf.aC S a t).1.1,(Rf.aC S a t).1.2,())∧M=[bO p hp rows bb,ct hp (Rf.aC S a t).2 lc]:=by
 refine So (F.aa.Refs.lB.calls _ a t) fun R=>aq fun b1=>?_;rw[gk];apply cE (Cz p _ S _ hw _ _ a);cases hr:Qu.bR S a with
 |false=>
  have e:Rf.aC S a t=((0,5),S):=by unfold Rf.aC;rw[if_pos (.inl (by rw[Rf.uh,hr];decide)),Rf.uh,hr];rfl
  rw[e];exact bT<|aG (r:=(0,5,())) ar bE ⟨rfl,rfl⟩
 |true=>
  obtain⟨hd,hh,hk⟩:=bx hr;have h5:=jm hw hh hk;have es:Rf.str S a=(hd.c,0):=by unfold Rf.str;rw[hh];dsimp only;rw[if_pos hk]
  refine ak rfl (af (bO.L8 tk bL ?_));apply cE (ib _ S _ hw a);rw[hh];by_cases h3:hd.c=3
  ·have e:Rf.aC S a t=((0,0),S):=by unfold Rf.aC;rw[es,if_pos (.inr h3)]
   rw[e];exact bg (by show(hd.c==3)=true;rw[h3];rfl)<|aG (r:=(0,0,())) ar bE ⟨rfl,rfl⟩
  ·have e:Rf.aC S a t=(((Ob.get S a 0).1,0),if hd.c=1∧(Ob.get S a 0).1≠0 then(Ob.put S a 3 t).2 else S):=by unfold Rf.aC;rw[es,if_neg (fun g=>g.elim (fun g=>g rfl) h3)]
   have eg:Ob.get S a 0=((Ob.get S a 0).1,0):=Prod.ext rfl (by rw[Ob.eb hh bd ae]);rw[e];refine ak (by show(hd.c==3)=false;simpa using h3)<|af (bO.L8 tk bL ?_);apply cE (kG _ S _ hw a 0);rw[eg];generalize(Ob.get S a 0).1=v;refine aq fun b9=>iT<|ag (fun h1=>?_) (fun h1=>?_)
   ·have h1:hd.c=1:=by simpa[Rf.hd]using h1
    refine aT bL tk rfl<|ag (fun h2=>?_) (fun h2=>?_)
    ·have h2:v≠0:=by simpa using h2
     rw[if_pos ⟨h1,h2⟩];refine af (bO.L8 tk bL ?_);apply cE (kb _ S _ hw a 3 t);exact aN (x:=(v,_,())) [] rfl tk rfl<|aG ar bE ⟨rfl,rfl⟩
    ·have h2:v=0:=by simpa using h2
     rw[if_neg (fun g=>g.2 h2)];exact aN (x:=(v,_,())) [] rfl tk rfl<|aG ar bE ⟨rfl,rfl⟩
   ·have h1:hd.c≠1:=by simpa[Rf.hd]using h1
    rw[if_neg (fun g=>h1 g.1)];exact aN (x:=(v,_,())) [] rfl tk rfl<|aG ar bE ⟨rfl,rfl⟩
theorem xQ(d:Dl)(x:Rt)(lc:List (aX×av)){N:Int}(H:Doc x lc N)(h:Hd)(hk:h.k≠4)(o q:Int):Gl.Spec ρ Zp 122 [pA d.p,lC h,i64 o,i64 q] (d.A x lc) G2
  fun r M=>r=((Rx.mk h x).1.1,(Rx.mk h x).1.2,())∧M=d.A (Rx.mk h x).2 lc:=by refine So (F.aj.aQ.once.calls _ h.t o q) fun R=>aq fun b1=>aq fun b2=>?_;rw[gk];refine iL<|ak (by simpa using hk) (aA (af ?_));refine iJ.ld tk bL (fun _=>rfl)<|iG ?_;apply cE (Cn _ _ _ H.hw h);rw[←H.cs];exact aG ar bE ⟨rfl,rfl⟩
theorem G4(d:Dl)(x:Rt)(lc:List (aX×av)){N:Int}(H:Doc x lc N)(hN:N<2^50)(c o q:Int):Gl.Spec ρ Zp 122 [pA d.p,lC ⟨4,c,0,false⟩,i64 o,i64 q] (d.A x lc) G2
  fun r M=>r=((Rx.FT c o q x).1.1,(Rx.FT c o q x).1.2,())∧M=d.A (Rx.FT c o q x).2 lc:=by refine So (F.aj.aQ.once.calls _ (Hd.t ⟨4,c,0,false⟩) o q) fun R=>?_;have hser:=H.w.I.bb;refine aq fun b1=>aq fun b2=>?_;rw[gk];refine aT (x:=4) bL tk rfl<|bg rfl (aA (af ?_));refine iJ.ld tk bL (fun _=>rfl)<|iL<|af (iJ.ld tk bL (fun _=>rfl) ?_);apply cE (Fa _ _ _ _ H.hw _ _ c o q _ ⟨hser.1,ae⟩ H.w.I.w.q.sZ);exact aG ar bE ⟨rfl,rfl⟩
theorem oa(d:Dl)(x:Rt)(lc:List (aX×av)){N:Int}(H:Doc x lc N)(hN:N<2^50)(all:Bool):
  Gl.Spec ρ Zp 60 [pA d.p,.bool all] (d.A x lc) (.many [.g yo,.l kI])
  fun r M=>∃(s1 s2 s3 s4:av) (A1 A2 A3 A4:aD) (x':Rt),r=((s1,s2,s3,s4,()),(((Sp.each x.S).length:Nat):Int)-(((Sp.each x'.S).length:Nat):Int),())∧x.jF x' all∧M=[A1,A2,A3,A4]++d.A x' lc:=by
 refine Spec.post (Bc d x _ H.w.I hN H.w.D.1 H.cs H.ln _) fun r M ⟨z1,z2,s1,s2,s3,s4,l,m2,m3,n,hC,hr,hn,hM⟩=>⟨s1,s2,s3,s4,_,_,_,_,_,?_,⟨z1,z2,l,m2,m3,hC,rfl⟩,hM⟩;rw[hr,hn];have hw:=H.w.I.w.hw;have W:=H.w.I.w.clear (aU x.S m2 m3 l);obtain⟨c1,_,_⟩:=AI (aU x.S m2 m3 l) hw;obtain⟨e1,_,_⟩:=vS (bV x.S m3 (aU x.S m2 m3 l)) (rows:=x.rows) W.hw;obtain⟨_,hw2,_⟩:=QI.cc (bV x.S m3 (aU x.S m2 m3 l)) W.hw W.q;unfold Rt.after;dsimp only;generalize(Rf.clear x.S (aU x.S m2 m3 l)).2=S1 at*;generalize(Rf.cc S1 x.rows (bV x.S m3 (aU x.S m2 m3 l))).1=S2 at*;have L:=Sw.nN hw2 (Mk.all m3);have Le:=L.each hw2;have key:(Sw.dead S2 (Mk.all m3)).length+(Sp.each (Sw.fo S2 (Mk.all m3))).length=(Sp.each x.S).length:=by
  rw[Le,←c1,←e1];have h1:=List.length_eq_countP_add_countP (l:=Sp.each S2) (fun a=>decide (a∈Sw.dead S2 (Mk.all m3)));rw[List.countP_eq_length_filter,List.countP_eq_length_filter]at h1;have h2:(Sp.each S2).filter (fun a=>decide (a∈Sw.dead S2 (Mk.all m3)))=Sw.dead S2 (Mk.all m3):=by unfold Sw.dead;refine List.filter_congr fun a ha=>?_;simp[ha]
  rw[h2]at h1;rw[h1];congr 2;refine List.filter_congr fun a _=>?_;simp
 congr 2;omega
theorem yM(d:Dl)(x:Rt)(mk:Rt→bH)(z:bH)(lc:List (aX×av))(e:Hn.free x.hs≠none)(ht:Rx.tv mk x z)(hok:Hn.Ok z.2.hs)(hp:0≤z.1.1)(jb:z.2.cs=x.cs)(b2 b8:Nat){LL R:List aD}(t:aI LL (au b8 [i64 z.1.1,i64 z.1.2]::au b2 [i64 0,i64 0]::d.A z.2 lc) R):
  Tr ρ ρ LL (ld (.l kI) (fa (⟨b8,0,none⟩) 1) fun(x15:Int)=>
   br ((x15:Int) != 0)
   (ld (.l kI) (fa (⟨b8,0,none⟩) 1) fun(x16:Int)=>
   call Zp 44 [.int .i64 x16,.int .i64 0] (.one (.g [kI,kI])) fun(r17:LTs _)=>
   st (⟨b2,0,none⟩) [.int .i64 r17.1,.int .i64 r17.2.1]<|
   ld (.g [kI,kI]) (⟨b2,0,none⟩) fun(x18:LTs _)=>
   ret (.agg #[.int .i64 x18.1,.int .i64 x18.2.1]))
   (ld (.l kI) (fa (⟨b8,0,none⟩) 0) fun(x16:Int)=>
   call Zp 48 [pA d.p,.int .i64 x16] (.one (.g [kI,kI])) fun(r17:LTs _)=>
   st (⟨b2,0,none⟩) [.int .i64 r17.1,.int .i64 r17.2.1]<|
   ld (.g [kI,kI]) (⟨b2,0,none⟩) fun(x18:LTs _)=>
   ret (.agg #[.int .i64 x18.1,.int .i64 x18.2.1])))
   (SP G2 (fun r M=>∃y:bH,Rx.dv mk x y∧y.2.cs=x.cs∧r=dt y.1.1 y.1.2∧M=d.A y.2 lc) R):=by
 refine Tr.perm t.perm<|iL<|ag (fun h=>?_) (fun h=>?_)
 ·have h:z.1.2≠0:=by simpa using h
  refine iL<|cE (bc _ 0) ?_;have hy:Rx.dv mk x ((0,z.1.2),z.2):=by unfold Rx.dv;rw[if_neg e];exact⟨z,ht,by rw[if_pos h]⟩
  exact aG ar bE ⟨_,hy,jb,rfl,rfl⟩
 ·have h:z.1.2=0:=by simpa using h
  refine iL<|cE (nD d _ _ hok _ hp) ?_;have hy:Rx.dv mk x (Rx.iE z.2 z.1.1,Rx.eD z.2 z.1.1):=by unfold Rx.dv;rw[if_neg e];exact⟨z,ht,by rw[if_neg (fun g=>g h)]⟩
  have hc2:(Rx.eD z.2 z.1.1).cs=x.cs:=by unfold Rx.eD;split<;>exact jb
  exact aG ar bE ⟨_,hy,hc2,rfl,rfl⟩
theorem Doc.Ic{x x':Rt}{lc:List (aX×av)}{N:Int}{all:Bool}(H:Doc x lc N)(hN:N<2^50)(h:x.jF x' all):Doc x' lc (N+1):=⟨Rx.Lb H.w hN h,by rw[(Rx.uW h).2.2.1];exact H.cs,H.ln⟩
theorem Doc.mR{x:Rt}{lc:List (aX×av)}{N:Int}(H:Doc x lc N)(hN:N<2^50):Hn.Ok x.hs:=H.w.I.h.ok hN
theorem Doc.of{y:Rt}{lc:List (aX×av)}{N:Int}(H:Doc y lc N){z:Rt}{M:Int}(hw:Fr.W z M)(hc:z.cs=y.cs):Doc z lc M:=⟨hw,hc.trans H.cs,H.ln⟩
theorem tg(d:Dl)(x:Rt)(lc:List (aX×av)){N:Int}(H:Doc x lc N)(hN:N+10<2^49)(hv:Hd)(o q:Int)(mk:Rt→bH)(hk:Rx.qG mk)(hd:Rx.yc mk)(ha:Rx.w9 mk)(hc:∀y,(mk y).2.cs=y.cs)
  (hs:∀(ρ:FR) (y:Rt) (M:Int),Doc y lc M→M<2^49→Gl.Spec ρ Zp 122 [pA d.p,lC hv,i64 o,i64 q] (d.A y lc) G2 fun r L=>r=((mk y).1.1,(mk y).1.2,())∧L=d.A (mk y).2 lc):
  Gl.Spec ρ Zp 45 [pA d.p,lC hv,i64 o,i64 q] (d.A x lc) G2
  fun r M=>∃y:bH,Rx.dv mk x y∧y.2.cs=x.cs∧r=dt y.1.1 y.1.2∧M=d.A y.2 lc:=by
 refine So (F.aj.aQ.made.calls _ hv.t o q) fun R=>?_;have mkw:∀{y:Rt} {M:Int},Doc y lc M→M<2^49→Doc (mk y).2 lc _:=fun Hy hM=>Hy.of ⟨hk _ _ Hy.w.I,(hd _ _ Hy.w.I Hy.w.D).1,ha _ _ Hy.w.I Hy.w.A⟩ (hc _);have mkp:∀{y:Rt} {M:Int},Doc y lc M→0≤(mk y).1.1:=fun Hy=>(hd _ _ Hy.w.I Hy.w.D).2.pos (hk _ _ Hy.w.I).w.hw;refine aq fun b1=>aq fun b2=>?_;rw[oo,gk];refine af (iJ.ld tk bL (fun _=>rfl) ?_);refine qc d x (H.mR ae) tk (fun e=>?_) (fun r hr e=>?_)
 ·refine bT ?_;have hy:Rx.dv mk x ((0,3),x):=by unfold Rx.dv;rw[if_pos e]
  apply cE (bc 3 0);exact aG ar bE ⟨_,hy,rfl,rfl,rfl⟩
 refine ak (by simpa using hr)<|iG ?_;refine cE (hs _ x N H ae)<|aq fun b8=>iT ?_;have H0:=mkw H ae;refine iV (fun _ M=>∃(j:Nat) (z:bH),Rx.JJ mk x j z∧j≤1∧(z.1.2=3→j=1)∧Doc z.2 lc (N+3)∧0≤z.1.1∧M=[au b8 [i64 z.1.1,i64 z.1.2],au b1 [.int .i64 hv.k,.int .i64 hv.c,.int .i64 hv.n,.bool hv.f],au b2 [i64 0,i64 0]]++(d.A z.2 lc++R)) ?_ ?_
 ·rintro _ _ ⟨j,z,ht,hj,hz3,Hz,hzp,rfl⟩;have hzc:=Hz.cs.trans H.cs.symm;refine iL<|ag (fun h=>?_) (fun h=>?_)
  ·have h:z.1.2=3:=by simpa using h
   have hj1:=hz3 h;subst hj1;refine ai (oa d _ _ Hz ae _) ar ?_;rintro _ _ ⟨s1,s2,s3,s4,A1,A2,A3,A4,x',rfl,hC,rfl⟩;refine Tr.drop tk (Tr.drop tk (Tr.drop tk (Tr.drop tk ?_)));have Hx:=Hz.Ic ae hC;refine iG ?_;apply cE (hs _ _ _ Hx ae);refine iT ?_;refine Tr.drop (A:=au _ [.int _ hv.k,.int _ hv.c,.int _ hv.n,.bool hv.f]) tk ?_;have Hm:=mkw Hx ae;exact yM d x mk _ _ e ((ht.next h bd hC).tries (.inr rfl)) (Hm.mR ae) (mkp Hx) (Hm.cs.trans H.cs.symm) _ _ ar
  ·have h:z.1.2≠3:=by simpa using h
   exact Tr.drop (A:=au _ [.int _ hv.k,.int _ hv.c,.int _ hv.n,.bool hv.f]) tk<|yM d x _ z _ e (ht.tries (.inl h)) (Hz.mR ae) hzp hzc _ _ ar
 ·intro J hJ;refine aT bL tk rfl<|ag (fun h=>?_) (fun h=>?_)
  ·have h:(mk x).1.2=3:=by simpa using h
   refine ai (oa d (mk x).2 _ H0 ae _) ar ?_;rintro _ _ ⟨s1,s2,s3,s4,A1,A2,A3,A4,x',rfl,hC,rfl⟩;refine Tr.drop tk (Tr.drop tk (Tr.drop tk (Tr.drop tk ?_)));have Hx:=H0.Ic ae hC;refine iG ?_;apply cE (hs _ _ _ Hx ae);apply cz rfl tk (by simp[cH]) rfl;have Hm:=mkw Hx ae;have ht:Rx.JJ mk x 1 _:= .inr (.inl ⟨rfl,h,x',hC,rfl⟩);exact Tr.perm (aI.perm ar) (hJ () _ ⟨1,mk x',ht,by decide,fun _=>rfl,⟨⟨Hm.w.I.le ae,Hm.w.D,Hm.w.A⟩,Hm.cs,Hm.ln⟩,mkp Hx,rfl⟩)
  ·have h:(mk x).1.2≠3:=by simpa using h
   exact Tr.perm (aI.perm ar) (hJ () _ ⟨0,mk x,.inl ⟨rfl,rfl⟩,by decide,fun g=>absurd g h,⟨⟨H0.w.I.le ae,H0.w.D,H0.w.A⟩,H0.cs,H0.ln⟩,mkp H,rfl⟩)
theorem Ls{A:List aD}(s:av)(l:List Int)(rd:Rd ρ A s 1 (l.map i64))(hl:l.length<2^62)(x:Int):Gl.Spec ρ Zp 33 [.slice s.a s.n s.c,i64 x] A RB fun r M=>r=decide (x∈l)∧M=A:=by
 refine So (F.ah.In.calls s x) fun R=>?_;have hsn:s.n=l.length:=by have:=rd.1;rw[List.length_map,Nat.mul_one]at this;exact this.symm
 refine aM (fun m u M=>(fun(i:Int)=>M=A++R∧0≤i∧i≤l.length∧m=l.length-i.toNat∧x∉l.take i.toNat) u.1) l.length ?_ ?_;·exact⟨rfl,bu,bq,bu,bu⟩
 ·rintro m ⟨(i:Int),⟨⟩⟩ M ⟨rfl,i0,i1,rfl,hn⟩ X hX;refine ag (fun h=>?_) (fun h=>?_)
  ·replace h:i<(s.n:Int):=oT h;have hi:i.toNat<l.length:=by omega
   refine jg rd (aI.app A R) i0 ae<|ag (fun h2=>?_) (fun h2=>?_)
   ·have h2:=eq_of_beq h2;have hin:x∈l:=by rw[←h2,List.getD_eq_getElem?_getD,List.getElem?_eq_getElem hi];exact List.getElem_mem _
    refine ax ?_ ⟨rfl,rfl⟩ (aI.app A R) bE;rw[decide_eq_true hin];rfl
   ·have h2:l.getD i.toNat 0≠x:=by simpa using h2
    rw[bG];refine hX _ _ _ ae ⟨rfl,bq,bq,rfl,?_⟩;rw[show(i+1).toNat=i.toNat+1 by omega,aE 0 hi,List.mem_append,List.mem_singleton];rintro(h|h);·exact hn h
    ·exact h2 h.symm
  ·replace h:¬i<(s.n:Int):=oF h;rw[List.take_of_length_le ae]at hn;refine ax ?_ ⟨rfl,rfl⟩ (aI.app A R) bE;rw[decide_eq_false hn];rfl
theorem vl(d:Dl)(x:Rt)(lc:List (aX×av)){N:Int}(H:Doc x lc N)(a j:Int)(ho:Mk.obj x.S a):Gl.Spec ρ Zp 46 [pA d.p,i64 a,i64 j] (d.A x lc) IB
  fun r M=>r=((Rx.jC x a j).2.2,(Rx.jC x a j).2.1,())∧M=d.A x lc:=by
 refine So (F.aj.aQ.field.calls _ a j) fun R=>af (iJ.ld tk bL (fun _=>rfl) ?_);apply cE (ib _ _ _ H.hw a);unfold Mk.obj at ho;cases hh:Ob.head x.S a with
 |none=>rw[hh]at ho;cases ho
 |some hd=>
  refine aq fun b4=>?_;rw[vz];refine iT<|aT (x:=hd.k) bL tk rfl ?_;unfold Rx.jC;rw[hh];dsimp only;refine ag (fun h=>?_) (fun h=>?_)
  ·have h:hd.k=4:=by simpa using h
   rw[if_pos h];exact rT
  have h:hd.k≠4:=by simpa using h
  rw[if_neg h];have out:(j<0∨j≥hd.n)→Ob.get x.S a j=(0,1):=fun g=>by
   have e:Ob.fieldAt x.S a j=(0,1):=by unfold Ob.fieldAt;rw[hh];dsimp only;rw[if_pos g]
   unfold Ob.get;rw[e];rfl
  refine ag (fun h1=>?_) (fun h1=>?_);·have h1:=oT h1;rw[out (.inl h1),if_pos bd];exact rT
  have h1:=oF h1;refine aT (x:=hd.n) bL tk rfl<|ag (fun h2=>?_) (fun h2=>?_);·have h2:=oT h2;rw[out (.inr h2),if_pos bd];exact rT
  have h2:=oF h2;rw[Ob.eb hh ae ae,if_neg (fun g=>g rfl)];refine af (iJ.ld tk bL (fun _=>rfl) ?_);refine ai (CD _ _ _ H.hw (H.cs▸H.w.D.1.kn) H.ln a) ar ?_;rintro r _ ⟨A,rfl,hr⟩;have hrl:=tz H.w.I.w.hw a;refine ai (Ls r _ (hr ρ _) (by rw[←H.cs];omega) j) (.cons .here (aI.app A _)) ?_;rintro _ _ ⟨rfl,rfl⟩;rw[←H.cs];exact Tr.JP (aI.ly (aI.app A _))<|rT
abbrev Dl.c(d:Dl)(s:av)(x:Rt):List Value:=[pA d.h,pA d.r,pA d.n,bY s,pA d.f,i64 x.ck,i64 x.ba,i64 x.stack,i64 x.rn]
theorem Fh(d:Dl)(x:Rt)(lc:List (aX×av)){N:Int}(H:Doc x lc N)(a b:Int):Gl.Spec ρ Zp 43 [pA d.p,i64 a,i64 b] (d.A x lc) G2
  fun r M=>∃lc':List (aX×av),(Rx.gw x a b).2.cs=dK lc'∧(∀z∈lc',z.2.n=z.1.2.length)∧r=dt (Rx.gw x a b).1.1 (Rx.gw x a b).1.2∧M=d.A (Rx.gw x a b).2 lc':=by
 refine So (F.aj.aQ.class.calls _ a b) fun R=>?_;have hz0:zc Zp 109=[.int .i64 0,.slice none 0 0]:=by kernel_rfl
 refine aq fun b1=>?_;rw[oo,hz0,gk];unfold Rx.gw;refine ag (fun h=>?_) (fun h=>?_);·have h:=oT h;rw[if_pos (.inl h)];exact cE (bc 1 0)<|aG ar bE ⟨lc,H.cs,H.ln,rfl,rfl⟩
 have h1:=oF h;refine ag (fun h=>?_) (fun h=>?_);·have h:=oT h;rw[if_pos (.inr h)];exact cE (bc 1 0)<|aG ar bE ⟨lc,H.cs,H.ln,rfl,rfl⟩
 have h2:=oF h;rw[if_neg (fun g=>g.elim h1 h2)];have bad:(a<0∨a>1023)→Sp.eE x.cs (a,Rx.bits b 32)=(0,1,x.cs):=fun g=>by
  unfold Sp.eE;rw[if_pos];unfold Sp.kA;rcases g with g|g;·rw[if_pos g];decide
  ·rw[if_neg ae,if_pos g];decide
 refine ag (fun h=>?_) (fun h=>?_);·have h:=oT h;rw[bad (.inl h)];exact cE (bc 1 0)<|aG ar bE ⟨lc,H.cs,H.ln,rfl,rfl⟩
 refine ag (fun h=>?_) (fun h=>?_);·have h:=oT h;rw[bad (.inr h)];exact cE (bc 1 0)<|aG ar bE ⟨lc,H.cs,H.ln,rfl,rfl⟩
 refine aq fun b2=>iT<|Tr.cg 1 ?_;refine Tr.perm (aI.perm (M:=[aw ⟨none,0,0⟩ 1 ((Rx.bits b 0).map i64),au _ [i64 a,bY ⟨none,0,0⟩],au _ [i64 0,i64 0]]++d.A x _) ar)<|aM (I:=fun m u M=>∃(j:Nat) (s:av),j≤32∧m=32-j∧u=((j:Int),())∧s.n=(Rx.bits b j).length∧M=([aw s 1 ((Rx.bits b j).map i64),au b2 [i64 a,bY s],au b1 [i64 0,i64 0]]++d.A x lc)++R) 32 ⟨0,_,ae,rfl,rfl,rfl,rfl⟩ ?_;rintro m _ _ ⟨j,s,hj,rfl,rfl,hs,rfl⟩ X hX;try simp only[c8,c9]
 have hbl:=Rx.oC b j;refine ag (fun hc=>?_) (fun hc=>?_)
 ·have hj':j<32:=by have:(j:Int)<32:=oT hc;omega
  apply bm ae;rw[bG (n:=(j:Int)+1)];have hbs:=Rx.wj b j;refine ag (fun e=>?_) (fun e=>?_);·rw[if_pos (show Rx.bit b j=true from e)]at hbs;refine iL<|dm bJ tk ae fun r hr=>cz (off:=1) bL tk bu rfl<|Tr.perm (aI.perm (M:=[aw r 1 _,au _ [i64 a,bY r],au _ [i64 0,i64 0]]++d.A x _) ar)<|hX _ _ _ ae ⟨j+1,r,ae,rfl,rfl,by rw[hbs,List.length_append];exact hr,by rw[hbs]⟩
  ·rw[if_neg (by rw[show Rx.bit b j=false from e];simp),List.append_nil]at hbs;refine hX _ _ _ ae ⟨j+1,s,ae,rfl,rfl,by rw[hbs];exact hs,by rw[hbs];rfl⟩
 ·have hj':j=32:=by have:¬(j:Int)<32:=oF hc;omega
  subst hj';refine iJ.op tk fun sr hsr=>aA (aK [au _ (d.c _ x),au _ [i64 a,bY s]] ar ?_);refine af (bo bL tk rfl ?_);refine jG ?_;have add:∀ρ1:FR,fx ρ1 s 1 _→Gl.Spec ρ1 Zp 121 [.pointer _,.agg #[.int .i64 a,.slice s.a s.n s.c]] [ct d.h x.S lc] G2 _:=fun ρ1 r1=>KK d.h x.S lc H.hw a s (Rx.bits b 32) r1 ae;have fin:∀(lc':List (aX×av)) (b10:Nat) {LL:List aD} {v w:Int},dK lc'=(Sp.eE (dK lc) (a,Rx.bits b 32)).2.2→((∀z∈lc,z.2.n=z.1.2.length)→∀z∈lc',z.2.n=z.1.2.length)→
    LL.Perm ([au b10 [i64 v,i64 w],aw s 1 ((Rx.bits b 32).map i64),ct d.h x.S lc',au d.p (d.c sr x),aw sr 1 (x.ro.map i64),au b2 [i64 a,bY s],au b1 [i64 0,i64 0],bO d.r d.h x.rows x.bb,bX d.n x.hs,cn d.f d.h x.wa x.pe]++R)→
    Tr ρ ρ LL (st (⟨b10,0,none⟩) [.int .i64 (Sp.eE (dK lc) (a,Rx.bits b 32)).1,.int .i64 (Sp.eE (dK lc) (a,Rx.bits b 32)).2.1]<|
     ld (.l kI) (fa (⟨b10,0,none⟩) 1) fun(x11:Int)=>
     ld (.l kI) (fa (⟨b10,0,none⟩) 0) fun(x12:Int)=>
     call Zp 44 [.int .i64 x11,.int .i64 x12] (.one (.g [kI,kI])) fun(r13:LTs _)=>
     st (⟨b1,0,none⟩) [.int .i64 r13.1,.int .i64 r13.2.1]<|
     ld (.g [kI,kI]) (⟨b1,0,none⟩) fun(x14:LTs _)=>
     ret (.agg #[.int .i64 x14.1,.int .i64 x14.2.1]))
     (SP G2 (fun r M=>∃lc':List (aX×av),({x with cs:=(Sp.eE x.cs (a,Rx.bits b 32)).2.2}:Rt).cs=dK lc'∧(∀z∈lc',z.2.n=z.1.2.length)∧r=dt (Sp.eE x.cs (a,Rx.bits b 32)).1 (Sp.eE x.cs (a,Rx.bits b 32)).2.1∧M=d.A {x with cs:=(Sp.eE x.cs (a,Rx.bits b 32)).2.2} lc') R):=fun lc' b10 LL v w jb hln hp=>by refine Tr.perm hp ?_;rw[H.cs];refine iT<|aT bL tk rfl<|aT bL tk rfl<|cE (bc (Sp.eE _ _).2.1 (Sp.eE _ _).1) ?_;refine Tr.close ar (iJ.cl hsr) ?_;have h1:=jb;exact aG ar bE ⟨lc',h1.symm,hln H.ln,rfl,rfl⟩
  refine cr ?_ ?_;·refine ai (Spec.own fun ρ1 hle r1=>add ρ1 r1) ar ?_;rintro _ _ ⟨_,⟨lc',g1,g2,rfl,rfl⟩,rfl⟩;exact aq fun b10=>fin _ _ g1 g2 (aI.perm ar)
  ·refine aq fun b10=>aS ar<|ai (Spec.own fun ρ1 hle r1=>add ρ1 r1) ar ?_;rintro _ _ ⟨_,⟨lc',g1,g2,rfl,rfl⟩,rfl⟩;exact fin _ _ g1 g2 (aI.perm ar)
theorem FO(d:Dl)(x:Rt)(lc:List (aX×av)){N:Int}(H:Doc x lc N)(hN:N<2^50)(a:Int):Gl.Spec ρ Zp 52 [pA d.p,.agg #[i64 (Rx.fh x a false).1,i64 (Rx.fh x a false).2]] (d.A x lc) G2
  fun r M=>r=dt (Rx.aC x a).1.1 (Rx.aC x a).1.2∧M=d.A (Rx.aC x a).2 lc:=by
 refine So (F.aj.aQ.aC.calls _ ((Rx.fh x a _).1,(Rx.fh x a _).2,())) fun R=>?_;have hob:=fun g=>Rx.oN H.w (h:=a) g;unfold Rx.aC Rx.re;generalize Rx.fh x a false=h at*;refine aq fun b1=>aq fun b2=>?_;rw[oo,EX];refine iL<|ag (fun e=>?_) (fun e=>?_)
 ·have e:h.2≠0:=by simpa using e
  rw[if_pos e];refine iL<|cE (bc _ 0) ?_;exact aG (r:=dt 0 _) ar bE ⟨rfl,rfl⟩
 have e:h.2=0:=by simpa using e
 rw[if_neg (fun g=>g e)];have ho:=hob e;obtain⟨o,e2⟩:=h;dsimp only at e ho⊢;subst e;cases hh:Ob.head x.S o with
 |none=>unfold Mk.obj at ho;rw[hh]at ho;cases ho
 |some hd=>
 have go:∀{LL:List aD} {f:RT G2→Tree} {B:RT G2→List aD→Prop} {LR:List aD},aI LL (d.A x lc) LR→(∀r:RT G2,r=((Rf.aC x.S o x.ck).1.1,(Rf.aC x.S o x.ck).1.2,())→Tr ρ ρ (d.A {x with S:=(Rf.aC x.S o x.ck).2} lc++LR) (f r) (SP G2 B R))→
   Tr ρ ρ LL (call Zp 127 [pA d.r,.int .i64 o,.int .i64 x.ck] (.one (.g [kI,kI])) f) (SP G2 B R):=fun{LL f B LR} t hf=>by refine Tr.perm t.perm<|cE (yX _ _ _ lc H.hw _ _ o _) ?_;have:=hf _ rfl;generalize(Rf.aC x.S o x.ck).2=S' at*;exact Tr.perm (aI.perm ar) this
 refine iV (fun u M=>∃b22:Nat,u=(⟨b22,0,none⟩,())∧M=[au b22 [.int .i64 hd.k,.int .i64 hd.c,.int .i64 hd.n,.bool hd.f],au b1 [i64 o,i64 0],au b2 [i64 0,i64 0]]++(d.A x lc++R)) ?_ ?_
 ·rintro _ _ ⟨b22,rfl,rfl⟩;try simp only[c8,c9]
  refine aT (k:=kI) (b:=b22) (off:=0) (x:=hd.k) (by rw[aO]) tk rfl<|ag (fun e=>?_) (fun e=>?_)
  ·have e:hd.k≠4:=by simpa using e
   rw[if_pos e];refine ai (bc 5 0) ar ?_;rintro x' M ⟨rfl,rfl⟩;try simp only[c8,c9]
   exact aG (r:=dt 0 5) (A:=d.A x lc) ar bE ⟨rfl,rfl⟩
  have e:hd.k=4:=by simpa using e
  rw[if_neg (fun g=>g e)];have h5:=jm H.w.I.w.hw hh e;have hr:Qu.bR x.S o=true:=by unfold Qu.bR;rw[hh];simpa using e
  have es:Rf.str x.S o=(hd.c,0):=by unfold Rf.str;rw[hh];dsimp only;rw[if_pos e]
  refine aA<|iL ?_;have eg:Ob.get x.S o 0=((Ob.get x.S o 0).1,0):=Prod.ext rfl (by rw[Ob.eb hh bd ae]);have hv0:=(H.w.D.2.jC o 0 (.inr ⟨rfl,hr⟩)).pos H.w.I.w.hw;have tail:∀{LL:List aD} (y:bH),LL.Perm ([au b22 [.int .i64 hd.k,.int .i64 hd.c,.int .i64 hd.n,.bool hd.f],au b1 [i64 o,i64 0],au b2 [i64 0,i64 0]]++(d.A x lc++R))→y=(Rx.iE {x with S:=(Rf.aC x.S o x.ck).2} (Rf.aC x.S o x.ck).1.1,Rx.eD {x with S:=(Rf.aC x.S o x.ck).2} (Rf.aC x.S o x.ck).1.1)→0≤(Rf.aC x.S o x.ck).1.1→
    Tr ρ ρ LL (cD<|Gl.held fun S8=>nn (oA d.p) fun a9=>rb S8 (.l .ptr) (fa a9 1) fun(x10:Option Addr)=>rb S8 (.l kI) (fa (⟨b1,0,none⟩) 0) fun(x11:Int)=>nn (oA d.p) fun a12=>rb S8 (.l kI) (fa a12 5) fun(x13:Int)=>
     call Zp 127 [.pointer x10,.int .i64 x11,.int .i64 x13] (.one (.g [kI,kI])) fun(r14:LTs _)=>
     call Zp 48 [pA d.p,.int .i64 r14.1] (.one (.g [kI,kI])) fun(r15:LTs _)=>
     st (⟨b2,0,none⟩) [.int .i64 r15.1,.int .i64 r15.2.1]<|ld (.g [kI,kI]) (⟨b2,0,none⟩) fun(x16:LTs _)=>ret (.agg #[.int .i64 x16.1,.int .i64 x16.2.1]))
     (SP G2 (fun r M=>r=dt y.1.1 y.1.2∧M=d.A y.2 lc) R):=fun{LL} y hp hy hv=>by subst hy;refine Tr.perm hp<|iJ.op tk fun sr hsr=>aA (aK [au _ (d.c _ x),au _ [i64 o,i64 0]] ar ?_);refine af (bo bL tk rfl ?_);refine jL<|af (bo bL tk rfl ?_);refine Tr.close ar (iJ.cl hsr)<|go ar fun r hr=>?_;subst hr;have mR:Hn.Ok ({x with S:=(Rf.aC x.S o x.ck).2}:Rt).hs:=H.mR hN;generalize(Rf.aC x.S o x.ck).2=S' at*;generalize(Rf.aC x.S o x.ck).1.1=v at*;apply cE (nD d {x with S:=S'} _ mR v hv);generalize Rx.eD {x with S:=S'} v=gs;generalize Rx.iE {x with S:=S'} v=gr;exact aG (r:=dt gr.1 gr.2) (A:=d.A gs lc) ar bE ⟨rfl,rfl⟩
  refine ag (fun e1=>?_) (fun e1=>?_)
  ·have e1:hd.c≠3:=by simpa using e1
   rw[if_neg e1];have er:Rf.aC x.S o x.ck=(((Ob.get x.S o 0).1,0),if hd.c=1∧(Ob.get x.S o 0).1≠0 then(Ob.put x.S o 3 x.ck).2 else x.S):=by unfold Rf.aC;rw[es,if_neg (fun g=>g.elim (fun g=>g rfl) e1)]
   refine af (iJ.ld tk bL (fun _=>rfl) ?_);refine iL<|cE (kG _ _ _ H.hw o 0) ?_;have erv:(Rf.aC x.S o x.ck).1=((Ob.get x.S o 0).1,0):=by rw[er]
   refine ag (fun e2=>?_) (fun e2=>?_)
   ·have e2:(Ob.get x.S o 0).1≠0:=by simpa using e2
    rw[if_neg (fun g=>g.elim (fun g=>by rw[eg]at g;exact g rfl) e2)];refine af (iJ.ld tk bL (fun _=>rfl) ?_);refine qc d x (H.mR hN) tk (fun e3=>?_) (fun r hr e3=>?_);·rw[if_pos e3];refine bT<|cE (bc 3 0) ?_;exact aG (r:=dt 0 3) ar bE ⟨rfl,rfl⟩
    ·rw[if_neg e3,if_neg (fun g=>g (by rw[erv]))];exact ak (by simpa using hr)<|tail _ (aI.perm (M:=[au _ [.int _ hd.k,.int _ hd.c,.int _ hd.n,.bool hd.f],au b1 [i64 o,i64 0],au _ [i64 0,i64 0]]++d.A x _) ar) rfl (by rw[erv];exact hv0)
   ·have e2:(Ob.get x.S o 0).1=0:=by simpa using e2
    rw[if_pos (.inr e2)];refine tail _ (aI.perm (M:=[au b22 [.int .i64 hd.k,.int .i64 hd.c,.int .i64 hd.n,.bool hd.f],au b1 [i64 o,i64 0],au b2 [i64 0,i64 0]]++d.A x lc) ar) ?_ (by rw[erv];exact hv0);rw[er,e2,if_neg (fun g=>g.2 rfl),eg];rfl
  ·have e1:hd.c=3:=by simpa using e1
   rw[if_pos e1];have er:Rf.aC x.S o x.ck=((0,0),x.S):=by unfold Rf.aC;rw[es,if_pos (.inr e1)]
   refine tail _ (aI.perm ar) ?_ (by rw[er];exact Int.le_refl 0);rw[er];rfl
 ·intro J hJ;refine iJ.op tk fun sr hsr=>aA (aK [au _ (d.c _ x),au _ [i64 o,i64 0]] ar ?_);refine af (bo bL tk rfl ?_);refine jL<|cr ?_ ?_;·apply cE (ib _ _ _ H.hw o);rw[hh];refine aq fun b22=>iT ?_;exact Tr.close ar (iJ.cl hsr)<|Tr.perm (aI.perm (M:=[au _ [.int _ hd.k,.int _ hd.c,.int _ hd.n,.bool hd.f],au b1 [i64 o,i64 0],au _ [i64 0,i64 0]]++d.A x _) ar) (hJ _ _ ⟨b22,rfl,rfl⟩)
  ·refine aq fun b22=>aS ar<|cE (ib _ _ _ H.hw o) ?_;rw[hh];refine iT ?_;exact Tr.close ar (iJ.cl hsr)<|Tr.perm (aI.perm (M:=[au _ [.int _ hd.k,.int _ hd.c,.int _ hd.n,.bool hd.f],au b1 [i64 o,i64 0],au _ [i64 0,i64 0]]++d.A x _) ar) (hJ _ _ ⟨b22,rfl,rfl⟩)
theorem KE(d:Dl)(x:Rt)(lc:List (aX×av)){N:Int}(H:Doc x lc N)(hN:N<2^50)(k a b c:Int):Gl.Spec ρ Zp 59 [pA d.p,wW k a b c] (d.A x lc) G2
  fun r M=>r=dt (Rx.run x a b c).1.1 (Rx.run x a b c).1.2∧M=d.A (Rx.run x a b c).2 lc:=by
 refine So (F.aj.aQ.run.calls _ (k,a,b,c,())) fun R=>?_;unfold F.aj.aQ.run;try simp only[c8,c9]
 have I:=H.w.I;have hpe:=(I.ok hN).pe;have hro:=I.ro;refine aq fun b1=>aq fun b2=>?_;rw[oo,gk];have main:_→Rx.run x a b c=_:=fun h=>if_pos h;have rr:(Rx.jK x.ro c).2=if 0≤c∧c<16 then 0 else 1:=by unfold Rx.jK;split<;>rfl
 have ev:∀_,Fn.gJ x.pe a=_:=fun ha=>by unfold Fn.gJ;rw[if_pos ha]
 have hv:0≤x.pe.getD a.toNat 0:=by
  rw[List.getD_eq_getElem?_getD];cases e:x.pe[a.toNat]? with
  |none=>exact Int.le_refl 0
  |some v=>exact(show pq _ v from .inr (I.w.f.fl v (List.mem_append_right _ (List.mem_of_getElem? e))).obj).pos I.w.hw
 have tail:∀(b12:Nat) {LL:List aD},(0≤a∧a<x.pe.length)→(0≤b∧b≤2)→(b=1→0≤c∧c<16)→(b=2→Hn.free x.hs≠none)→
   LL.Perm ([au b12 [i64 (x.pe.getD a.toNat 0),i64 0],au b1 [i64 k,i64 a,i64 b,i64 c],au b2 [i64 0,i64 0]]++(d.A {x with pe:=Fn.eX x.pe a} lc++R))→
   Tr ρ ρ LL (ld (.l kI) (fa (⟨b1,0,none⟩) 2) fun(x13:Int)=>
     br ((x13:Int)==1)
      (cD<|nn (oA d.p) fun a14=>ld (.l .slice) (fa a14 3) fun(x15:av)=>ld (.l kI) (fa (⟨b1,0,none⟩) 3) fun(x16:Int)=>ld (.l kI) (fa (⟨b12,0,none⟩) 0) fun(x17:Int)=>
      ix x15.a x15.n x16 1 fun a18=>st a18 [.int .i64 x17]<|st (⟨b2,0,none⟩) [.int .i64 0,.int .i64 0]<|ld (.g [kI,kI]) (⟨b2,0,none⟩) fun(x19:LTs _)=>ret (.agg #[.int .i64 x19.1,.int .i64 x19.2.1]))
      (br ((x13:Int)==2)
      (ld (.l kI) (fa (⟨b12,0,none⟩) 0) fun(x14:Int)=>call Zp 48 [pA d.p,.int .i64 x14] (.one (.g [kI,kI])) fun(r15:LTs _)=>
      st (⟨b2,0,none⟩) [.int .i64 r15.1,.int .i64 r15.2.1]<|ld (.g [kI,kI]) (⟨b2,0,none⟩) fun(x16:LTs _)=>ret (.agg #[.int .i64 x16.1,.int .i64 x16.2.1]))
      (st (⟨b2,0,none⟩) [.int .i64 0,.int .i64 0]<|ld (.g [kI,kI]) (⟨b2,0,none⟩) fun(x14:LTs _)=>ret (.agg #[.int .i64 x14.1,.int .i64 x14.2.1]))))
    (SP G2 (fun r M=>r=dt (Rx.run x a b c).1.1 (Rx.run x a b c).1.2∧M=d.A (Rx.run x a b c).2 lc) R):=fun b12 LL ha hb hc hf hp=>by
  refine Tr.perm hp ?_;have e0:Rx.run x a b c=if b=1 then((0,Rx.kc c (x.pe.getD a.toNat 0)),{x with pe:=Fn.eX x.pe a,ro:=Rx.cO x.ro c (x.pe.getD a.toNat 0)})else
    if b=2 then(Rx.iE {x with pe:=Fn.eX x.pe a} (x.pe.getD a.toNat 0),Rx.eD {x with pe:=Fn.eX x.pe a} (x.pe.getD a.toNat 0))else((0,0),{x with pe:=Fn.eX x.pe a}):=by unfold Rx.run;rw[if_neg ae,if_neg (fun g=>by rw[rr,if_pos (hc g.1)]at g;exact g.2 rfl),if_neg (fun g=>hf g.1 g.2),ev ha,if_neg (fun g=>g rfl)]
  rw[e0];generalize x.pe.getD a.toNat 0=v at*;have mR:=H.mR hN;generalize Fn.eX x.pe a=pe' at*;try simp only[c8,c9]
  refine iL<|ag (fun e=>?_) (fun e=>?_)
  ·have e:b=1:=by simpa using e
   rw[if_pos e];have hc1:=hc e;refine aA (af (iJ.op (d:=d) (x:={x with pe:=pe'}) tk fun sr hsr=>?_));refine iL<|iL<|iL<|dr (s:=sr) (xs:=x.ro) tk hc1.1 (by rw[hro];omega) ?_;have ep:Rx.cO x.ro c v=x.ro.set c.toNat v:=by unfold Rx.cO;rw[if_pos ⟨hc1,hv⟩]
   have ee:Rx.kc c v=0:=by unfold Rx.kc;rw[if_pos ⟨hc1,hv⟩]
   rw[ep,ee];have hsr2:sr.n=(x.ro.set c.toNat v).length:=by rw[List.length_set];exact hsr
   generalize x.ro.set c.toNat v=ro' at*;exact Tr.close ar (iJ.cl (d:=d) (x:={x with pe:=pe',ro:=ro'}) (s:=sr) hsr2)<|aG (r:=((0:Int),(0:Int),())) (A:=d.A {x with pe:=pe',ro:=ro'} lc) ar bE ⟨rfl,rfl⟩
  have e:b≠1:=by simpa using e
  rw[if_neg e];refine ag (fun e=>?_) (fun e=>?_)
  ·have e:b=2:=by simpa using e
   rw[if_pos e];refine iL<|cE (nD d {x with pe:=pe'} _ mR v hv) ?_;try simp only[c8,c9]
   generalize Rx.eD {x with pe:=pe'} v=gs;generalize Rx.iE {x with pe:=pe'} v=gr;exact aG (r:=dt _ _) ar bE ⟨rfl,rfl⟩
  ·have e:b≠2:=by simpa using e
   rw[if_neg e];exact aG (r:=((0:Int),(0:Int),())) (A:=d.A {x with pe:=pe'} lc) ar bE ⟨rfl,rfl⟩
 refine iV (fun _ M=>((0≤a∧a<x.pe.length)∧(0≤b∧b≤2)∧(b=1→0≤c∧c<16))∧M=[au b1 [i64 k,i64 a,i64 b,i64 c],au b2 [i64 0,i64 0]]++(d.A x lc++R)) ?_ ?_
 ·rintro _ _ ⟨⟨ha,hb,hc⟩,rfl⟩;try simp only[c8,c9]
  refine iV (fun _ M=>(b=2→Hn.free x.hs≠none)∧M=[au b1 [i64 k,i64 a,i64 b,i64 c],au b2 [i64 0,i64 0]]++(d.A x lc++R)) ?_ ?_
  ·rintro _ _ ⟨hf,rfl⟩;try simp only[c8,c9]
   refine iJ.op (d:=d) (x:=x) tk fun sr hsr=>aA (aK [au _ (d.c _ x),au _ [i64 k,i64 a,i64 b,i64 c]] ar ?_);refine af (bo bL tk rfl ?_);refine jL ?_;have tk1:=IQ (ρ:=ρ) d.f d.h x.wa x.pe ae a;rw[ev ha]at tk1;refine cr ?_ ?_
   ·apply cE tk1;try simp only[c8,c9]
    refine aq fun b12=>iT ?_;generalize hpp:Fn.eX x.pe a=pe' at tail⊢;exact Tr.close ar (iJ.cl (d:=d) (x:={x with pe:=pe'}) (s:=sr) hsr)<|tail _ ha hb hc hf (aI.perm (M:=[au _ [i64 _,i64 0],au _ [i64 k,i64 a,i64 b,i64 c],au _ [i64 0,i64 0]]++d.A {x with pe:=pe'} _) ar)
   ·refine aq fun b12=>aS ar<|cE tk1 ?_;try simp only[c8,c9]
    refine iT ?_;generalize hpp:Fn.eX x.pe a=pe' at tail⊢;exact Tr.close ar (iJ.cl (d:=d) (x:={x with pe:=pe'}) (s:=sr) hsr)<|tail _ ha hb hc hf (aI.perm (M:=[au _ [i64 _,i64 0],au _ [i64 k,i64 a,i64 b,i64 c],au _ [i64 0,i64 0]]++d.A {x with pe:=pe'} _) ar)
  ·intro J hJ;have vu:∀{LL:List aD},LL.Perm _→_→Tr ρ ρ LL _ (SP G2 (fun r M=>r=dt (Rx.run x a b c).1.1 (Rx.run x a b c).1.2∧M=d.A (Rx.run x a b c).2 lc) R):=fun hp hf=>Tr.perm hp (hJ () _ ⟨hf,rfl⟩);refine iL<|ag (fun e=>?_) (fun e=>?_)
   ·have e:b=2:=by simpa using e
    refine af (iJ.ld tk bL (fun _=>rfl) ?_);refine qc d x (H.mR hN) tk (fun e3=>?_) (fun r hr e3=>?_)
    ·refine bT ?_;have e0:Rx.run x a b c=((0,3),x):=by unfold Rx.run;rw[if_neg ae,if_neg (fun g=>by omega),if_pos ⟨e,e3⟩]
     rw[e0];apply cE (bc 3 0);try simp only[c8,c9]
     exact aG (r:=dt 0 3) (A:=d.A x lc) ar bE ⟨rfl,rfl⟩
    ·exact ak (by simpa using hr)<|vu (aI.perm (M:=[au _ [i64 k,i64 a,i64 b,i64 c],au _ [i64 0,i64 0]]++d.A x _) ar) fun _=>e3
   ·have e:b≠2:=by simpa using e
    exact vu (aI.perm (M:=[au b1 [i64 k,i64 a,i64 b,i64 c],au b2 [i64 0,i64 0]]++d.A x lc) ar) fun g=>absurd g e
 ·intro J hJ;have vu:∀{LL:List aD},LL.Perm _→_→Tr ρ ρ LL _ (SP G2 (fun r M=>r=dt (Rx.run x a b c).1.1 (Rx.run x a b c).1.2∧M=d.A (Rx.run x a b c).2 lc) R):=fun hp hf=>Tr.perm hp (hJ () _ ⟨hf,rfl⟩);refine aA<|iL<|ag (fun e=>?_) (fun e=>?_)
  ·have e:a<0:=oT e;rw[main (.inl e)];apply cE (bc 1 0);try simp only[c8,c9]
   exact aG (r:=dt 0 1) (A:=d.A x lc) ar bE ⟨rfl,rfl⟩
  have e1:¬a<0:=oF e;refine iL<|af (iJ.ld tk bL (fun _=>rfl) ?_);refine af (cn.op tk fun s z hs hz=>?_);refine iL<|Tr.close ar (cn.cl (p:=d.f) (hp:=d.h) (wa:=x.wa) (pe:=x.pe) hs hz)<|ag (fun e=>?_) (fun e=>?_)
  ·have e:a≥z.n:=oT e;rw[main (.inr (.inl (by omega)))];refine ai (bc 1 0) ar ?_;rintro x' M ⟨rfl,rfl⟩;try simp only[c8,c9]
   exact aG (r:=dt 0 1) (A:=d.A x lc) ar bE ⟨rfl,rfl⟩
  have e2:¬a≥z.n:=oF e;refine iL<|ag (fun e=>?_) (fun e=>?_)
  ·have e:b<0:=oT e;rw[main (.inr (.inr (.inl e)))];apply cE (bc 1 0);try simp only[c8,c9]
   exact aG (r:=dt 0 1) (A:=d.A x lc) ar bE ⟨rfl,rfl⟩
  have e3:¬b<0:=oF e;refine iL<|ag (fun e=>?_) (fun e=>?_)
  ·have e:b>2:=oT e;rw[main (.inr (.inr (.inr e)))];apply cE (bc 1 0);try simp only[c8,c9]
   exact aG (r:=dt 0 1) (A:=d.A x lc) ar bE ⟨rfl,rfl⟩
  have e4:¬b>2:=oF e;have ha:0≤a∧a<x.pe.length:=by omega
  apply aT (k:=kI) (b:=b1) (off:=2) (x:=b) (by rw[aO]) tk rfl;have bad:b=1→¬(0≤c∧c<16)→Rx.run x a b c=((0,1),x):=fun g1 g2=>by unfold Rx.run;rw[if_neg ae,if_pos ⟨g1,by rw[rr,if_neg g2];decide⟩]
  refine ag (fun e=>?_) (fun e=>?_)
  ·have e5:b=1:=by simpa using e
   refine aT (k:=kI) (b:=b1) (off:=3) (x:=c) (by rw[aO]) tk rfl<|ag (fun e=>?_) (fun e=>?_)
   ·have e:c<0:=oT e;rw[bad e5 (by omega)];refine ai (bc 1 0) ar ?_;rintro x' M ⟨rfl,rfl⟩;try simp only[c8,c9]
    exact aG (r:=dt 0 1) (A:=d.A x lc) ar bE ⟨rfl,rfl⟩
   have e6:¬c<0:=oF e;refine aT (k:=kI) (b:=b1) (off:=3) (x:=c) (by rw[aO]) tk rfl<|ag (fun e=>?_) (fun e=>?_)
   ·have e:c≥16:=oT e;rw[bad e5 (by omega)];refine ai (bc 1 0) ar ?_;rintro x' M ⟨rfl,rfl⟩;try simp only[c8,c9]
    exact aG (r:=dt 0 1) (A:=d.A x lc) ar bE ⟨rfl,rfl⟩
   have e7:¬c≥16:=oF e;exact vu (aI.perm (M:=[au b1 [i64 k,i64 a,i64 b,i64 c],au b2 [i64 0,i64 0]]++d.A x lc) ar) ⟨ha,by omega,fun _=>by omega⟩
  ·have e5:b≠1:=by simpa using e
   exact vu (aI.perm (M:=[au b1 [i64 k,i64 a,i64 b,i64 c],au b2 [i64 0,i64 0]]++d.A x lc) ar) ⟨ha,by omega,fun g=>absurd g e5⟩
abbrev Mt:List LK:=[kI,kI,kI,kI]
noncomputable def LM:{B:Option Addr→LTs [kI,kI,kI,kI]→Nat→Nat→LTs [.adr,.adr,.adr]→Tree//∀p0 p1,∃Rg:Nat→Nat→(LTs [.adr,.adr,.adr]→Tree)→Tree,F.aj.aQ.Do p0 p1=
  nw 39 [.int .i64 p1.1,.int .i64 p1.2.1,.int .i64 p1.2.2.1,.int .i64 p1.2.2.2.1] fun b1=>nw 36 (zc Zp 36) fun b2=>jn (B p0 p1 b1 b2) (Rg b1 b2)}:=⟨_,fun p0 p1=>⟨_,rfl⟩⟩
abbrev Mv(x:Rt)(bA bB bC b1 b2:Nat)(k a b c:Int):List aD:=[au bA [i64 (Rx.fh x a false).1,i64 (Rx.fh x a false).2],au bB [i64 (Rx.fh x b false).1,i64 (Rx.fh x b false).2],au bC [i64 (Rx.fh x c false).1,i64 (Rx.fh x c false).2],au b1 [i64 k,i64 a,i64 b,i64 c],au b2 [i64 0,i64 0]]
theorem cZ(d:Dl)(x:Rt)(lc:List (aX×av)){N:Int}(H:Doc x lc N)(hN:N<2^50)(k a b c:Int)(ha:a<9223372036854775808)(hb:b<9223372036854775808)(hc:c<9223372036854775808){B:RT G2→List aD→Prop}
  (h:∀(bA bB bC b1 b2:Nat) (R:List aD),Tr ρ ρ (Mv x bA bB bC b1 b2 k a b c++(d.A x lc++R)) (LM.1 (oA d.p) (k,a,b,c,()) b1 b2 (⟨bA,0,none⟩,⟨bB,0,none⟩,⟨bC,0,none⟩,())) (SP G2 B R)):
  Gl.Spec ρ Zp 18 [pA d.p,wW k a b c] (d.A x lc) G2 B:=by
 refine So (F.aj.aQ.Do.calls _ (k,a,b,c,())) fun R=>?_;replace h:=fun bA bB bC b1 b2=>h bA bB bC b1 b2 R;try simp only[c8,c9]
 have hok:=H.mR hN;refine aq fun b1=>aq fun b2=>?_;rw[oo,gk];refine iV (fun u M=>∃bA bB bC:Nat,u=(⟨bA,0,none⟩,⟨bB,0,none⟩,⟨bC,0,none⟩,())∧M=Mv x bA bB bC b1 b2 k a b c++(d.A x lc++R)) ?_ ?_;·rintro _ _ ⟨bA,bB,bC,rfl,rfl⟩;have g:=h bA bB bC b1 b2;unfold LM at g;dsimp only at g;rw[gk]at g;exact g
 ·intro J hJ;refine iJ.op tk fun sr hsr=>aA (aK [au _ (d.c _ x),au _ [i64 k,i64 a,i64 b,i64 c]] ar ?_);refine af (bo bL tk rfl ?_);refine jL<|af (bo bL tk rfl ?_);refine jL<|af (bo bL tk rfl ?_);refine jL ?_;have mc:∀{L L':List aD} {Post:Value→List aD→Prop} {v:Int} {K:RT G2→Tree},v<9223372036854775808→Take L (bX d.n x.hs) L'→Tr ρ ρ (bX d.n x.hs::L') (K ((Hn.held x.hs v).1,(Hn.held x.hs v).2,())) Post→
    Tr ρ ρ L (call Zp 42 [pA d.n,.int .i64 v] (.one (.g [kI,kI])) K) Post:=fun hv t h=>by refine ai (BZ _ hok _ hv) (.cons t .nil) ?_;rintro _ _ ⟨rfl,rfl⟩;exact h
  have fin:∀(bA bB bC:Nat) {LL:List aD},LL.Perm ([au bA [.int .i64 0,.int .i64 0],au bB [.int .i64 0,.int .i64 0],au bC [.int .i64 0,.int .i64 0],au b1 [i64 k,i64 a,i64 b,i64 c],au b2 [i64 0,i64 0],au d.p (d.c sr x),aw sr 1 (x.ro.map i64),bO d.r d.h x.rows x.bb,bX d.n x.hs,cn d.f d.h x.wa x.pe,ct d.h x.S lc]++R)→
    Tr ρ ρ LL (st (⟨bA,0,none⟩) [.int .i64 (Hn.held x.hs a).1,.int .i64 (Hn.held x.hs a).2]<|st (⟨bB,0,none⟩) [.int .i64 (Hn.held x.hs b).1,.int .i64 (Hn.held x.hs b).2]<|st (⟨bC,0,none⟩) [.int .i64 (Hn.held x.hs c).1,.int .i64 (Hn.held x.hs c).2]<|J (⟨bA,0,none⟩,⟨bB,0,none⟩,⟨bC,0,none⟩,())) (SP G2 B R):=fun bA bB bC LL hp=>by refine Tr.perm hp<|iT ?_;refine iT ?_;refine iT ?_;refine Tr.close ar (iJ.cl hsr)<|Tr.perm (aI.perm (M:=[au bA [i64 (Hn.held _ a).1,i64 (Hn.held _ a).2],au bB [i64 (Hn.held x.hs b).1,i64 (Hn.held _ b).2],au bC [i64 (Hn.held _ c).1,i64 (Hn.held x.hs c).2],au b1 [i64 k,i64 a,i64 b,i64 c],au b2 [i64 0,i64 0]]++d.A x lc) ar) (hJ _ _ ⟨bA,bB,bC,rfl,?_⟩);rfl
  have mz:∀{L:List aD} {Post:Value→List aD→Prop} {K:Nat→Tree},(∀b,Tr ρ ρ (au b [i64 0,i64 0]::L) (K b) Post)→Tr ρ ρ L (nw 100 (zc Zp 100) K) Post:=fun h=>by rw[gk];exact aq h
  repeat' first
   |with_reducible refine cr ?_ ?_
   |with_reducible refine aS ar ?_
   |with_reducible apply mc (by assumption) tk
   |with_reducible refine mz fun _=>?_
   |with_reducible refine aq fun _=>?_
  all_goals exact fin _ _ _ (aI.perm ar)
section
theorem fc{p:Prop} [Decidable p] {v:List aX} (y z:bH) (h1:y.2.cs=v) (h2:z.2.cs=v):(if p then y else z).2.cs=v:=by split<;>assumption
variable(d:Dl)(x:Rt)(lc:List (aX×av)){N:Int}(H:Doc x lc N)(hN:N+10<2^49)(a b c:Int)(ha:a<9223372036854775808)(hb:b<9223372036854775808)(hc:c<9223372036854775808)
abbrev Dd(ρ:FR)(d:Dl)(lc:List (aX×av))(k a b c:Int)(x:Rt)(y:bH):Prop:=
 Gl.Spec ρ Zp 18 [pA d.p,wW k a b c] (d.A x lc) G2 fun r M=>r=dt y.1.1 y.1.2∧M=d.A y.2 lc
abbrev Dm(ρ:FR)(d:Dl)(lc:List (aX×av))(k a b c:Int)(x:Rt)(Y:bH→Prop):Prop:=
 Gl.Spec ρ Zp 18 [pA d.p,wW k a b c] (d.A x lc) G2 fun r M=>∃(y:bH) (lc':List (aX×av)),Y y∧y.2.cs=dK lc'∧(∀z∈lc',z.2.n=z.1.2.length)∧r=dt y.1.1 y.1.2∧M=d.A y.2 lc'
include H hN ha hb hc
theorem Ga:Dm ρ d lc 1 a b c x (fun y=>y=Rx.gw x a b):=by refine cZ d x _ H ae 1 a b c ha hb hc fun bA bB bC b1 b2 R=>aT (x:=1) bL tk rfl<|bT<|iL<|iL<|ai (Fh d x _ H a b) ar ?_;rintro _ _ ⟨lc',h1,h2,rfl,rfl⟩;generalize Rx.gw x a b=y at*;exact aG ar bE ⟨y,lc',rfl,h1,h2,rfl,rfl⟩
theorem Ej:Dm ρ d lc 2 a b c x (Rx.fm x a):=by
 refine cZ d x _ H ae 2 a b c ha hb hc fun bA bB bC b1 b2 R=>aT (x:=2) bL tk rfl<|ak rfl (bg rfl ?_);have hll:x.cs.length=lc.length:=by rw[H.cs,List.length_map]
 have nope:¬_→Rx.fm x a _:=fun h=>by unfold Rx.fm;rw[if_neg h]
 refine aA<|iL<|ag (fun e=>?_) (fun e=>?_);·have e:=oT e;apply cE (bc 2 0);exact aG ar bE ⟨_,lc,nope ae,H.cs,H.ln,rfl,rfl⟩
 have e1:=oF e;refine iL<|af (iJ.ld tk bL (fun _=>rfl) ?_);refine af (ct.op tk fun ps s hs=>?_);refine iL<|ag (fun e=>?_) (fun e=>?_);·have e:=oT e;refine Tr.close ar (ct.cl hs)<|cE (bc 2 0) ?_;exact aG ar bE ⟨_,lc,nope ae,H.cs,H.ln,rfl,rfl⟩
 have e2:=oF e;have hlt:(a-1).toNat<lc.length:=by omega
 have hx:=List.getElem?_eq_getElem hlt;have hcx:(x.cs.getD (a-1).toNat (0,[])).1=lc[(a-1).toNat].1.1:=by rw[H.cs,List.getD_eq_getElem?_getD,List.getElem?_map,hx];rfl
 have hyy:∀y,Rx.dv (Rx.mk ⟨1,a,lc[(a-1).toNat].1.1,false⟩) x y→Rx.fm x a y:=fun y hy=>by unfold Rx.fm;rw[if_pos ae,hcx];exact hy
 generalize lc[(a-1).toNat]=z at*;refine aA<|iL<|af (iJ.ld tk bL (fun _=>rfl) ?_);refine af<|iL<|iL ?_;rw[bG (n:=a-1)];refine rv tk ae hx fun a0 ha0 hcell=>cw ha0 tk fX (hcell 0 _ bd rfl)<|Tr.close ar (ct.cl hs)<|ai (tg d x _ H hN ⟨1,a,z.1.1,false⟩ 0 0 _ (Rx.gI (show(1:Int)≠4 by decide)) (Rx.zD _) (Rx.yQ _) (fun _=>rfl) fun ρ' y M Hy _=>xQ d y lc Hy ⟨1,a,z.1.1,false⟩ (show 1≠4 by decide) 0 0) ar ?_;rintro _ _ ⟨y,hy,jb,rfl,rfl⟩;exact aG ar bE ⟨y,lc,hyy y hy,jb.trans H.cs,H.ln,rfl,rfl⟩
theorem Jx:Dm ρ d lc 3 a b c x (Rx.dQ x 2 a):=by
 refine cZ d x _ H ae 3 a b c ha hb hc fun bA bB bC b1 b2 R=>aT (x:=3) bL tk rfl<|ak rfl (ak rfl (fM ?_));refine bg rfl (bg rfl ?_);have nope:_→Rx.dQ x 2 a _:=fun h=>by unfold Rx.dQ;rw[if_pos h]
 refine iL<|ag (fun e=>?_) (fun e=>?_);·have e:=oT e;apply cE (bc 1 0);exact aG ar bE ⟨_,lc,nope (.inl e),H.cs,H.ln,rfl,rfl⟩
 have e1:=oF e;refine iL<|ag (fun e=>?_) (fun e=>?_);·have e:=oT e;apply cE (bc 1 0);exact aG ar bE ⟨_,lc,nope (.inr e),H.cs,H.ln,rfl,rfl⟩
 have e2:=oF e;refine aT (x:=3) bL tk rfl<|bF<|iL ?_;have hyy:∀y,Rx.dv _ x y→Rx.dQ x 2 a y:=fun y hy=>by unfold Rx.dQ;rw[if_neg (fun g=>g.elim e1 e2)];exact hy
 refine ai (tg d x _ H hN ⟨2,0,a,false⟩ 0 0 _ (Rx.gI (show(2:Int)≠4 by decide)) (Rx.zD _) (Rx.yQ _) (fun _=>rfl) fun ρ' y M Hy _=>xQ d y lc Hy ⟨2,0,a,false⟩ (show 2≠4 by decide) 0 0) ar ?_;rintro _ _ ⟨y,hy,jb,rfl,rfl⟩;exact aG ar bE ⟨y,lc,hyy y hy,jb.trans H.cs,H.ln,rfl,rfl⟩
theorem Jw:Dm ρ d lc 4 a b c x (Rx.dQ x 3 a):=by
 refine cZ d x _ H ae 4 a b c ha hb hc fun bA bB bC b1 b2 R=>aT (x:=4) bL tk rfl<|ak rfl (ak rfl (fM ?_));refine ak rfl (bg rfl ?_);have nope:_→Rx.dQ x 3 a _:=fun h=>by unfold Rx.dQ;rw[if_pos h]
 refine iL<|ag (fun e=>?_) (fun e=>?_);·have e:=oT e;apply cE (bc 1 0);exact aG ar bE ⟨_,lc,nope (.inl e),H.cs,H.ln,rfl,rfl⟩
 have e1:=oF e;refine iL<|ag (fun e=>?_) (fun e=>?_);·have e:=oT e;apply cE (bc 1 0);exact aG ar bE ⟨_,lc,nope (.inr e),H.cs,H.ln,rfl,rfl⟩
 have e2:=oF e;refine aT (x:=4) bL tk rfl<|bT<|iL ?_;have hyy:∀y,Rx.dv _ x y→Rx.dQ x 3 a y:=fun y hy=>by unfold Rx.dQ;rw[if_neg (fun g=>g.elim e1 e2)];exact hy
 refine ai (tg d x _ H hN ⟨3,0,a,false⟩ 0 0 _ (Rx.gI (show(3:Int)≠4 by decide)) (Rx.zD _) (Rx.yQ _) (fun _=>rfl) fun ρ' y M Hy _=>xQ d y lc Hy ⟨3,0,a,false⟩ (show 3≠4 by decide) 0 0) ar ?_;rintro _ _ ⟨y,hy,jb,rfl,rfl⟩;exact aG ar bE ⟨y,lc,hyy y hy,jb.trans H.cs,H.ln,rfl,rfl⟩
theorem KW:Dd ρ d lc 5 a b c x (Rx.get x a b):=by
 refine cZ d x _ H ae 5 a b c ha hb hc fun bA bB bC b1 b2 R=>?_;try simp only[c8,c9]
 refine aT (x:=5) bL tk rfl<|ak rfl (ak rfl (fM ?_));refine ak rfl (ak rfl ?_);refine bT ?_;unfold Rx.get Rx.re;have hob:=fun g=>Rx.oN H.w (h:=a) g;generalize Rx.fh x a false=h at*;refine iL<|ag (fun e=>?_) (fun e=>?_)
 ·have e:h.2≠0:=by simpa using e
  rw[if_pos e];refine iL<|cE (bc _ 0) ?_;exact aG ar bE ⟨rfl,rfl⟩
 have e:h.2=0:=by simpa using e
 rw[if_neg (fun g=>g e)];refine iL<|iL ?_;have hlds:=fun g=>Rx.CK (x:=x) (a:=h.1) (j:=b) g;apply cE (vl d x _ H _ b (hob e));try simp only[c8,c9]
 have hg:(Rx.jC x h.1 b).2.2=0→(Rx.jC x h.1 b).1=(Ob.get x.S h.1 b).1:=fun g=>by
  unfold Rx.jC at g⊢;split;·rename_i g1;rw[g1]at g;cases g
  ·rename_i g1;rw[g1]at g;dsimp only at g;split;·rename_i g2;rw[if_pos g2]at g;cases g
   ·rename_i g2;rw[if_neg g2]at g;split;·rename_i g3;rw[if_pos g3]at g;exact absurd g g3
    ·rfl
 generalize Rx.jC x h.1 b=f at*;refine ag (fun e1=>?_) (fun e1=>?_)
 ·have e1:f.2.2≠0:=by simpa using e1
  rw[if_pos (.inl e1)];apply cE (bc _ 0);refine aG ar bE ⟨?_,rfl⟩;unfold dt;rw[if_pos e1,if_pos e1]
 have e1:f.2.2=0:=by simpa using e1
 refine aA<|af (iJ.ld tk bL (fun _=>rfl) ?_);refine iL<|iL<|cE (kG _ _ _ H.hw _ b) ?_;rw[←hg e1];refine ag (fun e2=>?_) (fun e2=>?_)
 ·rw[if_neg (by rw[e1,e2];simp)];have hv:0≤f.1:=by obtain⟨g1,g2⟩:=hlds e2;rw[g2];exact(H.w.D.2.jC _ _ g1).pos H.w.I.w.hw
  refine cE (nD d x _ (H.mR ae) _ hv) ?_;exact aG ar bE ⟨rfl,rfl⟩
 ·rw[if_pos (.inr e2),e1];apply cE (bc 0 _);exact aG ar bE ⟨rfl,rfl⟩
theorem Kl:Dd ρ d lc 6 a b c x (Rx.set x a b c):=by
 refine cZ d x _ H ae 6 a b c ha hb hc fun bA bB bC b1 b2 R=>?_;try simp only[c8,c9]
 refine aT (x:=6) bL tk rfl<|ak rfl (ak rfl (fM ?_));refine ak rfl (ak rfl ?_);refine bF<|bT ?_;unfold Rx.set Rx.re Rx.D7;have hob:=fun g=>Rx.oN H.w (h:=a) g;generalize Rx.fh x a false=h at*;refine iL<|ag (fun e=>?_) (fun e=>?_)
 ·have e:h.2≠0:=by simpa using e
  rw[if_pos e];refine iL<|cE (bc _ 0) ?_;exact aG ar bE ⟨rfl,rfl⟩
 have e:h.2=0:=by simpa using e
 rw[if_neg (fun g=>g e)];have hfo:=fun g=>Rx.FE (x:=x) (a:=h.1) (j:=b) g;have ht:Rx.fh x c true=if c=0 then(0,0)else Rx.fh x c false:=by
  unfold Rx.fh;by_cases g:c=0;·rw[if_pos ⟨rfl,g⟩,if_pos g]
  ·rw[if_neg (fun q=>g q.2),if_neg g,if_neg (fun q=>by cases q.1)]
 rw[ht];have h00:c=0→(Rx.fh x c false).1=0:=fun g=>by subst g;rfl
 generalize Rx.fh x c false=t at*;refine iV (fun _ M=>(c=0∨t.2=0)∧M=[au bA [i64 h.1,i64 h.2],au bC [i64 t.1,i64 t.2],au b1 [i64 6,i64 a,i64 b,i64 c],au b2 [i64 0,i64 0]]++(d.A x lc++R)) ?_ ?_
 ·rintro _ _ ⟨hct,rfl⟩;try simp only[c8,c9]
  have e5:(if c=0 then((0:Int),(0:Int))else t)=(t.1,0):=by
   by_cases g:c=0;·rw[if_pos g,h00 g]
   ·rw[if_neg g];exact Prod.ext rfl (hct.resolve_left g)
  rw[e5,if_neg (fun g=>g rfl)];refine iL<|iL<|cE (vl d x _ H _ b (hob e)) ?_;generalize Rx.jC x h.1 b=f at*;refine iV (fun u M=>u=(if f.2.2≠0 then f.2.2 else if f.2.1=false then 5 else 0,())∧M=[au bA [i64 h.1,i64 h.2],au bC [i64 t.1,i64 t.2],au b1 [i64 6,i64 a,i64 b,i64 c],au b2 [i64 0,i64 0]]++(d.A x lc++R)) ?_ ?_
  ·rintro _ _ ⟨rfl,rfl⟩;by_cases g1:f.2.2≠0;·rw[if_pos g1,if_pos g1];refine bg (by simpa using g1)<|cE (bc _ 0) ?_;exact aG ar bE ⟨rfl,rfl⟩
   rw[if_neg g1,if_neg g1];by_cases g2:f.2.1=false;·rw[if_pos g2,if_pos g2];refine bT<|cE (bc 5 0) ?_;exact aG ar bE ⟨rfl,rfl⟩
   rw[if_neg g2,if_neg g2];refine ak rfl (aA ?_);refine af (iJ.ld tk bL (fun _=>rfl) ?_);refine iL<|iL<|iL<|cE (kb _ _ _ H.hw _ b _) ?_;rw[Rx.Fe (v:=t.1) (hfo (by simpa using g1))];exact aG (r:=(0,0,())) ar bE ⟨rfl,rfl⟩
  ·intro J hJ;have vu:∀{LL:List aD} (v:Int),LL.Perm _→v=_→Tr ρ ρ LL (J (v,())) _:=fun v hp hv=>Tr.perm hp (hJ _ _ ⟨by rw[hv],rfl⟩);refine ag (fun g1=>?_) (fun g1=>?_)
   ·have g1:f.2.2=0:=by simpa using g1
    refine ag (fun g2=>?_) (fun g2=>?_)
    ·have g2:f.2.1=false:=by simpa using g2
     exact vu 5 (aI.perm ar) (by rw[if_neg (fun g=>g g1),if_pos g2])
    ·have g2:¬f.2.1=false:=by simpa using g2
     exact vu _ (aI.perm ar) (by rw[if_neg (fun g=>g g1),if_neg g2,g1])
   ·have g1:f.2.2≠0:=by simpa using g1
    exact vu _ (aI.perm ar) (by rw[if_pos g1])
 ·intro J hJ;have vu:∀{LL:List aD},LL.Perm _→_→Tr ρ ρ LL (J ()) _:=fun hp hv=>Tr.perm hp (hJ _ _ ⟨hv,rfl⟩);refine Tr.drop (A:=au _ [i64 (Rx.fh x b _).1,i64 (Rx.fh x b _).2]) tk<|iL<|ag (fun g1=>?_) (fun g1=>?_)
  ·have g1:c≠0:=by simpa using g1
   refine iL<|ag (fun g2=>?_) (fun g2=>?_)
   ·have g2:t.2≠0:=by simpa using g2
    have e6:(if c=0 then(0,0)else t)=t:=if_neg g1;rw[e6];dsimp only;rw[if_pos g2];refine iL<|cE (bc _ 0) ?_;exact aG ar bE ⟨rfl,rfl⟩
   ·have g2:t.2=0:=by simpa using g2
    exact vu (aI.perm ar) (.inr g2)
  ·have g1:c=0:=by simpa using g1
   exact vu (aI.perm ar) (.inl g1)
theorem KX:Dd ρ d lc 7 a b c x (Rx.put x a b c):=by
 refine cZ d x _ H ae 7 a b c ha hb hc fun bA bB bC b1 b2 R=>?_;try simp only[c8,c9]
 refine aT (x:=7) bL tk rfl<|ak rfl (ak rfl (fM ?_));refine ak rfl (ak rfl ?_);refine bF<|bF<|bT ?_;unfold Rx.put Rx.re;have hob:=fun g=>Rx.oN H.w (h:=a) g;generalize Rx.fh x a false=h at*;refine iL<|ag (fun e=>?_) (fun e=>?_)
 ·have e:h.2≠0:=by simpa using e
  rw[if_pos e];refine iL<|cE (bc _ 0) ?_;exact aG ar bE ⟨rfl,rfl⟩
 have e:h.2=0:=by simpa using e
 rw[if_neg (fun g=>g e)];refine iL<|iL ?_;have hfo:=fun g=>Rx.FE (x:=x) (a:=h.1) (j:=b) g;apply cE (vl d x _ H _ b (hob e));try simp only[c8,c9]
 generalize Rx.jC x h.1 b=f at*;refine Tr.drop (A:=au _ [i64 (Rx.fh x b _).1,i64 (Rx.fh x b _).2]) tk<|Tr.drop (A:=au _ [i64 (Rx.fh x c _).1,i64 (Rx.fh x c _).2]) tk<|iV (fun u M=>u=(if f.2.2≠0 then f.2.2 else if f.2.1=true then 5 else 0,())∧M=[au bA [i64 h.1,i64 h.2],au b1 [i64 7,i64 a,i64 b,i64 c],au b2 [i64 0,i64 0]]++(d.A x lc++R)) ?_ ?_
 ·rintro _ _ ⟨rfl,rfl⟩;by_cases g1:f.2.2≠0;·rw[if_pos g1,if_pos g1];refine bg (by simpa using g1)<|cE (bc _ 0) ?_;exact aG ar bE ⟨rfl,rfl⟩
  rw[if_neg g1,if_neg g1];by_cases g2:f.2.1=true;·rw[if_pos g2,if_pos g2];refine bT<|cE (bc 5 0) ?_;exact aG ar bE ⟨rfl,rfl⟩
  rw[if_neg g2,if_neg g2];refine ak rfl (aA ?_);refine af (iJ.ld tk bL (fun _=>rfl) ?_);refine iL<|iL<|iL<|cE (kb _ _ _ H.hw _ b c) ?_;rw[Rx.Fe (v:=c) (hfo (by simpa using g1))];exact aG (r:=(0,0,())) ar bE ⟨rfl,rfl⟩
 ·intro J hJ;have vu:∀{LL:List aD} (v:Int),LL.Perm _→v=_→Tr ρ ρ LL (J (v,())) _:=fun v hp hv=>Tr.perm hp (hJ _ _ ⟨by rw[hv],rfl⟩);refine ag (fun g1=>?_) (fun g1=>?_)
  ·have g1:f.2.2=0:=by simpa using g1
   refine ag (fun g2=>?_) (fun g2=>?_);·exact vu 5 (aI.perm ar) (by rw[if_neg (fun g=>g g1),if_pos g2])
   ·have g2:¬f.2.1=true:=by simpa using g2
    exact vu _ (aI.perm ar) (by rw[if_neg (fun g=>g g1),if_neg g2,g1])
  ·have g1:f.2.2≠0:=by simpa using g1
   exact vu _ (aI.perm ar) (by rw[if_pos g1])
theorem H8:Dd ρ d lc 8 a b c x (Rx.drop x a):=by refine cZ d x _ H ae 8 a b c ha hb hc fun bA bB bC b1 b2 R=>aT (x:=8) bL tk rfl<|ak rfl (ak rfl (fM ?_));refine ak rfl (ak rfl ?_);refine bF<|bF<|bF<|bT<|aA<|af (iJ.ld tk bL (fun _=>rfl) ?_);refine iL<|cE (HK _ (H.mR ae) a ha) ?_;unfold Rx.drop;generalize Hn.nF x.hs a=e;apply cE (bc e 0);exact aG ar bE ⟨rfl,rfl⟩
theorem HF:Dd ρ d lc 9 a b c x (Rx.root x a b):=by
 refine cZ d x _ H ae 9 a b c ha hb hc fun bA bB bC b1 b2 R=>?_;try simp only[c8,c9]
 refine aT (x:=9) bL tk rfl<|ak rfl (ak rfl (fM ?_));refine ak rfl (ak rfl ?_);refine bF<|bF<|bF<|bF<|bT ?_;have hro:=H.w.I.ro;have hvp:=Rx.GR H.w.D H.w.I b false;have ht:Rx.fh x b true=if b=0 then(0,0)else Rx.fh x b false:=by
  unfold Rx.fh;by_cases g:b=0;·rw[if_pos ⟨rfl,g⟩,if_pos g]
  ·rw[if_neg (fun q=>g q.2),if_neg g,if_neg (fun q=>by cases q.1)]
 have h00:b=0→(Rx.fh x b false).1=0:=fun g=>by subst g;rfl
 unfold Rx.root Rx.D7;rw[ht];generalize Rx.fh x b false=t at*;have body:∀{LL:List aD},(b=0∨t.2=0)→LL.Perm ([au bB [i64 t.1,i64 t.2],au b1 [i64 9,i64 a,i64 b,i64 c],au b2 [i64 0,i64 0]]++(d.A x lc++R))→
   Tr ρ ρ LL (ld (.l kI) (fa (⟨b1,0,none⟩) 1) fun(x9:Int)=>
    br (decide ((x9:Int)<0))
     (call Zp 44 [.int .i64 1,.int .i64 0] (.one (.g [kI,kI])) fun(r10:LTs _)=>st (⟨b2,0,none⟩) [.int .i64 r10.1,.int .i64 r10.2.1]<|ld (.g [kI,kI]) (⟨b2,0,none⟩) fun(x11:LTs _)=>ret (.agg #[.int .i64 x11.1,.int .i64 x11.2.1]))
     (ld (.l kI) (fa (⟨b1,0,none⟩) 1) fun(x10:Int)=>
     br (decide ((x10:Int)≥16))
      (call Zp 44 [.int .i64 1,.int .i64 0] (.one (.g [kI,kI])) fun(r11:LTs _)=>st (⟨b2,0,none⟩) [.int .i64 r11.1,.int .i64 r11.2.1]<|ld (.g [kI,kI]) (⟨b2,0,none⟩) fun(x12:LTs _)=>ret (.agg #[.int .i64 x12.1,.int .i64 x12.2.1]))
      (cD<|nn (oA d.p) fun a11=>ld (.l .slice) (fa a11 3) fun(x12:av)=>ld (.l kI) (fa (⟨b1,0,none⟩) 1) fun(x13:Int)=>ld (.l kI) (fa (⟨bB,0,none⟩) 0) fun(x14:Int)=>
       ix x12.a x12.n x13 1 fun a15=>st a15 [.int .i64 x14]<|st (⟨b2,0,none⟩) [.int .i64 0,.int .i64 0]<|ld (.g [kI,kI]) (⟨b2,0,none⟩) fun(x16:LTs _)=>ret (.agg #[.int .i64 x16.1,.int .i64 x16.2.1]))))
    (SP G2 (fun r M=>r=dt (if(if b=0 then((0:Int),(0:Int))else t).2≠0 then(((0:Int),(if b=0 then((0:Int),(0:Int))else t).2),x)else((0,Rx.kc a (if b=0 then((0:Int),(0:Int))else t).1),{x with ro:=Rx.cO x.ro a (if b=0 then((0:Int),(0:Int))else t).1})).1.1
      (if(if b=0 then((0:Int),(0:Int))else t).2≠0 then(((0:Int),(if b=0 then((0:Int),(0:Int))else t).2),x)else((0,Rx.kc a (if b=0 then((0:Int),(0:Int))else t).1),{x with ro:=Rx.cO x.ro a (if b=0 then((0:Int),(0:Int))else t).1})).1.2∧
     M=d.A (if(if b=0 then((0:Int),(0:Int))else t).2≠0 then(((0:Int),(if b=0 then((0:Int),(0:Int))else t).2),x)else((0,Rx.kc a (if b=0 then((0:Int),(0:Int))else t).1),{x with ro:=Rx.cO x.ro a (if b=0 then((0:Int),(0:Int))else t).1})).2 lc) R):=fun{LL} hbt hp=>by
  have e5:(if b=0 then((0:Int),(0:Int))else t)=(t.1,0):=by
   by_cases g:b=0;·rw[if_pos g,h00 g]
   ·rw[if_neg g];exact Prod.ext rfl (hbt.resolve_left g)
  rw[e5,if_neg (fun g=>g rfl)];refine Tr.perm hp ?_;have bad:¬_→Rx.kc a t.1=1∧Rx.cO x.ro a t.1=x.ro:=fun g=>by unfold Rx.kc Rx.cO;rw[if_neg (fun q=>g q.1),if_neg (fun q=>g q.1)];exact⟨rfl,rfl⟩
  refine iL<|ag (fun e=>?_) (fun e=>?_);·have e:=oT e;obtain⟨q1,q2⟩:=bad ae;rw[q1,q2];apply cE (bc 1 0);exact aG ar bE ⟨rfl,rfl⟩
  have e1:=oF e;refine iL<|ag (fun e=>?_) (fun e=>?_);·have e:=oT e;obtain⟨q1,q2⟩:=bad ae;rw[q1,q2];apply cE (bc 1 0);exact aG ar bE ⟨rfl,rfl⟩
  have e2:=oF e;refine aA (af (iJ.op tk fun sr hsr=>?_));refine iL<|iL<|iL ?_;apply dr tk ae (by omega);have ep:Rx.cO x.ro a t.1=x.ro.set a.toNat t.1:=by unfold Rx.cO;rw[if_pos ⟨ae,hvp⟩]
  have ee:Rx.kc a t.1=0:=by unfold Rx.kc;rw[if_pos ⟨ae,hvp⟩]
  rw[ep,ee];have hsr2:sr.n=(x.ro.set a.toNat t.1).length:=by rw[List.length_set];exact hsr
  generalize x.ro.set a.toNat t.1=ro' at*;exact Tr.close ar (iJ.cl (x:={x with ro:=ro'}) hsr2)<|aG (r:=(0,0,())) ar bE ⟨rfl,rfl⟩
 refine Tr.drop tk<|Tr.drop (A:=au _ [i64 (Rx.fh x c _).1,i64 (Rx.fh x c _).2]) tk<|iL<|ag (fun g1=>?_) (fun g1=>?_)
 ·have g1:b≠0:=by simpa using g1
  refine iL<|ag (fun g2=>?_) (fun g2=>?_)
  ·have g2:t.2≠0:=by simpa using g2
   have e6:(if b=0 then(0,0)else t)=t:=if_neg g1;rw[e6,if_pos g2];refine iL<|cE (bc _ 0) ?_;exact aG ar bE ⟨rfl,rfl⟩
  ·have g2:t.2=0:=by simpa using g2
   exact body (.inr g2) (aI.perm ar)
 ·have g1:b=0:=by simpa using g1
  exact body (.inl g1) (aI.perm ar)
theorem ID:Dd ρ d lc 10 a b c x (Rx.take x a):=by
 refine cZ d x _ H ae _ a b c ha hb hc fun bA bB bC b1 b2 R=>aT (x:=10) bL tk rfl<|ak rfl (ak rfl (fM ?_));refine ak rfl (ak rfl ?_);refine bF<|bF<|bF<|bF<|bF<|bT ?_;have hro:=H.w.I.ro;have hv:=(Rx.zx H.w.D.2 a).pos H.w.I.w.hw;have bad:¬(0≤a∧a<16)→Rx.take x a=((0,1),x):=fun g=>by unfold Rx.take Rx.jK;rw[if_neg g,if_pos bd]
 refine iL<|ag (fun e=>?_) (fun e=>?_);·have e:=oT e;rw[bad ae];apply cE (bc 1 0);exact aG ar bE ⟨rfl,rfl⟩
 have e1:=oF e;refine iL<|ag (fun e=>?_) (fun e=>?_);·have e:=oT e;rw[bad ae];apply cE (bc 1 0);exact aG ar bE ⟨rfl,rfl⟩
 have e2:=oF e;have er:Rx.jK x.ro a=(x.ro.getD a.toNat 0,0):=by unfold Rx.jK;rw[if_pos ae]
 unfold Rx.take;rw[er]at hv⊢;refine aA (af (iJ.op tk fun sr hsr=>?_));refine iL<|iL ?_;refine bt tk ae (by omega)<|Tr.close ar (iJ.cl hsr) ?_;generalize x.ro.getD a.toNat 0=v at*;apply cE (nD d x _ (H.mR ae) v hv);exact aG ar bE ⟨rfl,rfl⟩
theorem GW:Dm ρ d lc 11 a b c x (Rx.gq x a b c):=by
 refine cZ d x _ H ae _ a b c ha hb hc fun bA bB bC b1 b2 R=>?_;try simp only[c8,c9]
 refine aT (x:=11) bL tk rfl<|ak rfl (ak rfl (fM ?_));refine ak rfl (ak rfl ?_);refine bF<|bF<|bF<|bF<|bF<|bF<|bT ?_;have hob:=fun g=>Rx.oN H.w (h:=b) g;have hr:∀y,Rx.gq x a b c y=if(Rx.fh x b false).2≠0 then y=_ else if Rx.jU x a c≠0 then y=_ else Rx.dv _ x y:=fun y=>rfl;generalize Rx.fh x b false=h at*;refine iL<|ag (fun e=>?_) (fun e=>?_)
 ·have e:h.2≠0:=by simpa using e
  refine iL<|cE (bc _ 0) ?_;exact aG ar bE ⟨(_,x),lc,by rw[hr,if_pos e],H.cs,H.ln,rfl,rfl⟩
 have e:h.2=0:=by simpa using e
 have ho:=hob e;have hmy:Rf.may x.S x.rows a h.1 c=Rx.jU x a c:=by
  unfold Rf.may Rx.jU;have:(Ob.head x.S h.1).isNone=false:=by
   unfold Mk.obj at ho;cases q:Ob.head x.S h.1 with
   |none=>rw[q]at ho;cases ho
   |some _=>rfl
  rw[this];rfl
 refine aA<|af (iJ.ld tk bL (fun _=>rfl) ?_);refine iL<|iL<|iL<|cE (Hg _ _ _ _ H.hw _ _ a _ c) ?_;rw[hmy];refine ag (fun e1=>?_) (fun e1=>?_)
 ·have e1:Rx.jU x a c≠0:=by simpa using e1
  apply cE (bc _ 0);exact aG (A:=d.A x _) ar bE ⟨_,lc,by rw[hr,if_neg (fun g=>g e),if_pos e1],H.cs,H.ln,rfl,rfl⟩
 have e1:Rx.jU x a c=0:=by simpa using e1
 refine iL<|iL<|iL<|ai (tg d x _ H hN ⟨4,a,0,false⟩ _ c _ (Rx.mJ _ _ _) (Rx.FC _ _ _) (Rx.FB _ _ _) (fun _=>rfl) fun ρ' y M Hy hM=>G4 d y lc Hy ae a h.1 c) ar ?_;rintro _ _ ⟨y,hy,jb,rfl,rfl⟩;exact aG ar bE ⟨y,lc,(by rw[hr,if_neg (fun g=>g e),if_neg (fun g=>g e1)];exact hy),jb.trans H.cs,H.ln,rfl,rfl⟩
theorem zo:Dd ρ d lc 12 a b c x (Rx.aC x a):=by refine cZ d x _ H ae _ a b c ha hb hc fun bA bB bC b1 b2 R=>aT (x:=12) bL tk rfl<|ak rfl (ak rfl (fM ?_));refine ak rfl (ak rfl ?_);refine bF<|bF<|bF<|bF<|bF<|bF<|bF<|bT<|iG ?_;apply cE (FO d x _ H ae a);exact aG ar bE ⟨rfl,rfl⟩
theorem Gk:Dd ρ d lc 13 a b c x (Rx.clear x a):=by
 refine cZ d x _ H ae _ a b c ha hb hc fun bA bB bC b1 b2 R=>?_;try simp only[c8,c9]
 refine aT (x:=13) bL tk rfl<|ak rfl (ak rfl (fM ?_));refine ak rfl (ak rfl ?_);refine bF<|bF<|bF<|bF<|bF<|bF<|bF<|bF<|bT ?_;unfold Rx.clear Rx.re;generalize Rx.fh x a false=h at*;refine iL<|ag (fun e=>?_) (fun e=>?_)
 ·have e:h.2≠0:=by simpa using e
  rw[if_pos e];refine iL<|cE (bc _ 0) ?_;exact aG ar bE ⟨rfl,rfl⟩
 have e:h.2=0:=by simpa using e
 rw[if_neg (fun g=>g e)];refine iJ.op tk fun sr hsr=>aA (aK [au _ (d.c _ x),au _ [i64 h.1,i64 h.2]] ar ?_);refine af (bo bL tk rfl ?_);refine jL<|aq fun b13=>aS ar<|ai (Spec.Ky (cs:=[i64 h.1]) fun ρ' _ ⟨ty,hty⟩=>yG d.r d.h x.S lc H.hw x.rows x.bb ⟨oA b13,1,1⟩ [h.1] ⟨rfl,.inr ⟨b13,0,_,ty,_,rfl,hty,fun i hi=>by simp⟩⟩ (by rw[List.length_singleton];decide)) ar ?_;rintro _ _ ⟨_,⟨rfl,rfl⟩,rfl⟩;try simp only[c8,c9]
 refine Tr.close ar (iJ.cl hsr)<|cE (bc _ 0) ?_;exact aG ar bE ⟨rfl,rfl⟩
theorem Bs:Dd ρ d lc 14 a b c x (Rx.enqueue x a):=by
 refine cZ d x _ H ae _ a b c ha hb hc fun bA bB bC b1 b2 R=>?_;try simp only[c8,c9]
 refine aT (x:=14) bL tk rfl<|ak rfl (ak rfl (fM ?_));refine ak rfl (ak rfl ?_);refine bF<|bF<|bF<|bF<|bF<|bF<|bF<|bF<|bF<|bT ?_;unfold Rx.enqueue Rx.re;generalize Rx.fh x a false=h at*;refine iL<|ag (fun e=>?_) (fun e=>?_)
 ·have e:h.2≠0:=by simpa using e
  rw[if_pos e];refine iL<|cE (bc _ 0) ?_;exact aG ar bE ⟨rfl,rfl⟩
 have e:h.2=0:=by simpa using e
 rw[if_neg (fun g=>g e)];have hro:=(H.w.I.ok ae).rows;have hqn:=H.w.D.1.qn h.1;have henq:=fun ρ=>Fx (ρ:=ρ) d.r d.h x.S lc H.hw x.rows (fun r hr=>by have:=hro.len r hr;omega) x.bb h.1 H.w.I.w.q.sZ H.w.I.w.q hqn;have hne:=fun g=>Rx.C0 (a:=h.1) H.w.I.w.hw H.w.I.w.q H.w.D.1.qn g;have hnr:Qu.bR x.S h.1=false→Rf.dJ x.S x.rows h.1=_:=fun g=>by unfold Rf.dJ;rw[if_neg (by rw[g];simp)]
 have hcase:(Rf.dJ x.S x.rows h.1).1.2=0∨(Rf.dJ x.S x.rows h.1).1=(false,5):=by
  cases g:Qu.bR x.S h.1 with
  |true=>exact .inl (hne g)
  |false=>exact .inr (by rw[hnr g])
 obtain⟨y,hy⟩:∃y,y=Rf.dJ x.S x.rows h.1:=⟨_,rfl⟩;simp only[←hy]at hcase henq⊢;have key:(if y.1.2≠0∨y.1.1=false then((0:Int),y.1.2)else(1,0))=(if y.1.1=true then 1 else 0,y.1.2):=by
  rcases hcase with g|g;·rw[g];cases y.1.1<;>simp
  ·rw[g];rfl
 rw[key];have fin:∀(b14:Nat) (sr:av) (v w:Int) {LL:List aD},sr.n=x.ro.length→LL.Perm ([au b14 [i64 v,i64 w],au b2 [i64 0,i64 0],au d.p (d.c sr x),aw sr 1 (x.ro.map i64),bO d.r d.h y.2.2 x.bb,bX d.n x.hs,cn d.f d.h x.wa x.pe,ct d.h y.2.1 lc]++R)→
   Tr ρ ρ LL (st (⟨b14,0,none⟩) [.int .i64 (if y.1.1=true then 1 else 0),.int .i64 y.1.2]<|ld (.l kI) (fa (⟨b14,0,none⟩) 1) fun(x15:Int)=>ld (.l kI) (fa (⟨b14,0,none⟩) 0) fun(x16:Int)=>
    call Zp 44 [.int .i64 x15,.int .i64 x16] (.one (.g [kI,kI])) fun(r17:LTs _)=>st (⟨b2,0,none⟩) [.int .i64 r17.1,.int .i64 r17.2.1]<|ld (.g [kI,kI]) (⟨b2,0,none⟩) fun(x18:LTs _)=>ret (.agg #[.int .i64 x18.1,.int .i64 x18.2.1]))
    (SP G2 (fun r M=>r=dt (if y.1.1=true then 1 else 0) y.1.2∧M=d.A {x with S:=y.2.1,rows:=y.2.2} lc) R):=fun b14 sr v w LL hsr hp=>by refine Tr.perm hp<|iT<|aT bL tk rfl<|aT (x:=if _=true then 1 else 0) bL tk rfl<|cE (bc _ (if _=true then 1 else 0)) ?_;exact Tr.close ar (iJ.cl hsr)<|aG ar bE ⟨rfl,rfl⟩
 refine iJ.op tk fun sr hsr=>aA (aK [au _ (d.c _ x),au _ [i64 h.1,i64 h.2]] ar ?_);refine af (bo bL tk rfl ?_);refine jL ?_;rw[gk];refine cr ?_ ?_;·refine cE (henq ρ)<|aq fun b14=>?_;rw[gk];refine Tr.drop (A:=au _ [i64 (Rx.fh x b _).1,i64 (Rx.fh x b _).2]) tk (Tr.drop (A:=au _ [i64 (Rx.fh x c _).1,i64 (Rx.fh x c _).2]) tk ?_);refine Tr.drop (A:=au _ [i64 h.1,i64 h.2]) tk (Tr.drop (A:=au _ [i64 14,i64 a,i64 b,i64 c]) tk ?_);exact fin _ _ 0 0 hsr (aI.perm ar)
 ·refine aq fun b14=>aS ar<|cE (henq ρ) ?_;refine Tr.drop (A:=au _ [i64 (Rx.fh x b _).1,i64 (Rx.fh x b _).2]) tk (Tr.drop (A:=au _ [i64 (Rx.fh x c _).1,i64 (Rx.fh x c _).2]) tk ?_);refine Tr.drop (A:=au _ [i64 h.1,i64 h.2]) tk (Tr.drop (A:=au _ [i64 14,i64 a,i64 b,i64 c]) tk ?_);exact fin _ _ 0 0 hsr (aI.perm ar)
theorem IS:Dd ρ d lc 15 a b c x (Rx.lO x):=by
 refine cZ d x _ H ae _ a b c ha hb hc fun bA bB bC b1 b2 R=>aT (x:=15) bL tk rfl<|ak rfl (ak rfl (fM ?_));refine ak rfl (ak rfl ?_);refine bF<|bF<|bF<|bF<|bF<|bF<|bF<|bF<|bF<|bF<|bT<|af (iJ.ld tk bL (fun _=>rfl) ?_);refine cE (Ht _ _ _ _ H.w.I.w.q.sZ)<|aq fun b11=>?_;rw[gk];unfold Rx.lO;by_cases e:x.rows.length=8;·simp only[if_pos e];refine iT<|aT (x:=3) bL tk rfl<|aT (x:=0) bL tk rfl<|cE (bc 3 0) ?_;exact aG ar bE ⟨rfl,rfl⟩
 ·simp only[if_neg e];refine iT<|aT (x:=0) bL tk rfl<|aT bL tk rfl<|cE (bc 0 _) ?_;generalize((x.rows.length:Nat):Int)=n;exact aG ar bE ⟨rfl,rfl⟩
theorem II:Dd ρ d lc 16 a b c x (Rx.jl x a):=by
 refine cZ d x _ H ae _ a b c ha hb hc fun bA bB bC b1 b2 R=>aT (x:=16) bL tk rfl<|ak rfl (ak rfl (fM ?_));refine ak rfl (ak rfl ?_);refine bF<|bF<|bF<|bF<|bF<|bF<|bF<|bF<|bF<|bF<|bF<|bT ?_;have hrows:=(H.w.I.ok ae).rows;have bad:¬(0≤a∧a<x.rows.length)→Rx.jl x a=((0,2),x):=fun g=>by unfold Rx.jl;rw[if_pos (by exact decide_eq_false g)]
 refine aA<|iL<|ag (fun e=>?_) (fun e=>?_);·have e:=oT e;rw[bad ae];apply cE (bc 2 0);exact aG ar bE ⟨rfl,rfl⟩
 have e1:=oF e;refine iL<|af (iJ.ld tk bL (fun _=>rfl) ?_);refine af (bO.op tk fun z l hz hl=>?_);have hll:l.length=x.rows.length:=by rw[←hl,List.length_map]
 refine iL<|ag (fun e=>?_) (fun e=>?_);·have e:=oT e;rw[bad ae];refine Tr.close ar (bO.cl hz hl)<|cE (bc 2 0) ?_;exact aG ar bE ⟨rfl,rfl⟩
 have e2:=oF e;have hkl:a.toNat<l.length:=by omega
 have hh:Qu.has x.rows a=true:=decide_eq_true ae;have hrow:Qu.row x.rows a=(l.getD a.toNat yT).2:=(pE hl a.toNat).symm;refine aA<|af (iJ.ld tk bL (fun _=>rfl) ?_);refine af<|iL<|iL ?_;refine bD tk ae ae fun a0 ha0=>cw (x:=(l.getD _ yT).1) ha0 tk fX (by rw[Nat.mul_one];exact iA hkl)<|Tr.sp hkl tk<|Tr.fu tk fun hn=>Tr.close ar (tM hkl)<|Tr.close ar (bO.cl hz hl) ?_;have epr:Qu.jA x.rows a=((Qu.row x.rows a).headD 0,0):=by unfold Qu.jA;rw[if_pos hh]
 unfold Rx.jl;rw[if_neg (by rw[hh];simp),epr];rw[←hrow]at hn;refine ag (fun e=>?_) (fun e=>?_)
 ·have hne:Qu.row x.rows a≠[]:=fun g=>by rw[g]at hn;rw[hn]at e;exact absurd e bd
  have hv:0≤(Qu.row x.rows a).headD 0:=by
   cases q:Qu.row x.rows a with
   |nil=>exact Int.le_refl 0
   |cons v vs=>have hm:=ku hh;rw[q]at hm;exact(show pq _ v from .inr (Sd.Jr (H.w.I.w.q.qr v (List.mem_flatten.mpr ⟨_,hm,.head _⟩)).1)).pos H.w.I.w.hw
  rw[if_neg hne];refine af (iJ.ld tk bL (fun _=>rfl) ?_);refine qc d x (H.mR ae) tk (fun e3=>?_) (fun r hr e3=>?_);·rw[if_pos e3];refine bT<|cE (bc 3 0) ?_;exact aG ar bE ⟨rfl,rfl⟩
  rw[if_neg e3,if_neg (fun g=>g rfl)];refine ak (by simpa using hr)<|iJ.op tk fun sr hsr=>aA (aK [au _ (d.c _ x),au _ [i64 16,i64 a,i64 b,i64 c]] ar ?_);refine af (bo bL tk rfl ?_);refine jL<|Tr.close ar (iJ.cl hsr)<|cE (Cm _ _ _ _ H.hw _ (fun r hr=>by have:=hrows.len r hr;omega) x.bb a) ?_;rw[epr];have mR:=H.mR ae;generalize Qu.dq x.S x.rows a=S';generalize Qu.fK x.rows a=rows';generalize(Qu.row x.rows a).headD 0=v at*;apply cE (nD d {x with S:=S',rows:=rows'} _ mR v hv);exact aG ar bE ⟨rfl,rfl⟩
 ·have e:=oF e;have he:Qu.row x.rows a=[]:=List.eq_nil_of_length_eq_zero ae;refine iJ.op tk fun sr hsr=>aA (aK [au _ (d.c _ x),au _ [i64 16,i64 a,i64 b,i64 c]] ar ?_);refine af (bo bL tk rfl ?_);refine jL<|Tr.close ar (iJ.cl hsr)<|cE (Cm _ _ _ _ H.hw _ (fun r hr=>by have:=hrows.len r hr;omega) x.bb a) ?_;have eS:Qu.dq x.S x.rows a=x.S:=by unfold Qu.dq;rw[if_neg (fun g=>g.2 he)]
  have eQ:Qu.fK x.rows a=x.rows:=by
   obtain⟨i0,i1⟩:=jo hh;unfold Qu.fK;rw[if_pos hh,he];have:x.rows[a.toNat]=[]:=by rw[←he];unfold Qu.row;rw[List.getD_eq_getElem?_getD,List.getElem?_eq_getElem i1];rfl
   show x.rows.set a.toNat []=x.rows;rw[←this];exact List.set_getElem_self _
  rw[epr,eS,eQ,he];apply cE (nD d x _ (H.mR ae) 0 (Int.le_refl 0));exact aG ar bE ⟨rfl,rfl⟩
theorem Fv:Dd ρ d lc 17 a b c x (Rx.final x a):=by
 refine cZ d x _ H ae _ a b c ha hb hc fun bA bB bC b1 b2 R=>?_;try simp only[c8,c9]
 refine aT (x:=17) bL tk rfl<|ak rfl (ak rfl (fM ?_));refine ak rfl (ak rfl ?_);refine bF<|bF<|bF<|bF<|bF<|bF<|bF<|bF<|bF<|bF<|bF<|bF<|bT ?_;unfold Rx.final Rx.re;generalize Rx.fh x a false=h at*;refine iL<|ag (fun e=>?_) (fun e=>?_)
 ·have e:h.2≠0:=by simpa using e
  rw[if_pos e];refine iL<|cE (bc _ 0) ?_;exact aG ar bE ⟨rfl,rfl⟩
 have e:h.2=0:=by simpa using e
 rw[if_neg (fun g=>g e)];refine aA<|af (iJ.ld tk bL (fun _=>rfl) ?_);refine iL ?_;have hwa:=(H.w.I.ok ae).wa;apply cE (EC _ _ _ _ H.hw x.wa _ ae _);try simp only[c8,c9]
 generalize Ob.final x.S h.1=f;apply cE (bc _ 0);obtain⟨f1,f2⟩:=f;exact aG ar bE ⟨rfl,rfl⟩
theorem Kw:Dd ρ d lc 18 a b c x (Rx.run x a b c):=by refine cZ d x _ H ae _ a b c ha hb hc fun bA bB bC b1 b2 R=>aT (x:=18) bL tk rfl<|ak rfl (ak rfl (fM ?_));refine ak rfl (ak rfl ?_);refine bF<|bF<|bF<|bF<|bF<|bF<|bF<|bF<|bF<|bF<|bF<|bF<|bF<|bT<|aN (x:=(18,a,b,c,())) [] rfl tk rfl<|cE (KE d x _ H ae _ a b c) ?_;exact aG ar bE ⟨rfl,rfl⟩
theorem Bw:Dm ρ d lc 19 a b c x (Rx.cJ x a):=by
 refine cZ d x _ H ae _ a b c ha hb hc fun bA bB bC b1 b2 R=>aT (x:=19) bL tk rfl<|ak rfl (ak rfl (fM ?_));refine ak rfl (ak rfl ?_);refine bF<|bF<|bF<|bF<|bF<|bF<|bF<|bF<|bF<|bF<|bF<|bF<|bF<|bF<|bT ?_;have go:∀{LL:List aD},(a=0∨a=1)→LL.Perm ([au b1 [i64 19,i64 a,i64 b,i64 c],au b2 [i64 0,i64 0]]++(d.A x lc++R))→
   Tr ρ ρ LL (ld (.l kI) (fa (⟨b1,0,none⟩) 1) fun(x10:Int)=>
    call Zp 60 [pA d.p,.bool ((x10:Int)==1)] (.many [.g [.slice,.slice,.slice,.slice],.l kI]) fun(r11:KTs _)=>
    nw 120 (zc Zp 120) fun b12=>
    st (⟨b12,0,none⟩) [.slice r11.1.1.a r11.1.1.n r11.1.1.c,.slice r11.1.2.1.a r11.1.2.1.n r11.1.2.1.c,.slice r11.1.2.2.1.a r11.1.2.2.1.n r11.1.2.2.1.c,.slice r11.1.2.2.2.1.a r11.1.2.2.2.1.n r11.1.2.2.2.1.c]<|
    call Zp 44 [.int .i64 0,.int .i64 r11.2.1] (.one (.g [kI,kI])) fun(r13:LTs _)=>
    st (⟨b2,0,none⟩) [.int .i64 r13.1,.int .i64 r13.2.1]<|ld (.g [kI,kI]) (⟨b2,0,none⟩) fun(x14:LTs _)=>ret (.agg #[.int .i64 x14.1,.int .i64 x14.2.1]))
   (SP G2 (fun r M=>∃(y:bH) (lc':List (aX×av)),Rx.cJ x a y∧y.2.cs=dK lc'∧(∀z∈lc',z.2.n=z.1.2.length)∧r=dt y.1.1 y.1.2∧M=d.A y.2 lc') R):=fun{LL} hav hp=>by
  refine Tr.perm hp<|iL<|ai (oa d x _ H ae _) ar ?_;rintro _ _ ⟨s1,s2,s3,s4,A1,A2,A3,A4,x',rfl,hC,rfl⟩;refine Tr.drop tk (Tr.drop tk (Tr.drop tk (Tr.drop tk ?_)));refine aq fun b12=>?_;rw[vM];refine iT ?_;have jb:=(Rx.uW hC).2.2.1.trans H.cs;have hy:∀n,n=(((Sp.each x.S).length:Nat):Int)-(((Sp.each x'.S).length:Nat):Int)→Rx.cJ x a ((n,0),x'):=fun n hn=>by unfold Rx.cJ;rw[if_neg ae];exact⟨x',hC,by rw[hn]⟩
  generalize(((Sp.each x.S).length:Nat):Int)-(((Sp.each x'.S).length:Nat):Int)=n at*;apply cE (bc 0 n);exact aG ar bE ⟨_,lc,hy n rfl,jb,H.ln,rfl,rfl⟩
 refine Tr.drop tk<|Tr.drop tk<|Tr.drop tk<|iL<|ag (fun e=>?_) (fun e=>?_)
 ·have e1:a≠0:=by simpa using e
  refine iL<|ag (fun e=>?_) (fun e=>?_)
  ·have e2:a≠1:=by simpa using e
   apply cE (bc 1 0);exact aG ar bE ⟨(_,x),lc,by unfold Rx.cJ;rw[if_pos ⟨e1,e2⟩],H.cs,H.ln,rfl,rfl⟩
  ·have e2:a=1:=by simpa using e
   exact go (.inr e2) (aI.perm ar)
 ·have e1:a=0:=by simpa using e
  exact go (.inl e1) (aI.perm ar)
theorem Jt:Dd ρ d lc 20 a b c x (Rx.tick x a):=by
 refine cZ d x _ H ae _ a b c ha hb hc fun bA bB bC b1 b2 R=>aT (x:=20) bL tk rfl<|ak rfl (ak rfl (fM ?_));refine ak rfl (ak rfl ?_);refine bF<|bF<|bF<|bF<|bF<|bF<|bF<|bF<|bF<|bF<|bF<|bF<|bF<|bF<|bF<|bT<|iL ?_;unfold Rx.tick;refine ag (fun e=>?_) (fun e=>?_);·have e:=oT e;rw[if_pos e];apply cE (bc 1 0);exact aG ar bE ⟨rfl,rfl⟩
 have e:=oF e;rw[if_neg e];refine iJ.op tk fun sr hsr=>aA (aK [au _ (d.c _ x),au _ [i64 20,i64 a,i64 b,i64 c]] ar ?_);refine af (bo bL tk rfl ?_);refine jL<|aq fun b13=>aS ar<|cE (Gg _ a H.w.I.ck.2 ha _)<|af ?_;apply cz (off:=5) bL tk bu rfl;generalize Sf.later x.ck a=ck';exact Tr.close ar (iJ.cl (x:={x with ck:=ck'}) hsr)<|aG (r:=(0,0,())) ar bE ⟨rfl,rfl⟩
theorem GH:Dd ρ d lc 21 a b c x (Rx.count x a):=by
 refine cZ d x _ H ae _ a b c ha hb hc fun bA bB bC b1 b2 R=>aT (x:=21) bL tk rfl<|ak rfl (ak rfl (fM ?_));refine ak rfl (ak rfl ?_);refine bF<|bF<|bF<|bF<|bF<|bF<|bF<|bF<|bF<|bF<|bF<|bF<|bF<|bF<|bF<|bF<|bT ?_;have hul:=o0 H.w.I.w.hw.wf;have hwl:=H.w.I.w.hw.wf.len;have hwm:=H.w.I.w.hw.wf.fF;refine iJ.op tk fun sr hsr=>cn.op tk fun s z hs hz=>ct.op tk fun ps sc hsc=>aA (aK [au _ (d.c _ x),au _ [i64 21,i64 a,i64 b,i64 c],au _ [.pointer _,.slice _ _ s.c,.slice _ _ z.c],au _ [.pointer _,bY sc]] ar ?_);iterate 3 refine af (bo bL tk rfl ?_);refine af (bo bL tk rfl ?_)
 refine af (bo bL tk rfl ?_);refine af (bo bL tk rfl ?_);refine af (bo bL tk rfl ?_);refine af (bo bL tk rfl ?_);refine af (bo bL tk rfl ?_);apply cE (sY _ _ H.w.I.w.hw.wf);refine aS ar<|cE (Gc _ _ H.w.I.w.hw.wf) ?_;refine aS ar<|cE (sY _ _ H.w.I.w.hw.wf) ?_;refine aS ar<|ai (qE _ _ H.w.I.w.hw.wf) ar ?_;rintro s' _ rfl;refine aS ar<|Tr.fu tk fun hs'=>Tr.drop tk<|aq fun b35=>?_;rw[bG (n:=((x.S.ws.length-64:Nat):Int)-_)];refine Tr.close ar (ct.cl hsc)<|Tr.close ar (cn.cl hs hz) ?_;rw[hs',hz];refine Tr.close ar (iJ.cl hsr)<|Tr.take (A:=au _ ((Rx.counts x).map _)) tk ?_;unfold Rx.count;refine iL<|ag (fun e=>?_) (fun e=>?_);·have e:=oT e;rw[if_pos (.inl e)];apply cE (bc 1 0);exact aG ar bE ⟨rfl,rfl⟩
 have e1:=oF e;refine iL<|ag (fun e=>?_) (fun e=>?_);·have e:a≥5:=oT e;rw[if_pos (.inr e)];apply cE (bc 1 0);exact aG ar bE ⟨rfl,rfl⟩
 have e2:¬a≥5:=oF e;rw[if_neg ae];refine iL ?_;apply l9 ae ae;rw[aO];refine aT (x:=(Rx.counts x).getD a.toNat 0) rfl tk ?_ ?_;·rw[show 0+a.toNat*1=a.toNat by omega];exact getD_map (by show _<5;omega)
 generalize(Rx.counts x).getD a.toNat 0=n;apply cE (bc 0 n);exact aG ar bE ⟨rfl,rfl⟩
theorem Ip(k:Int)(hk:k<1∨21<k):Dd ρ d lc k a b c x ((0,1),x):=by
 refine cZ d x _ H ae k a b c ha hb hc fun bA bB bC b1 b2 R=>iL ?_;have ne:∀j:Int,1≤j→j≤21→(k==j)=false:=fun j h1 h2=>by rw[beq_eq_false_iff_ne];omega
 refine ak (ne 1 bd bd) (ak (ne 2 bd bd) (fM ?_));refine ak (ne 3 bd bd) (ak (ne 4 bd bd) ?_);refine ak (ne 5 bd bd)<|ak (ne 6 bd bd)<|ak (ne 7 bd bd)<|ak (ne 8 bd bd)<|ak (ne 9 bd bd)<|ak (ne _ bd bd)<|ak (ne _ bd bd)<|ak (ne _ bd bd)<|ak (ne _ bd bd)<|ak (ne _ bd bd)<|ak (ne _ bd bd)<|ak (ne _ bd bd)<|ak (ne _ bd bd)<|ak (ne _ bd bd)<|ak (ne _ bd bd)<|ak (ne _ bd bd)<|ak (ne _ bd bd)<|cE (bc 1 0) ?_;exact aG ar bE ⟨rfl,rfl⟩
theorem Lp(k:Int):Dm ρ d lc k a b c x (Rx.Cq x k a b c):=by
 have one:∀{k:Int} {y:bH},Dd ρ d lc k a b c x y→Rx.Cq x k a b c y→y.2.cs=x.cs→Dm ρ d lc k a b c x _:=fun h h1 h2=>Spec.post h fun r M ⟨e1,e2⟩=>⟨_,lc,h1,h2.trans H.cs,H.ln,e1,e2⟩;have hg:∀y v,(Rx.eD y v).cs=y.cs:=fun y v=>by unfold Rx.eD;split<;>rfl
 have hby:∀h f,(∀v,(f v).2.cs=x.cs)→(Rx.re x h f).2.cs=x.cs:=fun h f g=>by exact fc _ _ rfl (g _)
 have hbn:∀h f,(∀v,(f v).2.cs=x.cs)→(Rx.D7 x h f).2.cs=x.cs:=fun h f g=>by exact fc _ _ rfl (g _)
 rcases Rx.o5 k with rfl|rfl|rfl|rfl|rfl|rfl|rfl|rfl|rfl|rfl|rfl|rfl|rfl|rfl|rfl|rfl|rfl|rfl|rfl|rfl|rfl|hk;·exact Ga d x _ H hN a b c ha hb hc
 ·exact Ej d x _ H hN a b c ha hb hc
 ·exact Jx d x _ H hN a b c ha hb hc
 ·exact Jw d x _ H hN a b c ha hb hc
 ·exact one (KW d x _ H hN a b c ha hb hc) rfl (hby _ _ fun v=>by exact fc _ _ rfl (hg _ _))
 ·exact one (Kl d x _ H hN a b c ha hb hc) rfl (hby _ _ fun v=>hbn _ _ fun w=>by exact fc _ _ rfl (fc _ _ rfl rfl))
 ·exact one (KX d x _ H hN a b c ha hb hc) rfl (hby _ _ fun v=>by exact fc _ _ rfl (fc _ _ rfl rfl))
 ·exact one (H8 d x _ H hN a b c ha hb hc) rfl (rfl)
 ·exact one (HF d x _ H hN a b c ha hb hc) rfl (hbn _ _ fun v=>rfl)
 ·exact one (ID d x _ H hN a b c ha hb hc) rfl (by exact fc _ _ rfl (hg _ _))
 ·exact GW d x _ H hN a b c ha hb hc
 ·exact one (zo d x lc H hN a b c ha hb hc) rfl (hby _ _ fun v=>by
   cases Ob.head x.S v with
   |none=>rfl
   |some hd=>exact fc _ _ rfl (fc _ _ rfl (fc _ _ rfl (fc _ _ rfl (fc _ _ rfl (hg _ _))))))
 ·exact one (Gk d x _ H hN a b c ha hb hc) rfl (hby _ _ fun v=>rfl)
 ·exact one (Bs d x _ H hN a b c ha hb hc) rfl (hby _ _ fun v=>rfl)
 ·exact one (IS d x _ H hN a b c ha hb hc) rfl rfl
 ·exact one (II d x _ H hN a b c ha hb hc) rfl (by exact fc _ _ rfl (fc _ _ rfl (fc _ _ rfl (fc _ _ rfl (hg _ _)))))
 ·exact one (Fv d x _ H hN a b c ha hb hc) rfl (hby _ _ fun v=>rfl)
 ·exact one (Kw d x _ H hN a b c ha hb hc) rfl (by exact fc _ _ rfl (fc _ _ rfl (fc _ _ rfl (fc _ _ rfl (fc _ _ rfl (fc _ _ (hg _ _) rfl))))))
 ·exact Bw d x _ H hN a b c ha hb hc
 ·exact one (Jt d x _ H hN a b c ha hb hc) rfl (by unfold Rx.tick;split<;>rfl)
 ·exact one (GH d x _ H hN a b c ha hb hc) rfl (by unfold Rx.count;split<;>rfl)
 ·exact one (Ip d x _ H hN a b c ha hb hc k hk) (by rw[Rx.mM hk]) rfl
end
theorem GK(p ps:Nat)(s:av)(S:aJ){cs:List aX}(hw:aY S cs)(a:Int):Gl.Spec ρ Zp 123 [pA p,i64 a] [au p [pA ps,bY s],ay ps S] HX
  fun r M=>r=Rf.hd (Ob.head S a)∧M=[au p [pA ps,bY s],ay ps S]:=by
 refine So (F.aa.bN.Head.calls _ a) fun R=>aq fun b1=>?_;rw[vz];refine af<|iL<|cE (tc _ S hw.wf a)<|aq fun b5=>?_;rw[LX];cases hf:Sp.find S a with
 |none=>
  have e:Ob.head S a=none:=by unfold Ob.head;rw[hf]
  rw[e];refine iT<|aT bL tk rfl ?_;refine bT<|iT ?_;exact aN (x:=(_,_,_,false,false,())) [] rfl tk rfl<|rT
 |some x=>
  obtain⟨b,w⟩:=x;refine iT<|aT bL tk rfl ?_;refine bF<|aT (x:=(b:Int)) bL tk rfl<|ag (fun h=>?_) (fun h=>?_)
  ·have h:¬b=a:=by simpa using h
   have e:Ob.head S a=none:=by unfold Ob.head;rw[hf];dsimp only;rw[if_neg h]
   rw[e];refine iT ?_;exact aN (x:=(_,_,_,false,false,())) [] rfl tk rfl<|rT
  ·have h:b=a:=by simpa using h
   subst h;have e:Ob.head S b=some (Sp.uf (S.ws.getD b 0)):=by unfold Ob.head;rw[hf];dsimp only;rw[if_pos rfl]
   obtain⟨n,w',en,g1,g2,g3,g4,g5⟩:=Ob.bU hw e;have en:n=b:=by omega
   subst en;rw[e];generalize Sp.uf (S.ws.getD n 0)=hd at g2 g3 g4⊢;have hb:=Sp.cb g3;refine af<|iL<|af (ay.op tk fun sa sk sm sq ql hql=>?_);refine iL<|bt tk ae ae ?_;rw[Int.toNat_natCast,g2];refine Tr.close ar (ay.cl hql)<|cE (tE _ g3) ?_;refine iT ?_;exact aN (x:=(hd.k,hd.c,hd.n,hd.f,true,())) [] rfl tk rfl<|rT
theorem zv(p ps:Nat)(q:av)(S:aJ){cs:List aX}(hw:aY S cs):Gl.Spec ρ Zp 75 [pA p] [au p [pA ps,bY q],ay ps S] RS
  fun r M=>M=[pL r (Ob.eR S),au p [pA ps,bY q],ay ps S]∧r.n=(Ob.eR S).length:=by
 have hel:=Sp.df hw.wf;have hmost:=hw.wf.fF;have hlen:=hw.wf.len;refine So (F.aa.bN.iQ.calls _) fun R=>af<|iL<|ai (qE _ S hw.wf) ar ?_;rintro s M rfl;refine Tr.cL tk fun ρ' hle hro=>?_;have hsn:=hro.len;refine Tr.none<|Tr.cg 6 ?_;refine aM (fun m u M=>(fun(t:av) (i:Int)=>∃lo:List (pX×av),M=aw t 6 (lo.flatMap jQ)::star (lo.map yk)::ay ps S::au p [pA ps,bY q]::R∧0≤i∧i≤(Sp.each S).length∧m=(Sp.each S).length-i.toNat∧t.n=i.toNat∧
   lo.map (·.1)=((Sp.each S).take i.toNat).map (Ob.jh S)∧∀x∈lo,x.2.n=x.1.ws.length) u.1 u.2.1) (Sp.each S).length ?_ ?_;·exact⟨[],rfl,bu,bu,bu,rfl,bu,bu⟩
 ·rintro m ⟨(t:av),(i:Int),⟨⟩⟩ M ⟨lo,rfl,h0,h1,rfl,htn,hl,hln⟩ X hX;dsimp only at*;refine ag (fun h=>?_) (fun h=>?_)
  ·replace h:i<(s.n:Int):=oT h;have hi:i.toNat<(Sp.each S).length:=by omega
   have hmem:(Sp.each S).getD i.toNat 0∈Sp.each S:=by rw[List.getD_eq_getElem?_getD,List.getElem?_eq_getElem hi];exact List.getElem_mem _
   have htk:=aE 0 hi;have hgx:∀{ρ1:FR} {L:List aD} {Post:Value→List aD→Prop} {f:Int→Tree} M,Tr ρ1 ρ' L _ Post→Tr ρ1 ρ' L (ix s.a s.n i 1 fun a=>rb (Sat ρ' M) (.l kI) a f) Post:=fun M h=>fO hro h0 ae h;apply cC hro h0 ae;generalize(Sp.each S).getD i.toNat 0=a at hmem htk hgx⊢;obtain⟨n,rfl,hn,w,hf,w1,w2,w3⟩:=Sp.jD hw.wf hmem;obtain⟨hd,hm,hwd,hfit⟩:=hw.obj n w hf;have hb:=Sp.cb hm;have hhd:Ob.head S n=some hd:=by unfold Ob.head;rw[hf];dsimp only;rw[if_pos rfl,hwd,Sp.jc hm]
   have hat:Ob.jh S n=⟨n,hd,(S.ws.drop (n+1)).take hd.n.toNat⟩:=by unfold Ob.jh;rw[hhd];dsimp only;rw[yL hw hhd]
   refine cE (GK p _ q S hw n)<|aq fun b9=>?_;rw[vz,hhd];simp only[Rf.hd];refine iT ?_;refine ay.op tk fun sa sk sm sq ql hql=>Tr.take (.skip (.skip (.skip (.skip (.skip (.skip .here))))))<|aA (aK [au p [.pointer _,bY q],au _ [bY sa,bY sk,bY sm,bY sq],au _ [i64 hd.k,i64 hd.c,i64 hd.n,.bool hd.f,.bool true]] ar (hgx _ ?_));refine qh (x:=(hd.k,hd.c,hd.n,hd.f,())) [.bool true] bL tk rfl (af ?_);refine bo bL tk rfl (af ?_);refine bo bL tk rfl (hgx _ (hgx _ ?_));apply bo bL tk rfl;obtain⟨ln,hln2⟩:∃ln:Nat,hd.n=ln:=⟨hd.n.toNat,ae⟩;rw[hln2]at hat hfit hb⊢;rw[wrap64 (n:=(n:Int)+1) ae ae,wrap64 (n:=(n:Int)+1+(ln:Int)) ae ae];refine Tr.fA tk fun hsa hsc=>?_;rw[List.length_map,Nat.mul_one]at hsa;apply ei ae ae ae;rw[show((n:Int)+1).toNat=n+1 by omega,show((n:Int)+1+(ln:Int)).toNat=n+1+ln by omega];refine aq fun b24=>aS ar<|Tr.imp (A':=aw ⟨oA b24,0,0⟩ 1 (([]:List _).map i64)) .here (aw.nI rfl) ?_;have hrd:=fun(L L':List aD) (t:Take L (aw sa 1 (S.ws.map i64)) L')=>Rd.part (ρ:=ρ') t (lo:=n+1) (hi:=n+1+ln) ae ae;rw[show n+1+ln-(n+1)=ln by omega]at hrd⊢;refine bj (s:=⟨oA b24,0,0⟩) bJ tk (hrd _ _ tk) fC fun r hr=>aS ar (aq fun b26=>?_);refine eu (x:=⟨oA b26,1,1⟩) (ys:=[i64 n,i64 hd.k,i64 hd.c,i64 ln,.bool hd.f,.slice _ _ r.c]) xp tk (Rd.cl tk rfl rfl) rfl (by dsimp only;omega) (by dsimp only;omega) fun r2 hr2=>Tr.close ar (ay.cl hql)<|Tr.imp (A:=star _) (A':=star ((lo++([]:List _)).map yk)) tk bu<|Tr.close (A:=star ((lo++[(Ob.jh S n,r)]).map yk)) (by rw[hat];exact ar) (fun h H=>dR h H) ?_;have e2:lo.flatMap jQ++[i64 n,i64 hd.k,i64 hd.c,i64 ln,.bool hd.f,.slice r.a r.n r.c]=(lo++[(Ob.jh S n,r)]).flatMap jQ:=by rw[List.flatMap_append,hat];simp[jQ,hln2]
   rw[e2,bG (n:=i+1)];refine Tr.drop (A:=au _ _) tk (Tr.drop (A:=au _ _) tk ?_);refine Tr.take tk (Tr.take (A:=aw _ 6 _) tk ?_);refine hX ((Sp.each S).length-(i+1).toNat) _ _ ae ⟨lo++[(Ob.jh S n,r)],rfl,bq,bq,rfl,by dsimp only;rw[hr2,htn];show _+1=_;omega,?_,fun x hx=>?_⟩;·rw[show(i+1).toNat=i.toNat+1 by omega,htk,List.map_append,List.map_append,hl];rfl
   ·rcases List.mem_append.mp hx with hx|hx;·exact hln x hx
    ·simp at hx;subst hx;rw[hat];rw[hr];simp
  ·replace h:¬i<(s.n:Int):=oF h;rw[List.take_of_length_le ae]at hl;have htl:t.n=(Ob.eR S).length:=by rw[zS];omega
   exact Tr.close ar (pL.cl htl hl hln)<|ax rfl ⟨rfl,htl⟩ ar bE
def LW(x:Rt)(A:List aD)(r:RT (.one (.g Ho)))(M:List aD):Prop:=
 ∃(so sh sr sq sf sp:av) (l:List nM),r=(so,sh,sr,sq,sf,sp,x.ck,x.bb,x.used,x.rn,())∧
   (so.n=(Ob.eR x.S).length∧sh.n=(Hn.all x.hs).length∧sr.n=16∧sq.n=x.rows.length∧sf.n=x.wa.length∧sp.n=x.pe.length)∧
   l.map (·.2)=x.rows∧
   M=[pL so (Ob.eR x.S),aw sh 2 ((Hn.all x.hs).flatMap jb),aw sr 1 (x.ro.map i64),aw sq 1 (l.map gz),star (l.map lL),aw sf 1 (x.wa.map i64),aw sp 1 (x.pe.map i64)]++A
theorem Fp(i:Pl)(x:Rt)(H:x.Ok):Gl.Spec ρ Zp 20 [pA i.p] (i.A x) (.one (.g Ho)) (LW x (i.A x)):=
 Spec.post (Iu i x H) fun _ _ ⟨so,sh,sr,sq,sf,sp,l,h1,h2,h3,_,h4⟩=>⟨so,sh,sr,sq,sf,sp,l,h1,h2,h3,h4⟩
set_option maxHeartbeats 4000000 in
theorem H5(d:Dl)(x:Rt)(lc:List (aX×av))(H:x.Ok)(hlc:x.cs=dK lc):
  Gl.Spec ρ Zp 21 [pA d.p] (d.A x lc) (.one (.g Ho)) (LW x (d.A x lc)):=by
 refine So (F.aj.aQ.View.calls _) fun R=>?_;have hwS:=hlc▸H.hw;have hfew:=H.rows.sZ;refine aq fun b1=>?_;rw[GV];refine iJ.op tk fun sr hsr=>Tr.cg 1 (Tr.none ?_);refine Tr.perm (aI.perm (M:=[aw ⟨none,0,0⟩ 1 (([]:List nM).map gz),star (([]:List nM).map lL),bO d.r d.h _ x.bb]++[au d.p (d.c sr x),aw sr 1 _,bX d.n x.hs,cn d.f d.h x.wa x.pe,ct d.h x.S lc]++[au b1 [.slice none 0 0,.slice none 0 0,.slice _ 0 0,.slice _ 0 0,.slice _ 0 0,.slice _ 0 0,i64 0,i64 0,i64 0,i64 0]]) ar) ?_;refine aM (I:=fun m u M=>∃(j:Nat) (t:av) (lo:List nM),j≤x.rows.length∧m=x.rows.length-j∧u=(t,(j:Int),())∧t.n=j∧lo.map (·.2)=x.rows.take j∧
  M=[aw t 1 (lo.map gz),star (lo.map lL),bO d.r d.h x.rows x.bb]++[au d.p (d.c sr x),aw sr 1 (x.ro.map i64),bX d.n x.hs,cn d.f d.h x.wa x.pe,ct d.h x.S lc]++[au b1 [.slice none 0 0,.slice none 0 0,.slice none 0 0,.slice none 0 0,.slice none 0 0,.slice none 0 0,i64 0,i64 0,i64 0,i64 0]]++R) x.rows.length ⟨0,⟨none,0,0⟩,[],Nat.zero_le _,rfl,rfl,rfl,rfl,by simp⟩ ?_;rintro m _ _ ⟨j,t,lo,hj,rfl,rfl,ht,hlo,rfl⟩ X hX;have hlol:lo.length=j:=by have:=congrArg List.length hlo;simp at this;omega
 try simp only[c8,c9]
 refine af<|iL<|af (bO.op tk fun z l hz hl=>?_);have hll:l.length=x.rows.length:=by rw[←hl,List.length_map]
 refine iL<|ag (fun hc=>?_) (fun hc=>?_)
 ·have hj':(j:Int)<z.n:=oT hc;have hkl:j<l.length:=by omega
  have hxr:=pE hl j;have hcell:=iA hkl;have hrl:=H.rows.len;have hrow:x.rows[j]? =some (x.rows.getD j []):=by rw[List.getD_eq_getElem?_getD,List.getElem?_eq_getElem ae];rfl
  have hrb:=hrl _ (List.mem_of_getElem? hrow);refine aq fun b8=>Tr.sp hkl tk ?_;rw[←hxr]at hrow hrb;generalize hy:l.getD j yT=y at*;refine Tr.fu tk fun hyn=>af<|iL<|af ?_;refine iL ?_;refine bD tk ae ae fun y0 hy0=>cw hy0 tk fX hcell<|Tr.imp tk gR<|bj (s:=⟨oA b8,0,0⟩) cx tk (Rd.sl tk (by rw[List.length_map];omega)) (by show 0+_<_;omega) fun v hv=>aq fun b16=>eu (x:=⟨oA b16,1,1⟩) w8 tk (Rd.cl tk rfl rfl) rfl bq bq fun u hu=>Tr.drop (A:=au _ _) tk<|Tr.close (M:=[lL y,star _]) ar (fun h H=>tM hkl h (by rw[hy];exact H))<|Tr.close ar (bO.cl hz hl)<|Tr.close (M:=[aw v 1 _,star _]) (A:=star ((lo++[(v,y.2)]).map lL)) ar (fun h H=>dR h (by rw[List.append_nil];exact H)) ?_;rw[show lo.map gz++[.slice v.a v.n v.c]=(lo++[(v,y.2)]).map gz by rw[List.map_append];rfl];rw[bG (n:=(j:Int)+1)];refine Tr.perm (aI.perm (M:=[aw u 1 _,star _,bO d.r d.h _ x.bb]++[au _ _,aw sr 1 _,bX _ x.hs,cn _ _ _ x.pe,ct d.h x.S lc]++[au b1 [.slice _ 0 0,.slice _ 0 0,.slice _ 0 0,.slice _ 0 0,.slice _ 0 0,.slice _ 0 0,i64 0,i64 0,i64 0,i64 0]]) ar)<|hX _ _ _ ae ⟨j+1,u,lo++[(v,y.2)],ae,rfl,rfl,by have:u.n=t.n+1:=hu;omega,?_,bu⟩;rw[List.map_append,hlo,List.take_add_one,hrow];rfl
 ·have hj':¬(j:Int)<z.n:=oF hc;have hjl:j=x.rows.length:=by omega
  refine Tr.close ar (bO.cl hz hl) ?_;rw[List.take_of_length_le ae]at hlo;clear hX X;refine bO.op tk fun z l hz hl=>cn.op tk fun sw sp hsw hsp=>ct.op tk fun ps sc hsc=>aA (aK [au d.p _,au _ [.pointer _,bY z,i64 x.bb],au _ [.pointer _,.slice _ _ sw.c,.slice _ _ sp.c],au _ [.pointer _,bY sc]] ar ?_);refine af (bo bL tk rfl ?_);refine af (bo bL tk rfl ?_);refine af (bo bL tk rfl ?_);refine af (bo bL tk rfl ?_);refine af (bo bL tk rfl ?_);refine af (bo bL tk rfl ?_);refine af (bo bL tk rfl ?_);refine af (bo bL tk rfl ?_);refine af (bo bL tk rfl ?_);refine af (bo bL tk rfl ?_);refine af (bo bL tk rfl ?_);refine af (bo bL tk rfl ?_);refine af (bo bL tk rfl ?_);have hro:=H.ro;have hpe:=H.pe;have hwa:=H.wa;have ap:∀{L L1 L2:List aD} {Post:Value→List aD→Prop} {b:Nat} {s:av} {xs:List Int} {K:av→Tree},xs.length<2^38→s.n=xs.length→Take L (au b []) L1→Take L1 (aw s 1 (xs.map i64)) L2→(∀v:av,v.n=xs.length→Tr ρ ρ (aw v 1 (xs.map i64)::L1) (K v) Post)→
    Tr ρ ρ L (cM Zp (Builtin.append_ #[43,43] 43 #[.slice (oA b) 0 0,.slice s.a s.n s.c]) (.one (.l .slice)) K) Post:=fun{L L1 L2 Post b s xs K} hb hs t1 t2 h=>by exact Tr.imp t1 gR<|bj (s:=⟨oA b,0,0⟩) cx .here (Rd.sl t2 (by rw[List.length_map];omega)) (by show 0+_<_;omega) fun v hv=>h v (by simpa using hv)
  have apR:∀{L L1 L2:List aD} {Post:Value→List aD→Prop} {b:Nat} {K:av→Tree},Take L (au b []) L1→Take L1 (aw sr 1 (x.ro.map i64)) L2→(∀v:av,v.n=x.ro.length→Tr ρ ρ (aw v 1 (x.ro.map i64)::L1) (K v) Post)→
    Tr ρ ρ L (cM Zp (Builtin.append_ #[43,43] 43 #[.slice (oA b) 0 0,.slice sr.a sr.n sr.c]) (.one (.l .slice)) K) Post:=fun t1 t2 h=>ap (by omega) hsr t1 t2 h;have apW:∀{L L1 L2:List aD} {Post:Value→List aD→Prop} {b:Nat} {K:av→Tree},Take L (au b []) L1→Take L1 (aw sw 1 (x.wa.map i64)) L2→(∀v:av,v.n=x.wa.length→Tr ρ ρ (aw v 1 (x.wa.map i64)::L1) (K v) Post)→
    Tr ρ ρ L (cM Zp (Builtin.append_ #[43,43] 43 #[.slice (oA b) 0 0,.slice sw.a sw.n sw.c]) (.one (.l .slice)) K) Post:=fun t1 t2 h=>ap (by omega) hsw t1 t2 h;have apP:∀{L L1 L2:List aD} {Post:Value→List aD→Prop} {b:Nat} {K:av→Tree},Take L (au b []) L1→Take L1 (aw sp 1 (x.pe.map i64)) L2→(∀v:av,v.n=x.pe.length→Tr ρ ρ (aw v 1 (x.pe.map i64)::L1) (K v) Post)→
    Tr ρ ρ L (cM Zp (Builtin.append_ #[43,43] 43 #[.slice (oA b) 0 0,.slice sp.a sp.n sp.c]) (.one (.l .slice)) K) Post:=fun t1 t2 h=>ap (by omega) hsp t1 t2 h;clear ap;have mo:∀{L L1 L2:List aD} {Post:Value→List aD→Prop} {K:av→Tree},Take L (au d.h [pA ps,bY sc]) L1→Take L1 (ay ps x.S) L2→(∀v:av,v.n=(Ob.eR x.S).length→Tr ρ ρ (pL v (Ob.eR x.S)::au d.h [pA ps,bY sc]::ay ps x.S::L2) (K v) Post)→
    Tr ρ ρ L (call Zp 75 [pA d.h] (.one (.l .slice)) K) Post:=fun t1 t2 h=>by refine ai (zv _ _ _ _ H.hw) (.cons t1 (.cons t2 .nil)) ?_;rintro v _ ⟨rfl,hv⟩;exact h v hv
  have mh:∀{L L1:List aD} {Post:Value→List aD→Prop} {K:av→Tree},Take L (bX d.n x.hs) L1→(∀v:av,v.n=(Hn.all x.hs).length→Tr ρ ρ (aw v 2 ((Hn.all x.hs).flatMap jb)::bX d.n x.hs::L1) (K v) Post)→
    Tr ρ ρ L (call Zp 76 [pA d.n] (.one (.l .slice)) K) Post:=fun t1 h=>by refine ai (BI _ H.hs) (.cons t1 .nil) ?_;rintro v _ ⟨hv,rfl⟩;exact h v hv
  have mu:∀{L L1:List aD} {Post:Value→List aD→Prop} {K:Int→Tree},Take L (ay ps x.S) L1→Tr ρ ρ (ay ps x.S::L1) (K x.used) Post→
    Tr ρ ρ L (call Zp 62 [pA ps] (.one (.l kI)) K) Post:=fun t1 h=>by refine ai (sY _ _ H.hw.wf) (.cons t1 .nil) ?_;rintro _ _ ⟨rfl,rfl⟩;exact h
  have hlol2:lo.length=x.rows.length:=by omega
  have fin:∀(a1 a2 a3 a4 a5:av) {LL:List aD},a1.n=(Ob.eR x.S).length→a2.n=(Hn.all x.hs).length→a3.n=x.ro.length→a4.n=x.wa.length→a5.n=x.pe.length→
    LL.Perm ([pL a1 (Ob.eR x.S),aw a2 2 ((Hn.all x.hs).flatMap jb),aw a3 1 (x.ro.map i64),aw a4 1 (x.wa.map i64),aw a5 1 (x.pe.map i64),au b1 [.slice none 0 0,.slice none 0 0,.slice none 0 0,.slice none 0 0,.slice none 0 0,.slice none 0 0,i64 0,i64 0,i64 0,i64 0],aw t 1 (lo.map gz),star (lo.map lL),au d.p (d.c sr x),aw sr 1 (x.ro.map i64),bX d.n x.hs,
     au d.r [pA d.h,bY z,i64 x.bb],aw z 1 (l.map gz),star (l.map lL),au d.f [pA d.h,.slice sw.a sw.n sw.c,.slice sp.a sp.n sp.c],aw sw 1 (x.wa.map i64),aw sp 1 (x.pe.map i64),
     au d.h [pA ps,bY sc],ay ps x.S,aw sc 2 (lc.flatMap iX),star (lc.map nJ)]++R)→
    Tr ρ ρ LL (st (⟨b1,0,none⟩) [.slice a1.a a1.n a1.c,.slice a2.a a2.n a2.c,.slice a3.a a3.n a3.c,.slice t.a t.n t.c,.slice a4.a a4.n a4.c,.slice a5.a a5.n a5.c,.int .i64 x.ck,.int .i64 x.bb,.int .i64 x.used,.int .i64 x.rn]<|
     ld (.g [.slice,.slice,.slice,.slice,.slice,.slice,kI,kI,kI,kI]) (⟨b1,0,none⟩) fun(x44:LTs _)=>
     ret (.agg #[.slice x44.1.a x44.1.n x44.1.c,.slice x44.2.1.a x44.2.1.n x44.2.1.c,.slice x44.2.2.1.a x44.2.2.1.n x44.2.2.1.c,.slice x44.2.2.2.1.a x44.2.2.2.1.n x44.2.2.2.1.c,.slice x44.2.2.2.2.1.a x44.2.2.2.2.1.n x44.2.2.2.2.1.c,.slice x44.2.2.2.2.2.1.a x44.2.2.2.2.2.1.n x44.2.2.2.2.2.1.c,.int .i64 x44.2.2.2.2.2.2.1,.int .i64 x44.2.2.2.2.2.2.2.1,.int .i64 x44.2.2.2.2.2.2.2.2.1,.int .i64 x44.2.2.2.2.2.2.2.2.2.1]))
     (SP (.one (.g Ho)) (LW x (d.A x lc)) R):=fun a1 a2 a3 a4 a5 LL h1 h2 h3 h4 h5 hp=>by
   refine Tr.perm hp ?_;try simp only[c8,c9]
   refine iT ?_;exact aN (x:=(a1,a2,a3,t,a4,a5,x.ck,x.bb,x.used,x.rn,())) [] rfl tk rfl<|Tr.close ar (ct.cl hsc)<|Tr.close ar (cn.cl hsw hsp)<|Tr.close ar (bO.cl hz hl)<|Tr.close ar (iJ.cl hsr)<|ax rfl ⟨a1,a2,a3,t,a4,a5,lo,rfl,⟨h1,h2,ae,ae,h4,h5⟩,hlo,rfl⟩ ar bE
  repeat' first
   |with_reducible refine cr ?_ ?_
   |with_reducible refine aS ar ?_
   |with_reducible refine mo tk tk fun _ _=>?_
   |with_reducible refine mh tk fun _ _=>?_
   |with_reducible refine apR tk tk fun _ _=>?_
   |with_reducible refine apW tk tk fun _ _=>?_
   |with_reducible refine apP tk tk fun _ _=>?_
   |with_reducible refine mu tk ?_
   |with_reducible refine aq fun _=>?_
  all_goals exact fin _ _ _ _ _ (by assumption) (by assumption) (by assumption) (by assumption) (by assumption) (aI.perm ar)
theorem C6(s1 s2:av)(hs:List (Int×Int))(r1:fx ρ s1 2 (hs.flatMap jb))(r2:fx ρ s2 2 (hs.flatMap jb))(n1:s1.n=hs.length)(n2:s2.n=hs.length)(hl:hs.length<2^40):Gl.Spec ρ Zp 66 [bY s1,bY s2] [] RB
  fun r M=>r=true∧M=[]:=by
 refine So (F.aa.nY.calls _ _) fun R=>ak (by rw[n1,n2];simp)<|aM (fun m u M=>(fun(i:Int)=>M=R∧0≤i∧i≤hs.length∧m=hs.length-i.toNat) u.1) hs.length ?_ ?_;·exact⟨rfl,bu,ae,bu⟩
 ·rintro m ⟨(i:Int),⟨⟩⟩ M ⟨rfl,i0,i1,rfl⟩ X hX;refine ag (fun h=>?_) (fun h=>?_)
  ·replace h:i<(s1.n:Int):=oT h;have hi:i.toNat<hs.length:=by omega
   obtain⟨g1,g2⟩:=kL hi;generalize Hn.bM hs i.toNat=y at*;have hg:∀e v,(fq [kI,kI] (y.1,y.2,()))[e]? =some v→(hs.flatMap jb)[i.toNat*2+0+e]? =some v:=fun e v he=>by
    have hlt:e<2:=cf he;have:e=0∨e=1:=by omega
    rcases this with e'|e'<;>subst e'<;>cases he;·exact g1
    ·exact g2
   refine aA (bz r1 i0 ae fun a0 ha=>?_);refine kU ha r1 fX hg<|bz r2 i0 ae fun a1 ha1=>kU ha1 r2 fX hg<|bF ?_;rw[wrap64 ae ae];exact hX _ _ _ ae ⟨rfl,bq,bq,rfl⟩
  ·refine ax ?_ ⟨rfl,rfl⟩ ar bE;rfl
structure Ln(ρ:FR)(r:RT (.one (.g Ho)))(x:Rt):Prop where
 ex:∃(so sh sr sq sf sp:av) (l:List nM),r=(so,sh,sr,sq,sf,sp,x.ck,x.bb,x.used,x.rn,())∧
   (so.n=(Ob.eR x.S).length∧sh.n=(Hn.all x.hs).length∧sr.n=16∧sq.n=x.rows.length∧sf.n=x.wa.length∧sp.n=x.pe.length)∧
   l.map (·.2)=x.rows∧
   tW ρ so (Ob.eR x.S)∧fx ρ sh 2 ((Hn.all x.hs).flatMap jb)∧fx ρ sr 1 (x.ro.map i64)∧fx ρ sq 1 (l.map gz)∧(∀y∈l,fx ρ y.1 1 (y.2.map i64))∧fx ρ sf 1 (x.wa.map i64)∧fx ρ sp 1 (x.pe.map i64)
theorem Ln.le{ρ':FR}{r:RT (.one (.g Ho))}{x:Rt}(h:Ln ρ r x)(hle:Le ρ ρ'):Ln ρ' r x:=by obtain⟨so,sh,sr,sq,sf,sp,l,h1,h2,h3,k1,k2,k3,k4,k5,k6,k7⟩:=h.ex;exact⟨so,sh,sr,sq,sf,sp,l,h1,h2,h3,k1.le hle,k2.le hle,k3.le hle,k4.le hle,fun y hy=>(k5 y hy).le hle,k6.le hle,k7.le hle⟩
theorem Tr.JQ{x:Rt}{A R M:List aD}{r:RT (.one (.g Ho))}(hv:LW x A r M)(h:∀ρ',Le ρ ρ'→Ln ρ' r x→Tr ρ0 ρ' (A++R) T Post):Tr ρ0 ρ (M++R) T Post:=by obtain⟨so,sh,sr,sq,sf,sp,l,h1,h2,h3,rfl⟩:=hv;refine Tr.ta .here fun ρ1 e1 k1=>Tr.cL .here fun ρ2 e2 k2=>Tr.cL .here fun ρ3 e3 k3=>Tr.cL .here fun ρ4 e4 k4=>Tr.nW l .here fun ρ5 e5 k5=>Tr.cL .here fun ρ6 e6 k6=>Tr.cL .here fun ρ7 e7 k7=>?_;have f6:=e7;have f5:=e6.trans f6;have f4:=e5.trans f5;have f3:=e4.trans f4;have f2:=e3.trans f3;have f1:=e2.trans f2;exact h _ (e1.trans f1) ⟨so,sh,sr,sq,sf,sp,l,h1,h2,h3,k1.le f1,k2.le f2,k3.le f3,k4.le f4,fun y hy=>(k5 y hy).le f5,k6.le f6,k7⟩
abbrev Ms(o:LTs Ho):Value:= .agg #[.slice o.1.a o.1.n o.1.c,.slice o.2.1.a o.2.1.n o.2.1.c,.slice o.2.2.1.a o.2.2.1.n o.2.2.1.c,.slice o.2.2.2.1.a o.2.2.2.1.n o.2.2.2.1.c,.slice o.2.2.2.2.1.a o.2.2.2.2.1.n o.2.2.2.2.1.c,.slice o.2.2.2.2.2.1.a o.2.2.2.2.2.1.n o.2.2.2.2.2.1.c,.int .i64 o.2.2.2.2.2.2.1,.int .i64 o.2.2.2.2.2.2.2.1,.int .i64 o.2.2.2.2.2.2.2.2.1,.int .i64 o.2.2.2.2.2.2.2.2.2.1]
theorem DE(v1 v2:LTs Ho)(x:Rt)(r1:Ln ρ v1 x)(r2:Ln ρ v2 x)(H:x.Ok):Gl.Spec ρ Zp 19 [Ms v1,Ms v2] [] RB fun r M=>r=true∧M=[]:=by
 refine So (F.aj.oO.calls _ _) fun R=>?_;obtain⟨so,sh,sr,sq,sf,sp,l,rfl,⟨n1,n2,n3,n4,n5,n6⟩,h3,k1,k2,k3,k4,k5,k6,k7⟩:=r1.ex;obtain⟨so',sh',sr',sq',sf',sp',l',rfl,⟨n1',n2',n3',n4',n5',n6'⟩,h3',k1',k2',k3',k4',k5',k6',k7'⟩:=r2.ex;refine aq fun b1=>aq fun b2=>iL<|iL ?_;apply ak (by rw[n4,n4'];simp);have hro:=H.ro;have hwa:=H.wa;have hpe:=H.pe;have hhl:(Hn.all x.hs).length≤512:=by unfold Hn.all;rw[H.hs.len];exact Hn.gp _
 have hll:l.length=x.rows.length:=by rw[←h3,List.length_map]
 have hll':l'.length=x.rows.length:=by rw[←h3',List.length_map]
 have hfew:=H.rows.sZ;have hrl:=H.rows.len;generalize hB1:(au b1 _:aD)=B1;generalize hB2:(au b2 _:aD)=B2;apply aM (I:=fun m u M=>∃j:Nat,j≤x.rows.length∧m=x.rows.length-j∧u=((j:Int),())∧M=B2::B1::R) x.rows.length ⟨0,Nat.zero_le _,rfl,rfl,rfl⟩;rintro m _ _ ⟨j,hj,rfl,rfl,rfl⟩ X hX;subst hB1 hB2;refine iL<|ag (fun hc=>?_) (fun hc=>?_)
 ·have hc:(j:Int)<sq.n:=oT hc;have hj1:j<l.length:=by omega
  have hj2:j<l'.length:=by omega
  have c1:=iA hj1;have c2:=iA hj2;have e1:=pE h3 j;have e2:=pE h3' j;have m1:l.getD j yT∈l:=by rw[List.getD_eq_getElem?_getD,List.getElem?_eq_getElem hj1];exact List.getElem_mem _
  have m2:l'.getD j yT∈l':=by rw[List.getD_eq_getElem?_getD,List.getElem?_eq_getElem hj2];exact List.getElem_mem _
  have q1:=k5 _ m1;have q2:=k5' _ m2;rw[e1]at q1;rw[e2]at q2;have hm:x.rows.getD j []∈x.rows:=by rw[List.getD_eq_getElem?_getD,List.getElem?_eq_getElem ae];exact List.getElem_mem _
  have hrb:=hrl _ hm;generalize x.rows.getD j []=row at*;generalize(l.getD j yT).1=y1 at*;generalize(l'.getD j yT).1=y2 at*;refine aA<|iL ?_;refine bz k4 ae hc fun a0 ha0=>cu ha0 k4 fX c1<|aT (x:=sq') bL tk rfl<|bz k4' ae ae fun a1 ha1=>cu ha1 k4' fX c2<|cE (mD _ _ _ _ q1 q2 ae)<|bF ?_;rw[bG (n:=(j:Int)+1)];exact hX _ _ _ ae ⟨j+1,ae,rfl,rfl,rfl⟩
 refine iL<|iL<|cE (DF _ _ _ k1 k1' (uV H.hw).1 (uV H.hw).2)<|bT ?_;refine iL<|iL<|cE (C6 _ _ _ k2 k2' n2 n2' ae)<|bT ?_;refine iL<|iL<|cE (mD _ _ _ _ k3 k3' ae)<|bT ?_;refine iL<|iL<|cE (mD _ _ _ _ k6 k6' ae)<|bT ?_;refine iL<|iL<|cE (mD _ _ _ _ k7 k7' ae)<|bT ?_;refine iL<|iL ?_;refine bT<|iL<|iL ?_;refine bT<|iL<|iL ?_;refine bT<|iL<|iL<|Tr.drop tk (Tr.drop tk ?_);exact ax rfl ⟨by simp,rfl⟩ ar bE
theorem Hf{M:List aD}{s:av}{m:Nat}{xs:List Value}{k:LK}{a a0:Addr}{f:LT k→Tree}{j:Nat}{x:LT k}(hs:s.a=some a0)(hr:fx ρ s m xs)(ha:∀b o,a0=⟨b,o,none⟩→a=⟨b,o+j,none⟩)
  (hx:xs[j]? =some (k.val x)) (h:Tr ρ0 ρ L (f x) Post):Tr ρ0 ρ L (xY (Sat ρ M) k a f) Post:=by
 have hj:j<xs.length:=by
  rcases Nat.lt_or_ge j xs.length with h|h;·exact h
  ·rw[List.getElem?_eq_none h]at hx;cases hx
 obtain⟨h1,hr|⟨b,off,cs,ty,fr,g1,g2,g3⟩⟩:=hr;·rw[hr]at h1;rw[h1]at hj;simp at hj
 ·rw[hs]at g1;injection g1 with g1;exact xZ (ha b _ g1) g2 (by rw[g3 j hj,hx]) h
theorem vX{M:List aD}{s:av}{m:Nat}{xs:List Value}{a0 a:Addr}{j:Nat}(hs:s.a=some a0)(hr:fx ρ s m xs)(ha:∀b o,a0=⟨b,o,none⟩→a=⟨b,o+j,none⟩):
  ∀(ks:List LK) (i:Nat) {f:LTs ks→Tree} {x:LTs ks} (_:∀e v,(fq ks x)[e]? =some v→xs[j+i+e]? =some v) (_:Tr ρ0 ρ L (f x) Post),Tr ρ0 ρ L (Du (Sat ρ M) a i ks f) Post
 |[],i,f,x,_,h=>h
 |k::ks,i,f,x,hv,h=>by exact Hf hs hr (fun b o e=>by rw[ha b o e,aO,Nat.add_assoc]) (by simpa using hv 0 _ rfl)<|vX hs hr ha _ _ (fun e v he=>by have:=hv (e+1) v he;rw[←this];congr 1;omega) h
theorem yu{M:List aD}{s:av}{m:Nat}{xs:List Value}{a0 a:Addr}{j:Nat}{ks:List LK}{f:LTs ks→Tree}{x:LTs ks}(hs:s.a=some a0)(hr:fx ρ s m xs)(ha:∀b o,a0=⟨b,o,none⟩→a=⟨b,o+j,none⟩)
  (hv:∀e v,(fq ks x)[e]? =some v→xs[j+0+e]? =some v) (h:Tr ρ0 ρ L (f x) Post):Tr ρ0 ρ L (rb (Sat ρ M) (.g ks) a f) Post:=vX hs hr ha ks 0 hv h
def kA(pg ba stack:Int):Bool:=decide ((1≤pg∧pg≤256)∧0≤ba∧(1≤stack∧stack≤4096))
theorem Fc(pg ba stack:Int):Gl.Spec ρ Zp 12 [.agg #[i64 pg,i64 ba,i64 stack]] [] RB fun r M=>r=kA pg ba stack∧M=[]:=by
 refine So (F.aj.oU.calls (pg,ba,stack,())) fun R=>?_;unfold F.aj.oU;try simp only[c8,c9]
 have no:¬_→kA pg ba stack=false:=fun h=>decide_eq_false h;refine aq fun b=>iL<|ag (fun h1=>?_) (fun h1=>?_)
 ·replace h1:pg≥1:=oT h1;refine iL<|ag (fun h2=>?_) (fun h2=>?_)
  ·replace h2:pg≤256:=oT h2;refine iL<|ag (fun h3=>?_) (fun h3=>?_)
   ·replace h3:ba≥0:=oT h3;refine iL<|ag (fun h4=>?_) (fun h4=>?_)
    ·replace h4:stack≥1:=oT h4;refine iL ?_;have e:kA pg ba stack=decide (stack≤4096):=by unfold kA;rw[decide_eq_decide];omega
     rw[e];exact ax (x:=decide (stack≤4096)) rfl ⟨rfl,rfl⟩ ar bE
    ·rw[no (by have:=oF h4;omega)];exact ax (x:=false) rfl ⟨rfl,rfl⟩ ar bE
   ·rw[no (by have:=oF h3;omega)];exact ax (x:=false) rfl ⟨rfl,rfl⟩ ar bE
  ·rw[no (by have:=oF h2;omega)];exact ax (x:=false) rfl ⟨rfl,rfl⟩ ar bE
 ·rw[no (by have:=oF h1;omega)];exact rT
theorem IU(pg ba stack:Int)(h:¬((1≤pg∧pg≤256)∧0≤ba∧(1≤stack∧stack≤4096))):Gl.Spec ρ Zp 11 [.agg #[i64 pg,i64 ba,i64 stack]] [] PE
  fun r M=>r=(none,1,())∧M=[]:=by refine So (F.rt.gB.calls (pg,ba,stack,())) fun R=>aq fun b=>iG<|cE (Im _ _ _ h)<|bT ?_;exact rT
theorem Doc.new{pg ba stack:Int}(h:(1≤pg∧pg≤256)∧0≤ba∧(1≤stack∧stack≤4096))(hr:ba<9223372036854775808):Doc (Rt.new pg ba stack) [] 0:=
 ⟨⟨Rt.Inv.new h hr,Rt.Kt h.1,Rt.KQ h.1⟩,rfl,by simp⟩
theorem Doc.step{x:Rt}{lc lc':List (aX×av)}{N k a b c:Int}(H:Doc x lc N)(hN:N+10<2^49)(ha:a<9223372036854775808){y:bH}(h:Rx.Cq x k a b c y)(h1:y.2.cs=dK lc')(h2:∀z∈lc',z.2.n=z.1.2.length):Doc y.2 lc' (N+10):=
 ⟨Rx.Lw H.w hN ha h,h1,h2⟩
abbrev Hl:=Int×Int×Int×Int
def sN(o:Hl):List Value:=[i64 o.1,i64 o.2.1,i64 o.2.2.1,i64 o.2.2.2]
def FZ(o:Hl):Prop:=o.2.1<9223372036854775808∧o.2.2.1<9223372036854775808∧o.2.2.2<9223372036854775808
theorem B0{l:List Hl}{j:Nat}{o:Hl}(h:l[j]? =some o)(e:Nat)(v:Value)(hv:(fq Mt (o.1,o.2.1,o.2.2.1,o.2.2.2,()))[e]? =some v):(l.flatMap sN)[j*4+0+e]? =some v:=by have hlt:e<4:=cf hv;have:=eJ (g:=sN) (fun _=>rfl) h hlt;rw[Nat.add_zero,this];exact hv
end
section
open Go Go.Gl
set_option maxRecDepth 100000
def F.cp.sy.T:az:=⟨(fun|10=>[(8,kI)]|_=>[]),fun _=>none,(fun|12=> .held (some 11) (gF [0,1,2,3,4,6,7,8,9,10,5] (.go 11 true (gF [12] .nil)))|_=> .quiet)⟩
def F.cp.sy(p0:LTs [kI,kI,kI])(p1:av):Tree:=nw 23 [i64 p0.1,i64 p0.2.1,i64 p0.2.2.1] fun b1=>dG [kI,kI,kI] (aB b1) fun x2=>cN 11 [.agg #[i64 x2.1,i64 x2.2.1,i64 x2.2.2.1]] [.l .ptr,.l kI] fun r3=>dG [kI,kI,kI] (aB b1) fun x4=>cB 12 [.agg #[i64 x4.1,i64 x4.2.1,i64 x4.2.2.1]] fun r5=>br (!r5) (br (Option.isNone r3.1) (cI 13 [i64 r3.2.1] fun r6=>br ((r6:Int)==1) (cB 14 [] fun r7=>ret (.bool r7)) (ret (.bool false))) (ret (.bool false))) (cB 15 [pV r3.1] fun r6=>br (!r6) (ret (.bool false)) (cI 13 [i64 r3.2.1] fun r7=>br ((r7:Int) != 0) (ret (.bool false)) (dI (fa (aB b1) 0) fun x8=>br (decide ((x8:Int)>60)) (cB 14 [] fun r9=>ret (.bool r9)) (br (decide (((p1.n:Nat):Int)>40)) (cB 14 [] fun r9=>ret (.bool r9)) (dG [kI,kI,kI] (aB b1) fun x9=>cP 16 [.agg #[i64 x9.1,i64 x9.2.1,i64 x9.2.2.1]] fun r10=>lp [kI] (fun X11 u12=>br (decide ((u12.1:Int)<(p1.n:Nat))) (cD<|Gl.held fun S13=>ix p1.a p1.n u12.1 4 fun a14=>eG S13 [kI,kI,kI,kI] a14 fun x15=>ix p1.a p1.n u12.1 4 fun a16=>eG S13 [kI,kI,kI,kI] a16 fun x17=>cG 17 [pV r3.1,.agg #[i64 x15.1,i64 x15.2.1,i64 x15.2.2.1,i64 x15.2.2.2.1]] [kI,kI] fun r18=>aZ S13<|cG 18 [pV r10,.agg #[i64 x17.1,i64 x17.2.1,i64 x17.2.2.1,i64 x17.2.2.2.1]] [kI,kI] fun r19=>br (!(((r18.1:Int)==r19.1)&&(((r18.2.1:Int)==r19.2.1)&&true))) (ret (.bool false)) (X11 (IntKind.wrap .i64 (u12.1+1),()))) (nn r3.1 fun a13=>dP (fa a13 0) fun x14=>cG 20 [pV x14] [.slice,.slice,.slice,.slice,.slice,.slice,kI,kI,kI,kI] fun r15=>cG 21 [pV r10] [.slice,.slice,.slice,.slice,.slice,.slice,kI,kI,kI,kI] fun r16=>cB 19 [.agg #[sV r15.1,sV r15.2.1,sV r15.2.2.1,sV r15.2.2.2.1,sV r15.2.2.2.2.1,sV r15.2.2.2.2.2.1,i64 r15.2.2.2.2.2.2.1,i64 r15.2.2.2.2.2.2.2.1,i64 r15.2.2.2.2.2.2.2.2.1,i64 r15.2.2.2.2.2.2.2.2.2.1],.agg #[sV r16.1,sV r16.2.1,sV r16.2.2.1,sV r16.2.2.2.1,sV r16.2.2.2.2.1,sV r16.2.2.2.2.2.1,i64 r16.2.2.2.2.2.2.1,i64 r16.2.2.2.2.2.2.2.1,i64 r16.2.2.2.2.2.2.2.2.1,i64 r16.2.2.2.2.2.2.2.2.2.1]] fun r17=>br r17 (cB 14 [] fun r18=>ret (.bool r18)) (ret (.bool false)))) (0,()))))))
theorem F.cp.sy.calls(p0:LTs [kI,kI,kI])(p1:av):Cf 3 [.agg #[i64 p0.1,i64 p0.2.1,i64 p0.2.2.1],sV p1] (F.cp.sy p0 p1):=Tryz.cd F.cp.sy.T Tryz.func3
variable{ρ0 ρ:FR}{L L':List aD}{Post:Value→List aD→Prop}{T:Tree}
theorem Dz(pg ba stack:Int)(s:av)(l:List Hl)(_:pg<9223372036854775808)(hr:ba<9223372036854775808)(_:stack<9223372036854775808)(ro:fx ρ s 4 (l.flatMap sN))(hs:s.n=l.length)(hb:∀o∈l,FZ o):
  Gl.Spec ρ Zp 3 [.agg #[i64 pg,i64 ba,i64 stack],.slice s.a s.n s.c] [] RB fun r M=>r=true∧M=[]:=by
 refine So (F.cp.sy.calls (pg,ba,stack,()) s) fun R=>?_;unfold F.cp.sy;refine aq fun b1=>aN (b:=b1) (off:=0) (x:=(pg,ba,stack,())) [] rfl tk rfl ?_;by_cases hc:(1≤pg∧pg≤256)∧0≤ba∧(1≤stack∧stack≤4096);rotate_left
 ·refine ai (IU pg ba stack hc) ar ?_;rintro x' M ⟨rfl,rfl⟩;refine iG ?_;refine cE (Fc pg ba stack)<|bg (by unfold kA;rw[decide_eq_false hc];rfl) (bg rfl ?_);iterate 1 apply cE (qH _);try simp only[c8,c9]
  refine bT<|ai (lW) ar ?_;rintro x' M ⟨rfl,rfl⟩;try simp only[c8,c9]
  exact ax (x:=true) rfl ⟨rfl,rfl⟩ ar bE
 refine ai (EF pg ba stack hc) ar ?_;rintro _ _ ⟨i,q,rfl,rfl⟩;try simp only[c8,c9]
 refine aN (b:=b1) (off:=0) (x:=(pg,ba,stack,())) [] rfl tk rfl<|ai (Fc pg ba stack) ar ?_;rintro x' M ⟨rfl,rfl⟩;try simp only[c8,c9]
 refine ak (by unfold kA;rw[decide_eq_true hc];rfl)<|ai (sB i q (Rt.new pg ba stack)) ar ?_;rintro x' M ⟨rfl,rfl⟩;try simp only[c8,c9]
 apply ak rfl;iterate 1 refine ai (qH _) .nil ?_;rintro x' M ⟨rfl,rfl⟩;try simp only[c8,c9]
 refine ak rfl<|aT (k:=kI) (b:=b1) (off:=0) (x:=pg) (by rw[aO]) tk rfl<|ag (fun h=>?_) (fun _=>?_)
 ·refine ai (lW) ar ?_;rintro x' M ⟨rfl,rfl⟩;try simp only[c8,c9]
  exact ax (x:=true) rfl ⟨rfl,rfl⟩ ar bE
 refine ag (fun h=>?_) (fun h40=>?_)
 ·refine ai (lW) ar ?_;rintro x' M ⟨rfl,rfl⟩;try simp only[c8,c9]
  exact ax (x:=true) rfl ⟨rfl,rfl⟩ ar bE
 have h40:¬((s.n:Nat):Int)>40:=oF h40;refine aN (b:=b1) (off:=0) (x:=(pg,ba,stack,())) [] rfl tk rfl<|ai (Kk pg ba stack hc) ar ?_;rintro _ _ ⟨d,rfl,rfl⟩;try simp only[c8,c9]
 have H0:=Doc.new hc hr;generalize Rt.new pg ba stack=x0 at*;refine Tr.drop (A:=au b1 _) tk<|Tr.perm (aI.perm (M:=i.Q q x0++d.A x0 []) ar)<|aM (I:=fun m u M=>∃(j:Nat) (x:Rt) (lc:List (aX×av)),j≤l.length∧m=l.length-j∧u=((j:Int),())∧Doc x lc (10*j)∧M=i.Q q x++d.A x lc++R) l.length ⟨0,x0,[],Nat.zero_le _,rfl,rfl,by simpa using H0,by simp⟩ ?_;rintro m _ _ ⟨j,x,lc,hj,rfl,rfl,H,rfl⟩ X hX;dsimp only;try simp only[c8,c9]
 refine ag (fun hlt=>?_) (fun hlt=>?_)
 ·have hlt:(j:Int)<(s.n:Nat):=oT hlt;have hjl:j<l.length:=by omega
  obtain⟨o,ho⟩:∃o,l[j]? =some o:=⟨_,List.getElem?_eq_getElem hjl⟩;obtain⟨ok1,JW,ok3⟩:=hb o (List.mem_of_getElem? ho);refine aA (aK [] .nil ?_);refine bz ro (by omega) hlt fun a0 ha0=>yu (ks:=Mt) (x:=(o.1,o.2.1,o.2.2.1,o.2.2.2,())) ha0 ro (j:=j*4) (by rintro b o rfl;rw[aO,Int.toNat_natCast]) (B0 ho)<|bz ro ae hlt fun a1 ha1=>yu ha1 ro fX (B0 ho)<|ai (Lu i q x H.w.I o.1 o.2.1 o.2.2.1 o.2.2.2 ae ok1) ar ?_;rintro _ _ ⟨y,⟨hy,I1⟩,rfl,rfl⟩;refine aS .nil<|ai (Lp d x _ H ae _ _ _ ok1 JW ok3 _) ar ?_;rintro _ _ ⟨y',lc',hy',jb,hln,rfl,rfl⟩;obtain rfl:=Rx.Ks H.w.I hy hy';refine bF ?_;rw[bG (n:=(j:Int)+1)];have H1:=H.step ae ok1 hy jb hln;exact Tr.perm (aI.perm (M:=i.Q q _++d.A _ _) ar)<|hX _ _ _ ae ⟨j+1,y.2,lc',ae,rfl,rfl,by rw[show(10:Int)*_=10*j+10 by omega];exact H1,bu⟩
 have hok:=H.w.I.ok ae;refine af<|iL<|ai (Fp i x hok) ar ?_;rintro v1 M1 hv1;refine Tr.JQ hv1 fun ρ1 hle1 k1=>ai (H5 d x _ hok H.cs) ar ?_;rintro v2 M2 hv2;refine Tr.JQ hv2 fun ρ2 hle2 k2=>cE (DE _ _ x (k1.le hle2) k2 hok)<|bT<|cE (lW) ?_;exact rT
end
end Go.Proofs.YtjginndmmlkjiaaGreat
namespace Go.Gl
open Go
def FR.all(w:World):FR:=⟨fun b=>w.heap[b]?,w⟩
theorem FR.JG(w:World):Sat (FR.all w) [] w:=
 ⟨⟨fun _=>none,fun _=>rfl,fun b o h=>by cases h⟩,⟨fun b o h=>h,⟨rfl,rfl,rfl⟩⟩⟩
theorem Sat.Hc{w w':World}{L:List aD}(h:Sat (FR.all w) L w'):RowKit.Below w.heap.size w w':=by
 obtain⟨_,h3⟩:=h;have hb:∀k,k<w.heap.size→w'.heap[k]? =w.heap[k]? :=fun k hk=>by
  have hs:w.heap[k]? =some w.heap[k]:=by simp[hk]
  rw[hs];exact h3.mem k _ hs
 refine⟨h3.same.1,h3.same.2.1,h3.same.2.2,?_,hb⟩;rcases Nat.eq_zero_or_pos w.heap.size with h0|h0;·omega
 ·have h1:=hb (w.heap.size-1) (by omega);have hs:w.heap[w.heap.size-1]? =some (w.heap[w.heap.size-1]'(by omega)):=Array.getElem?_eq_getElem (by omega);rw[hs]at h1;have:=(Array.getElem?_eq_some_iff.1 h1).1;omega
theorem IV{P:Program}{f:FuncId}{args:List Value}{w:World}(h:Spec (FR.all w) P f args [] (.one (.l .bool)) fun r M=>r=true∧M=[]):
  Calls P f args.toArray w fun e w'=>e= .returned (.bool true)∧RowKit.Below w.heap.size w w':=by refine(h [] w (FR.JG w)).mono ?_;rintro e w' ⟨x,L,rfl,⟨rfl,rfl⟩,hs⟩;exact⟨rfl,hs.Hc⟩
section
variable{H:Type}{enc:TypeId×Value→H}{P:Program}{W:World}{base:Nat}{sp:Nat→Bool}{held:Bool}
theorem Hb{fs:Array Field}{xs:List (DataW H×List MemPlace)}{n:Nat}{cs:List Value}(hlen:xs.length=fs.size)(hf:∀(i:Nat) (f:Field),fs[i]? =some f→DataW.trod enc P W base sp held n f.type ((cs.drop f.offset).take (P.cellsOf f.type))=xs[i]?)
  {i o:Nat} {t:TypeId} (h:(fs[i]?).map (fun f=>(f.type,f.offset))=some (t,o)):∃y,DataW.trod enc P W base sp held n t ((cs.drop o).take (P.cellsOf t))=some y:=by
 cases hfi:fs[i]? with
 |none=>rw[hfi]at h;cases h
 |some f=>rw[hfi]at h;injection h with h;injection h with h1 h2;have hi:i<fs.size:=(Array.getElem?_eq_some_iff.1 hfi).1;have:=hf i f hfi;rw[List.getElem?_eq_getElem (by omega)]at this;exact⟨_,by rw[←h1,←h2];exact this⟩
theorem IA{cs:List Value}{o:Nat}{v:Value}(h:(cs.drop o).take 1=[v]):cs[o]? =some v:=by
 have:((cs.drop o).take 1)[0]? =some v:=by rw[h];rfl
 rw[List.getElem?_take,if_pos (by omega),List.getElem?_drop]at this;simpa using this
theorem jt{fs:Array Field}{xs:List (DataW H×List MemPlace)}{n:Nat}{cs:List Value}(hlen:xs.length=fs.size)(hf:∀(i:Nat) (f:Field),fs[i]? =some f→DataW.trod enc P W base sp held n f.type ((cs.drop f.offset).take (P.cellsOf f.type))=xs[i]?)
  {i o:Nat} {t:TypeId} {k:IntKind} (ht:P.underlying t=some (.int k)) (hc:P.cellsOf t=1) (h:(fs[i]?).map (fun f=>(f.type,f.offset))=some (t,o)):∃m:Int,cs[o]? =some (.int k m)∧(Lit.int k m).wf=true:=by obtain⟨y,hy⟩:=Hb hlen hf h;rw[hc]at hy;obtain⟨m,hm,_,hw⟩:=DataW.trod_int ht hy;exact⟨m,IA hm,hw⟩
theorem rH{a:Int}(h:(Lit.int .i64 a).wf=true): -9223372036854775808≤a∧a<9223372036854775808:=by simp[Lit.wf,IntKind.min,IntKind.max,IntKind.signed,IntKind.bits]at h;omega
theorem CM{α:Type}{Q:Nat→α→Prop}:∀n:Nat,(∀i,i<n→∃a,Q i a)→∃l:List α,l.length=n∧∀i a,l[i]? =some a→Q i a
 |0,_=>⟨[],rfl,by simp⟩
 |n+1,h=>by
  obtain⟨l,hl,hq⟩:=CM n fun i hi=>h i (by omega);obtain⟨a,ha⟩:=h n (by omega);refine⟨l++[a],by simp[hl],fun i b hb=>?_⟩;rcases Nat.lt_or_ge i n with c|c;·rw[List.getElem?_append_left (by omega)]at hb;exact hq i b hb
  ·have hlt:=(List.getElem?_eq_some_iff.1 hb).1;simp at hlt;have:i=l.length:=by omega
   subst this;rw[List.getElem?_append_right (Nat.le_refl _),Nat.sub_self]at hb;injection hb with hb;subst hb;rw[hl];exact ha
end
end Go.Gl
namespace Go.Proofs.YtjginndmmlkjiaaGreat
open Go Go.Gl
set_option maxRecDepth 100000 in
theorem EN{H:Type}{enc:TypeId×Value→H}{W:World}{b0:Nat}{v:Value}{d:DataW H}{p:List MemPlace}(lC:Value.okWide Zp W .any b0 23 v)(h:DataW.Trod enc Zp W 0 (fun _=>true) true 23 v d p):
  ∃x y z:Int,v= .agg #[i64 x,i64 y,i64 z]∧x<9223372036854775808∧y<9223372036854775808∧z<9223372036854775808:=by
 have c1:Tryz.prog.cellsOf 3=1:=by kernel_rfl
 have c3:Tryz.prog.cellsOf 23=3:=by kernel_rfl
 obtain⟨cs,rfl,jb⟩:=Go.WideShapes.okWide_struct Tryz.underlying23 lC;obtain⟨fuel,hf⟩:=h;obtain⟨ys,n,_,_,hlen,hsz,hf⟩:=DataW.trod_struct Tryz.underlying23 hf;rw[c3]at jb;simp only[Value.cells]at hf;obtain⟨x,hx,wx⟩:=jt (i:=0) (o:=0) hsz hf Tryz.underlying3 c1 (by rfl);obtain⟨y,hy,wy⟩:=jt (i:=1) (o:=1) hsz hf Tryz.underlying3 c1 (by rfl);obtain⟨z,hz,wz⟩:=jt (i:=2) (o:=2) hsz hf Tryz.underlying3 c1 (by rfl);refine⟨x,y,z,?_,(rH wx).2,(rH wy).2,(rH wz).2⟩;congr 1;apply Array.ext';refine List.ext_getElem? fun j=>?_;have hl:cs.toList.length=3:=by simpa using jb
 match j with
 |0=>exact hx
 |1=>exact hy
 |2=>exact hz
 |j+3=>rw[List.getElem?_eq_none (by omega),List.getElem?_eq_none (by simp)]
variable{ρ0 ρ:FR}{L L':List aD}{Post:Value→List aD→Prop}{T:Tree}
section
variable{H:Type}{enc:TypeId×Value→H}{W:World}{base:Nat}{sp:Nat→Bool}{held:Bool}
theorem Iw{fuel:Nat}{cs:List Value}{x:DataW H×List MemPlace}(h:DataW.trod enc Zp W base sp held fuel 39 cs=some x):
  ∃o:Hl,cs=sN o∧FZ o:=by
 have c1:Tryz.prog.cellsOf 3=1:=by kernel_rfl
 have c4:Tryz.prog.cellsOf 39=4:=by kernel_rfl
 obtain⟨ys,n,_,_,hlen,hsz,hf⟩:=DataW.trod_struct Tryz.underlying39 h;rw[c4]at hlen;obtain⟨k,hk,_⟩:=jt (i:=0) (o:=0) hsz hf Tryz.underlying3 c1 (by rfl);obtain⟨a,ha,wa⟩:=jt (i:=1) (o:=1) hsz hf Tryz.underlying3 c1 (by rfl);obtain⟨b,hb,wb⟩:=jt (i:=2) (o:=2) hsz hf Tryz.underlying3 c1 (by rfl);obtain⟨c,hc,wc⟩:=jt (i:=3) (o:=3) hsz hf Tryz.underlying3 c1 (by rfl);refine⟨(k,a,b,c),?_,(rH wa).2,(rH wb).2,(rH wc).2⟩;refine List.ext_getElem? fun j=>?_;match j with
 |0=>exact hk
 |1=>exact ha
 |2=>exact hb
 |3=>exact hc
 |j+4=>rw[List.getElem?_eq_none (by omega),List.getElem?_eq_none (by show 4≤j+4;omega)]
theorem Ag(o:Hl):(sN o).length=4:=rfl
set_option maxRecDepth 100000 in
theorem E8{b0:Nat}{v:Value}{d:DataW H}{p:List MemPlace}(lC:Value.okWide Zp W .any b0 24 v)(h:DataW.Trod enc Zp W base sp held 24 v d p):
  ∃(s:av) (l:List Hl),v= .slice s.a s.n s.c∧fx (FR.all W) s 4 (l.flatMap sN)∧s.n=l.length∧(∀o∈l,FZ o):=by
 obtain⟨a1,len,cap,rfl⟩:=Go.WideShapes.okWide_slice Tryz.underlying24 lC;obtain⟨fuel,hf⟩:=h;have c4:Tryz.prog.cellsOf 39=4:=by kernel_rfl
 rcases DataW.trod_slice Tryz.underlying24 hf with ⟨jb,hx⟩|⟨a,len',cap',elems,rest,n,_,jb,_,hbase,hl,hm,hlen,hel,_,_⟩;·simp[Value.cells]at jb;obtain⟨rfl,rfl,rfl⟩:=jb;exact⟨⟨none,0,0⟩,[],rfl,⟨rfl,.inl rfl⟩,rfl,by simp⟩
 ·simp[Value.cells]at jb;obtain⟨rfl,rfl,rfl⟩:=jb;have hmx:maxLen=2^63-1:=rfl;obtain⟨l,hll,hq⟩:=CM (Q:=fun i (x:Hl)=>(∀j,j<4→W.cell? ((a.add (i*4)).add j)=(sN x)[j]?)∧FZ x) len fun i hi=>by have he:=hel i hi;rw[List.getElem?_eq_getElem (by omega),c4,Option.bind_eq_some_iff]at he;obtain⟨cs,jb,htr⟩:=he;obtain⟨_,h2,h3⟩:=World.cells?_some jb;obtain⟨x,rfl,hx⟩:=Iw htr;exact⟨x,h3,hx⟩
  refine⟨⟨some a,len,cap⟩,l,rfl,⟨by rw[ji (g:=sN) (m:=4) Ag,hll],?_⟩,hll.symm,fun x hx=>?_⟩
  ·rcases Nat.eq_zero_or_pos len with h0|h0;·exact .inl h0
   ·right;obtain⟨x0,hx0⟩:∃x,l[0]? =some x:=⟨l[0],List.getElem?_eq_getElem (by omega)⟩;have hc0:=(hq 0 x0 hx0).1 0 (by omega);obtain⟨ab,ao,spot⟩:=a;have hv0:(sN x0)[0]? =some (.int .i64 x0.1):=rfl;rw[hv0]at hc0;have hspot:spot=none:=by simpa[Addr.add]using World.cell?_spot hc0
    subst hspot;rw[kh,kh,aO,aO]at hc0;unfold World.cell? at hc0;dsimp only at hc0;split at hc0
    ·rename_i cs ty fr hb;refine⟨ab,ao,cs,ty,fr,rfl,hb,fun e he=>?_⟩;rw[ji (g:=sN) (m:=4) Ag]at he;have hi:e/4<l.length:=by omega
     have hlx:l[e/4]? =some l[e/4]:=List.getElem?_eq_getElem hi;have hci:=(hq (e/4) _ hlx).1 (e%4) (by omega);rw[←eJ (g:=sN) (m:=4) Ag hlx (by omega),show e/4*4+e%4=e by omega]at hci;rw[kh,kh,aO,aO,Nat.add_assoc,show e/4*4+e%4=e by omega]at hci;unfold World.cell? at hci;dsimp only at hci;rw[hb]at hci;dsimp only at hci;exact hci
    ·cases hc0
  ·obtain⟨i,hi⟩:=List.mem_iff_getElem?.mp hx;exact(hq i x hi).2
end
end Go.Proofs.YtjginndmmlkjiaaGreat
