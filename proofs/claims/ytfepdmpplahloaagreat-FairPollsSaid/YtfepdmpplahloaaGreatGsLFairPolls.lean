/- The law FairPolls. -/
import Derived.Test.YtfepdmpplahloaaGreatGsTl24
import Derived.Test.YtfepdmpplahloaaGreatGsFr
import Derived.Test.YtfepdmpplahloaaGreatGsTxFairPolls
set_option linter.unusedSimpArgs false
set_option linter.unusedVariables false
namespace Go.Proofs.YtfepdmpplahloaaGreat
open Go Go.Gl
variable{ρ0 ρ:FR}{L L':List aA}{Post:Value→List aA→Prop}{T:Tree}
namespace Polls
open Fr
structure K(n:Nat)(a f k:Nat→Int)(g:Nat→Bool)(x:Rt)(P:Nat→Prop):Prop where
 idle:Idle x
 ck:1≤x.ck
 aZ:x.aZ=0
 hd:∀i,i<n→Ob.head x.S (f i)=some ⟨4,k i,5,false⟩
 ref:∀b h,Ob.head x.S b=some h→h.k=3∨(h.k=4∧∃i,i<n∧b=f i)
 root:∀i,i<n→f i∈x.roots∧(a i∈x.roots↔g i=false)
 sr:∀i,i<n→(Ob.get x.S (f i) 4).1=(i:Int)+1
 st:∀i,i<n→(Ob.get x.S (f i) 3).1=0
 un:∀i,i<n→¬P i→(Ob.get x.S (f i) 0).1=a i∧Mk.obj x.S (a i)∧(Ob.get x.S (f i) 1).1=1
 pd:∀i,i<n→P i→(Ob.get x.S (f i) 0).1=0
 gone:∀i,i<n→P i→g i=true
variable{n:Nat}{a f k:Nat→Int}{g:Nat→Bool}{x y:Rt}{P:Nat→Prop}{N:Int}{out:List Int}
theorem ET{c f:Int}(h:1≤c):Sf.fv c 0 f 0=false:=by
 have hc:Sf.none c=c:=by unfold Sf.none;rw[if_pos (by omega)]
 unfold Sf.fv Sf.idle Sf.wN
 rw[show Sf.none 0=0 from rfl,Int.mul_zero,hc,Int.sub_zero,hc,if_neg (by decide)]
 exact decide_eq_false (by omega)
theorem flat(H:K n a f k g x P)(Wx:W x N):∀c,Mk.obj x.S c→∀b∈Mk.kids x.S x.cs c,¬Mk.obj x.S b:=fun c hc b hb=>by
 unfold Mk.obj at hc
 cases hh:Ob.head x.S c with
 |none=>rw[hh]at hc;cases hc
 |some hd=>
  obtain⟨fl,hf,_,e⟩:=Mk.qm.mp hb
  rcases H.ref c hd hh with h3|⟨h4,_⟩
  ·rw[Rx.B1 hh]at hf
   unfold Rx.zf at hf
   rw[if_neg (by omega),if_neg (by omega),if_neg (by omega)]at hf
   cases hf
  ·have hr:Qu.ba x.S c=true:=by unfold Qu.ba;rw[hh];simpa using h4
   rw[oU hr,List.mem_singleton]at hf
   subst hf
   rw[Wx.A.lz c hr (lO H.idle c)]at e
   subst e
   exact Mk.gF Wx.I.w.hw
theorem soft(H:K n a f k g x P)(Wx:W x N)(b:Int):x.Bq false b↔(Mk.obj x.S b∧b∈x.roots):=by
 have hz:=flat H Wx
 constructor
 ·intro h
  refine fW.le (T:=fun b=>Mk.obj x.S b∧b∈x.roots) (fun d hd=> ?_) (fun r hr e1 e2 e3 e4 e5=> ?_) (fun c hc ho d hd hod=>(hz c ho d hd hod).elim) h
  ·obtain⟨g1,g2⟩:=(m9 hz).mp hd
   exact⟨g2,g1⟩
  ·obtain⟨h,hh,hk,e⟩:=(fA Wx.I.w.hw).mp hr
   obtain⟨i,hi,ei⟩:=((H.ref _ _ hh).resolve_left (by omega)).2
   have es:r.2.2.2.2.1=0:=by
    rw[e]
    show(Ob.get x.S r.1 3).1=0
    rw[ei];exact H.st i hi
   rw[es]at e4
   change Sf.fv x.ck 0 x.free x.aZ=true at e4
   rw[H.aZ,ET H.ck]at e4
   cases e4
 ·rintro⟨h1,h2⟩
  exact .base ((m9 hz).mpr ⟨h2,h1⟩)
theorem step(H:K n a f k g x P)(Wx:W x N)(hN:N+1<2^50)(r:fB x y out):
  ∃P':Nat→Prop,K n a f k g y P'∧(∀s,s∈out↔∃i,i<n∧P' i∧¬P i∧s=(i:Int)+1)∧(∀i,i<n→(P' i↔(P i∨(g i=true∧(k i=3→a i∉x.wa)))))∧∀i,i<n→g i=true→a i∉y.wa:=by
 have Wy:=r.w Wx (by omega)
 have iy:=r.idle
 obtain⟨l,m2,m3,cl,pu,pn,R⟩:=r.rd Wx
 have hz:=flat H Wx
 have h2:∀b,Sp.has m2 b=true↔(Mk.obj x.S b∧b∈x.roots):=fun b=>by rw[R.tw,soft H Wx]
 have h3:∀b,Sp.has m3 b=true↔(Sp.has m2 b=true∨(b∈x.wa∧Mk.obj x.S b)):=fun b=>by
  rw[R.rJ,m9 hz,R.E3]
  constructor
  ·rintro(g|⟨⟨g1,g2,_⟩,_⟩)
   ·exact .inl g
   ·exact .inr ⟨g1,g2⟩
  ·rintro(g|⟨g1,g2⟩)
   ·exact .inl g
   ·by_cases e:Sp.has m2 b=true
    ·exact .inl e
    ·exact .inr ⟨⟨g1,g2,e⟩,g2⟩
 have of':∀i,i<n→Mk.obj x.S (f i):=fun i hi=>by unfold Mk.obj;rw[H.hd i hi];rfl
 have mf:∀i,i<n→Sp.has m3 (f i)=true:=fun i hi=>(h3 _).mpr (.inl ((h2 _).mpr ⟨of' i hi,(H.root i hi).1⟩))
 have hcl:∀i,i<n→(f i∈cl↔(¬P i∧g i=true∧(k i=3→a i∉x.wa))):=fun i hi=>by
  rw[R.Ex]
  constructor
  ·rintro⟨h,e1,_,e3,e4⟩
   rw[H.hd i hi]at e1
   injection e1 with e1
   subst e1
   have hp:¬P i:=fun q=>by rw[H.pd i hi q]at e3;exact Mk.gF Wx.I.w.hw e3
   obtain⟨u1,u2,_⟩:=H.un i hi hp
   rw[u1]at e4
   dsimp only at e4
   have hnr:a i∉x.roots:=fun q=>e4 (by
    have:=(h2 (a i)).mpr ⟨u2,q⟩
    split
    ·exact(h3 _).mpr (.inl this)
    ·exact this)
   refine⟨hp,?_,fun q w=>e4 ?_⟩
   ·cases e:g i with
    |true=>rfl
    |false=>exact absurd ((H.root i hi).2.mpr e) hnr
   ·rw[if_pos q];exact(h3 _).mpr (.inr ⟨w,u2⟩)
  ·rintro⟨hp,hg,hw⟩
   obtain⟨u1,u2,_⟩:=H.un i hi hp
   have hn2:¬Sp.has m2 (a i)=true:=fun q=>by
    have:=(H.root i hi).2.mp ((h2 _).mp q).2
    rw[hg]at this;cases this
   refine⟨_,H.hd i hi,rfl,by rw[u1];exact u2,?_⟩
   rw[u1]
   dsimp only
   split
   ·rename_i q
    exact fun w=>((h3 _).mp w).elim hn2 fun w=>hw q w.1
   ·exact hn2
 have hpu:∀b,b∈pu↔b∈cl:=fun b=>by
  rw[R.Ek]
  constructor
  ·exact fun q=>q.1
  ·intro q
   obtain⟨h,e1,e2,_⟩:=(R.Ex b).mp q
   obtain⟨i,hi,rfl⟩:=((H.ref _ _ e1).resolve_left (by omega)).2
   have:=(hcl i hi).mp q
   exact⟨q,mf i hi,by rw[(H.un i hi this.1).2.2];decide⟩
 have hfi:∀i j,i<n→j<n→f i=f j→i=j:=fun i j hi hj e=>by
  have h1:=H.sr i hi
  rw[e,H.sr j hj]at h1;omega
 refine⟨fun i=>P i∨(g i=true∧(k i=3→a i∉x.wa)),?_,?_,fun i _=>Iff.rfl,fun i hi hg=> ?_⟩
 ·have er:=u0 R H.idle iy
  refine⟨iy,by rw[R.ck];exact H.ck,by rw[R.aZ];exact H.aZ,fun i hi=>by rw[R.head _ (mf i hi)];exact H.hd i hi,fun b h hh=> ?_,fun i hi=>by rw[er];exact H.root i hi,fun i hi=> ?_,fun i hi=> ?_,fun i hi hp=> ?_,fun i hi hp=> ?_,fun i hi hp=> ?_⟩
  ·have hb:Sp.has m3 b=true:=(R.obj b).mp (by unfold Mk.obj;rw[hh];rfl)
   rw[R.head b hb]at hh
   exact H.ref b h hh
  ·rw[(R.ref Wx (mf i hi) (H.hd i hi) rfl).2.2.1];exact H.sr i hi
  ·rw[(R.ref Wx (mf i hi) (H.hd i hi) rfl).2.1];exact H.st i hi
  ·have hp1:¬P i:=fun q=>hp (.inl q)
   have hc:f i∉cl:=fun q=>hp (.inr ((hcl i hi).mp q).2)
   obtain⟨u1,u2,u3⟩:=H.un i hi hp1
   obtain⟨q0,_,_,q1⟩:=R.ref Wx (mf i hi) (H.hd i hi) rfl
   rw[q0,q1,if_neg hc,if_neg (fun q=>hc ((hpu _).mp q))]
   refine⟨u1,(R.obj _).mpr ?_,u3⟩
   cases e:g i with
   |false=>exact(h3 _).mpr (.inl ((h2 _).mpr ⟨u2,(H.root i hi).2.mpr e⟩))
   |true=>
    refine(h3 _).mpr (.inr ⟨?_,u2⟩)
    exact Classical.byContradiction fun w=>hp (.inr ⟨e,fun _=>w⟩)
  ·rw[(R.ref Wx (mf i hi) (H.hd i hi) rfl).1]
   by_cases hc:f i∈cl
   ·rw[if_pos hc]
   ·rw[if_neg hc]
    refine H.pd i hi (Classical.byContradiction fun w=>hc ((hcl i hi).mpr ⟨w,(hp.resolve_left w)⟩))
  ·exact hp.elim (H.gone i hi) fun q=>q.1
 ·obtain⟨q,hq,_,hq3,rfl⟩:=R.out
  intro s
  rw[List.mem_map]
  constructor
  ·rintro⟨b,hb,rfl⟩
   have hb2:=((hq b).mp hb).resolve_left (lO H.idle b)
   have hb3:=(hpu b).mp hb2
   obtain⟨h,e1,e2,_⟩:=(R.Ex b).mp hb3
   obtain⟨i,hi,rfl⟩:=((H.ref _ _ e1).resolve_left (by omega)).2
   have:=(hcl i hi).mp hb3
   exact⟨i,hi,.inr this.2,this.1,H.sr i hi⟩
  ·rintro⟨i,hi,hp,hn,rfl⟩
   exact⟨f i,(hq _).mpr (.inr ((hpu _).mpr ((hcl i hi).mpr ⟨hn,hp.resolve_left hn⟩))),H.sr i hi⟩
 ·rw[R.wa]
  intro hm
  have nd:=(List.nodup_append.mp Wx.I.w.f.nd).1
  obtain⟨q1,q2⟩:=((FI.kf pn (x.wa,x.pe) nd).1 (a i)).mp hm
  refine q2 ((R.E3 _).mpr ⟨q1,Fl.obj (Wx.I.w.f.fl _ (List.mem_append_left _ q1)),fun q=> ?_⟩)
  have:=(H.root i hi).2.mp ((h2 _).mp q).2
  rw[hg]at this;cases this
theorem four{o:List (List Int)}(H:K n a f k g x fun _=>False)(Wx:W x N)(hN:N+4<2^50)(r:eu 4 x y o):o.flatten.Nodup∧∀s,s∈o.flatten↔∃i,i<n∧g i=true∧s=(i:Int)+1:=by
 refine⟨(r.DP Wx (by omega)).2,fun s=> ?_⟩
 cases r with
 |succ r3 q4=>cases r3 with
  |succ r2 q3=>cases r2 with
   |succ r1 q2=>cases r1 with
    |succ r0 q1=>
     cases r0
     obtain⟨P1,K1,o1,p1,w1⟩:=step H Wx (by omega) q1
     have W1:=q1.w Wx (by omega)
     obtain⟨P2,K2,o2,p2,w2⟩:=step K1 W1 (by omega) q2
     have W2:=q2.w W1 (by omega)
     obtain⟨P3,K3,o3,p3,w3⟩:=step K2 W2 (by omega) q3
     have W3:=q3.w W2 (by omega)
     obtain⟨P4,K4,o4,p4,_⟩:=step K3 W3 (by omega) q4
     have g2:∀i,i<n→g i=true→P2 i:=fun i hi hg=>(p2 i hi).mpr (.inr ⟨hg,fun _=>w1 i hi hg⟩)
     simp only[List.flatten_append,List.flatten_cons,List.flatten_nil,List.append_nil,List.nil_append,List.mem_append,o1,o2,o3,o4]
     constructor
     ·rintro(((⟨i,hi,h,_,e⟩|⟨i,hi,h,_,e⟩)|⟨i,hi,h,_,e⟩)|⟨i,hi,h,_,e⟩)
      ·exact⟨i,hi,K1.gone i hi h,e⟩
      ·exact⟨i,hi,K2.gone i hi h,e⟩
      ·exact⟨i,hi,K3.gone i hi h,e⟩
      ·exact⟨i,hi,K4.gone i hi h,e⟩
     ·rintro⟨i,hi,hg,e⟩
      by_cases h:P1 i
      ·exact .inl (.inl (.inl ⟨i,hi,h,id,e⟩))
      ·exact .inl (.inl (.inr ⟨i,hi,g2 i hi hg,h,e⟩))
abbrev ka(ks:List Int)(i:Nat):Int:=1+ks.getD i 0%3
abbrev Fb(ks:List Int)(i:Nat):Bool:=decide (128≤ks.getD i 0)
abbrev ga(h:Int)(i:Nat):Bool:=(dv .and .u8 (Int.fdiv h (2^(min ((Int.tmod (i:Int) 8):Int).toNat (IntKind.bits .u8)))) 1:Int)==0
abbrev la(l:List (Int×Int))(i:Nat):Int:=(l.getD i (0,0)).1
abbrev lf(l:List (Int×Int))(i:Nat):Int:=(l.getD i (0,0)).2
abbrev oA(ks:List Int)(i:Nat)(a:Int):fT:=⟨a,⟨3,0,1+(i:Int),Fb ks i⟩,List.replicate (1+i) 0⟩
abbrev FN(k:Int)(i:Nat)(a f:Int):fT:=⟨f,⟨4,k,5,false⟩,[a,1,0,0,(i:Int)+1]⟩
abbrev oF(ks:List Int)(i:Nat)(a f:Int):fT:=⟨f,⟨4,ka ks i,5,false⟩,[a,1,0,0,(i:Int)+1]⟩
def os(ks:List Int)(l:List (Int×Int)):List fT:=(List.range l.length).flatMap fun i=>[oA ks i (la l i),oF ks i (la l i) (lf l i)]
theorem AO{l:List (Int×Int)}{e:Int×Int}{j:Nat}(h:j<l.length):(l++[e]).getD j (0,0)=l.getD j (0,0):=by
 rw[List.getD_eq_getElem?_getD,List.getElem?_append_left h,List.getD_eq_getElem?_getD]
theorem A0{l:List (Int×Int)}{e:Int×Int}:(l++[e]).getD l.length (0,0)=e:=by
 rw[List.getD_eq_getElem?_getD,List.getElem?_append_right (Nat.le_refl _),Nat.sub_self];rfl
theorem zj(ks:List Int)(l:List (Int×Int)):(os ks l).length=2*l.length:=by
 unfold os
 generalize l.length=n
 induction n with
 |zero=>rfl
 |succ n ih=>rw[List.range_succ,List.flatMap_append,List.length_append,ih];show 2*n+2=_;omega
theorem Bu(ks:List Int)(l:List (Int×Int))(a f:Int):os ks (l++[(a,f)])=os ks l++[oA ks l.length a,oF ks l.length a f]:=by
 unfold os
 rw[List.length_append,List.length_singleton,List.range_succ,List.flatMap_append,List.flatMap_singleton]
 have e1:((List.range l.length).flatMap fun i=>[oA ks i (la (l++[(a,f)]) i),oF ks i (la (l++[(a,f)]) i) (lf (l++[(a,f)]) i)])=(List.range l.length).flatMap fun i=>[oA ks i (la l i),oF ks i (la l i) (lf l i)]:=by
  rw[List.flatMap_def,List.flatMap_def]
  congr 1
  refine List.map_congr_left fun i hi=> ?_
  have hi:=List.mem_range.mp hi
  unfold la lf
  rw[AO hi]
 rw[e1]
 unfold la lf
 rw[A0]
structure J(ks:List Int)(h:Int)(l:List (Int×Int))(x:Rt)(N:Int):Prop where
 W:W x N
 rows:x.rows=[[]]
 pe:x.pe=[]
 ck:x.ck=0
 aZ:x.aZ=0
 ro:x.ro=List.replicate 16 0
 aU:x.aU=l.length
 cs:x.cs=[]
 B:Bx x.S [] 30 (os ks l)
 sm:∀t,2*l.length≤t→(Hn.aQ x.hs t).2=0
 hh:∀b,0<b→((∃t,(Hn.aQ x.hs t).2=b)↔∃i,i<l.length∧(b=lf l i∨(b=la l i∧ga h i=false)))
theorem made{mk:Rt→bg}{x x':Rt}{o:Int}{y:bg}(hy:Rx.dU mk x y)(hk:mk x=((o,0),x'))(hx:x'.hs=x.hs)(ho:0<o){m:Nat}(hm:m<512)(hl:x.hs.length=512)(h0:(Hn.aQ x.hs m).2=0):
  ∃j,j≤m∧Hn.free x.hs=some j∧y=((Hn.told x.hs j,0),{x' with hs:=Hn.du x.hs o}):=by
 cases hf:Hn.free x.hs with
 |none=>exact absurd h0 (Hn.rb hf m (by omega))
 |some j=>
  obtain⟨f1,f2,f3⟩:=Hn.eE hf
  have hj:j≤m:=by
   rcases Nat.lt_or_ge m j with g|g
   ·exact absurd h0 (f3 m g)
   ·exact g
  refine⟨j,hj,rfl,?_⟩
  have:=Rx.CO hy (by rw[hf];simp) (by rw[hk])
  rw[hk]at this
  rw[this]
  have g1:Rx.cW x' o=(Hn.told x.hs j,0):=by
   unfold Rx.cW
   rw[if_neg (by omega),hx,if_neg (by rw[hf];simp),(Hn.rH hf ho).1]
  have g2:Rx.dO x' o={x' with hs:=Hn.du x.hs o}:=by
   unfold Rx.dO
   rw[if_neg (by omega),hx]
  exact Prod.ext g1 g2
theorem ou{hs hs4:List Hn.Slot}{j j2:Nat}{v fo b:Int}(hb:0<b)(h0:(Hn.aQ hs j).2=0)(h2:(Hn.aQ hs j2).2=0)(hne:j≠j2)(h4:∀t,(Hn.aQ hs4 t).2=if t=j then v else if t=j2 then fo else(Hn.aQ hs t).2):
  (∃t,(Hn.aQ hs4 t).2=b)↔((∃t,(Hn.aQ hs t).2=b)∨b=fo∨b=v):=by
 constructor
 ·rintro⟨t,ht⟩
  rw[h4]at ht
  by_cases e:t=j
  ·rw[if_pos e]at ht;exact .inr (.inr ht.symm)
  ·rw[if_neg e]at ht
   by_cases e2:t=j2
   ·rw[if_pos e2]at ht;exact .inr (.inl ht.symm)
   ·rw[if_neg e2]at ht;exact .inl ⟨t,ht⟩
 ·rintro(⟨t,ht⟩|rfl|rfl)
  ·refine⟨t,?_⟩
   rw[h4,if_neg (fun e=>by rw[e,h0]at ht;omega),if_neg (fun e=>by rw[e,h2]at ht;omega)];exact ht
  ·exact⟨j2,by rw[h4,if_neg (fun e=>hne e.symm),if_pos rfl]⟩
  ·exact⟨j,by rw[h4,if_pos rfl]⟩
theorem data{ks:List Int}{h:Int}{l:List (Int×Int)}{x:Rt}{N:Int}(H:J ks h l x N)(hl:l.length<12){y:bg}(hy:Rx.eM x 3 (1+(l.length:Int)) y):
  ∃(o:Int) (j:Nat) (S1:aD),y=((Hn.told x.hs j,0),{x with S:=S1,hs:=Hn.du x.hs o})∧0<o∧j≤2*l.length∧Hn.free x.hs=some j∧Bx S1 [] 30 (os ks l++[⟨o,⟨3,0,1+(l.length:Int),false⟩,List.replicate (1+l.length) 0⟩]):=by
 unfold Rx.eM at hy
 rw[if_neg (by omega)]at hy
 obtain⟨e0,b1⟩:=H.B.make (h:=⟨3,0,1+(l.length:Int),false⟩) (by rw[zj];omega) (yP [] (by omega) (by omega)) (Dg (by dsimp only;omega) (by dsimp only;omega))
 have hpos:0<(Ob.make x.S [] ⟨3,0,1+(l.length:Int),false⟩).1:=b1.bo.pos (List.mem_append_right _ (List.mem_singleton.mpr rfl))
 have emk:Rx.mk ⟨3,0,1+(l.length:Int),false⟩ x=(((Ob.make x.S [] ⟨3,0,1+(l.length:Int),false⟩).1,0),{x with S:=(Ob.make x.S [] ⟨3,0,1+(l.length:Int),false⟩).2.2}):=by
  unfold Rx.mk
  rw[H.cs,e0]
 obtain⟨j,j1,j2,e⟩:=made hy emk rfl hpos (m:=2*l.length) (by omega) H.W.I.h.len (H.sm _ (Nat.le_refl _))
 have e3:(1+(l.length:Int)).toNat=1+l.length:=by omega
 dsimp only at b1
 rw[e3]at b1
 exact⟨_,j,_,e,hpos,j1,j2,b1⟩
theorem aY{ks:List Int}{h:Int}{l:List (Int×Int)}{x x1:Rt}{N:Int}(H:J ks h l x N)(hl:l.length<12){o:Int}{j:Nat}{S1:aD}(ho:0<o)(hj:j≤2*l.length)(hf:Hn.free x.hs=some j)(b1:Bx S1 [] 30 (os ks l++[⟨o,⟨3,0,1+(l.length:Int),false⟩,List.replicate (1+l.length) 0⟩]))(hx1:x1={x with S:=S1,hs:=Hn.du x.hs o})
  {N1:Int} (I1:HI N1 x1.hs) (hN:N1<2^50) {k:Int} (hk:1≤k∧k≤3) {y:bg} (hy:Rx.eV x1 k (Hn.told x.hs j) 0 y):
  ∃(fo:Int) (j2:Nat) (S2:aD),y=((Hn.told x1.hs j2,0),{x1 with S:=S2,aU:=x.aU+1,hs:=Hn.du x1.hs fo})∧0<fo∧j2≤2*l.length+1∧j≠j2∧(Hn.aQ x.hs j2).2=0∧(∀t,Hn.aQ (Hn.du x1.hs fo) t=if t=j then((Hn.aQ x.hs j).1,o)else if t=j2 then((Hn.aQ x.hs j2).1,fo)else Hn.aQ x.hs t)∧Bx S2 [] 30 ((os ks l++[⟨o,⟨3,0,1+(l.length:Int),false⟩,List.replicate (1+l.length) 0⟩])++[FN k l.length o fo]):=by
 have h1:∀t,Hn.aQ x1.hs t=if t=j then((Hn.aQ x.hs j).1,o)else Hn.aQ x.hs t:=by rw[hx1];exact(Hn.rH hf ho).2
 have hok:=I1.ok hN
 have ht:Hn.told x1.hs j=Hn.told x.hs j:=by unfold Hn.told;rw[h1,if_pos rfl]
 have hj5:j<512:=by have:=(Hn.eE hf).1;rw[H.W.I.h.len]at this;exact this
 have hh:Hn.held x1.hs (Hn.told x.hs j)=(o,0):=by
  unfold Hn.held
  rw[←ht,Hn.nG hok hj5 (by rw[h1,if_pos rfl];exact Int.ne_of_gt ho)]
  dsimp only
  rw[h1,if_pos rfl]
 have e1:Rx.gA x1 (Hn.told x.hs j) false=(o,0):=by
  unfold Rx.gA
  rw[if_neg (fun g=>by cases g.1)];exact hh
 have hr:x1.rows=[[]]:=by rw[hx1];exact H.rows
 have e2:Rx.dH x1 k 0=0:=by
  unfold Rx.dH
  rw[if_neg (by omega),if_neg (by omega),if_neg (by omega),hr,if_neg (by show¬(0:Int)≥1;decide),if_neg (fun g=>by omega)]
 unfold Rx.eV at hy
 rw[e1,e2,if_neg (fun g=>g rfl),if_neg (fun g=>g rfl)]at hy
 obtain⟨fo,S2,er,hfo,b2⟩:=b1.aY (rows:=[[]]) (n:=(l.length:Int)) (c:=k) (o:=o) (q:=0) (t:=0) (by rw[List.length_append,zj];show 2*l.length+1+1<30;omega) hk.1 hk.2 (by decide) (by decide) (fun _=>by decide) ⟨_,List.mem_append_right _ (List.mem_singleton.mpr rfl),rfl⟩
 have emk:Rx.zY k o 0 x1=((fo,0),{x1 with S:=S2,aU:=x.aU+1}):=by
  unfold Rx.zY
  rw[show Rf.aY x1.S x1.cs x1.rows x1.aU k o 0 x1.ck=(fo,0,S2,x.aU+1) by rw[hx1,H.aU];dsimp only;rw[H.cs,H.rows,H.ck];exact er]
 have sm1:(Hn.aQ x1.hs (2*l.length+1)).2=0:=by rw[h1,if_neg (by omega)];exact H.sm _ (by omega)
 obtain⟨j2,q1,q2,e⟩:=made hy emk rfl hfo (m:=2*l.length+1) (by omega) I1.len sm1
 have hne:j≠j2:=fun g=>by
  have:=(Hn.eE q2).2.1
  rw[h1,if_pos g.symm]at this
  exact Int.ne_of_gt ho this
 have z2:(Hn.aQ x.hs j2).2=0:=by
  have:=(Hn.eE q2).2.1
  rwa [h1,if_neg (fun g=>hne g.symm)]at this
 refine⟨fo,j2,S2,e,hfo,q1,hne,z2,fun t=> ?_,b2⟩
 rw[(Hn.rH q2 hfo).2]
 by_cases g:t=j2
 ·rw[if_pos g,if_neg (fun g'=>hne (g'.symm.trans g)),if_pos g,h1,if_neg (fun g'=>hne g'.symm)]
 ·rw[if_neg g,h1]
  by_cases g':t=j
  ·rw[if_pos g',if_pos g']
  ·rw[if_neg g',if_neg g',if_neg g]
abbrev o3(o n:Int)(f:Bool)(ws:List Int):fT:=⟨o,⟨3,0,n,f⟩,ws⟩
theorem final{S:aD}{cs:List aS}{P:Nat}{L:List fT}{F:fT}{o n:Int}{ws:List Int}(H:Bx S cs P ((L++[o3 o n false ws])++[F])):
  (Ob.final S o).1=0∧Bx (Ob.final S o).2 cs P ((L++[o3 o n true ws])++[F]):=by
 have hm:o3 o n false ws∈(L++[o3 o n false ws])++[F]:=by simp
 obtain⟨e,B⟩:=H.bo.final hm (show(3:Int)≠4 by decide) rfl
 have nd:=H.nodup
 rw[List.map_append,List.map_append]at nd
 have d1:=List.nodup_append.mp nd
 have d2:=List.nodup_append.mp d1.1
 have em:((L++[o3 o n false ws])++[F]).map (Om.fi o)=(L++[o3 o n true ws])++[F]:=by
  rw[List.map_append,List.map_append]
  congr 1
  ·congr 1
   ·conv=>rhs;rw[←List.map_id L]
    refine List.map_congr_left fun u hu=> ?_
    unfold Om.fi
    rw[if_neg (fun g=>d2.2.2 _ (List.mem_map.mpr ⟨u,hu,rfl⟩) o (by simp) g)];rfl
   ·show[Om.fi o (o3 o n false ws)]=_
    unfold Om.fi
    rw[if_pos rfl]
  ·show[Om.fi o F]=_
   unfold Om.fi
   rw[if_neg (fun g=>d1.2.2 o (by simp) F.a (by simp) g.symm)]
 have ep:(Ob.final S o).2.pg=S.pg:=by
  unfold Ob.final
  rw[H.head _ hm]
  rfl
 change(Ob.final S o).1=0 at e
 change Bo (Ob.final S o).2 cs (((L++[o3 o n false ws])++[F]).map (Om.fi o))at B
 rw[em]at B
 refine⟨e,B.hw,?_,by rw[ep];exact H.jL,B.each,B.head,B.len,B.get⟩
 obtain⟨m,h1,h2⟩:=H.Fj
 exact⟨m,by rw[ep];exact h1,by simpa using h2⟩
theorem J.next{ks:List Int}{h:Int}{l:List (Int×Int)}{x x4:Rt}{N N4:Int}(H:J ks h l x N){o fo:Int}{j j2:Nat}(hj:j≤2*l.length)(hj2:j2≤2*l.length+1)(hne:j≠j2)(z1:(Hn.aQ x.hs j).2=0)(z2:(Hn.aQ x.hs j2).2=0)(W4:Fr.W x4 N4)
  (er:x4.rows=x.rows) (ep:x4.pe=x.pe) (ec:x4.ck=x.ck) (ert:x4.aZ=x.aZ) (ero:x4.ro=x.ro) (es:x4.aU=x.aU+1) (ecs:x4.cs=x.cs) (B:Bx x4.S [] 30 ((os ks l++[oA ks l.length o])++[oF ks l.length o fo])) (ho:0<o) (hf:0<fo)
  (h4:∀t,(Hn.aQ x4.hs t).2=if t=j then(if ga h l.length=true then 0 else o)else if t=j2 then fo else(Hn.aQ x.hs t).2):J ks h (l++[(o,fo)]) x4 N4:=by
 have hlen:(l++[(o,fo)]).length=l.length+1:=by rw[List.length_append];rfl
 refine⟨W4,er.trans H.rows,ep.trans H.pe,ec.trans H.ck,ert.trans H.aZ,ero.trans H.ro,by rw[es,H.aU,hlen];omega,ecs.trans H.cs,by rw[Bu];rw[List.append_assoc]at B;exact B,fun t ht=> ?_,fun b hb=> ?_⟩
 ·rw[hlen]at ht
  rw[h4,if_neg (by omega),if_neg (by omega)]
  exact H.sm t (by omega)
 ·rw[ou hb z1 z2 hne h4,H.hh b hb,hlen]
  have last:la (l++[(o,fo)]) l.length=o∧lf (l++[(o,fo)]) l.length=fo:=by unfold la lf;rw[A0];exact⟨rfl,rfl⟩
  have lT:∀i,i<l.length→la (l++[(o,fo)]) i=la l i∧lf (l++[(o,fo)]) i=lf l i:=fun i hi=>by unfold la lf;rw[AO hi];exact⟨rfl,rfl⟩
  constructor
  ·rintro(⟨i,hi,e⟩|e|e)
   ·exact⟨i,by omega,by rw[(lT i hi).1,(lT i hi).2];exact e⟩
   ·exact⟨l.length,by omega,.inl (by rw[last.2];exact e)⟩
   ·cases g:ga h l.length with
    |true=>rw[g,if_pos rfl]at e;omega
    |false=>rw[g,if_neg (by decide)]at e;exact⟨l.length,by omega,.inr ⟨by rw[last.1];exact e,g⟩⟩
  ·rintro⟨i,hi,e⟩
   by_cases hil:i<l.length
   ·rw[(lT i hil).1,(lT i hil).2]at e
    exact .inl ⟨i,hil,e⟩
   ·obtain rfl:i=l.length:=by omega
    rw[last.1,last.2]at e
    rcases e with e|⟨e,g⟩
    ·exact .inr (.inl e)
    ·rw[g,if_neg (by decide)];exact .inr (.inr e)
theorem J.FO{ks:List Int}{h:Int}{l:List (Int×Int)}{x:Rt}{N c:Int}(H:J ks h l x N)(hc:1≤c):K l.length (la l) (lf l) (ka ks) (ga h) {x with ck:=c} fun _=>False:=by
 have hA:∀i,i<l.length→oA ks i (la l i)∈os ks l:=fun i hi=>List.mem_flatMap.mpr ⟨i,List.mem_range.mpr hi,by simp⟩
 have hF:∀i,i<l.length→oF ks i (la l i) (lf l i)∈os ks l:=fun i hi=>List.mem_flatMap.mpr ⟨i,List.mem_range.mpr hi,by simp⟩
 have B:=H.B.bo
 have hinj:∀i j,i<l.length→j<l.length→lf l i=lf l j→i=j:=fun i j hi hj e=>by
  have:=B.inj (hF i hi) (hF j hj) e
  have:=congrArg (fun o:fT=>o.ws.getD 4 0) this
  change(i:Int)+1=(j:Int)+1 at this
  omega
 have hge:∀i,i<l.length→∀j:Nat,j<5→Ob.get x.S (lf l i) j=(([la l i,1,0,0,(i:Int)+1]:List Int).getD j 0,0):=fun i hi j hj=>B.get _ (hF i hi) j (by show(j:Int)<5;omega)
 have hroots:∀b,0<b→(b∈({x with ck:=c}:Rt).roots↔∃i,i<l.length∧(b=lf l i∨(b=la l i∧ga h i=false))):=fun b hb=>by
  rw[nq (x:={x with ck:=c}) H.W.I.h.len hb,←H.hh b hb]
  constructor
  ·rintro(⟨t,_,e⟩|g|⟨r,hr,g⟩|g)
   ·exact⟨t,e⟩
   ·change b∈x.ro at g
    rw[H.ro]at g
    have:=List.eq_of_mem_replicate g;omega
   ·change r∈x.rows at hr
    rw[H.rows,List.mem_singleton]at hr;subst hr;cases g
   ·change b∈x.pe at g
    rw[H.pe]at g;cases g
  ·rintro⟨t,e⟩
   refine .inl ⟨t,?_,e⟩
   rcases Nat.lt_or_ge t 512 with g|g
   ·exact g
   ·unfold Hn.aQ at e
    rw[List.getD_eq_getElem?_getD,List.getElem?_eq_none (by rw[H.W.I.h.len];exact g)]at e
    change(0:Int)=b at e;omega
 refine⟨⟨by show x.rows.flatten=[];rw[H.rows];rfl,H.pe⟩,hc,H.aZ,fun i hi=>B.head _ (hF i hi),fun b hd hh=> ?_,fun i hi=>⟨?_,?_⟩,fun i hi=> ?_,fun i hi=> ?_,fun i hi _=>⟨?_,?_,?_⟩,fun i hi h=>h.elim,fun i hi h=>h.elim⟩
 ·change Ob.head x.S b=some hd at hh
  obtain⟨o,ho,rfl⟩:=B.obj.mp (show Mk.obj x.S b by unfold Mk.obj;rw[hh];rfl)
  rw[B.head o ho]at hh
  injection hh with hh
  subst hh
  obtain⟨i,hi,hm⟩:=List.mem_flatMap.mp ho
  have hi:=List.mem_range.mp hi
  simp only[List.mem_cons,List.not_mem_nil,or_false]at hm
  rcases hm with rfl|rfl
  ·exact .inl rfl
  ·exact .inr ⟨rfl,i,hi,rfl⟩
 ·exact(hroots _ (B.pos (hF i hi))).mpr ⟨i,hi,.inl rfl⟩
 ·rw[hroots _ (B.pos (hA i hi))]
  constructor
  ·rintro⟨j,hj,e|⟨e,g⟩⟩
   ·have:=B.inj (hA i hi) (hF j hj) e
    have:=congrArg (fun o:fT=>o.h.k) this
    change(3:Int)=4 at this;omega
   ·have:=B.inj (hA i hi) (hA j hj) e
    have:=congrArg (fun o:fT=>o.h.n) this
    change 1+(i:Int)=1+(j:Int)at this
    rw[show i=j by omega];exact g
  ·exact fun g=>⟨i,hi,.inr ⟨rfl,g⟩⟩
 ·show(Ob.get x.S (lf l i) 4).1=_
  rw[show Ob.get x.S (lf l i) 4=_ from hge i hi 4 (by decide)];rfl
 ·show(Ob.get x.S (lf l i) 3).1=_
  rw[show Ob.get x.S (lf l i) 3=_ from hge i hi 3 (by decide)];rfl
 ·show(Ob.get x.S (lf l i) 0).1=_
  rw[show Ob.get x.S (lf l i) 0=_ from hge i hi 0 (by decide)];rfl
 ·exact B.obj.mpr ⟨_,hA i hi,rfl⟩
 ·show(Ob.get x.S (lf l i) 1).1=_
  rw[show Ob.get x.S (lf l i) 1=_ from hge i hi 1 (by decide)];rfl
end Polls
theorem vA(i:Pl)(q:Nat)(x:Rt){N:Int}(H:Fr.W x N)(k a b c:Int)(hN:N+10<2^49)(ha:a<9223372036854775808):tD ρ i q k a b c x fun y=>Rx.BH x k a b c y∧Fr.W y.2 (N+10):=
 Spec.post (EX i q x H.I k a b c hN ha) fun r M ⟨z,⟨h1,h2⟩,e⟩=>⟨z,⟨h1,h2,Rx.DG H.D H.I hN h1,Rx.Ea H.A H.I ha h1⟩,e⟩
namespace Polls
theorem Fm:Bx (Sp.bB 30) [] 30 []:=by
 have h:=lL (n:=30) (by omega) (by omega)
 refine⟨h,⟨1,Bi.new (by omega),by simp⟩,by kernel_rfl,?_,by simp,by simp,by simp⟩
 rw[yY (by omega) (by omega)];exact .refl _
theorem FB(t:Nat):Hn.aQ (List.replicate 512 (0,0)) t=(0,0):=by
 unfold Hn.aQ
 rw[List.getD_eq_getElem?_getD,List.getElem?_replicate]
 split<;>rfl
theorem j0(ks:List Int)(h:Int){x:Rt}(hx:x={Rt.new 30 0 2 with rows:=[[]]}){N:Int}(H:Fr.W x N):J ks h [] x N:=by
 subst hx
 refine⟨H,rfl,rfl,rfl,rfl,rfl,rfl,rfl,Fm,fun t _=>by show(Hn.aQ (List.replicate 512 (0,0)) t).2=0;rw[FB],fun b hb=>⟨?_,?_⟩⟩
 ·rintro⟨t,e⟩
  change(Hn.aQ (List.replicate 512 (0,0)) t).2=b at e
  rw[FB]at e
  change(0:Int)=b at e;omega
 ·rintro⟨i,hi,_⟩
  exact absurd hi (Nat.not_lt_zero i)
def go(h:Int)(m:Nat):List Int:=((List.range m).filter (ga h)).map fun(i:Nat)=>(i:Int)+1
def ke(h:Int)(m:Nat):List Int:=((List.range m).filter fun i=> !ga h i).map fun(i:Nat)=>(i:Int)+1
theorem go_succ(h:Int)(m:Nat):go h (m+1)=go h m++if ga h m=true then[(m:Int)+1]else[]:=by
 unfold go
 rw[List.range_succ,List.filter_append,List.map_append]
 congr 1
 cases g:ga h m<;>simp[g]
theorem Cd(h:Int)(m:Nat):ke h (m+1)=ke h m++if ga h m=true then[]else[(m:Int)+1]:=by
 unfold ke
 rw[List.range_succ,List.filter_append,List.map_append]
 congr 1
 cases g:ga h m<;>simp[g]
theorem Aa{h:Int}{m:Nat}{s:Int}:s∈go h m↔∃i,i<m∧ga h i=true∧s=(i:Int)+1:=by
 unfold go
 rw[List.mem_map]
 constructor
 ·rintro⟨i,hi,rfl⟩
  obtain⟨h1,h2⟩:=List.mem_filter.mp hi
  exact⟨i,List.mem_range.mp h1,h2,rfl⟩
 ·rintro⟨i,h1,h2,rfl⟩
  exact⟨i,List.mem_filter.mpr ⟨List.mem_range.mpr h1,h2⟩,rfl⟩
theorem Dl{h:Int}{m:Nat}{s:Int}(hs:s∈ke h m):s∉go h m:=fun hg=>by
 obtain⟨i,_,h2,rfl⟩:=Aa.mp hg
 unfold ke at hs
 obtain⟨j,hj,e⟩:=List.mem_map.mp hs
 have:=(List.mem_filter.mp hj).2
 rw[show j=i by omega,h2]at this
 cases this
theorem ED(h:Int)(m:Nat):(go h m).Nodup:=by
 unfold go
 exact il (List.nodup_range.filter _) fun a _ b _ e=>by omega
theorem yG(h:Int)(m:Nat):(go h m).length≤m:=by
 unfold go
 rw[List.length_map]
 exact Nat.le_trans (List.length_filter_le ..) (by simp)
theorem zC(h:Int)(m:Nat):(ke h m).length≤m:=by
 unfold ke
 rw[List.length_map]
 exact Nat.le_trans (List.length_filter_le ..) (by simp)
end Polls
theorem xn{M:List aA}{s:ay}{xs:List Int}{i:Int}{f:Int→Tree}(hr:eX ρ s 1 (xs.map fun x=> .int .u8 x))(h0:0≤i)(h1:i<xs.length)(h:Tr ρ0 ρ L (f (xs.getD i.toNat 0)) Post):
  Tr ρ0 ρ L (ix s.a s.n i 1 fun a=>bm (Sat ρ M) (.l (.int .u8)) a f) Post:=by
 have hn:=hr.len8
 refine bJ hr h0 (by omega) fun a0 ha=> ?_
 obtain⟨h1,hr|⟨b,off,cs,ty,fr,g1,g2,g3⟩⟩:=hr
 ·omega
 ·rw[ha]at g1
  injection g1 with g1
  exact rV (k:= .int .u8) (x:=xs.getD i.toNat 0) (by rw[g1,af,Nat.mul_one]) g2 (by rw[g3 i.toNat (by simp;omega)];exact z8 (by omega)) h
theorem qv(z:ay)(ks:List Int)(h r:Int)(hh:0≤h∧h<256)(hr:0≤r∧r<256)(ro:eX ρ z 1 (ks.map fun x=> .int .u8 x))(hb:∀x∈ks,(Lit.int .u8 x).wf=true)(hl:ks.length<2^63):
  Gl.Spec ρ Tryz.prog 7 [.slice z.a z.n z.c,.int .u8 h,.int .u8 r] [] RB fun r M=>r=true∧M=[]:=by
 refine Gl.Spec.of (fun Q w hh=>F.bL.eH.calls z h r hh) fun R=> ?_
 unfold F.bL.eH
 have hsn:z.n=ks.length:=by have:=ro.1;simpa using this.symm
 rw[wrap64 (n:=r) (by omega) (by omega),wrap64 (n:=1+r) (by omega) (by omega)]
 refine ae (D5 30 0 2 (by decide)) .nil ?_
 rintro _ _ ⟨i,q,rfl,rfl⟩
 have W0:Fr.W (Rt.new 30 0 2) 0:=Fr.C9 (by decide) (by decide)
 have er:Rx.jI (Rt.new 30 0 2)=((0,0),{Rt.new 30 0 2 with rows:=[[]]}):=rfl
 rw[xb]
 try simp only[aq,al]
 refine ae (uf i q (Rt.new 30 0 2)) ag ?_
 rintro x' M ⟨rfl,rfl⟩
 try simp only[aq,al]
 refine ak rfl ?_
 iterate 1
  refine ae (sf _) .nil ?_
  rintro x' M ⟨rfl,rfl⟩
  try simp only[aq,al]
 refine ak rfl ?_
 refine ae (vA i q _ W0 15 0 0 0 (by decide) (by decide)) ag ?_
 rintro _ _ ⟨y,⟨hy,W1⟩,rfl,rfl⟩
 obtain rfl:y=((0,0),{Rt.new 30 0 2 with rows:=[[]]}):=hy
 dsimp only at W1⊢
 have J0:=Polls.j0 ks h rfl W1
 generalize({Rt.new 30 0 2 with rows:=[[]]}:Rt)=x0 at*
 try simp only[aq,al]
 refine ax fun b5=> ?_
 refine aL (b:=b5) (off:=0) rfl tk (by simp) rfl ?_
 refine od (I:=fun u M=>∃(m:Nat) (l:List (Int×Int)) (sk sg:ay) (x:Rt) (N:Int),u=(sk,sg,())∧m≤12∧l.length=m∧Polls.J ks h l x N∧N<2^30∧sk.n=(Polls.ke h m).length∧sg.n=(Polls.go h m).length∧M.Perm (aE sk 1 ((Polls.ke h m).map i64)::aE sg 1 ((Polls.go h m).map i64)::aw b5 [i64 0,i64 0]::i.Q q x++R)) ?_ fun J HJ0=> ?_
 ·rintro _ M ⟨m,l,sk,sg,x,N,rfl,hm,hlm,HJ,hN,hk,hg,hp⟩
  refine Tr.perm hp ?_
  have hge:Rx.tick x (1+r)=((0,0),{x with ck:=1+r}):=by
   unfold Rx.tick
   rw[if_neg (by omega),show Sf.later x.ck (1+r)=1+r by rw[HJ.ck];unfold Sf.later Sf.none;split<;>omega]
  refine ae (vA i q x HJ.W 20 (1+r) 0 0 (by omega) (by omega)) ag ?_
  rintro _ _ ⟨y,⟨hy,W2⟩,rfl,rfl⟩
  have hy:y=Rx.tick x (1+r):=hy
  rw[hge]at hy
  subst hy
  have HK:=HJ.FO (c:=1+r) (by omega)
  dsimp only at W2⊢
  generalize({x with ck:=1+r}:Rt)=x2 at*
  try simp only[aq,al]
  refine ah ?_
  refine ai (k:= .ptr) (b:=q) (off:=0) (x:=some ⟨i.p,0,none⟩) (by rw[af]) tk rfl ?_
  refine ae (Fr.settle i x2 W2 4 (by decide) (by omega)) ag ?_
  rintro t _ ⟨y,o,ll,h4,hll,hz,ht,rfl⟩
  obtain⟨nd,hmem⟩:=Polls.four HK W2 (by omega) h4
  have hol:=h4.len
  have hmem':∀s,s∈o.flatten↔s∈Polls.go h m:=fun s=>by rw[hmem,hlm,Polls.Aa]
  have hlen:o.flatten.length=(Polls.go h m).length:=((List.perm_ext_iff_of_nodup nd (Polls.ED h m)).mpr hmem').length_eq
  have hgl:=Polls.yG h m
  have hkl:=Polls.zC h m
  have hlll:ll.length=4:=by have:=congrArg List.length hll;rw[List.length_map,hol]at this;exact this
  try simp only[aq,al]
  refine Tr.kF ll tk fun ρ1 hle1 rol=> ?_
  refine Tr.cX (s:=t) (m:=1) (xs:=ll.map jF) tk fun ρ2 hle2 Ez=> ?_
  refine Tr.cq 1 ?_
  have hfin:∀j,((o.take j).flatten).length≤m:=fun j=>by
   have:(o.take j).flatten.length≤o.flatten.length:=by
    conv=>rhs;rw[←List.take_append_drop j o,List.flatten_append,List.length_append]
    omega
   omega
  refine Tr.perm (aI.perm (M:=aE ⟨none,0,0⟩ 1 (((o.take 0).flatten).map i64)::aE sk 1 ((Polls.ke h m).map i64)::aE sg 1 ((Polls.go h m).map i64)::aw b5 [i64 0,i64 0]::i.Q q y) ag) ?_
  refine aP (I:=fun n u M=>∃(j:Nat) (s:ay),j≤4∧n=4-j∧u=(s,(j:Int),())∧s.n=(o.take j).flatten.length∧M=aE s 1 (((o.take j).flatten).map i64)::aE sk 1 ((Polls.ke h m).map i64)::aE sg 1 ((Polls.go h m).map i64)::aw b5 [i64 0,i64 0]::(i.Q q y++R)) 4 ⟨0,_,by decide,rfl,rfl,rfl,rfl⟩ ?_
  rintro n _ _ ⟨j,s,hj,rfl,rfl,hs,rfl⟩ X hX
  dsimp only
  rw[ht]
  refine aj (fun e1=> ?_) (fun e1=> ?_)
  ·have e1:(j:Int)<(4:Nat):=of_decide_eq_true e1
   have hj4:j<4:=by omega
   have hjl:j<ll.length:=by omega
   rw[←ht]
   refine bJ Ez (by omega) (by omega) fun a0 ha=> ?_
   refine bZ (j:=j) (x:=(ll.getD j (⟨none,0,0⟩,[])).1) ha Ez (by rintro b o rfl;rw[af];simp) (mA hjl) ?_
   have hm:ll.getD j (⟨none,0,0⟩,[])∈ll:=by rw[List.getD_eq_getElem?_getD,List.getElem?_eq_getElem hjl];exact List.getElem_mem _
   have ro1:=(rol _ hm).le hle2
   have hjo:j<o.length:=by omega
   have ex:o[j]=(ll.getD j (⟨none,0,0⟩,[])).2:=by
    have:o[j]? =some (ll.getD j (⟨none,0,0⟩,[])).2:=by rw[←hll,List.getElem?_map,List.getD_eq_getElem?_getD,List.getElem?_eq_getElem hjl];rfl
    rw[List.getElem?_eq_getElem hjo]at this
    injection this
   generalize ll.getD j (⟨none,0,0⟩,[])=w at*
   have e2:=Fr.nD hjo
   have hf:=hfin (j+1)
   rw[e2,List.length_append,ex]at hf
   refine jA (xs:=(o.take j).flatten) (ys:=w.2) ca tk (Rd.ro ro1) (by omega) fun v hv=> ?_
   rw[wrap64 (n:=(j:Int)+1) (by omega) (by omega),←ex,←e2]
   refine hX (4-(j+1)) _ _ (by omega) ⟨j+1,v,by omega,rfl,rfl,by rw[hv,e2,List.length_append,ex],rfl⟩
  have e1:¬(j:Int)<(4:Nat):=of_decide_eq_false e1
  obtain rfl:j=4:=by omega
  rw[List.take_of_length_le (show o.length≤4 by omega)]at hs⊢
  clear hX X
  refine ak (by rw[hs,hg,hlen];simp) ?_
  refine aP (I:=fun n u M=>∃j:Nat,j≤(Polls.go h m).length∧n=(Polls.go h m).length-j∧u=((j:Int),())∧M=aE s 1 (o.flatten.map i64)::aE sk 1 ((Polls.ke h m).map i64)::aE sg 1 ((Polls.go h m).map i64)::aw b5 [i64 0,i64 0]::(i.Q q y++R)) (Polls.go h m).length ⟨0,by omega,rfl,rfl,rfl⟩ ?_
  rintro n _ _ ⟨j,hj,rfl,rfl,rfl⟩ X hX
  dsimp only
  refine aj (fun e1=> ?_) (fun e1=> ?_)
  ·have e1:(j:Int)<(sg.n:Nat):=of_decide_eq_true e1
   have hj':j<(Polls.go h m).length:=by omega
   refine dY (s:=sg) (xs:=Polls.go h m) tk (by omega) (by omega) ?_
   rw[Int.toNat_natCast]
   have hin:(Polls.go h m).getD j 0∈o.flatten:=(hmem' _).mpr (by rw[List.getD_eq_getElem?_getD,List.getElem?_eq_getElem hj'];exact List.getElem_mem _)
   generalize(Polls.go h m).getD j 0=v at*
   refine ae (wB s o.flatten (by omega) v) ag ?_
   rintro _ _ ⟨rfl,rfl⟩
   refine ak (by rw[decide_eq_true hin];rfl) ?_
   rw[wrap64 (n:=(j:Int)+1) (by omega) (by omega)]
   refine hX ((Polls.go h m).length-(j+1)) _ _ (by omega) ⟨j+1,by omega,rfl,rfl,rfl⟩
  clear hX X
  refine aP (I:=fun n u M=>∃j:Nat,j≤(Polls.ke h m).length∧n=(Polls.ke h m).length-j∧u=((j:Int),())∧M=aE s 1 (o.flatten.map i64)::aE sk 1 ((Polls.ke h m).map i64)::aE sg 1 ((Polls.go h m).map i64)::aw b5 [i64 0,i64 0]::(i.Q q y++R)) (Polls.ke h m).length ⟨0,by omega,rfl,rfl,rfl⟩ ?_
  rintro n _ _ ⟨j',hj',rfl,rfl,rfl⟩ X hX
  dsimp only
  refine aj (fun e1=> ?_) (fun e1=> ?_)
  ·have e1:(j':Int)<(sk.n:Nat):=of_decide_eq_true e1
   have hj2:j'<(Polls.ke h m).length:=by omega
   refine dY (s:=sk) (xs:=Polls.ke h m) tk (by omega) (by omega) ?_
   rw[Int.toNat_natCast]
   have hin:(Polls.ke h m).getD j' 0∉o.flatten:=fun q=>Polls.Dl (s:=(Polls.ke h m).getD j' 0) (by rw[List.getD_eq_getElem?_getD,List.getElem?_eq_getElem hj2];exact List.getElem_mem _) ((hmem' _).mp q)
   generalize(Polls.ke h m).getD j' 0=v at*
   refine ae (wB s o.flatten (by omega) v) ag ?_
   rintro _ _ ⟨rfl,rfl⟩
   refine ak (decide_eq_false hin) ?_
   rw[wrap64 (n:=(j':Int)+1) (by omega) (by omega)]
   refine hX ((Polls.ke h m).length-(j'+1)) _ _ (by omega) ⟨j'+1,by omega,rfl,rfl,rfl⟩
  refine ae (tf) ag ?_
  rintro x' M ⟨rfl,rfl⟩
  try simp only[aq,al]
  exact aa (x:=true) rfl ⟨rfl,rfl⟩ ag aB
 refine Tr.cq 1 (Tr.cq 1 ?_)
 refine Tr.perm (aI.perm (M:=aE ⟨none,0,0⟩ 1 ((Polls.ke h 0).map i64)::aE ⟨none,0,0⟩ 1 ((Polls.go h 0).map i64)::aw b5 [i64 0,i64 0]::i.Q q x0) ag) ?_
 refine aP (I:=fun n u M=>∃(m:Nat) (l:List (Int×Int)) (sk sg:ay) (x:Rt),u=(sk,sg,(m:Int),())∧n=12-m∧m≤12∧m≤ks.length∧l.length=m∧Polls.J ks h l x (0+10+40*m)∧sk.n=(Polls.ke h m).length∧sg.n=(Polls.go h m).length∧
  M=aE sk 1 ((Polls.ke h m).map i64)::aE sg 1 ((Polls.go h m).map i64)::aw b5 [i64 0,i64 0]::(i.Q q x++R)) 12 ⟨0,[],_,_,x0,rfl,rfl,by decide,by omega,rfl,by simpa using J0,rfl,rfl,rfl⟩ ?_
 rintro n _ _ ⟨m,l,sk,sg,x,rfl,rfl,hm12,hmk,hlm,HJ,hk,hg,rfl⟩ X hX
 dsimp only
 have out:∀{LL},LL.Perm (aE sk 1 ((Polls.ke h m).map i64)::aE sg 1 ((Polls.go h m).map i64)::aw b5 [i64 0,i64 0]::(i.Q q x++R))→Tr ρ ρ LL (J (sk,sg,())) (SP RB (fun r M=>r=true∧M=[]) R):=fun hp=>HJ0 _ _ ⟨m,l,sk,sg,x,_,rfl,hm12,hlm,HJ,by omega,hk,hg,hp⟩
 refine aj (fun e1=> ?_) (fun e1=>out (.refl _))
 refine aj (fun e2=> ?_) (fun e2=>out (.refl _))
 have e1:(m:Int)<(z.n:Nat):=of_decide_eq_true e1
 have e2:(m:Int)<12:=of_decide_eq_true e2
 subst hlm
 have hall:=El hb
 have hv:=Ci hall l.length
 rw[wrap64 (n:=1+(l.length:Int)) (by omega) (by omega),wrap64 (n:=(l.length:Int)+1) (by omega) (by omega)]
 refine ae (vA i q x HJ.W 4 (1+(l.length:Int)) 0 0 (by omega) (by omega)) ag ?_
 rintro _ _ ⟨y,⟨hy,W1⟩,rfl,rfl⟩
 obtain⟨o,j,S1,rfl,ho,hj,hf,b1⟩:=Polls.data HJ (by omega) hy
 dsimp only at W1⊢
 obtain⟨x1,hx1⟩:∃x1:Rt,x1={x with S:=S1,hs:=Hn.du x.hs o}:=⟨_,rfl⟩
 rw[←hx1]at W1⊢
 try simp only[aq,al]
 refine ax fun b22=> ?_
 refine aL (b:=b22) (off:=0) rfl tk (by simp) rfl ?_
 have hk3:1≤Polls.ka ks l.length∧Polls.ka ks l.length≤3:=by show 1≤1+_∧1+_≤_;omega
 have hj5:j<512:=by have:=(Hn.eE hf).1;rw[HJ.W.I.h.len]at this;exact this
 refine od (I:=fun u M=>∃(bf:Nat) (fo hf2:Int) (j2:Nat) (x2:Rt),u=(⟨bf,0,none⟩,())∧0<fo∧j2≤2*l.length+1∧j≠j2∧(Hn.aQ x.hs j2).2=0∧(∀t,Hn.aQ x2.hs t=if t=j then((Hn.aQ x.hs j).1,o)else if t=j2 then((Hn.aQ x.hs j2).1,fo)else Hn.aQ x.hs t)∧
  Bx x2.S [] 30 ((Polls.os ks l++[⟨o,⟨3,0,1+(l.length:Int),false⟩,List.replicate (1+l.length) 0⟩])++[Polls.oF ks l.length o fo])∧Fr.W x2 (0+10+40*(l.length:Int)+10+10)∧(x2.rows=x.rows∧x2.pe=x.pe∧x2.ck=x.ck∧x2.aZ=x.aZ∧x2.ro=x.ro∧x2.aU=x.aU+1∧x2.cs=x.cs)∧
  M.Perm (aw bf [i64 0,i64 hf2]::aw b22 [i64 0,i64 (Hn.told x.hs j)]::aE sk 1 ((Polls.ke h l.length).map i64)::aE sg 1 ((Polls.go h l.length).map i64)::aw b5 [i64 0,i64 0]::i.Q q x2++R)) ?_ fun J1 HJ1=> ?_
 ·rintro _ M ⟨bf,fo,hf2,j2,x2,rfl,hfo,hj2,hne,z2,h2,b2,W2,hfs,hp⟩
  refine Tr.perm hp ?_
  dsimp only
  have hok:=W2.I.h.ok (show 0+10+40*(l.length:Int)+10+10<2^50 by omega)
  have hz1:(Hn.aQ x.hs j).2=0:=(Hn.eE hf).2.1
  refine aK (aR [aw b5 [i64 0,i64 0],aw b22 [i64 0,i64 (Hn.told x.hs j)],aw bf [i64 0,i64 hf2]] ag ?_)
  refine ar (k:= .int .i64) (b:=b5) (off:=0) (x:=0) (by rw[af]) tk rfl ?_
  refine ar (k:= .int .i64) (b:=b22) (off:=0) (x:=0) (by rw[af]) tk rfl ?_
  refine ar (k:= .int .i64) (b:=bf) (off:=0) (x:=0) (by rw[af]) tk rfl ?_
  refine sH (aN ag (sH (aN ag (sH ?_))))
  refine ak (by kernel_rfl) ?_
  refine Tr.drop (A:=aw bf _) tk ?_
  have tail:∀{LL:List aA} {x3:Rt} {N3:Int},Fr.W x3 N3→N3≤0+10+40*(l.length:Int)+10+10+10→x3.hs=x2.hs→(x3.rows=x.rows∧x3.pe=x.pe∧x3.ck=x.ck∧x3.aZ=x.aZ∧x3.ro=x.ro∧x3.aU=x.aU+1∧x3.cs=x.cs)→Bx x3.S [] 30 ((Polls.os ks l++[Polls.oA ks l.length o])++[Polls.oF ks l.length o fo])→
    LL.Perm (aw b22 [i64 0,i64 (Hn.told x.hs j)]::aE sk 1 ((Polls.ke h l.length).map i64)::aE sg 1 ((Polls.go h l.length).map i64)::aw b5 [i64 0,i64 0]::i.Q q x3++R)→
    Tr ρ ρ LL (bQ ((8:Int)≠0)<|bQ ((0:Int)≤(Int.tmod (l.length:Int) 8))<|
     br ((dv .and .u8 (Int.fdiv h (2^(min ((Int.tmod (l.length:Int) 8):Int).toNat (IntKind.bits .u8)))) 1:Int)==0)
      (nw 3 [.int .i64 ((l.length:Int)+1)] fun b37=>
      c9 Tryz.prog (Builtin.append_ #[46,46] 46 #[.slice sg.a sg.n sg.c,.slice (some ⟨b37,0,none⟩) 1 1]) (.one (.l .slice)) fun(r38:ay)=>
      ld (.l (.int .i64)) (fa (⟨b22,0,none⟩) 1) fun(x39:Int)=>
      call Tryz.prog 16 [.pointer (some ⟨q,0,none⟩),.agg #[.int .i64 8,.int .i64 x39,.int .i64 0,.int .i64 0]] (.one (.g [.int .i64,.int .i64])) fun(r40:LTs _)=>
      X (⟨sk.a,sk.n,sk.c⟩,⟨r38.a,r38.n,r38.c⟩,(l.length:Int)+1,()))
      (nw 3 [.int .i64 ((l.length:Int)+1)] fun b37=>
      c9 Tryz.prog (Builtin.append_ #[46,46] 46 #[.slice sk.a sk.n sk.c,.slice (some ⟨b37,0,none⟩) 1 1]) (.one (.l .slice)) fun(r38:ay)=>
      X (⟨r38.a,r38.n,r38.c⟩,⟨sg.a,sg.n,sg.c⟩,(l.length:Int)+1,()))) (SP RB (fun r M=>r=true∧M=[]) R):=fun{LL x3 N3} W3 hN3 hs3 hf3 b3 hp=>by
   refine Tr.perm hp ?_
   have h3:∀t,Hn.aQ x3.hs t=if t=j then((Hn.aQ x.hs j).1,o)else if t=j2 then((Hn.aQ x.hs j2).1,fo)else Hn.aQ x.hs t:=by rw[hs3];exact h2
   obtain⟨f1,f2,f3,f4,f5,f6,f7⟩:=hf3
   refine bu (by decide) (bu (by rw[Int.tmod_eq_emod_of_nonneg (by omega)];omega) ?_)
   have hgl:=Polls.yG h l.length
   have hkl:=Polls.zC h l.length
   have hgs:=Polls.go_succ h l.length
   have hks:=Polls.Cd h l.length
   refine aj (fun eg=> ?_) (fun eg=> ?_)
   ·have eg:Polls.ga h l.length=true:=eg
    rw[if_pos eg]at hgs hks
    refine ax fun b37=> ?_
    refine df (s:=sg) (x:=⟨some ⟨b37,0,none⟩,1,1⟩) (ys:=[i64 ((l.length:Int)+1)]) ca tk (Rd.cl tk rfl rfl) rfl (by rw[hg];dsimp only;omega) (by rw[hg];dsimp only;omega) fun v hv'=> ?_
    refine Tr.drop (A:=aw b37 _) tk ?_
    refine ai (k:= .int .i64) (b:=b22) (off:=1) (x:=(Hn.told x.hs j)) (by rw[af]) tk rfl ?_
    have ht:Hn.told x3.hs j=Hn.told x.hs j:=by unfold Hn.told;rw[h3,if_pos rfl]
    obtain⟨d1,d2⟩:=Hn.BQ (hs:=x3.hs) (by rw[hs3];exact hok) hj5 (by rw[h3,if_pos rfl];exact Int.ne_of_gt ho)
    rw[ht]at d1 d2
    refine ae (vA i q x3 W3 8 (Hn.told x.hs j) 0 0 (by omega) (by
     have:=(Hn.rZ (hs:=x3.hs) (by rw[hs3];exact hok) hj5).2.1
     rw[ht]at this;omega)) ag ?_
    rintro _ _ ⟨y,⟨hy,W4⟩,rfl,rfl⟩
    have hy:y=Rx.drop x3 (Hn.told x.hs j):=hy
    unfold Rx.drop at hy
    rw[d1]at hy
    subst hy
    dsimp only at W4⊢
    have J4:=HJ.next hj hj2 hne hz1 z2 W4 f1 f2 f3 f4 f5 f6 f7 b3 ho hfo (fun t=>by
     show(Hn.aQ (Hn.gG x3.hs (Hn.told x.hs j)) t).2=_
     by_cases g:t=j
     ·rw[d2,if_pos g,if_pos g,if_pos eg]
     ·rw[d2,if_neg g,if_neg g,h3,if_neg g]
      by_cases g2:t=j2
      ·rw[if_pos g2,if_pos g2]
      ·rw[if_neg g2,if_neg g2])
    generalize({x3 with hs:=Hn.gG x3.hs (Hn.told x.hs j)}:Rt)=x4 at*
    refine Tr.drop (A:=aw b22 _) tk ?_
    have e9:(Polls.go h l.length).map i64++[i64 ((l.length:Int)+1)]=(Polls.go h (l.length+1)).map i64:=by rw[hgs,List.map_append];rfl
    rw[e9]
    have e8:Polls.ke h l.length=Polls.ke h (l.length+1):=by rw[hks,List.append_nil]
    rw[e8]
    refine Tr.perm (aI.perm (M:=aE sk 1 ((Polls.ke h (l.length+1)).map i64)::aE v 1 ((Polls.go h (l.length+1)).map i64)::aw b5 [i64 0,i64 0]::i.Q q x4) ag) ?_
    refine hX (12-(l.length+1)) _ _ (by omega) ⟨l.length+1,l++[(o,fo)],sk,v,x4,rfl,rfl,by omega,by omega,by rw[List.length_append];rfl,⟨⟨J4.W.I.le (by omega),J4.W.D,J4.W.A⟩,J4.rows,J4.pe,J4.ck,J4.aZ,J4.ro,J4.aU,J4.cs,J4.B,J4.sm,J4.hh⟩,by rw[←e8];exact hk,by rw[hv',hg,hgs,List.length_append];rfl,rfl⟩
   ·have eg:Polls.ga h l.length=false:=eg
    rw[if_neg (by rw[eg];decide)]at hgs hks
    refine ax fun b37=> ?_
    refine df (s:=sk) (x:=⟨some ⟨b37,0,none⟩,1,1⟩) (ys:=[i64 ((l.length:Int)+1)]) ca tk (Rd.cl tk rfl rfl) rfl (by rw[hk];dsimp only;omega) (by rw[hk];dsimp only;omega) fun v hv'=> ?_
    refine Tr.drop (A:=aw b37 _) tk ?_
    have J4:=HJ.next hj hj2 hne hz1 z2 W3 f1 f2 f3 f4 f5 f6 f7 b3 ho hfo (fun t=>by
     by_cases g:t=j
     ·rw[h3,if_pos g,if_pos g,if_neg (by rw[eg];decide)]
     ·rw[h3,if_neg g,if_neg g]
      by_cases g2:t=j2
      ·rw[if_pos g2,if_pos g2]
      ·rw[if_neg g2,if_neg g2])
    refine Tr.drop (A:=aw b22 _) tk ?_
    have e9:(Polls.ke h l.length).map i64++[i64 ((l.length:Int)+1)]=(Polls.ke h (l.length+1)).map i64:=by rw[hks,List.map_append];rfl
    rw[e9]
    have e8:Polls.go h l.length=Polls.go h (l.length+1):=by rw[hgs,List.append_nil]
    rw[e8]
    refine Tr.perm (aI.perm (M:=aE v 1 ((Polls.ke h (l.length+1)).map i64)::aE sg 1 ((Polls.go h (l.length+1)).map i64)::aw b5 [i64 0,i64 0]::i.Q q x3) ag) ?_
    refine hX (12-(l.length+1)) _ _ (by omega) ⟨l.length+1,l++[(o,fo)],v,sg,x3,rfl,rfl,by omega,by omega,by rw[List.length_append];rfl,⟨⟨J4.W.I.le (by omega),J4.W.D,J4.W.A⟩,J4.rows,J4.pe,J4.ck,J4.aZ,J4.ro,J4.aU,J4.cs,J4.B,J4.sm,J4.hh⟩,by rw[hv',hk,hks,List.length_append];rfl,by rw[←e8];exact hg,rfl⟩
  refine zn ro (by omega) (by omega) ?_
  rw[Int.toNat_natCast]
  refine aj (fun ef=> ?_) (fun ef=> ?_)
  ·have ef:ks.getD l.length 0≥128:=of_decide_eq_true ef
   refine ai (k:= .int .i64) (b:=b22) (off:=1) (x:=(Hn.told x.hs j)) (by rw[af]) tk rfl ?_
   have ht:Hn.told x2.hs j=Hn.told x.hs j:=by unfold Hn.told;rw[h2,if_pos rfl]
   have hh:Hn.held x2.hs (Hn.told x.hs j)=(o,0):=by
    unfold Hn.held
    rw[←ht,Hn.nG hok hj5 (by rw[h2,if_pos rfl];exact Int.ne_of_gt ho)]
    dsimp only
    rw[h2,if_pos rfl]
   refine ae (vA i q x2 W2 17 (Hn.told x.hs j) 0 0 (by omega) (by
    have:=(Hn.rZ (hs:=x2.hs) hok hj5).2.1
    rw[ht]at this;omega)) ag ?_
   rintro _ _ ⟨y,⟨hy,W3⟩,rfl,rfl⟩
   obtain⟨g1,g2⟩:=Polls.final b2
   have hy:y=Rx.final x2 (Hn.told x.hs j):=hy
   unfold Rx.final at hy
   rw[Rx.EV hh,g1,if_pos rfl]at hy
   subst hy
   dsimp only at W3⊢
   try simp only[aq,al]
   refine sH (ak rfl ?_)
   have fe:Polls.Fb ks l.length=true:=decide_eq_true ef
   refine tail W3 (Int.le_refl _) rfl hfs ?_ (aI.perm ag)
   unfold Polls.oA
   rw[fe]
   exact g2
  ·have ef:¬ks.getD l.length 0≥128:=of_decide_eq_false ef
   have fe:Polls.Fb ks l.length=false:=decide_eq_false (by omega)
   refine tail W2 (by omega) rfl hfs ?_ (aI.perm ag)
   unfold Polls.oA
   rw[fe]
   exact b2
 refine aK (aR [aw b22 [i64 0,i64 (Hn.told x.hs j)],aw b5 [i64 0,i64 0]] ag ?_)
 refine xn ro (by omega) (by omega) ?_
 rw[Int.toNat_natCast]
 refine bu (by decide) ?_
 refine ar (k:= .int .i64) (b:=b22) (off:=1) (x:=Hn.told x.hs j) (by rw[af]) tk rfl ?_
 refine ar (k:= .int .i64) (b:=b5) (off:=1) (x:=0) (by rw[af]) tk rfl ?_
 rw[wrap64 (n:=ks.getD l.length 0) (by omega) (by omega),Int.tmod_eq_emod_of_nonneg hv.1,wrap64 (n:=1+ks.getD l.length 0%3) (by omega) (by omega)]
 have key:∀{y:bg},Rx.BH x1 11 (1+ks.getD l.length 0%3) (Hn.told x.hs j) 0 y→Fr.W y.2 (0+10+40*(l.length:Int)+10+10)→∃(fo:Int) (j2:Nat),y.1.2=0∧0<fo∧j2≤2*l.length+1∧j≠j2∧(Hn.aQ x.hs j2).2=0∧(∀t,Hn.aQ y.2.hs t=if t=j then((Hn.aQ x.hs j).1,o)else if t=j2 then((Hn.aQ x.hs j2).1,fo)else Hn.aQ x.hs t)∧
  Bx y.2.S [] 30 ((Polls.os ks l++[⟨o,⟨3,0,1+(l.length:Int),false⟩,List.replicate (1+l.length) 0⟩])++[Polls.oF ks l.length o fo])∧(y.2.rows=x.rows∧y.2.pe=x.pe∧y.2.ck=x.ck∧y.2.aZ=x.aZ∧y.2.ro=x.ro∧y.2.aU=x.aU+1∧y.2.cs=x.cs):=fun{y} hy _=>by
  obtain⟨fo,j2,S2,rfl,q1,q2,q3,q4,q5,q6⟩:=Polls.aY HJ (by omega) ho hj hf b1 hx1 W1.I.h (by omega) hk3 (k:=1+ks.getD l.length 0%3) hy
  exact⟨fo,j2,rfl,q1,q2,q3,q4,q5,q6,by rw[hx1];exact⟨rfl,rfl,rfl,rfl,rfl,rfl,rfl⟩⟩
 refine fb ?_ ?_
 ·refine ae (vA i q x1 W1 11 (1+ks.getD l.length 0%3) (Hn.told x.hs j) 0 (by omega) (by omega)) ag ?_
  rintro _ _ ⟨⟨⟨n,e⟩,x2⟩,⟨hy,W2⟩,rfl,rfl⟩
  obtain⟨fo,j2,rfl,q1,q2,q3,q4,q5,q6,q7⟩:=key hy W2
  try simp only[aq,al]
  refine ax fun bf=> ?_
  refine aL (b:=bf) (off:=0) rfl tk (by simp) rfl ?_
  exact HJ1 _ _ ⟨bf,fo,n,j2,x2,rfl,q1,q2,q3,q4,q5,q6,W2,q7,aI.perm ag⟩
 ·refine ax fun bf=>aN ag ?_
  refine ae (vA i q x1 W1 11 (1+ks.getD l.length 0%3) (Hn.told x.hs j) 0 (by omega) (by omega)) ag ?_
  rintro _ _ ⟨⟨⟨n,e⟩,x2⟩,⟨hy,W2⟩,rfl,rfl⟩
  obtain⟨fo,j2,rfl,q1,q2,q3,q4,q5,q6,q7⟩:=key hy W2
  try simp only[aq,al]
  refine aL (b:=bf) (off:=0) rfl tk (by simp) rfl ?_
  exact HJ1 _ _ ⟨bf,fo,n,j2,x2,rfl,q1,q2,q3,q4,q5,q6,W2,q7,aI.perm ag⟩
end Go.Proofs.YtfepdmpplahloaaGreat
