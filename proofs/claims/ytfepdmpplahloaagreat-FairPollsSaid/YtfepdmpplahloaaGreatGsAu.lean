/- What an audit asks for besides: links, referents of queues, words of blocks, stamps. -/
import Derived.Test.YtfepdmpplahloaaGreatGsDo
set_option linter.unusedSimpArgs false
set_option linter.unusedVariables false
namespace Go.Proofs.YtfepdmpplahloaaGreat
open Go Go.Gl
structure Ah(S:aD)(rows:List (List Int))(ck:Int):Prop where
 lz:∀a,Qu.ba S a=true→a∉rows.flatten→(Ob.get S a 2).1=0
 qz:∀a∈rows.flatten,(Ob.get S a 0).1=0
 bw:∀a hd,Ob.head S a=some hd→Sp.bj S a=Sp.aw (hd.n+1)
 st:∀a,Qu.ba S a=true→0≤(Ob.get S a 3).1∧(Ob.get S a 3).1≤ck
theorem fm{S S':aD}{a:Int}(h:Sp.find S' a=Sp.find S a):Sp.bj S' a=Sp.bj S a:=by unfold Sp.bj;rw[h]
theorem lZ(S:aD)(a i x b:Int):Sp.find (Ob.put S a i x).2 b=Sp.find S b:=by
 obtain⟨ws',e,hl⟩:=pG S a i x
 rw[e];exact eN hl b
namespace Ah
variable{S S':aD}{cs:List aS}{rows rows':List (List Int)}{ck:Int}
theorem put(hw:aO S cs)(H:Ah S rows ck){a i x:Int}(h2:i≠2∨x=0∨a∈rows.flatten∨Qu.ba S a=false)(h0:i≠0∨x=0∨a∉rows.flatten)(h3:i≠3∨(0≤x∧x≤ck)∨Qu.ba S a=false):Ah (Ob.put S a i x).2 rows ck:=by
 refine⟨fun b hb hn=> ?_,fun b hb=> ?_,fun b hd hh=> ?_,fun b hb=> ?_⟩
 ·rw[bI hw]at hb
  rw[bR hw hb (by decide) (by decide)]
  split
  ·rename_i g
   rcases h2 with h|h|h|h
   ·exact absurd g.2.symm h
   ·exact h
   ·exact absurd (g.1▸h) hn
   ·rw[g.1,h]at hb;cases hb
  ·exact H.lz b hb hn
 ·rcases hZ (Ob.put S a i x).2 b 0 with ⟨hd,hh,_,j1⟩|e
  ·rw[bb hw]at hh
   rw[fG hw hh (by decide) j1]
   split
   ·rename_i g
    rcases h0 with h|h|h
    ·exact absurd g.2.symm h
    ·exact h
    ·exact absurd (g.1▸hb) h
   ·exact H.qz b hb
  ·exact e
 ·rw[bb hw]at hh
  rw[fm (lZ S a i x b)]
  exact H.bw b hd hh
 ·rw[bI hw]at hb
  rw[bR hw hb (by decide) (by decide)]
  split
  ·rename_i g
   rcases h3 with h|h|h
   ·exact absurd g.2.symm h
   ·exact h
   ·rw[g.1,h]at hb;cases hb
  ·exact H.st b hb
theorem oM(H:Ah S rows ck)(h1:∀b,Qu.ba S b=true→b∉rows'.flatten→b∈rows.flatten→(Ob.get S b 2).1=0)(h2:∀b∈rows'.flatten,b∈rows.flatten∨(Ob.get S b 0).1=0):Ah S rows' ck:=
 ⟨fun b hb hn=>by
  rcases Decidable.em (b∈rows.flatten)with h|h
  ·exact h1 b hb hn h
  ·exact H.lz b hb h,fun b hb=>(h2 b hb).elim (H.qz b) id,H.bw,H.st⟩
theorem eJ(l:List Int):∀{S:aD},aO S cs→Ah S rows ck→Ah (Rf.eJ S l) rows ck:=by
 induction l with
 |nil=>exact fun _ h=>h
 |cons a l ih=>exact fun hw h=>ih (hw.put a 0 0) (h.put hw (.inl (by decide)) (.inr (.inl rfl)) (.inl (by decide)))
theorem clear(hw:aO S cs)(H:Ah S rows ck)(l:List Int):Ah (Rf.clear S l).2 rows ck:=by
 unfold Rf.clear
 split
 ·exact H.eJ l hw
 ·exact H
theorem push(hw:aO S cs)(H:Ah S rows ck){i a:Int}(h0:(Ob.get S a 0).1=0):Ah (Qu.bh S rows i a) (Qu.cE S rows i a) ck:=by
 unfold Qu.bh Qu.cE
 by_cases h:(Qu.has rows i&&Qu.ba S a)=true
 ·rw[if_pos h,if_pos h]
  rw[Bool.and_eq_true]at h
  obtain⟨i0,i1⟩:=ib h.1
  have he:Qu.row rows i=rows[i.toNat]:=by unfold Qu.row;rw[List.getD_eq_getElem?_getD,List.getElem?_eq_getElem i1];rfl
  have hp:=m8 a i1
  rw[he]
  have hw1:=hw.put a 2 0
  have H1:Ah (Ob.put S a 2 0).2 rows ck:=H.put hw (.inr (.inl rfl)) (.inl (by decide)) (.inl (by decide))
  have e0:(Ob.get (Ob.put S a 2 0).2 a 0).1=0:=by rw[bR hw h.2 (by decide) (by decide),if_neg (by simp)];exact h0
  by_cases hn:rows[i.toNat]=[]
  ·rw[if_pos hn]
   refine H1.oM (fun b _ hb hr=>absurd (hp.mem_iff.mpr (.tail _ hr)) hb) fun b hb=> ?_
   rcases List.mem_cons.mp (hp.mem_iff.mp hb)with rfl|hb
   ·exact .inr e0
   ·exact .inl hb
  ·rw[if_neg hn]
   have hlm:rows[i.toNat].getLastD 0∈rows.flatten:=gI i1 (kx hn)
   have H2:=H1.put hw1 (a:=rows[i.toNat].getLastD 0) (i:=2) (x:=a) (.inr (.inr (.inl hlm))) (.inl (by decide)) (.inl (by decide))
   refine H2.oM (fun b _ hb hr=>absurd (hp.mem_iff.mpr (.tail _ hr)) hb) fun b hb=> ?_
   rcases List.mem_cons.mp (hp.mem_iff.mp hb)with rfl|hb
   ·right
    rw[bR hw1 (by rw[bI hw];exact h.2) (by decide) (by decide),if_neg (by simp)];exact e0
   ·exact .inl hb
 ·rw[if_neg h,if_neg h];exact H
theorem ct(hw:aO S cs)(Q:QI S rows)(H:Ah S rows ck)(a:Int):Ah (Rf.ct S rows a).2.1 (Rf.ct S rows a).2.2 ck:=by
 have hw1:=hw.put a 0 0
 have H1:Ah (Ob.put S a 0 0).2 rows ck:=H.put hw (.inl (by decide)) (.inr (.inl rfl)) (.inl (by decide))
 unfold Rf.ct
 split
 ·rename_i hr
  have e0:(Ob.get (Ob.put S a 0 0).2 a 0).1=0:=by rw[bR hw hr (by decide) (by decide),if_pos ⟨rfl,rfl⟩]
  split
  ·exact H1
  ·have H2:=H1.push hw1 (i:=Rf.qn S a-1) e0
   split
   ·exact H2
   ·exact H2.put (jf hw1 _ _ _) (.inl (by decide)) (.inl (by decide)) (.inl (by decide))
 ·exact H
theorem bq:∀(l:List Int) {S:aD} {rows:List (List Int)},aO S cs→QI S rows→Ah S rows ck→Ah (Rf.bq S rows l).1 (Rf.bq S rows l).2 ck
 |[],_,_,_,_,h=>h
 |a::l,S,rows,hw,q,h=>bq l (S:=(Rf.ct S rows a).2.1) (rows:=(Rf.ct S rows a).2.2) (sj hw rows a) (q.ct hw a).1 (h.ct hw q a)
theorem eU(hw:aO S cs)(Q:QI S rows)(H:Ah S rows ck)(i:Int):Ah (Qu.cp S rows i) (Qu.dP rows i) ck:=by
 unfold Qu.cp Qu.dP
 by_cases hh:Qu.has rows i=true
 ·obtain⟨i0,i1⟩:=ib hh
  have he:Qu.row rows i=rows[i.toNat]:=by unfold Qu.row;rw[List.getD_eq_getElem?_getD,List.getElem?_eq_getElem i1];rfl
  rw[if_pos hh,he]
  cases hr:rows[i.toNat]with
  |nil=>
   rw[if_neg (fun g=>g.2 rfl)]
   have:rows.set i.toNat []=rows:=by rw[←hr];exact List.set_getElem_self i1
   show Ah S (rows.set i.toNat []) ck
   rw[this];exact H
  |cons b t=>
   rw[if_pos ⟨hh,by simp⟩]
   have hp:=nN i1 hr
   have hbm:b∈rows.flatten:=hp.mem_iff.mpr (.head _)
   have hbr:=(Q.qr b hbm).1
   have H1:Ah (Ob.put S b 2 0).2 rows ck:=H.put hw (.inr (.inl rfl)) (.inl (by decide)) (.inl (by decide))
   show Ah (Ob.put S b 2 0).2 (rows.set i.toNat t) ck
   refine H1.oM (fun c hc hn hm=> ?_) fun c hc=> .inl (hp.mem_iff.mpr (.tail _ hc))
   rcases List.mem_cons.mp (hp.mem_iff.mp hm)with rfl|hm
   ·rw[bR hw hbr (by decide) (by decide),if_pos ⟨rfl,rfl⟩]
   ·exact absurd hm hn
 ·rw[if_neg hh,if_neg (fun g=>hh g.1)];exact H
theorem aG(hw:aO S cs)(H:Ah S rows ck)(a:Int)(hc:0≤ck):Ah (Rf.aG S a ck).2 rows ck:=by
 unfold Rf.aG
 split
 ·exact H
 ·show Ah (if(Rf.str S a).1=1∧(Ob.get S a 0).1≠0 then(Ob.put S a 3 ck).2 else S) rows ck
  split
  ·exact H.put hw (.inl (by decide)) (.inl (by decide)) (.inr (.inl ⟨hc,Int.le_refl _⟩))
  ·exact H
theorem later(H:Ah S rows ck){ck':Int}(h:ck≤ck'):Ah S rows ck':=⟨H.lz,H.qz,H.bw,fun a ha=>by have:=H.st a ha;omega⟩
theorem zl(hw:aO S cs)(Q:QI S rows)(H:Ah S rows ck)(hc:0≤ck)(h:Hd):Ah (Ob.make S cs h).2.2 rows ck:=by
 by_cases h0:(Ob.make S cs h).2.1=0
 ·have hwm:=hw.make h
  obtain⟨n,k,e1,_,e3,e4,_,_,e7,e8,_⟩:=Ob.g9 hw h0
  have lT:∀{b:Int} {hd:Hd},b≠(Ob.make S cs h).1→Ob.head S b=some hd→∀j,0≤j→j<hd.n→Ob.get (Ob.make S cs h).2.2 b j=Ob.get S b j:=fun _ hh j j0 j1=>(Ob.bX hw h0 hh).2.2 j j0 j1
  have cases':∀b,Qu.ba (Ob.make S cs h).2.2 b=true→∀j,0≤j→j<5→(Ob.get (Ob.make S cs h).2.2 b j).1=0∨(Qu.ba S b=true∧Ob.get (Ob.make S cs h).2.2 b j=Ob.get S b j):=fun b hb j j0 j1=>by
   obtain⟨hd,hh,hk⟩:=aM hb
   have h5:=dm hwm hh hk
   rcases Wl.jb hw h0 hh with ⟨g1,g2⟩|⟨g1,g2⟩
   ·subst g2
    left;rw[g1,Ob.kX hw h0 j0 (by omega)]
   ·right;exact⟨by unfold Qu.ba;rw[g2];simpa using hk,lT g1 g2 j j0 (by omega)⟩
  refine⟨fun b hb hn=> ?_,fun b hb=> ?_,fun b hd hh=> ?_,fun b hb=> ?_⟩
  ·rcases cases' b hb 2 (by decide) (by decide)with e|⟨g1,g2⟩
   ·exact e
   ·rw[g2];exact H.lz b g1 hn
  ·have hr:=(Q.qr b hb).1
   obtain⟨hd,hh,hk⟩:=aM hr
   have h5:=dm hw hh hk
   rw[(Ob.bX hw h0 hh).2.2 0 (by decide) (by omega)];exact H.qz b hb
  ·rcases Wl.jb hw h0 hh with ⟨g1,g2⟩|⟨g1,g2⟩
   ·subst g2
    rw[g1,e1]
    unfold Sp.bj
    have hn:n≤n∧n<n+k:=by
     have:=Sp.bU (Ob.mQ hwm hh)
     have:=e3;have:=e4;omega
    rw[e7 n,if_pos hn,e3]
   ·have e:=H.bw b hd g2
    obtain⟨m,w,rfl,f1,_⟩:=Ob.bt hw g2
    have hne:¬(n≤m∧m<n+k):=fun g=>by
     have:=e8 m g.1 g.2
     rw[f1]at this;cases this
    rw[fm (show Sp.find (Ob.make S cs h).2.2 (m:Int)=Sp.find S m by rw[e7 m,if_neg hne])];exact e
  ·rcases cases' b hb 3 (by decide) (by decide)with e|⟨g1,g2⟩
   ·rw[e];exact⟨Int.le_refl _,hc⟩
   ·rw[g2];exact H.st b g1
 ·rw[(Wl.gH h0).1];exact H
theorem aY(hw:aO S cs)(Q:QI S rows)(H:Ah S rows ck)(hc:0≤ck)(n c o q:Int):Ah (Rf.aY S cs rows n c o q ck).2.2.1 rows ck:=by
 unfold Rf.aY
 split
 ·exact H
 ·split
  ·exact H.zl hw Q hc _
  ·rename_i h0
   have h0:(Ob.make S cs ⟨4,c,5,false⟩).2.1=0:=by simpa using h0
   have hw1:=hw.make (⟨4,c,5,false⟩:Hd)
   have h1:Ah (Ob.make S cs ⟨4,c,5,false⟩).2.2 rows ck:=H.zl hw Q hc _
   have ha:(Ob.make S cs ⟨4,c,5,false⟩).1∉rows.flatten:=fun g=>by
    obtain⟨hd,hh,_⟩:=aM (Q.qr _ g).1
    exact(Ob.bX hw h0 hh).2.1 rfl
   generalize(Ob.make S cs ⟨4,c,5,false⟩).2.2=T at*
   generalize(Ob.make S cs ⟨4,c,5,false⟩).1=a at*
   show Ah (Ob.put (Ob.put (Ob.put (Ob.put (Ob.put T a (0:Nat) o).2 a (1:Nat) (q+1)).2 a (2:Nat) 0).2 a (3:Nat) ck).2 a (4:Nat) (n+1)).2 rows ck
   have w1:=hw1.put a (0:Nat) o
   have w2:=w1.put a (1:Nat) (q+1)
   have w3:=w2.put a (2:Nat) 0
   have w4:=w3.put a (3:Nat) ck
   have g1:=h1.put hw1 (a:=a) (i:=(0:Nat)) (x:=o) (.inl (by decide)) (.inr (.inr ha)) (.inl (by decide))
   have g2:=g1.put w1 (a:=a) (i:=(1:Nat)) (x:=q+1) (.inl (by decide)) (.inl (by decide)) (.inl (by decide))
   have g3:=g2.put w2 (a:=a) (i:=(2:Nat)) (x:=0) (.inr (.inl rfl)) (.inl (by decide)) (.inl (by decide))
   have g4:=g3.put w3 (a:=a) (i:=(3:Nat)) (x:=ck) (.inl (by decide)) (.inl (by decide)) (.inr (.inl ⟨hc,Int.le_refl _⟩))
   exact g4.put w4 (a:=a) (i:=(4:Nat)) (x:=n+1) (.inl (by decide)) (.inl (by decide)) (.inl (by decide))
theorem vH(S:aD)(a b:Int):Sp.find (Ob.final S a).2 b=Sp.find S b:=by
 unfold Ob.final
 split
 ·rfl
 ·split
  ·rfl
  ·split
   ·rfl
   ·exact eN (by simp) b
theorem final(hw:aO S cs)(H:Ah S rows ck)(a:Int):Ah (Ob.final S a).2 rows ck:=by
 have key:∀b,Qu.ba (Ob.final S a).2 b=true→Qu.ba S b=true∧∀j,0≤j→j<5→Ob.get (Ob.final S a).2 b j=Ob.get S b j:=fun b hb=>by
  obtain⟨hd,hh,hk⟩:=aM hb
  obtain⟨hd0,h2,e1,e2,e3,_⟩:=Sd.jW hw hh
  have h5:=dm hw h2 (e1▸hk)
  exact⟨by unfold Qu.ba;rw[h2];simpa using e1▸hk,fun j j0 j1=>Sd.kR hw h2 j0 (by omega)⟩
 refine⟨fun b hb hn=> ?_,fun b hb=> ?_,fun b hd hh=> ?_,fun b hb=> ?_⟩
 ·obtain⟨g1,g2⟩:=key b hb
  rw[g2 2 (by decide) (by decide)];exact H.lz b g1 hn
 ·rcases hZ (Ob.final S a).2 b 0 with ⟨hd,hh,_,j1⟩|e
  ·obtain⟨hd0,h2,_,_,e3,_⟩:=Sd.jW hw hh
   rw[Sd.kR hw h2 (by decide) (by omega)];exact H.qz b hb
  ·exact e
 ·obtain⟨hd0,h2,_,_,e3,_⟩:=Sd.jW hw hh
  rw[fm (vH S a b),e3];exact H.bw b hd0 h2
 ·obtain⟨g1,g2⟩:=key b hb
  rw[g2 3 (by decide) (by decide)];exact H.st b g1
theorem cz(hw:aO S cs)(H:Ah S rows ck)(live:List Int):Ah (Sw.cz S live) rows ck:=by
 have L:=Sw.jQ hw live
 generalize Sw.cz S live=S3 at*
 have hd3:∀b hd,Ob.head S3 b=some hd→Ob.head S b=some hd:=fun b hd hh=>by
  rw[L.head]at hh
  split at hh
  ·cases hh
  ·exact hh
 have key:∀b,Qu.ba S3 b=true→Qu.ba S b=true∧∀j,0≤j→j<5→Ob.get S3 b j=Ob.get S b j:=fun b hb=>by
  obtain⟨hd,hh,hk⟩:=aM hb
  have h5:=dm L.hw hh hk
  exact⟨by unfold Qu.ba;rw[hd3 b hd hh];simpa using hk,fun j j0 j1=>by rw[Ob.da hh j0 (by omega),Ob.da (hd3 b hd hh) j0 (by omega),L.ws]⟩
 refine⟨fun b hb hn=> ?_,fun b hb=> ?_,fun b hd hh=> ?_,fun b hb=> ?_⟩
 ·obtain⟨g1,g2⟩:=key b hb
  rw[g2 2 (by decide) (by decide)];exact H.lz b g1 hn
 ·rcases hZ S3 b 0 with ⟨hd,hh,_,j1⟩|e
  ·rw[Ob.da hh (by decide) j1,L.ws,←Ob.da (hd3 b hd hh) (by decide) j1];exact H.qz b hb
  ·exact e
 ·obtain⟨m,w,rfl,f1,_⟩:=Ob.bt L.hw hh
  have f2:=((L.find m w).mp f1).1
  rw[fm (f1.trans f2.symm)]
  exact H.bw m hd (hd3 _ hd hh)
 ·obtain⟨g1,g2⟩:=key b hb
  rw[g2 3 (by decide) (by decide)];exact H.st b g1
end Ah
abbrev Rt.Au(x:Rt):Prop:=Ah x.S x.rows x.ck
theorem Rt.Au.after{x:Rt}{N:Int}(H:x.Au)(I:x.Inv N)(cl pu pn lv:List Int):(x.after cl pu pn lv).Au:=by
 have W:=I.w.clear cl
 have h1:=Ah.bq pu W.hw W.q (H.clear I.w.hw cl)
 obtain⟨_,e2,_⟩:=QI.bq pu W.hw W.q
 exact h1.cz e2 lv
namespace Rx
variable{x:Rt}{N:Int}
theorem oH{x':Rt}{all:Bool}(H:x.Au)(I:x.Inv N)(h:x.fh x' all):x'.Au:=by
 obtain⟨z1,z2,l,m2,m3,hC,rfl⟩:=h
 exact H.after I _ _ _ _
theorem kH(H:x.Au)(v:Int):(dO x v).Au:=by
 unfold dO;split
 ·exact H
 ·exact H
theorem pB{h:Int}{f:Int→bg}(H:x.Au)(hf:∀a,(f a).2.Au):(qp x h f).2.Au:=by
 unfold qp;split
 ·exact H
 ·exact hf _
theorem AJ{h:Int}{f:Int→bg}(H:x.Au)(hf:∀a,(f a).2.Au):(Bg x h f).2.Au:=by
 unfold Bg;split
 ·exact H
 ·exact hf _
theorem Ah.AG{S:aD}{cs:List aS}{rows:List (List Int)}{ck:Int}(hw:aO S cs)(Q:QI S rows)(H:Ah S rows ck){a i v:Int}(hr:Qu.ba S a=false):Ah (Ob.put S a i v).2 rows ck:=
 H.put hw (.inr (.inr (.inr hr))) (.inr (.inr fun g=>by rw[(Q.qr a g).1]at hr;cases hr)) (.inr (.inr hr))
def vT(mk:Rt→bg):Prop:=∀(M:Int) (y:Rt),y.Inv M→y.Au→(mk y).2.Au
theorem sA{mk:Rt→bg}(hm:wI mk)(ha:vT mk)(H:x.Au)(I:x.Inv N){y:bg}(h:dU mk x y):y.2.Au:=by
 unfold dU at h
 split at h
 ·rw[h];exact H
 ·obtain⟨z,hz,rfl⟩:=h
  have key:z.2.Au:=by
   have I0:=hm _ _ I
   have H0:=ha _ _ I H
   rcases hz with ⟨_,rfl⟩|⟨_,x1,c1,hz⟩
   ·exact H0
   ·have I1:=c1.inv I0
    have H1:=oH H0 I0 c1
    have I1':=hm _ _ I1
    have H1':=ha _ _ I1 H1
    rcases hz with ⟨_,rfl⟩|⟨_,x2,c2,rfl⟩
    ·exact H1'
    ·exact ha _ _ (c2.inv I1') (oH H1' I1' c2)
  split
  ·exact key
  ·exact kH key _
theorem C4(h:Hd):vT (mk h):=fun M y Iy H=>Ah.zl Iy.w.hw Iy.w.q H Iy.ck.1 h
theorem Dr(a o c:Int):vT (zY a o c):=fun M y Iy H=>Ah.aY Iy.w.hw Iy.w.q H Iy.ck.1 _ _ _ _
theorem wT{kind a:Int}(hk:kind≠4)(H:x.Au)(I:x.Inv N){y:bg}(h:eM x kind a y):y.2.Au:=by
 unfold eM at h
 split at h
 ·rw[h];exact H
 ·exact sA (l8 hk) (C4 _) H I h
theorem Ea{k a b c:Int}(H:x.Au)(I:x.Inv N)(hca:a<9223372036854775808){y:bg}(h:BH x k a b c y):y.2.Au:=by
 have hw:=I.w.hw
 rcases rX k with rfl|rfl|rfl|rfl|rfl|rfl|rfl|rfl|rfl|rfl|rfl|rfl|rfl|rfl|rfl|rfl|rfl|rfl|rfl|rfl|rfl|hk
 ·rw[show y=iu x a b from h]
  unfold iu;split<;>exact H
 ·change fZ x a y at h
  unfold fZ at h
  split at h
  ·exact sA (l8 (show(1:Int)≠4 by decide)) (C4 _) H I h
  ·rw[h];exact H
 ·exact wT (by decide) H I (show eM x 2 a y from h)
 ·exact wT (by decide) H I (show eM x 3 a y from h)
 ·rw[show y=get x a b from h]
  refine pB H fun _=> ?_
  split
  ·exact H
  ·exact kH H _
 ·rw[show y=set x a b c from h]
  refine pB H fun _=>AJ H fun _=> ?_
  split
  ·exact H
  ·rename_i h0
   split
   ·exact H
   ·exact Ah.AG hw I.w.q H (jB (by simpa using h0))
 ·rw[show y=put x a b c from h]
  refine pB H fun _=> ?_
  split
  ·exact H
  ·rename_i h0
   split
   ·exact H
   ·exact Ah.AG hw I.w.q H (jB (by simpa using h0))
 ·rw[show y=drop x a from h];exact H
 ·rw[show y=root x a b from h];exact AJ H fun _=>H
 ·rw[show y=take x a from h]
  unfold take;split
  ·exact H
  ·exact kH H _
 ·change eV x a b c y at h
  unfold eV at h
  split at h
  ·rw[h];exact H
  ·split at h
   ·rw[h];exact H
   ·exact sA (qS _ _ _) (Dr _ _ _) H I h
 ·rw[show y=aG x a from h]
  refine pB H fun o=> ?_
  have J:Rt.Au {x with S:=(Rf.aG x.S o x.ck).2}:=Ah.aG hw H o I.ck.1
  split
  ·exact H
  ·split
   ·exact H
   ·split
    ·exact H
    ·split
     ·exact H
     ·split
      ·exact H
      ·split
       ·exact J
       ·exact kH J _
 ·rw[show y=clear x a from h];exact pB H fun o=>Ah.clear hw H [o]
 ·rw[show y=enqueue x a from h];exact pB H fun o=>Ah.ct hw I.w.q H o
 ·rw[show y=jI x from h]
  unfold jI
  show Ah x.S (if x.rows.length=8 then x.rows else x.rows++[[]]) x.ck
  split
  ·exact H
  ·have e:(x.rows++[[]]).flatten=x.rows.flatten:=by simp
   exact⟨fun b hb hn=>H.lz b hb (by rw[←e];exact hn),fun b hb=>H.qz b (by rw[←e];exact hb),H.bw,H.st⟩
 ·rw[show y=eU x a from h]
  have J:Rt.Au {x with S:=Qu.cp x.S x.rows a,rows:=Qu.dP x.rows a}:=Ah.eU hw I.w.q H a
  unfold eU
  split
  ·exact H
  ·split
   ·exact H
   ·split
    ·exact H
    ·split
     ·exact J
     ·exact kH J _
 ·rw[show y=final x a from h];exact pB H fun o=>Ah.final hw H o
 ·rw[show y=run x a b c from h]
  have J:Rt.Au {x with pe:=Fn.dN x.pe a}:=H
  unfold run
  split
  ·exact H
  ·split
   ·exact H
   ·split
    ·exact H
    ·split
     ·exact J
     ·split
      ·exact H
      ·split
       ·exact kH J _
       ·exact J
 ·change cU x a y at h
  unfold cU at h
  split at h
  ·rw[h];exact H
  ·obtain⟨x',c1,rfl⟩:=h
   exact oH H I c1
 ·rw[show y=tick x a from h]
  unfold tick
  split
  ·exact H
  ·refine Ah.later H ?_
   show x.ck≤Sf.later x.ck a
   obtain⟨c0,c1⟩:=fN I.ck.2
   obtain⟨k0,k1⟩:=fN hca
   have h0:=I.ck.1
   have h1:=I.ck.2
   have e:Sf.none x.ck=x.ck:=by unfold Sf.none;split<;>omega
   unfold Sf.later
   rw[e]at c0 c1⊢
   rw[Int.min_def];split<;>omega
 ·rw[show y=count x a from h]
  unfold count
  split<;>exact H
 ·rw[px hk]at h
  rw[h];exact H
end Rx
theorem Rt.D3{pg aZ stack:Int}(h:1≤pg∧pg≤256):(Rt.new pg aZ stack).Au:=by
 have h0:1≤pg.toNat:=by omega
 have hd:∀a,Ob.head (Sp.bB pg.toNat) a=none:=fun a=>pA h0 a
 have hno:∀a,Qu.ba (Sp.bB pg.toNat) a=true→False:=fun a ha=>by
  obtain⟨hd',hh,_⟩:=aM ha
  rw[hd]at hh;cases hh
 refine⟨fun a ha=>(hno a ha).elim,(fun a ha=>by cases ha),fun a h' hh=> ?_,fun a ha=>(hno a ha).elim⟩
 change Ob.head (Sp.bB pg.toNat) a=some h' at hh
 rw[hd]at hh;cases hh
end Go.Proofs.YtfepdmpplahloaaGreat
