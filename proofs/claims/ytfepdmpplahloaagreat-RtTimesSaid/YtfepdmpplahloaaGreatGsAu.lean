/- What an audit asks for besides: links, referents of queues, words of blocks, stamps. -/
import Derived.Test.YtfepdmpplahloaaGreatGsDo
set_option linter.unusedSimpArgs false
set_option linter.unusedVariables false
namespace Go.Proofs.YtfepdmpplahloaaGreat
open Go Go.Gl
structure Ah(S:Spc)(rows:List (List Int))(ck:Int):Prop where
 lz:∀a,Qu.isR S a=true→a∉rows.flatten→(Ob.get S a 2).1=0
 qz:∀a∈rows.flatten,(Ob.get S a 0).1=0
 bw:∀a hd,Ob.head S a=some hd→Sp.wordsAt S a=Sp.blk (hd.n+1)
 st:∀a,Qu.isR S a=true→0≤(Ob.get S a 3).1∧(Ob.get S a 3).1≤ck
theorem words_find{S S':Spc}{a:Int}(h:Sp.find S' a=Sp.find S a):Sp.wordsAt S' a=Sp.wordsAt S a:=by unfold Sp.wordsAt;rw[h]
theorem find_put(S:Spc)(a i x b:Int):Sp.find (Ob.put S a i x).2 b=Sp.find S b:=by
 obtain⟨ws',e,hl⟩:=put_pg S a i x
 rw[e];exact find_ws hl b
namespace Ah
variable{S S':Spc}{cs:List Cls}{rows rows':List (List Int)}{ck:Int}
theorem put(hw:HWf S cs)(H:Ah S rows ck){a i x:Int}(h2:i≠2∨x=0∨a∈rows.flatten∨Qu.isR S a=false)(h0:i≠0∨x=0∨a∉rows.flatten)(h3:i≠3∨(0≤x∧x≤ck)∨Qu.isR S a=false):Ah (Ob.put S a i x).2 rows ck:=by
 refine⟨fun b hb hn=> ?_,fun b hb=> ?_,fun b hd hh=> ?_,fun b hb=> ?_⟩
 ·rw[isR_putA hw]at hb
  rw[get_putR hw hb (by decide) (by decide)]
  split
  ·rename_i g
   rcases h2 with h|h|h|h
   ·exact absurd g.2.symm h
   ·exact h
   ·exact absurd (g.1▸h) hn
   ·rw[g.1,h]at hb;cases hb
  ·exact H.lz b hb hn
 ·rcases get_any (Ob.put S a i x).2 b 0 with ⟨hd,hh,_,j1⟩|e
  ·rw[put_head hw]at hh
   rw[get_put hw hh (by decide) j1]
   split
   ·rename_i g
    rcases h0 with h|h|h
    ·exact absurd g.2.symm h
    ·exact h
    ·exact absurd (g.1▸hb) h
   ·exact H.qz b hb
  ·exact e
 ·rw[put_head hw]at hh
  rw[words_find (find_put S a i x b)]
  exact H.bw b hd hh
 ·rw[isR_putA hw]at hb
  rw[get_putR hw hb (by decide) (by decide)]
  split
  ·rename_i g
   rcases h3 with h|h|h
   ·exact absurd g.2.symm h
   ·exact h
   ·rw[g.1,h]at hb;cases hb
  ·exact H.st b hb
theorem rows_to(H:Ah S rows ck)(h1:∀b,Qu.isR S b=true→b∉rows'.flatten→b∈rows.flatten→(Ob.get S b 2).1=0)(h2:∀b∈rows'.flatten,b∈rows.flatten∨(Ob.get S b 0).1=0):Ah S rows' ck:=
 ⟨fun b hb hn=>by
  rcases Decidable.em (b∈rows.flatten)with h|h
  ·exact h1 b hb hn h
  ·exact H.lz b hb h,fun b hb=>(h2 b hb).elim (H.qz b) id,H.bw,H.st⟩
theorem clr(l:List Int):∀{S:Spc},HWf S cs→Ah S rows ck→Ah (Rf.clr S l) rows ck:=by
 induction l with
 |nil=>exact fun _ h=>h
 |cons a l ih=>exact fun hw h=>ih (hw.put a 0 0) (h.put hw (.inl (by decide)) (.inr (.inl rfl)) (.inl (by decide)))
theorem clear(hw:HWf S cs)(H:Ah S rows ck)(l:List Int):Ah (Rf.clear S l).2 rows ck:=by
 unfold Rf.clear
 split
 ·exact H.clr l hw
 ·exact H
theorem push(hw:HWf S cs)(H:Ah S rows ck){i a:Int}(h0:(Ob.get S a 0).1=0):Ah (Qu.pushS S rows i a) (Qu.pushQ S rows i a) ck:=by
 unfold Qu.pushS Qu.pushQ
 by_cases h:(Qu.has rows i&&Qu.isR S a)=true
 ·rw[if_pos h,if_pos h]
  rw[Bool.and_eq_true]at h
  obtain⟨i0,i1⟩:=row_has h.1
  have he:Qu.row rows i=rows[i.toNat]:=by unfold Qu.row;rw[List.getD_eq_getElem?_getD,List.getElem?_eq_getElem i1];rfl
  have hp:=flat_snoc a i1
  rw[he]
  have hw1:=hw.put a 2 0
  have H1:Ah (Ob.put S a 2 0).2 rows ck:=H.put hw (.inr (.inl rfl)) (.inl (by decide)) (.inl (by decide))
  have e0:(Ob.get (Ob.put S a 2 0).2 a 0).1=0:=by rw[get_putR hw h.2 (by decide) (by decide),if_neg (by simp)];exact h0
  by_cases hn:rows[i.toNat]=[]
  ·rw[if_pos hn]
   refine H1.rows_to (fun b _ hb hr=>absurd (hp.mem_iff.mpr (.tail _ hr)) hb) fun b hb=> ?_
   rcases List.mem_cons.mp (hp.mem_iff.mp hb)with rfl|hb
   ·exact .inr e0
   ·exact .inl hb
  ·rw[if_neg hn]
   have hlm:rows[i.toNat].getLastD 0∈rows.flatten:=flat_mem i1 (last_mem hn)
   have H2:=H1.put hw1 (a:=rows[i.toNat].getLastD 0) (i:=2) (x:=a) (.inr (.inr (.inl hlm))) (.inl (by decide)) (.inl (by decide))
   refine H2.rows_to (fun b _ hb hr=>absurd (hp.mem_iff.mpr (.tail _ hr)) hb) fun b hb=> ?_
   rcases List.mem_cons.mp (hp.mem_iff.mp hb)with rfl|hb
   ·right
    rw[get_putR hw1 (by rw[isR_putA hw];exact h.2) (by decide) (by decide),if_neg (by simp)];exact e0
   ·exact .inl hb
 ·rw[if_neg h,if_neg h];exact H
theorem enq(hw:HWf S cs)(Q:QI S rows)(H:Ah S rows ck)(a:Int):Ah (Rf.enq S rows a).2.1 (Rf.enq S rows a).2.2 ck:=by
 have hw1:=hw.put a 0 0
 have H1:Ah (Ob.put S a 0 0).2 rows ck:=H.put hw (.inl (by decide)) (.inr (.inl rfl)) (.inl (by decide))
 unfold Rf.enq
 split
 ·rename_i hr
  have e0:(Ob.get (Ob.put S a 0 0).2 a 0).1=0:=by rw[get_putR hw hr (by decide) (by decide),if_pos ⟨rfl,rfl⟩]
  split
  ·exact H1
  ·have H2:=H1.push hw1 (i:=Rf.qn S a-1) e0
   split
   ·exact H2
   ·exact H2.put (pushS_hw hw1 _ _ _) (.inl (by decide)) (.inl (by decide)) (.inl (by decide))
 ·exact H
theorem enqs:∀(l:List Int) {S:Spc} {rows:List (List Int)},HWf S cs→QI S rows→Ah S rows ck→Ah (Rf.enqs S rows l).1 (Rf.enqs S rows l).2 ck
 |[],_,_,_,_,h=>h
 |a::l,S,rows,hw,q,h=>enqs l (S:=(Rf.enq S rows a).2.1) (rows:=(Rf.enq S rows a).2.2) (enq_hw hw rows a) (q.enq hw a).1 (h.enq hw q a)
theorem makeA(hw:HWf S cs)(Q:QI S rows)(H:Ah S rows ck)(hc:0≤ck)(h:Hd):Ah (Ob.make S cs h).2.2 rows ck:=by
 by_cases h0:(Ob.make S cs h).2.1=0
 ·have hwm:=hw.make h
  obtain⟨n,k,e1,_,e3,e4,_,_,e7,e8,_⟩:=Ob.make_ok hw h0
  have old:∀{b:Int} {hd:Hd},b≠(Ob.make S cs h).1→Ob.head S b=some hd→∀j,0≤j→j<hd.n→Ob.get (Ob.make S cs h).2.2 b j=Ob.get S b j:=fun _ hh j j0 j1=>(Ob.make_keep hw h0 hh).2.2 j j0 j1
  have cases':∀b,Qu.isR (Ob.make S cs h).2.2 b=true→∀j,0≤j→j<5→(Ob.get (Ob.make S cs h).2.2 b j).1=0∨(Qu.isR S b=true∧Ob.get (Ob.make S cs h).2.2 b j=Ob.get S b j):=fun b hb j j0 j1=>by
   obtain⟨hd,hh,hk⟩:=isR_head hb
   have h5:=isR_n hwm hh hk
   rcases Wl.make_old hw h0 hh with ⟨g1,g2⟩|⟨g1,g2⟩
   ·subst g2
    left;rw[g1,Ob.make_zero hw h0 j0 (by omega)]
   ·right;exact⟨by unfold Qu.isR;rw[g2];simpa using hk,old g1 g2 j j0 (by omega)⟩
  refine⟨fun b hb hn=> ?_,fun b hb=> ?_,fun b hd hh=> ?_,fun b hb=> ?_⟩
  ·rcases cases' b hb 2 (by decide) (by decide)with e|⟨g1,g2⟩
   ·exact e
   ·rw[g2];exact H.lz b g1 hn
  ·have hr:=(Q.qr b hb).1
   obtain⟨hd,hh,hk⟩:=isR_head hr
   have h5:=isR_n hw hh hk
   rw[(Ob.make_keep hw h0 hh).2.2 0 (by decide) (by omega)];exact H.qz b hb
  ·rcases Wl.make_old hw h0 hh with ⟨g1,g2⟩|⟨g1,g2⟩
   ·subst g2
    rw[g1,e1]
    unfold Sp.wordsAt
    have hn:n≤n∧n<n+k:=by
     have:=Sp.mayH_is (Ob.head_cls hwm hh)
     have:=e3;have:=e4;omega
    rw[e7 n,if_pos hn,e3]
   ·have e:=H.bw b hd g2
    obtain⟨m,w,rfl,f1,_⟩:=Ob.head_is hw g2
    have hne:¬(n≤m∧m<n+k):=fun g=>by
     have:=e8 m g.1 g.2
     rw[f1]at this;cases this
    rw[words_find (show Sp.find (Ob.make S cs h).2.2 (m:Int)=Sp.find S m by rw[e7 m,if_neg hne])];exact e
  ·rcases cases' b hb 3 (by decide) (by decide)with e|⟨g1,g2⟩
   ·rw[e];exact⟨Int.le_refl _,hc⟩
   ·rw[g2];exact H.st b g1
 ·rw[(Wl.make_err h0).1];exact H
theorem refer(hw:HWf S cs)(Q:QI S rows)(H:Ah S rows ck)(hc:0≤ck)(n c o q:Int):Ah (Rf.refer S cs rows n c o q ck).2.2.1 rows ck:=by
 unfold Rf.refer
 split
 ·exact H
 ·split
  ·exact H.makeA hw Q hc _
  ·rename_i h0
   have h0:(Ob.make S cs ⟨4,c,5,false⟩).2.1=0:=by simpa using h0
   have hw1:=hw.make (⟨4,c,5,false⟩:Hd)
   have h1:Ah (Ob.make S cs ⟨4,c,5,false⟩).2.2 rows ck:=H.makeA hw Q hc _
   have ha:(Ob.make S cs ⟨4,c,5,false⟩).1∉rows.flatten:=fun g=>by
    obtain⟨hd,hh,_⟩:=isR_head (Q.qr _ g).1
    exact(Ob.make_keep hw h0 hh).2.1 rfl
   generalize(Ob.make S cs ⟨4,c,5,false⟩).2.2=T at*
   generalize(Ob.make S cs ⟨4,c,5,false⟩).1=a at*
   show Ah (Ob.put (Ob.put (Ob.put (Ob.put (Ob.put T a (0:Nat) o).2 a (1:Nat) (q+1)).2 a (2:Nat) 0).2 a (3:Nat) ck).2 a (4:Nat) (n+1)).2 rows ck
   have w1:=hw1.put a (0:Nat) o
   have w2:=w1.put a (1:Nat) (q+1)
   have w3:=w2.put a (2:Nat) 0
   have w4:=w3.put a (3:Nat) ck
   have g1:=h1.put hw1 (a:=a) (i:=(0:Nat)) (x:=o) (.inl (by decide)) (.inr (.inr ha)) (.inl (by decide))
   have g2:=g1.put w1 (a:=a) (i:=(1:Nat)) (x:=q+1) (.inl (by decide)) (.inl (by decide)) (.inl (by decide))
   have g3:=g2.put w2 (a:=a) (i:=(2:Nat)) (x:=0) (.inr (.inl rfl)) (.inl (by decide)) (.inl (by decide))
   have g4:=g3.put w3 (a:=a) (i:=(3:Nat)) (x:=ck) (.inl (by decide)) (.inl (by decide)) (.inr (.inl ⟨hc,Int.le_refl _⟩))
   exact g4.put w4 (a:=a) (i:=(4:Nat)) (x:=n+1) (.inl (by decide)) (.inl (by decide)) (.inl (by decide))
theorem sweep(hw:HWf S cs)(H:Ah S rows ck)(live:List Int):Ah (Sw.sweep S live) rows ck:=by
 have L:=Sw.sweep_ok hw live
 generalize Sw.sweep S live=S3 at*
 have hd3:∀b hd,Ob.head S3 b=some hd→Ob.head S b=some hd:=fun b hd hh=>by
  rw[L.head]at hh
  split at hh
  ·cases hh
  ·exact hh
 have key:∀b,Qu.isR S3 b=true→Qu.isR S b=true∧∀j,0≤j→j<5→Ob.get S3 b j=Ob.get S b j:=fun b hb=>by
  obtain⟨hd,hh,hk⟩:=isR_head hb
  have h5:=isR_n L.hw hh hk
  exact⟨by unfold Qu.isR;rw[hd3 b hd hh];simpa using hk,fun j j0 j1=>by rw[Ob.get_ok hh j0 (by omega),Ob.get_ok (hd3 b hd hh) j0 (by omega),L.ws]⟩
 refine⟨fun b hb hn=> ?_,fun b hb=> ?_,fun b hd hh=> ?_,fun b hb=> ?_⟩
 ·obtain⟨g1,g2⟩:=key b hb
  rw[g2 2 (by decide) (by decide)];exact H.lz b g1 hn
 ·rcases get_any S3 b 0 with ⟨hd,hh,_,j1⟩|e
  ·rw[Ob.get_ok hh (by decide) j1,L.ws,←Ob.get_ok (hd3 b hd hh) (by decide) j1];exact H.qz b hb
  ·exact e
 ·obtain⟨m,w,rfl,f1,_⟩:=Ob.head_is L.hw hh
  have f2:=((L.find m w).mp f1).1
  rw[words_find (f1.trans f2.symm)]
  exact H.bw m hd (hd3 _ hd hh)
 ·obtain⟨g1,g2⟩:=key b hb
  rw[g2 3 (by decide) (by decide)];exact H.st b g1
end Ah
abbrev Rt.Au(x:Rt):Prop:=Ah x.S x.rows x.ck
theorem Rt.Au.after{x:Rt}{N:Int}(H:x.Au)(I:x.Inv N)(cl pu pn lv:List Int):(x.after cl pu pn lv).Au:=by
 have W:=I.w.clear cl
 have h1:=Ah.enqs pu W.hw W.q (H.clear I.w.hw cl)
 obtain⟨_,e2,_⟩:=QI.enqs pu W.hw W.q
 exact h1.sweep e2 lv
namespace Rx
variable{x:Rt}{N:Int}
theorem au_coll{x':Rt}{all:Bool}(H:x.Au)(I:x.Inv N)(h:x.CollR x' all):x'.Au:=by
 obtain⟨z1,z2,l,m2,m3,hC,rfl⟩:=h
 exact H.after I _ _ _ _
theorem au_give(H:x.Au)(v:Int):(giveS x v).Au:=by
 unfold giveS;split
 ·exact H
 ·exact H
def KeepsA(mk:Rt→Ans2):Prop:=∀(M:Int) (y:Rt),y.Inv M→y.Au→(mk y).2.Au
theorem au_made{mk:Rt→Ans2}(hm:Keeps mk)(ha:KeepsA mk)(H:x.Au)(I:x.Inv N){y:Ans2}(h:MadeR mk x y):y.2.Au:=by
 unfold MadeR at h
 split at h
 ·rw[h];exact H
 ·obtain⟨z,hz,rfl⟩:=h
  have key:z.2.Au:=by
   have I0:=hm _ _ I
   have H0:=ha _ _ I H
   rcases hz with ⟨_,rfl⟩|⟨_,x1,c1,hz⟩
   ·exact H0
   ·have I1:=c1.inv I0
    have H1:=au_coll H0 I0 c1
    have I1':=hm _ _ I1
    have H1':=ha _ _ I1 H1
    rcases hz with ⟨_,rfl⟩|⟨_,x2,c2,rfl⟩
    ·exact H1'
    ·exact ha _ _ (c2.inv I1') (au_coll H1' I1' c2)
  split
  ·exact key
  ·exact au_give key _
theorem ka_mk(h:Hd):KeepsA (mk h):=fun M y Iy H=>Ah.makeA Iy.w.hw Iy.w.q H Iy.ck.1 h
theorem ka_rmk(a o c:Int):KeepsA (rmk a o c):=fun M y Iy H=>Ah.refer Iy.w.hw Iy.w.q H Iy.ck.1 _ _ _ _
theorem au_list{kind a:Int}(hk:kind≠4)(H:x.Au)(I:x.Inv N){y:Ans2}(h:listR x kind a y):y.2.Au:=by
 unfold listR at h
 split at h
 ·rw[h];exact H
 ·exact au_made (keeps_mk hk) (ka_mk _) H I h
end Rx
theorem Rt.new_au{pg rate stack:Int}(h:1≤pg∧pg≤256):(Rt.new pg rate stack).Au:=by
 have h0:1≤pg.toNat:=by omega
 have hd:∀a,Ob.head (Sp.newSpc pg.toNat) a=none:=fun a=>new_head h0 a
 have hno:∀a,Qu.isR (Sp.newSpc pg.toNat) a=true→False:=fun a ha=>by
  obtain⟨hd',hh,_⟩:=isR_head ha
  rw[hd]at hh;cases hh
 refine⟨fun a ha=>(hno a ha).elim,(fun a ha=>by cases ha),fun a h' hh=> ?_,fun a ha=>(hno a ha).elim⟩
 change Ob.head (Sp.newSpc pg.toNat) a=some h' at hh
 rw[hd]at hh;cases hh
end Go.Proofs.YtfepdmpplahloaaGreat
