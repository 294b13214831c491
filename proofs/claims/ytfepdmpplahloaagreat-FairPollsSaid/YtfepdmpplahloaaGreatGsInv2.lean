/- What stays so of a runtime. -/
import Derived.Test.YtfepdmpplahloaaGreatGsBo
set_option linter.unusedSimpArgs false
set_option linter.unusedVariables false
namespace Go.Proofs.YtfepdmpplahloaaGreat
open Go Go.Gl
theorem bI{S:aD}{cs:List aS}(hw:aO S cs){a i x:Int}(b:Int):Qu.ba (Ob.put S a i x).2 b=Qu.ba S b:=by unfold Qu.ba;rw[bb hw]
theorem fG{S:aD}{cs:List aS}(hw:aO S cs){a i x b j:Int}{hd:Hd}(hb:Ob.head S b=some hd)(h0:0≤j)(h1:j<hd.n):Ob.get (Ob.put S a i x).2 b j=if b=a∧j=i then(x,0)else Ob.get S b j:=by
 by_cases g:(Ob.fieldAt S a i).2=0
 ·obtain⟨ha,hha,i0,i1,_⟩:=Ob.ee hw g
  exact((Ob.j9 hw (x:=x) hha i0 i1).2 _ _ hb).2 j h0 h1
 ·have e:(Ob.put S a i x).2=S:=by unfold Ob.put;rw[if_pos g]
  rw[e,if_neg]
  rintro⟨rfl,rfl⟩
  exact g (by unfold Ob.fieldAt;rw[hb];dsimp only;rw[if_neg (by rintro(h|h)<;>omega)])
theorem bR{S:aD}{cs:List aS}(hw:aO S cs){a i x b j:Int}(hr:Qu.ba S b=true)(h0:0≤j)(h5:j<5):Ob.get (Ob.put S a i x).2 b j=if b=a∧j=i then(x,0)else Ob.get S b j:=by
 obtain⟨hd,hh,hk⟩:=aM hr
 have:=dm hw hh hk
 exact fG hw hh h0 (by omega)
theorem sE{S S':aD}:∀{r:List Int},(∀b∈r,Ob.get S' b 2=Ob.get S b 2)→Qu.Lk S r→Qu.Lk S' r
 |[],_,_=>trivial
 |a::r,h,H=>⟨H.1,by rw[h a (.head _)];exact H.2.1,sE (fun b hb=>h b (.tail _ hb)) H.2.2⟩
theorem kx{b:Int}{r:List Int}(h:r≠[]):r.getLastD b∈r:=by
 cases r with
 |nil=>exact absurd rfl h
 |cons a r=>rw[List.getLastD_cons];exact List.getLastD_mem_cons
theorem wb{S S':aD}{a:Int}(ha:a≠0)(h2:Ob.get S' a 2=(0,0)):∀{r:List Int},r.Nodup→(∀b∈r,Ob.get S' b 2=if b=r.getLastD 0 then(a,0)else Ob.get S b 2)→Qu.Lk S r→Qu.Lk S' (r++[a])
 |[],_,_,_=>⟨ha,h2,trivial⟩
 |[b],_,h,H=>⟨H.1,(by rw[h b (.head _)];exact if_pos rfl),ha,h2,trivial⟩
 |b::c::r,hn,h,H=>by
  obtain⟨n1,n2⟩:=List.nodup_cons.mp hn
  have e:(b::c::r).getLastD 0=(c::r).getLastD 0:=by rw[List.getLastD_cons,List.getLastD_cons,List.getLastD_cons]
  rw[e]at h
  have hne:b≠(c::r).getLastD 0:=fun e=>n1 (by rw[e];exact kx (by simp))
  refine⟨H.1,?_,wb ha h2 n2 (fun d hd=>h d (.tail _ hd)) H.2.2⟩
  rw[h b (.head _),if_neg hne,H.2.1];rfl
theorem m8(a:Int):∀{rows:List (List Int)} {i:Nat} (h:i<rows.length),(rows.set i (rows[i]++[a])).flatten.Perm (a::rows.flatten)
 |[],i,h=>absurd h (by simp)
 |r::rows,0,h=>by
  show((r++[a])++rows.flatten).Perm (a::(r++rows.flatten))
  rw[List.append_assoc]
  exact List.perm_middle
 |r::rows,i+1,h=>by
  have hi:i<rows.length:=by simpa using h
  have ih:=m8 a (rows:=rows) (i:=i) hi
  show(r++(rows.set i (rows[i]'hi++[a])).flatten).Perm (a::(r++rows.flatten))
  exact(ih.append_left r).trans List.perm_middle
theorem nN:∀{rows:List (List Int)} {i:Nat} (h:i<rows.length) {b:Int} {t:List Int},rows[i]=b::t→rows.flatten.Perm (b::(rows.set i t).flatten)
 |[],i,h,_,_,_=>absurd h (by simp)
 |r::rows,0,h,b,t,e=>by
  have e:r=b::t:=e
  subst e
  exact .refl _
 |r::rows,i+1,h,b,t,e=>by
  have ih:=nN (rows:=rows) (i:=i) (by simpa using h) (b:=b) (t:=t) e
  show(r++rows.flatten).Perm (b::(r++(rows.set i t).flatten))
  exact(ih.append_left r).trans List.perm_middle
theorem xZ{rows:List (List Int)}(h:rows.flatten.Nodup){i j:Nat}(hi:i<rows.length)(hj:j<rows.length)(hne:i≠j){x:Int}(h1:x∈rows[i])(h2:x∈rows[j]):False:=by
 unfold List.Nodup at h
 rw[List.pairwise_flatten]at h
 have h:=List.pairwise_iff_getElem.mp h.2
 rcases Nat.lt_or_gt_of_ne hne with g|g
 ·exact h i j hi hj g x h1 x h2 rfl
 ·exact h j i hj hi g x h2 x h1 rfl
theorem w0{rows:List (List Int)}(h:rows.flatten.Nodup){i:Nat}(hi:i<rows.length):rows[i].Nodup:=by
 unfold List.Nodup at h
 rw[List.pairwise_flatten]at h
 exact h.1 _ (List.getElem_mem hi)
theorem gI{rows:List (List Int)}{i:Nat}(hi:i<rows.length){x:Int}(h:x∈rows[i]):x∈rows.flatten:=List.mem_flatten.mpr ⟨_,List.getElem_mem hi,h⟩
structure QI(S:aD)(rows:List (List Int)):Prop where
 ux:rows.length≤8
 lk:∀r∈rows,Qu.Lk S r
 qr:∀a∈rows.flatten,Qu.ba S a=true∧(Ob.get S a 1).1= -1
 nd:rows.flatten.Nodup
namespace QI
variable{S S':aD}{cs:List aS}{rows:List (List Int)}
theorem mono(H:QI S rows)(h:∀a∈rows.flatten,Qu.ba S' a=true∧(Ob.get S' a 1).1= -1∧Ob.get S' a 2=Ob.get S a 2):QI S' rows:=
 ⟨H.ux,fun r hr=>sE (fun b hb=>(h b (List.mem_flatten.mpr ⟨r,hr,hb⟩)).2.2) (H.lk r hr),fun a ha=>⟨(h a ha).1,(h a ha).2.1⟩,H.nd⟩
theorem put(hw:aO S cs)(H:QI S rows){a i x:Int}(hc:(i≠1∧i≠2)∨a∉rows.flatten):QI (Ob.put S a i x).2 rows:=H.mono fun b hb=>by
 have hr:=(H.qr b hb).1
 have hn:∀j,j=1∨j=2→¬(b=a∧j=i):=fun j hj g=>by
  rcases hc with hc|hc
  ·rcases hj with rfl|rfl
   ·exact hc.1 g.2.symm
   ·exact hc.2 g.2.symm
  ·exact hc (g.1▸hb)
 rw[bI hw,bR hw hr (by decide) (by decide),bR hw hr (by decide) (by decide),if_neg (hn 1 (.inl rfl)),if_neg (hn 2 (.inr rfl))]
 exact⟨hr,(H.qr b hb).2,rfl⟩
theorem eJ(hw:aO S cs)(H:QI S rows)(l:List Int):QI (Rf.eJ S l) rows:=by
 induction l generalizing S with
 |nil=>exact H
 |cons a l ih=>exact ih (hw.put _ _ _) (H.put hw (.inl ⟨by decide,by decide⟩))
theorem Dd(H:QI S rows){a:Int}(h:(Ob.get S a 1).1≠-1):a∉rows.flatten:=fun ha=>h (H.qr a ha).2
theorem push(hw:aO S cs)(H:QI S rows){a i:Int}(hr:Qu.ba S a=true)(ha:a∉rows.flatten)(hi:Qu.has rows i=true):
  QI (Ob.put (Qu.bh S rows i a) a 1 (-1)).2 (Qu.cE S rows i a)∧Qu.dp S rows i a=0∧aO (Qu.bh S rows i a) cs∧(Qu.cE S rows i a).flatten.Perm (a::rows.flatten):=by
 obtain⟨i0,i1⟩:=ib hi
 have he:Qu.row rows i=rows[i.toNat]:=by unfold Qu.row;rw[List.getD_eq_getElem?_getD,List.getElem?_eq_getElem i1];rfl
 have hq:Qu.cE S rows i a=rows.set i.toNat (rows[i.toNat]++[a]):=by unfold Qu.cE;rw[hi,hr,he];rfl
 have ha0:=yZ hw hr
 have hnd:=w0 H.nd i1
 have hlk:=H.lk _ (List.getElem_mem i1)
 have hw1:=hw.put a 2 0
 have hr1:Qu.ba (Ob.put S a 2 0).2 a=true:=by rw[bI hw];exact hr
 have hS:aO (Qu.bh S rows i a) cs∧Qu.dp S rows i a=0∧∀b,Qu.ba S b=true→Qu.ba (Qu.bh S rows i a) b=true∧(∀j,0≤j→j<5→Ob.get (Qu.bh S rows i a) b j=if b=a∧j=2 then(0,0)else if rows[i.toNat]≠[]∧b=rows[i.toNat].getLastD 0∧j=2 then(a,0)else Ob.get S b j):=by
  unfold Qu.bh Qu.dp
  rw[hi,hr,he]
  rw[Bool.and_true]
  rw[if_pos rfl,if_pos rfl,if_pos rfl]
  by_cases hn:rows[i.toNat]=[]
  ·rw[if_pos hn,if_pos hn]
   refine⟨hw1,rfl,fun b hb=>⟨by rw[bI hw];exact hb,fun j j0 j5=> ?_⟩⟩
   rw[bR hw hb j0 j5,if_neg (c:=rows[i.toNat]≠[]∧b=rows[i.toNat].getLastD 0∧j=2) (fun g=>g.1 hn)]
  ·rw[if_neg hn,if_neg hn]
   have hlm:rows[i.toNat].getLastD 0∈rows.flatten:=gI i1 (kx hn)
   have hlr:=(H.qr _ hlm).1
   have hne:rows[i.toNat].getLastD 0≠a:=fun e=>ha (e▸hlm)
   refine⟨hw1.put _ _ _,?_,fun b hb=>⟨by rw[bI hw1,bI hw];exact hb,fun j j0 j5=> ?_⟩⟩
   ·obtain⟨hd,hh,hk⟩:=aM (show Qu.ba (Ob.put S a 2 0).2 (rows[i.toNat].getLastD 0)=true by rw[bI hw];exact hlr)
    exact vN hh (by decide) (by rw[dm hw1 hh hk];decide)
   ·rw[bR hw1 (by rw[bI hw];exact hb) j0 j5,bR hw hb j0 j5]
    by_cases h1:b=a∧j=2
    ·rw[if_pos h1,if_neg (c:=b=rows[i.toNat].getLastD 0∧j=2) (fun g=>hne (g.1.symm.trans h1.1)),if_pos h1]
    ·rw[if_neg h1,if_neg h1]
     by_cases h2:b=rows[i.toNat].getLastD 0∧j=2
     ·rw[if_pos h2,if_pos ⟨hn,h2⟩]
     ·rw[if_neg h2,if_neg (fun g=>h2 g.2)]
 obtain⟨s1,s2,s3⟩:=hS
 have hp:(Qu.cE S rows i a).flatten.Perm (a::rows.flatten):=by rw[hq];exact m8 a i1
 have fin:∀b,Qu.ba S b=true→Qu.ba (Ob.put (Qu.bh S rows i a) a 1 (-1)).2 b=true∧(∀j,0≤j→j<5→Ob.get (Ob.put (Qu.bh S rows i a) a 1 (-1)).2 b j=if b=a∧j=1 then(-1,0)else if b=a∧j=2 then(0,0)else if rows[i.toNat]≠[]∧b=rows[i.toNat].getLastD 0∧j=2 then(a,0)else Ob.get S b j):=fun b hb=>by
  obtain⟨t1,t2⟩:=s3 b hb
  exact⟨by rw[bI s1];exact t1,fun j j0 j5=>by rw[bR s1 t1 j0 j5,t2 j j0 j5]⟩
 refine⟨⟨by rw[hq,List.length_set];exact H.ux,fun r hr'=> ?_,fun b hb=> ?_,hp.nodup_iff.mpr (List.nodup_cons.mpr ⟨ha,H.nd⟩)⟩,s2,s1,hp⟩
 ·rw[hq]at hr'
  obtain⟨j,hj,rfl⟩:=List.mem_iff_getElem.mp hr'
  rw[List.length_set]at hj
  rw[List.getElem_set]
  by_cases e:i.toNat=j
  ·rw[if_pos e]
   refine wb ha0 ?_ hnd (fun b hb=> ?_) hlk
   ·rw[(fin a hr).2 2 (by decide) (by decide),if_neg (by simp),if_pos ⟨rfl,rfl⟩]
   ·have hbm:=gI i1 hb
    have hba:b≠a:=fun e=>ha (e▸hbm)
    rw[(fin b (H.qr b hbm).1).2 2 (by decide) (by decide),if_neg (fun g=>hba g.1),if_neg (fun g=>hba g.1)]
    by_cases hl:b=rows[i.toNat].getLastD 0
    ·rw[if_pos ⟨List.ne_nil_of_mem hb,hl,rfl⟩,if_pos hl]
    ·rw[if_neg (fun g=>hl g.2.1),if_neg hl]
  ·rw[if_neg e]
   refine sE (fun b hb=> ?_) (H.lk _ (List.getElem_mem hj))
   have hbm:=gI hj hb
   have hba:b≠a:=fun e=>ha (e▸hbm)
   rw[(fin b (H.qr b hbm).1).2 2 (by decide) (by decide),if_neg (fun g=>hba g.1),if_neg (fun g=>hba g.1),if_neg (fun g=>xZ H.nd i1 hj e (kx g.1) (g.2.1▸hb))]
 ·rcases List.mem_cons.mp (hp.mem_iff.mp hb)with rfl|hb
  ·obtain⟨t1,t2⟩:=fin b hr
   exact⟨t1,by rw[t2 1 (by decide) (by decide),if_pos ⟨rfl,rfl⟩]⟩
  ·have hba:b≠a:=fun e=>ha (e▸hb)
   obtain⟨t1,t2⟩:=fin b (H.qr b hb).1
   exact⟨t1,by rw[t2 1 (by decide) (by decide),if_neg (fun g=>hba g.1),if_neg (fun g=>hba g.1),if_neg (by simp)];exact(H.qr b hb).2⟩
theorem ct(hw:aO S cs)(H:QI S rows)(a:Int):QI (Rf.ct S rows a).2.1 (Rf.ct S rows a).2.2∧aO (Rf.ct S rows a).2.1 cs∧∀b,b∈(Rf.ct S rows a).2.2.flatten→b=a∨b∈rows.flatten:=by
 unfold Rf.ct
 by_cases hr:Qu.ba S a=true
 ·have hw1:=hw.put a 0 0
  have H1:QI (Ob.put S a 0 0).2 rows:=H.put hw (.inl ⟨by decide,by decide⟩)
  have hr1:Qu.ba (Ob.put S a 0 0).2 a=true:=by rw[bI hw];exact hr
  rw[if_pos hr]
  by_cases hq:Rf.qn S a<1
  ·rw[if_pos hq];exact⟨H1,hw1,fun b hb=> .inr hb⟩
  ·rw[if_neg hq]
   have ha:a∉rows.flatten:=H1.Dd (by unfold Rf.qn at hq;omega)
   by_cases hh:Qu.has rows (Rf.qn S a-1)=true
   ·obtain⟨p1,p2,p3,p4⟩:=H1.push hw1 hr1 ha hh
    rw[if_neg (fun g=>g p2)]
    exact⟨p1,p3.put _ _ _,fun b hb=>by
     rcases List.mem_cons.mp (p4.mem_iff.mp hb)with h|h
     ·exact .inl h
     ·exact .inr h⟩
   ·have e1:Qu.dp (Ob.put S a 0 0).2 rows (Rf.qn S a-1) a=2:=by unfold Qu.dp;rw[if_neg hh]
    have e2:Qu.bh (Ob.put S a 0 0).2 rows (Rf.qn S a-1) a=(Ob.put S a 0 0).2:=by unfold Qu.bh;rw[if_neg (by simp[hh])]
    have e3:Qu.cE (Ob.put S a 0 0).2 rows (Rf.qn S a-1) a=rows:=by unfold Qu.cE;rw[if_neg (by simp[hh])]
    rw[if_pos (by rw[e1];decide),e2,e3]
    exact⟨H1,hw1,fun b hb=> .inr hb⟩
 ·rw[if_neg hr];exact⟨H,hw,fun b hb=> .inr hb⟩
theorem bq(l:List Int):∀{S:aD} {rows:List (List Int)},aO S cs→QI S rows→QI (Rf.bq S rows l).1 (Rf.bq S rows l).2∧aO (Rf.bq S rows l).1 cs∧∀b,b∈(Rf.bq S rows l).2.flatten→b∈l∨b∈rows.flatten:=by
 induction l with
 |nil=>exact fun hw H=>⟨H,hw,fun b hb=> .inr hb⟩
 |cons a l ih=>
  intro S rows hw H
  obtain⟨h1,h2,h3⟩:=H.ct hw a
  obtain⟨g1,g2,g3⟩:=ih h2 h1
  refine⟨g1,g2,fun b hb=> ?_⟩
  rcases g3 b hb with h|h
  ·exact .inl (.tail _ h)
  ·rcases h3 b h with rfl|h
   ·exact .inl (.head _)
   ·exact .inr h
theorem eU(hw:aO S cs)(H:QI S rows)(i:Int):QI (Qu.cp S rows i) (Qu.dP rows i)∧aO (Qu.cp S rows i) cs:=by
 unfold Qu.cp Qu.dP
 by_cases hh:Qu.has rows i=true
 ·obtain⟨i0,i1⟩:=ib hh
  have he:Qu.row rows i=rows[i.toNat]:=by unfold Qu.row;rw[List.getD_eq_getElem?_getD,List.getElem?_eq_getElem i1];rfl
  rw[if_pos hh,he]
  cases hr:rows[i.toNat]with
  |nil=>
   rw[if_neg (fun g=>g.2 rfl)]
   have:rows.set i.toNat []=rows:=by rw[←hr];exact List.set_getElem_self i1
   show QI S (rows.set i.toNat [])∧_
   rw[this];exact⟨H,hw⟩
  |cons b t=>
   rw[if_pos ⟨hh,by simp⟩]
   have hp:=nN i1 hr
   have hnd:=hp.nodup_iff.mp H.nd
   obtain⟨n1,n2⟩:=List.nodup_cons.mp hnd
   have hsub:∀x,x∈(rows.set i.toNat t).flatten→x∈rows.flatten∧x≠b:=fun x hx=>⟨hp.mem_iff.mpr (.tail _ hx),fun e=>n1 (e▸hx)⟩
   have H0:QI S (rows.set i.toNat t):=by
    refine⟨by rw[List.length_set];exact H.ux,fun r hr'=> ?_,fun a ha=>H.qr a (hsub a ha).1,n2⟩
    rcases List.mem_or_eq_of_mem_set hr' with h|rfl
    ·exact H.lk r h
    ·have:=H.lk _ (List.getElem_mem i1)
     rw[hr]at this
     exact this.2.2
   exact⟨H0.put hw (.inr n1),hw.put _ _ _⟩
 ·rw[if_neg hh,if_neg (fun g=>hh g.1)];exact⟨H,hw⟩
theorem open_(H:QI S rows)(h:rows.length<8):QI S (rows++[[]]):=by
 have e:(rows++[[]]).flatten=rows.flatten:=by simp
 refine⟨by simp;omega,fun r hr=> ?_,by rw[e];exact H.qr,by rw[e];exact H.nd⟩
 rcases List.mem_append.mp hr with hr|hr
 ·exact H.lk r hr
 ·rw[List.mem_singleton]at hr;subst hr;trivial
end QI
theorem mg:∀{l m:List Int},l.Nodup→(∀a∈l,a∈m)→l.length≤m.length
 |[],_,_,_=>Nat.zero_le _
 |a::l,m,hn,h=>by
  obtain⟨n1,n2⟩:=List.nodup_cons.mp hn
  have hm:=h a (.head _)
  have:=mg (l:=l) (m:=m.erase a) n2 fun b hb=>by
   refine(List.mem_erase_of_ne (fun e=>n1 (by rw[←e];exact hb))).mpr (h b (.tail _ hb))
  rw[List.length_erase_of_mem hm]at this
  have:=List.length_pos_of_mem hm
  rw[List.length_cons];omega
theorem QI.yH{S:aD}{cs:List aS}{rows:List (List Int)}(hw:aO S cs)(H:QI S rows):sK S rows:=by
 refine⟨H.ux,H.lk,fun r hr=> ?_⟩
 obtain⟨i,hi,rfl⟩:=List.mem_iff_getElem.mp hr
 have:=mg (w0 H.nd hi) (m:=Sp.each S) fun a ha=>by
  obtain⟨hd,hh,_⟩:=aM (H.qr a (gI hi ha)).1
  exact(cb hw).mpr ⟨hd,hh⟩
 have:=Sp.cV hw.wf
 omega
structure RI(S:aD)(aU:Int):Prop where
 q:∀a,Qu.ba S a=true→(Ob.get S a 1).1<2^62
 t:∀a,Qu.ba S a=true→(Ob.get S a 3).1<9223372036854775808
 k:∀a,Qu.ba S a=true→1≤(Ob.get S a 4).1∧(Ob.get S a 4).1≤aU
 inj:∀a b,Qu.ba S a=true→Qu.ba S b=true→(Ob.get S a 4).1=(Ob.get S b 4).1→a=b
namespace RI
variable{S S':aD}{cs:List aS}{aU:Int}
theorem mono(H:RI S aU)(h:∀a,Qu.ba S' a=true→Qu.ba S a=true∧(Ob.get S' a 1).1<2^62∧(Ob.get S' a 3).1<9223372036854775808∧Ob.get S' a 4=Ob.get S a 4):RI S' aU:=
 ⟨fun a ha=>(h a ha).2.1,fun a ha=>(h a ha).2.2.1,fun a ha=>by rw[(h a ha).2.2.2];exact H.k a (h a ha).1,
  fun a b ha hb e=>H.inj a b (h a ha).1 (h b hb).1 (by rw[←(h a ha).2.2.2,←(h b hb).2.2.2];exact e)⟩
theorem put(hw:aO S cs)(H:RI S aU){a i x:Int}(hc:Qu.ba S a=false∨i≠4∧(i=1→x<2^62)∧(i=3→x<9223372036854775808)):RI (Ob.put S a i x).2 aU:=H.mono fun b hb=>by
 rw[bI hw]at hb
 rw[bR hw hb (by decide) (by decide),bR hw hb (by decide) (by decide),bR hw hb (by decide) (by decide)]
 rcases hc with hc|⟨h4,h1,h3⟩
 ·have hne:b≠a:=fun e=>by rw[e,hc]at hb;cases hb
  rw[if_neg (fun g=>hne g.1),if_neg (fun g=>hne g.1),if_neg (fun g=>hne g.1)]
  exact⟨hb,H.q b hb,H.t b hb,rfl⟩
 ·refine⟨hb,?_,?_,by rw[if_neg (fun g=>h4 g.2.symm)]⟩
  ·split
   ·rename_i g;exact h1 g.2.symm
   ·exact H.q b hb
  ·split
   ·rename_i g;exact h3 g.2.symm
   ·exact H.t b hb
theorem qb(H:RI S aU):QB S:=H.q
theorem st(hw:aO S cs)(H:RI S aU):∀r∈refsOf S,r.2.2.2.2.1<9223372036854775808:=fun r hr=>by
 obtain⟨h,hh,hk,e⟩:=(fA hw).mp hr
 have:Qu.ba S r.1=true:=by unfold Qu.ba;rw[hh];simpa using hk
 rw[e];exact H.t r.1 this
theorem eJ(hw:aO S cs)(H:RI S aU)(l:List Int):RI (Rf.eJ S l) aU:=by
 induction l generalizing S with
 |nil=>exact H
 |cons a l ih=>exact ih (hw.put _ _ _) (H.put hw (.inr ⟨by decide,(fun h=>by cases h),(fun h=>by cases h)⟩))
theorem bh(hw:aO S cs)(H:RI S aU)(rows:List (List Int))(i a:Int):RI (Qu.bh S rows i a) aU∧aO (Qu.bh S rows i a) cs:=by
 have p2:∀{S:aD} {a x:Int},aO S cs→RI S aU→RI (Ob.put S a 2 x).2 aU:=fun hw H=>H.put hw (.inr ⟨by decide,(fun h=>by cases h),(fun h=>by cases h)⟩)
 unfold Qu.bh
 split
 ·split
  ·exact⟨p2 hw H,hw.put _ _ _⟩
  ·exact⟨p2 (hw.put _ _ _) (p2 hw H),(hw.put _ _ _).put _ _ _⟩
 ·exact⟨H,hw⟩
theorem ct(hw:aO S cs)(H:RI S aU)(rows:List (List Int))(a:Int):RI (Rf.ct S rows a).2.1 aU∧aO (Rf.ct S rows a).2.1 cs:=by
 have h1:RI (Ob.put S a 0 0).2 aU:=H.put hw (.inr ⟨by decide,(fun h=>by cases h),(fun h=>by cases h)⟩)
 have hw1:=hw.put a 0 0
 unfold Rf.ct
 split
 ·split
  ·exact⟨h1,hw1⟩
  ·obtain⟨h2,hw2⟩:=h1.bh hw1 rows (Rf.qn S a-1) a
   split
   ·exact⟨h2,hw2⟩
   ·exact⟨h2.put hw2 (.inr ⟨by decide,fun _=>by decide,(fun h=>by cases h)⟩),hw2.put _ _ _⟩
 ·exact⟨H,hw⟩
theorem bq(l:List Int):∀{S:aD} {rows:List (List Int)},aO S cs→RI S aU→RI (Rf.bq S rows l).1 aU:=by
 induction l with
 |nil=>exact fun _ H=>H
 |cons a l ih=>
  intro S rows hw H
  obtain⟨h1,h2⟩:=H.ct hw rows a
  exact ih h2 h1
end RI
end Go.Proofs.YtfepdmpplahloaaGreat
namespace Go.Proofs.YtfepdmpplahloaaGreat
open Go Go.Gl
def Fl(S:aD)(a:Int):Prop:=∃hd,Ob.head S a=some hd∧hd.f=true
theorem Fl.obj{S:aD}{a:Int}(h:Fl S a):Mk.obj S a:=by
 obtain⟨hd,hh,_⟩:=h
 unfold Mk.obj;rw[hh];rfl
structure FI(S:aD)(wa pe:List Int):Prop where
 nd:(wa++pe).Nodup
 fl:∀a∈wa++pe,Fl S a
namespace FI
variable{S S':aD}{cs:List aS}{wa pe:List Int}
theorem mono(H:FI S wa pe)(h:∀a∈wa++pe,Fl S a→Fl S' a):FI S' wa pe:=⟨H.nd,fun a ha=>h a ha (H.fl a ha)⟩
theorem bC(H:FI S wa pe)(h:∀b,Ob.head S' b=Ob.head S b):FI S' wa pe:=H.mono fun a _ g=>by
 obtain⟨hd,h1,h2⟩:=g
 exact⟨hd,by rw[h];exact h1,h2⟩
theorem len(hw:aO S cs)(H:FI S wa pe):wa.length+pe.length≤8192:=by
 have h1:=mg H.nd (m:=Sp.each S) fun a ha=>by
  obtain⟨hd,hh,_⟩:=H.fl a ha
  exact(cb hw).mpr ⟨hd,hh⟩
 rw[List.length_append]at h1
 have:=Sp.cV hw.wf
 omega
theorem await(hw:aO S cs)(H:FI S wa pe)(a:Int):FI (Ob.final S a).2 (if(Ob.final S a).1=0 then wa++[a]else wa) pe:=by
 cases hh:Ob.head S a with
 |none=>
  have e:Ob.final S a=(2,S):=by unfold Ob.final;rw[hh]
  rw[e];exact H
 |some h=>
  by_cases hk:h.k=4
  ·have e:Ob.final S a=(5,S):=by unfold Ob.final;rw[hh];dsimp only;rw[if_pos hk]
   rw[e];exact H
  ·cases hf:h.f with
   |true=>
    have e:Ob.final S a=(4,S):=by unfold Ob.final;rw[hh];dsimp only;rw[if_neg hk,if_pos hf]
    rw[e];exact H
   |false=>
    obtain⟨h1,h2,h3,_⟩:=Ob.fu hw hh hk hf
    rw[if_pos h1]
    have hn:a∉wa++pe:=fun ha=>by
     obtain⟨hd,g1,g2⟩:=H.fl a ha
     rw[hh]at g1
     injection g1 with g1
     rw[←g1,hf]at g2;cases g2
    have hp:(wa++[a]++pe).Perm (a::(wa++pe)):=by rw[List.append_assoc];exact List.perm_middle
    refine⟨hp.nodup_iff.mpr (List.nodup_cons.mpr ⟨hn,H.nd⟩),fun b hb=> ?_⟩
    by_cases e:b=a
    ·subst e;exact⟨_,h2,rfl⟩
    ·rcases List.mem_cons.mp (hp.mem_iff.mp hb)with g|g
     ·exact absurd g e
     ·obtain⟨hd,g1,g2⟩:=H.fl b g
      exact⟨hd,h3 _ _ e g1,g2⟩
theorem take(H:FI S wa pe)(i:Int):FI S wa (Fn.dN pe i):=by
 unfold Fn.dN
 split
 ·have hs:(wa++pe.eraseIdx i.toNat).Sublist (wa++pe):=(List.eraseIdx_sublist ..).append_left wa
  exact⟨H.nd.sublist hs,fun a ha=>H.fl a (hs.subset ha)⟩
 ·exact H
theorem vh(x:List Int×List Int)(a:Int):((Fn.bV x a).1++(Fn.bV x a).2).Perm (x.1++x.2):=by
 unfold Fn.bV
 split
 ·rename_i h
  have e:x.1.eraseIdx (x.1.idxOf a)=x.1.erase a:=List.erase_eq_eraseIdx_of_idxOf (rfl) |>.symm
  show(x.1.eraseIdx (x.1.idxOf a)++(x.2++[a])).Perm (x.1++x.2)
  rw[e,←List.append_assoc]
  refine List.perm_append_comm.trans ?_
  show(a::(x.1.erase a++x.2)).Perm _
  exact(List.perm_cons_erase h).symm.append_right x.2
 ·exact .refl _
theorem xY(l:List Int):∀(x:List Int×List Int),((l.foldl Fn.bV x).1++(l.foldl Fn.bV x).2).Perm (x.1++x.2):=by
 induction l with
 |nil=>exact fun _=> .refl _
 |cons a l ih=>exact fun x=>(ih (Fn.bV x a)).trans (vh x a)
theorem mem_erase{l:List Int}(h:l.Nodup){a b:Int}:b∈l.eraseIdx (l.idxOf a)↔(b∈l∧b≠a):=by
 have e:l.eraseIdx (l.idxOf a)=l.erase a:=List.erase_eq_eraseIdx_of_idxOf (rfl) |>.symm
 rw[e,h.mem_erase_iff]
 exact⟨fun g=>⟨g.2,g.1⟩,fun g=>⟨g.2,g.1⟩⟩
theorem kf(l:List Int):∀(x:List Int×List Int),x.1.Nodup→(∀b,b∈(l.foldl Fn.bV x).1↔(b∈x.1∧b∉l))∧(∀b,b∈(l.foldl Fn.bV x).2→(b∈x.2∨b∈l)):=by
 induction l with
 |nil=>exact fun x _=>⟨fun b=>by simp,fun b hb=> .inl hb⟩
 |cons a l ih=>
  intro x hn
  have hn1:(Fn.bV x a).1.Nodup∧(∀b,b∈(Fn.bV x a).1↔(b∈x.1∧b≠a))∧∀b,b∈(Fn.bV x a).2→(b∈x.2∨b=a):=by
   unfold Fn.bV
   split
   ·refine⟨hn.sublist (List.eraseIdx_sublist ..),fun b=>mem_erase hn,fun b hb=> ?_⟩
    rcases List.mem_append.mp hb with h|h
    ·exact .inl h
    ·exact .inr (List.mem_singleton.mp h)
   ·rename_i h
    exact⟨hn,fun b=>⟨fun g=>⟨g,fun e=>h (e▸g)⟩,fun g=>g.1⟩,fun b hb=> .inl hb⟩
  obtain⟨g1,g2,g3⟩:=hn1
  obtain⟨i1,i2⟩:=ih (Fn.bV x a) g1
  refine⟨fun b=> ?_,fun b hb=> ?_⟩
  ·rw[List.foldl_cons,i1,g2,List.mem_cons,not_or,and_assoc]
  ·rcases i2 b hb with h|h
   ·rcases g3 b h with h|rfl
    ·exact .inl h
    ·exact .inr (.head _)
   ·exact .inr (.tail _ h)
end FI
theorem jT{cs:List aS}(l:List Int):∀{S:aD},aO S cs→∀b,Ob.head (Rf.eJ S l) b=Ob.head S b:=by
 induction l with
 |nil=>exact fun _ _=>rfl
 |cons a l ih=>intro S hw b;exact(ih (hw.put a 0 0) b).trans (bb hw b)
theorem jv{S:aD}{cs:List aS}(hw:aO S cs)(rows:List (List Int))(i a b:Int):Ob.head (Qu.bh S rows i a) b=Ob.head S b:=by
 unfold Qu.bh
 split
 ·split
  ·exact bb hw b
  ·exact(bb (hw.put _ _ _) b).trans (bb hw b)
 ·rfl
theorem jf{S:aD}{cs:List aS}(hw:aO S cs)(rows:List (List Int))(i a:Int):aO (Qu.bh S rows i a) cs:=by
 unfold Qu.bh
 split
 ·split
  ·exact hw.put _ _ _
  ·exact(hw.put _ _ _).put _ _ _
 ·exact hw
theorem iH{S:aD}{cs:List aS}(hw:aO S cs)(rows:List (List Int))(a b:Int):Ob.head (Rf.ct S rows a).2.1 b=Ob.head S b:=by
 have hw1:=hw.put a 0 0
 unfold Rf.ct
 split
 ·split
  ·exact bb hw b
  ·split
   ·exact(jv hw1 _ _ _ b).trans (bb hw b)
   ·exact(bb (jf hw1 _ _ _) b).trans ((jv hw1 _ _ _ b).trans (bb hw b))
 ·rfl
theorem sj{S:aD}{cs:List aS}(hw:aO S cs)(rows:List (List Int))(a:Int):aO (Rf.ct S rows a).2.1 cs:=by
 have hw1:=hw.put a 0 0
 unfold Rf.ct
 split
 ·split
  ·exact hw1
  ·split
   ·exact jf hw1 _ _ _
   ·exact(jf hw1 _ _ _).put _ _ _
 ·exact hw
theorem nJ{cs:List aS}(l:List Int):∀{S:aD} {rows:List (List Int)},aO S cs→∀b,Ob.head (Rf.bq S rows l).1 b=Ob.head S b:=by
 induction l with
 |nil=>exact fun _ _=>rfl
 |cons a l ih=>
  intro S rows hw b
  exact(ih (S:=(Rf.ct S rows a).2.1) (rows:=(Rf.ct S rows a).2.2) (sj hw rows a) b).trans (iH hw rows a b)
theorem dt(S:aD)(a i x:Int):(Ob.put S a i x).2.ws.length=S.ws.length:=by
 obtain⟨ws',e,hl⟩:=pG S a i x
 rw[e];exact hl
theorem Ck(l:List Int):∀{S:aD},(Rf.eJ S l).ws.length=S.ws.length:=by
 induction l with
 |nil=>exact rfl
 |cons a l ih=>intro S;exact(ih (S:=(Ob.put S a 0 0).2)).trans (dt ..)
theorem qH(S:aD)(rows:List (List Int))(i a:Int):(Qu.bh S rows i a).ws.length=S.ws.length:=by
 unfold Qu.bh
 split
 ·split
  ·exact dt ..
  ·exact(dt ..).trans (dt ..)
 ·rfl
theorem w9(S:aD)(rows:List (List Int))(a:Int):(Rf.ct S rows a).2.1.ws.length=S.ws.length:=by
 unfold Rf.ct
 split
 ·split
  ·exact dt ..
  ·split
   ·exact(qH ..).trans (dt ..)
   ·exact(dt ..).trans ((qH ..).trans (dt ..))
 ·rfl
theorem AN(l:List Int):∀{S:aD} {rows:List (List Int)},(Rf.bq S rows l).1.ws.length=S.ws.length:=by
 induction l with
 |nil=>exact rfl
 |cons a l ih=>intro S rows;exact(ih (S:=(Rf.ct S rows a).2.1) (rows:=(Rf.ct S rows a).2.2)).trans (w9 ..)
structure Wl(S:aD)(cs:List aS)(rows:List (List Int))(aU:Int)(wa pe:List Int):Prop where
 hw:aO S cs
 q:QI S rows
 r:RI S aU
 f:FI S wa pe
 ws:64≤S.ws.length
namespace Wl
variable{S S':aD}{cs:List aS}{rows:List (List Int)}{aU:Int}{wa pe:List Int}
theorem put(H:Wl S cs rows aU wa pe){a i x:Int}(hc:Qu.ba S a=false∨i≠1∧i≠2∧i≠4∧(i=3→x<9223372036854775808)):Wl (Ob.put S a i x).2 cs rows aU wa pe:=by
 refine⟨H.hw.put _ _ _,H.q.put H.hw ?_,H.r.put H.hw ?_,H.f.bC (bb H.hw),by rw[dt];exact H.ws⟩
 ·rcases hc with hc|hc
  ·exact .inr fun ha=>by rw[(H.q.qr a ha).1]at hc;cases hc
  ·exact .inl ⟨hc.1,hc.2.1⟩
 ·rcases hc with hc|hc
  ·exact .inl hc
  ·exact .inr ⟨hc.2.2.1,fun h=>absurd h hc.1,hc.2.2.2⟩
theorem jb(hw:aO S cs){h:Hd}(h0:(Ob.make S cs h).2.1=0){b:Int}{hd:Hd}(hh:Ob.head (Ob.make S cs h).2.2 b=some hd):(b=(Ob.make S cs h).1∧hd=h)∨(b≠(Ob.make S cs h).1∧Ob.head S b=some hd):=by
 have hm:=Ob.eA hw h0
 have hb:b∈Sp.each (Ob.make S cs h).2.2:=(cb (hw.make h)).mpr ⟨hd,hh⟩
 rcases List.mem_cons.mp ((nP hw h0).mem_iff.mp hb)with e|g
 ·subst e
  rw[hm]at hh
  injection hh with hh
  exact .inl ⟨rfl,hh.symm⟩
 ·obtain⟨h',hh'⟩:=(cb hw).mp g
  obtain⟨k1,k2,_⟩:=Ob.bX hw h0 hh'
  rw[hh]at k1
  injection k1 with k1
  exact .inr ⟨k2,by rw[hh',k1]⟩
theorem uB(hw:aO S cs)(h:Hd)(hl:64≤S.ws.length):64≤(Ob.make S cs h).2.2.ws.length:=by
 have h1:=hw.wf.len
 have h2:=(hw.make h).wf.len
 by_cases h0:(Ob.make S cs h).2.1=0
 ·obtain⟨b,n,e1,e2,e3,e4,e5,e6,_⟩:=Ob.g9 hw h0
  rw[e6,List.length_set]
  have:(Sp.eJ S.ws b n).length=S.ws.length:=lY e5
  omega
 ·have e:(Ob.make S cs h).2.2=S:=by
   unfold Ob.make at h0⊢
   split
   ·rfl
   ·rename_i g1
    rw[if_neg g1]at h0
    split
    ·rfl
    ·rename_i g2
     rw[if_neg g2]at h0
     exact absurd rfl h0
  rw[e];exact hl
theorem gH{h:Hd}(h0:(Ob.make S cs h).2.1≠0):(Ob.make S cs h).2.2=S∧(Ob.make S cs h).1=0:=by
 unfold Ob.make at h0⊢
 split
 ·exact⟨rfl,rfl⟩
 ·rename_i g1
  rw[if_neg g1]at h0
  split
  ·exact⟨rfl,rfl⟩
  ·rename_i g2
   rw[if_neg g2]at h0
   exact absurd rfl h0
theorem z6(hw:aO S cs){h:Hd}(h0:(Ob.make S cs h).2.1=0){b:Int}(hr:Qu.ba S b=true):Qu.ba (Ob.make S cs h).2.2 b=true∧b≠(Ob.make S cs h).1∧∀j,0≤j→j<5→Ob.get (Ob.make S cs h).2.2 b j=Ob.get S b j:=by
 obtain⟨hd,hh,hk⟩:=aM hr
 obtain⟨k1,k2,k3⟩:=Ob.bX hw h0 hh
 have hn:=dm hw hh hk
 exact⟨by unfold Qu.ba;rw[k1];simpa using hk,k2,fun j j0 j5=>k3 j j0 (by omega)⟩
theorem make(H:Wl S cs rows aU wa pe){h:Hd}(hk:h.k≠4):Wl (Ob.make S cs h).2.2 cs rows aU wa pe:=by
 by_cases h0:(Ob.make S cs h).2.1=0
 ·have hw:=H.hw
  refine⟨hw.make h,H.q.mono fun a ha=> ?_,H.r.mono fun a ha=> ?_,H.f.mono fun a _ g=> ?_,uB hw h H.ws⟩
  ·obtain⟨g1,g2⟩:=H.q.qr a ha
   obtain⟨k1,_,k3⟩:=z6 hw h0 g1
   exact⟨k1,by rw[k3 1 (by decide) (by decide)];exact g2,k3 2 (by decide) (by decide)⟩
  ·obtain⟨hd,hh,hk'⟩:=aM ha
   rcases jb hw h0 hh with ⟨_,e⟩|⟨_,g⟩
   ·exact absurd (e▸hk') hk
   ·have hr:Qu.ba S a=true:=by unfold Qu.ba;rw[g];simpa using hk'
    obtain⟨_,_,k3⟩:=z6 hw h0 hr
    rw[k3 1 (by decide) (by decide),k3 3 (by decide) (by decide)]
    exact⟨hr,H.r.q a hr,H.r.t a hr,k3 4 (by decide) (by decide)⟩
  ·obtain⟨hd,hh,hf⟩:=g
   exact⟨hd,(Ob.bX hw h0 hh).1,hf⟩
 ·rw[(gH h0).1];exact H
theorem mC{a:Int}(l:List Int):∀{S:aD} {i:Nat},aO S cs→∀{b:Int} {j:Nat},Qu.ba S b=true→j<5→Ob.get (Rf.cR S a i l) b j=if b=a∧i≤j∧j<i+l.length then(l.getD (j-i) 0,0)else Ob.get S b j:=by
 induction l with
 |nil=>intro S i hw b j _ _;rw[if_neg (by rintro⟨_,h1,h2⟩;rw[List.length_nil]at h2;omega)];rfl
 |cons x l ih=>
  intro S i hw b j hb hj
  have e:=ih (S:=(Ob.put S a i x).2) (i:=i+1) (hw.put _ _ _) (b:=b) (j:=j) (by rw[bI hw];exact hb) hj
  show Ob.get (Rf.cR (Ob.put S a i x).2 a (i+1) l) b j=_
  rw[e,bR hw hb (by omega) (by omega)]
  by_cases h1:b=a∧i+1≤j∧j<i+1+l.length
  ·rw[if_pos h1,if_pos ⟨h1.1,by omega,by rw[List.length_cons];omega⟩]
   rw[show j-i=(j-(i+1))+1 by omega];rfl
  ·rw[if_neg h1]
   by_cases h2:b=a∧(j:Int)=i
   ·have:j=i:=by omega
    subst this
    rw[if_pos h2,if_pos ⟨h2.1,by omega,by rw[List.length_cons];omega⟩,Nat.sub_self];rfl
   ·rw[if_neg h2,if_neg]
    rintro⟨g1,g2,g3⟩
    rw[List.length_cons]at g3
    by_cases g4:j=i
    ·exact h2 ⟨g1,by omega⟩
    ·exact h1 ⟨g1,by omega,by omega⟩
theorem iC{a:Int}(l:List Int):∀{S:aD} {i:Nat},aO S cs→∀b,Ob.head (Rf.cR S a i l) b=Ob.head S b:=by
 induction l with
 |nil=>exact fun _ _=>rfl
 |cons x l ih=>intro S i hw b;exact(ih (hw.put a i x) b).trans (bb hw b)
theorem yU{a:Int}(l:List Int):∀{S:aD} {i:Nat},(Rf.cR S a i l).ws.length=S.ws.length:=by
 induction l with
 |nil=>exact rfl
 |cons x l ih=>intro S i;exact(ih (S:=(Ob.put S a i x).2)).trans (dt ..)
theorem aY(H:Wl S cs rows aU wa pe)(c o q t:Int)(ht:t<9223372036854775808)(hs:0≤aU):Wl (Rf.aY S cs rows aU c o q t).2.2.1 cs rows (Rf.aY S cs rows aU c o q t).2.2.2 wa pe∧aU≤(Rf.aY S cs rows aU c o q t).2.2.2∧(Rf.aY S cs rows aU c o q t).2.2.2≤aU+1:=by
 unfold Rf.aY
 by_cases h1:Rf.may S rows c o q≠0
 ·rw[if_pos h1];exact⟨H,by dsimp only;omega,by dsimp only;omega⟩
 rw[if_neg h1]
 by_cases h2:(Ob.make S cs ⟨4,c,5,false⟩).2.1≠0
 ·rw[if_pos h2];dsimp only;rw[(gH h2).1];exact⟨H,by omega,by omega⟩
 rw[if_neg h2]
 have h0:(Ob.make S cs ⟨4,c,5,false⟩).2.1=0:=by simpa using h2
 have hw:=H.hw
 have hqb:q<rows.length:=by
  have h1:Rf.may S rows c o q=0:=by simpa using h1
  unfold Rf.may at h1
  split at h1
  ·cases h1
  ·split at h1
   ·cases h1
   ·split at h1
    ·cases h1
    ·split at h1
     ·cases h1
     ·omega
 have hfew:=H.q.ux
 dsimp only
 have hm:=Ob.eA hw h0
 have hw1:=hw.make ⟨4,c,5,false⟩
 have hra:Qu.ba (Ob.make S cs ⟨4,c,5,false⟩).2.2 (Ob.make S cs ⟨4,c,5,false⟩).1=true:=by unfold Qu.ba;rw[hm];rfl
 have lT:∀b,Qu.ba S b=true→Qu.ba (Ob.make S cs ⟨4,c,5,false⟩).2.2 b=true∧b≠(Ob.make S cs ⟨4,c,5,false⟩).1∧∀j,0≤j→j<5→Ob.get (Ob.make S cs ⟨4,c,5,false⟩).2.2 b j=Ob.get S b j:=fun b hb=>z6 hw h0 hb
 have isr:∀b,Qu.ba (Ob.make S cs ⟨4,c,5,false⟩).2.2 b=true→b=(Ob.make S cs ⟨4,c,5,false⟩).1∨Qu.ba S b=true:=fun b hb=>by
  obtain⟨hd,hh,hk'⟩:=aM hb
  rcases jb hw h0 hh with ⟨e,_⟩|⟨_,g⟩
  ·exact .inl e
  ·exact .inr (by unfold Qu.ba;rw[g];simpa using hk')
 have hf1:FI (Ob.make S cs ⟨4,c,5,false⟩).2.2 wa pe:=H.f.mono fun a _ g=>by
  obtain⟨hd,hh,hf⟩:=g
  exact⟨hd,(Ob.bX hw h0 hh).1,hf⟩
 have hwl:=uB hw ⟨4,c,5,false⟩ H.ws
 generalize(Ob.make S cs ⟨4,c,5,false⟩).2.2=S1 at*
 generalize(Ob.make S cs ⟨4,c,5,false⟩).1=a at*
 have hR:∀b,Qu.ba (Rf.cR S1 a 0 [o,q+1,0,t,aU+1]) b=Qu.ba S1 b:=fun b=>by unfold Qu.ba;rw[iC _ hw1]
 have g0:∀b,Qu.ba S b=true→∀j:Nat,j<5→Ob.get (Rf.cR S1 a 0 [o,q+1,0,t,aU+1]) b j=Ob.get S b j:=fun b hb j hj=>by
  obtain⟨k1,k2,k3⟩:=lT b hb
  rw[mC _ hw1 k1 hj,if_neg (fun g=>k2 g.1),k3 j (by omega) (by omega)]
 have ga:∀j:Nat,j<5→Ob.get (Rf.cR S1 a 0 [o,q+1,0,t,aU+1]) a j=([o,q+1,0,t,aU+1].getD j 0,0):=fun j hj=>by
  rw[mC _ hw1 hra hj,if_pos ⟨rfl,by omega,by show j<0+5;omega⟩];rfl
 refine⟨⟨aO.cR hw1,H.q.mono fun b hb=> ?_,⟨fun b hb=> ?_,fun b hb=> ?_,fun b hb=> ?_,fun b b' hb hb' e=> ?_⟩,hf1.bC (iC _ hw1),by rw[yU];exact hwl⟩,by omega,by omega⟩
 ·obtain⟨k1,k2⟩:=H.q.qr b hb
  refine⟨by rw[hR];exact(lT b k1).1,?_,g0 b k1 2 (by decide)⟩
  have:=g0 b k1 1 (by decide)
  exact(congrArg Prod.fst this).trans k2
 ·rw[hR]at hb
  rcases isr b hb with rfl|hb
  ·have e:(Ob.get (Rf.cR S1 b 0 [o,q+1,0,t,aU+1]) b 1).1=_:=congrArg Prod.fst (ga 1 (by decide))
   rw[e]
   show q+1<_
   omega
  ·have e:(Ob.get (Rf.cR S1 a 0 [o,q+1,0,t,aU+1]) b 1).1=(Ob.get S b 1).1:=congrArg Prod.fst (g0 b hb 1 (by decide))
   rw[e]
   exact H.r.q b hb
 ·rw[hR]at hb
  rcases isr b hb with rfl|hb
  ·have e:(Ob.get (Rf.cR S1 b 0 [o,q+1,0,t,aU+1]) b 3).1=_:=congrArg Prod.fst (ga 3 (by decide))
   rw[e]
   exact ht
  ·have e:(Ob.get (Rf.cR S1 a 0 [o,q+1,0,t,aU+1]) b 3).1=(Ob.get S b 3).1:=congrArg Prod.fst (g0 b hb 3 (by decide))
   rw[e]
   exact H.r.t b hb
 ·rw[hR]at hb
  rcases isr b hb with rfl|hb
  ·have e:(Ob.get (Rf.cR S1 b 0 [o,q+1,0,t,aU+1]) b 4).1=_:=congrArg Prod.fst (ga 4 (by decide))
   rw[e]
   show 1≤aU+1∧aU+1≤aU+1
   omega
  ·have e:(Ob.get (Rf.cR S1 a 0 [o,q+1,0,t,aU+1]) b 4).1=(Ob.get S b 4).1:=congrArg Prod.fst (g0 b hb 4 (by decide))
   rw[e]
   have:=H.r.k b hb
   omega
 ·rw[hR]at hb hb'
  have e4:∀b,Qu.ba S b=true→(Ob.get (Rf.cR S1 a 0 [o,q+1,0,t,aU+1]) b 4).1≤aU:=fun b hb=>by
   have e:(Ob.get (Rf.cR S1 a 0 [o,q+1,0,t,aU+1]) b 4).1=(Ob.get S b 4).1:=congrArg Prod.fst (g0 b hb 4 (by decide))
   rw[e]
   exact(H.r.k b hb).2
  have ea:(Ob.get (Rf.cR S1 a 0 [o,q+1,0,t,aU+1]) a 4).1=aU+1:=congrArg Prod.fst (ga 4 (by decide))
  rcases isr b hb with rfl|hb
  ·rcases isr b' hb' with rfl|hb'
   ·rfl
   ·have:=e4 b' hb';omega
  ·rcases isr b' hb' with rfl|hb'
   ·have:=e4 b hb;omega
   ·refine H.r.inj b b' hb hb' ?_
    have t1:=congrArg Prod.fst (g0 b hb 4 (by decide))
    have t2:=congrArg Prod.fst (g0 b' hb' 4 (by decide))
    exact t1.symm.trans (e.trans t2)
theorem await(H:Wl S cs rows aU wa pe)(a:Int):Wl (Ob.final S a).2 cs rows aU (if(Ob.final S a).1=0 then wa++[a]else wa) pe:=by
 have hf:=H.f.await H.hw a
 have hw':=H.hw.final a
 by_cases h0:(Ob.final S a).1=0
 ·cases hh:Ob.head S a with
  |none=>unfold Ob.final at h0;rw[hh]at h0;cases h0
  |some h=>
   have hk:h.k≠4:=fun hk=>by unfold Ob.final at h0;rw[hh]at h0;dsimp only at h0;rw[if_pos hk]at h0;cases h0
   have hff:h.f=false:=by
    cases hff:h.f with
    |false=>rfl
    |true=>unfold Ob.final at h0;rw[hh]at h0;dsimp only at h0;rw[if_neg hk,if_pos hff]at h0;cases h0
   obtain⟨k1,k2,k3,k4⟩:=Ob.fu H.hw hh hk hff
   have hpg:(Ob.final S a).2.pg=S.pg∧(Ob.final S a).2.ws.length=S.ws.length:=by
    unfold Ob.final
    rw[hh]
    dsimp only
    rw[if_neg hk,if_neg (by rw[hff];simp)]
    exact⟨rfl,List.length_set ..⟩
   have hR:∀b,Qu.ba S b=true→Qu.ba (Ob.final S a).2 b=true∧∀j,0≤j→j<5→Ob.get (Ob.final S a).2 b j=Ob.get S b j:=fun b hb=>by
    obtain⟨hd,g1,g2⟩:=aM hb
    have hn:=dm H.hw g1 g2
    have hne:b≠a:=fun e=>hk (by subst e;rw[hh]at g1;injection g1 with g1;rw[g1];exact g2)
    refine⟨by unfold Qu.ba;rw[k3 _ _ hne g1];simpa using g2,fun j j0 j5=>k4 _ _ j g1 j0 (by omega)⟩
   have hR':∀b,Qu.ba (Ob.final S a).2 b=true→Qu.ba S b=true:=fun b hb=>by
    obtain⟨hd,g1,g2⟩:=aM hb
    have:b∈Sp.each S:=by
     obtain⟨n,w,rfl,hfd,_⟩:=Ob.bt hw' g1
     refine(cg H.hw.wf).mpr ⟨n,w,rfl,?_⟩
     rw[←hfd]
     generalize hS:(Ob.final S a).2=S' at*
     obtain⟨ws',pg'⟩:=S'
     obtain⟨e1,e2⟩:=hpg
     dsimp only at e1 e2
     subst e1
     exact(eN e2 _).symm
    obtain⟨h',hh'⟩:=(cb H.hw).mp this
    by_cases e:b=a
    ·subst e
     rw[k2]at g1
     injection g1 with g1
     exact absurd (by rw[←g1]at g2;exact g2) hk
    ·rw[k3 _ _ e hh']at g1
     injection g1 with g1
     unfold Qu.ba;rw[hh',g1];simpa using g2
   refine⟨hw',H.q.mono fun b hb=> ?_,H.r.mono fun b hb=> ?_,hf,by rw[hpg.2];exact H.ws⟩
   ·obtain⟨g1,g2⟩:=H.q.qr b hb
    obtain⟨t1,t2⟩:=hR b g1
    exact⟨t1,by rw[t2 1 (by decide) (by decide)];exact g2,t2 2 (by decide) (by decide)⟩
   ·have hb':=hR' b hb
    obtain⟨t1,t2⟩:=hR b hb'
    rw[t2 1 (by decide) (by decide),t2 3 (by decide) (by decide)]
    exact⟨hb',H.r.q b hb',H.r.t b hb',t2 4 (by decide) (by decide)⟩
 ·have e:(Ob.final S a).2=S:=by
   unfold Ob.final at h0⊢
   split
   ·rfl
   ·split
    ·rfl
    ·rename_i hh g1
     rw[hh]at h0
     dsimp only at h0
     rw[if_neg g1]at h0
     split
     ·rfl
     ·rename_i g2
      rw[if_neg g2]at h0
      exact absurd rfl h0
  rw[if_neg h0,e];exact H
theorem take(H:Wl S cs rows aU wa pe)(i:Int):Wl S cs rows aU wa (Fn.dN pe i):=⟨H.hw,H.q,H.r,H.f.take i,H.ws⟩
theorem ct(H:Wl S cs rows aU wa pe)(a:Int):Wl (Rf.ct S rows a).2.1 cs (Rf.ct S rows a).2.2 aU wa pe:=by
 obtain⟨h1,h2,_⟩:=H.q.ct H.hw a
 exact⟨h2,h1,(H.r.ct H.hw rows a).1,H.f.bC (iH H.hw rows a),by rw[w9];exact H.ws⟩
theorem eU(H:Wl S cs rows aU wa pe)(i:Int):Wl (Qu.cp S rows i) cs (Qu.dP rows i) aU wa pe:=by
 obtain⟨h1,h2⟩:=H.q.eU H.hw i
 refine⟨h2,h1,?_,?_,?_⟩
 ·unfold Qu.cp
  split
  ·exact H.r.put H.hw (.inr ⟨by decide,(fun h=>by cases h),(fun h=>by cases h)⟩)
  ·exact H.r
 ·unfold Qu.cp
  split
  ·exact H.f.bC (bb H.hw)
  ·exact H.f
 ·unfold Qu.cp
  split
  ·rw[dt];exact H.ws
  ·exact H.ws
theorem open_(H:Wl S cs rows aU wa pe)(h:rows.length<8):Wl S cs (rows++[[]]) aU wa pe:=⟨H.hw,H.q.open_ h,H.r,H.f,H.ws⟩
theorem aG(H:Wl S cs rows aU wa pe)(a t:Int)(ht:t<9223372036854775808):Wl (Rf.aG S a t).2 cs rows aU wa pe:=by
 unfold Rf.aG
 split
 ·exact H
 ·show Wl (if(Rf.str S a).1=1∧(Ob.get S a 0).1≠0 then(Ob.put S a 3 t).2 else S) cs rows aU wa pe
  split
  ·exact H.put (.inr ⟨by decide,by decide,by decide,fun _=>ht⟩)
  ·exact H
theorem clear(H:Wl S cs rows aU wa pe)(l:List Int):Wl (Rf.clear S l).2 cs rows aU wa pe:=by
 unfold Rf.clear
 split
 ·exact⟨aO.eJ H.hw,H.q.eJ H.hw l,H.r.eJ H.hw l,H.f.bC (jT l H.hw),by show 64≤(Rf.eJ S l).ws.length;rw[Ck];exact H.ws⟩
 ·exact H
theorem qO{R:List Int}:∀{r:List Int},Qu.Lk S r→(∀b∈r,Qu.ba S b=true)→(∀b∈r.take 1,Mk.jM S cs R b)→∀b∈r,Mk.jM S cs R b
 |[],_,_,_,b,hb=>by cases hb
 |a::r,H,hr,h,b,hb=>by
  have ha:=h a (by simp)
  rcases List.mem_cons.mp hb with rfl|hb
  ·exact ha
  ·refine qO (r:=r) H.2.2 (fun c hc=>hr c (.tail _ hc)) (fun c hc=> ?_) b hb
   cases r with
   |nil=>cases hc
   |cons d r=>
    have:c=d:=by simpa using hc
    subst this
    refine .step ha ?_ ?_
    ·refine Mk.qm.mpr ⟨2,?_,?_⟩
     ·obtain⟨hd,hh,hk⟩:=aM (hr a (.head _))
      unfold Ob.refs
      rw[hh]
      dsimp only
      rw[if_neg (by rw[hk];decide),if_neg (by rw[hk];decide),if_pos hk];simp
     ·rw[H.2.1];exact⟨rfl,rfl⟩
    ·obtain⟨hd,hh,_⟩:=aM (hr c (.tail _ (.head _)))
     unfold Mk.obj;rw[hh];rfl
theorem after(H:Wl S cs rows aU wa pe){x:mY}{ro:List Int}{l:List bW}{m2 m3:List Bool}(hC:lD S cs x ro wa l m2 m3)(h1:∀r∈rows,∀b∈r.take 1,b∈ro)(h2:∀b∈pe,b∈ro):
  Wl (Sw.cz (Rf.bq (Rf.clear S (aT S m2 m3 l)).2 rows (bG S m3 (aT S m2 m3 l))).1 (Mk.all m3)) cs (Rf.bq (Rf.clear S (aT S m2 m3 l)).2 rows (bG S m3 (aT S m2 m3 l))).2 aU (Fn.jK wa pe (bA S m2 wa)).1 (Fn.jK wa pe (bA S m2 wa)).2:=by
 have hw:=H.hw
 have H1:=H.clear (aT S m2 m3 l)
 have hh1:∀b,Ob.head (Rf.clear S (aT S m2 m3 l)).2 b=Ob.head S b:=fun b=>by
  unfold Rf.clear
  split
  ·exact jT _ hw b
  ·rfl
 generalize hpu:bG S m3 (aT S m2 m3 l)=pu at*
 generalize(Rf.clear S (aT S m2 m3 l)).2=S1 at*
 obtain⟨e1,e2,e3⟩:=QI.bq pu H1.hw H1.q
 have e4:=RI.bq pu (rows:=rows) H1.hw H1.r
 have e5:=nJ pu (rows:=rows) H1.hw
 have e6:(Rf.bq S1 rows pu).1.ws.length=S1.ws.length:=AN pu
 have hws:=H1.ws
 generalize(Rf.bq S1 rows pu).1=S2 at*
 generalize(Rf.bq S1 rows pu).2=rows2 at*
 have L:=Sw.jQ e2 (Mk.all m3)
 generalize Sw.cz S2 (Mk.all m3)=S3 at*
 have hd3:∀b hd,Ob.head S3 b=some hd→Ob.head S2 b=some hd:=fun b hd hh=>by
  rw[L.head]at hh
  split at hh
  ·cases hh
  ·exact hh
 have hl3:∀b,Sp.has m3 b=true→Ob.head S3 b=Ob.head S2 b:=fun b hb=>by
  rw[L.head,if_neg]
  intro g
  unfold Sw.dead at g
  rw[List.mem_filter,decide_eq_true_iff]at g
  exact g.2 (Mk.fE.mpr hb)
 have hg3:∀b,Qu.ba S3 b=true→∀j,0≤j→j<5→Ob.get S3 b j=Ob.get S2 b j:=fun b hb j j0 j5=>by
  obtain⟨hd,hh,hk⟩:=aM hb
  have hn:=dm L.hw hh hk
  rw[Ob.da hh j0 (by omega),Ob.da (hd3 b hd hh) j0 (by omega),L.ws]
 have m23:∀b,Sp.has m2 b=true→Sp.has m3 b=true:=fun b hb=>(hC.rJ b).mpr (.inl hb)
 have hroot:∀b,b∈ro→Mk.obj S b→Sp.has m3 b=true:=fun b hb ho=>m23 b ((hC.tw b).mpr (.base (.root hb ho)))
 have lrow:∀b∈rows2.flatten,Sp.has m3 b=true:=fun b hb=>by
  rcases e3 b hb with h|h
  ·rw[←hpu]at h
   unfold bG at h
   rw[List.mem_filter,Bool.and_eq_true]at h
   exact h.2.1
  ·obtain⟨r,hr,hbr⟩:=List.mem_flatten.mp h
   have hR:∀b∈r,Qu.ba S b=true:=fun c hc=>(H.q.qr c (List.mem_flatten.mpr ⟨r,hr,hc⟩)).1
   refine m23 b ((hC.tw b).mpr (.base (qO (H.q.lk r hr) hR (fun c hc=> .root (h1 r hr c hc) ?_) b hbr)))
   obtain⟨hd,hh,_⟩:=aM (hR c (List.mem_of_mem_take hc))
   unfold Mk.obj;rw[hh];rfl
 have hnd:wa.Nodup:=H.f.nd.sublist (List.sublist_append_left ..)
 obtain⟨q1,q2⟩:=FI.kf (bA S m2 wa) (wa,pe) hnd
 have hp:=FI.xY (bA S m2 wa) (wa,pe)
 refine⟨L.hw,e1.mono fun b hb=> ?_,e4.mono fun b hb=> ?_,⟨hp.nodup_iff.mpr H.f.nd,fun b hb=> ?_⟩,by rw[L.ws,e6];exact hws⟩
 ·obtain⟨g1,g2⟩:=e1.qr b hb
  have hr3:Qu.ba S3 b=true:=by unfold Qu.ba at g1⊢;rw[hl3 b (lrow b hb)];exact g1
  exact⟨hr3,by rw[hg3 b hr3 1 (by decide) (by decide)];exact g2,hg3 b hr3 2 (by decide) (by decide)⟩
 ·obtain⟨hd,hh,hk⟩:=aM hb
  have g1:Qu.ba S2 b=true:=by unfold Qu.ba;rw[hd3 b hd hh];simpa using hk
  rw[hg3 b hb 1 (by decide) (by decide),hg3 b hb 3 (by decide) (by decide)]
  exact⟨g1,e4.q b g1,e4.t b g1,hg3 b hb 4 (by decide) (by decide)⟩
 ·have hf:=H.f.fl b (hp.mem_iff.mp hb)
  have hlive:Sp.has m3 b=true:=by
   rcases List.mem_append.mp hb with h|h
   ·obtain⟨t1,t2⟩:=(q1 b).mp h
    rw[pv]at t2
    refine m23 b ?_
    cases e:Sp.has m2 b with
    |true=>rfl
    |false=>exact absurd ⟨t1,hf.obj,by rw[e];simp⟩ t2
   ·rcases q2 b h with h|h
    ·exact hroot b (h2 b h) hf.obj
    ·exact(hC.rJ b).mpr (.inr (.root h hf.obj))
  obtain⟨hd,hh,hff⟩:=hf
  exact⟨hd,by rw[hl3 b hlive,e5,hh1];exact hh,hff⟩
end Wl
structure HI(N:Int)(hs:List Hn.Slot):Prop where
 len:hs.length=512
 ni:∀e∈hs,0≤e.1∧e.1≤N
theorem HI.ok{N:Int}{hs:List Hn.Slot}(H:HI N hs)(h:N<2^50):Hn.Ok hs:=⟨H.len,fun e he=>by have:=H.ni e he;omega⟩
theorem HI.get{N:Int}{hs:List Hn.Slot}(H:HI N hs){i:Nat}(hi:i<512):0≤(Hn.aQ hs i).1∧(Hn.aQ hs i).1≤N:=by
 unfold Hn.aQ
 rw[List.getD_eq_getElem?_getD,List.getElem?_eq_getElem (by rw[H.len];exact hi)]
 exact H.ni _ (List.getElem_mem _)
theorem HI.le{N M:Int}{hs:List Hn.Slot}(H:HI N hs)(h:N≤M):HI M hs:=⟨H.len,fun e he=>by have:=H.ni e he;omega⟩
theorem HI.hold{N:Int}{hs:List Hn.Slot}(H:HI N hs)(a:Int):HI N (Hn.du hs a):=by
 unfold Hn.du
 split
 ·exact H
 ·split
  ·rename_i i hi
   obtain⟨h1,_,_⟩:=Hn.eE hi
   rw[H.len]at h1
   refine⟨by rw[List.length_set];exact H.len,fun e he=> ?_⟩
   rcases List.mem_or_eq_of_mem_set he with h|rfl
   ·exact H.ni e h
   ·exact H.get h1
  ·exact H
theorem HI.drop{N:Int}{hs:List Hn.Slot}(H:HI N hs)(hN:0≤N)(x:Int):HI (N+1) (Hn.gG hs x):=by
 unfold Hn.gG
 split
 ·rename_i i hi
  have h1:i<512:=by
   unfold Hn.find at hi
   split at hi
   ·cases hi
   ·split at hi
    ·injection hi with hi;omega
    ·cases hi
  refine⟨by rw[List.length_set];exact H.len,fun e he=> ?_⟩
  rcases List.mem_or_eq_of_mem_set he with h|rfl
  ·have:=H.ni e h;omega
  ·have:=H.get h1;dsimp only;omega
 ·exact H.le (by omega)
structure Rt.Inv(N:Int)(x:Rt):Prop where
 w:Wl x.S x.cs x.rows x.aU x.wa x.pe
 h:HI N x.hs
 ro:x.ro.length=16
 ck:0≤x.ck∧x.ck<9223372036854775808
 aU:0≤x.aU∧x.aU≤N
 rn:0≤x.rn∧x.rn≤N
 aZ:0≤x.aZ∧x.aZ<9223372036854775808
 stack:1≤x.stack∧x.stack≤4096
namespace Rt.Inv
variable{N:Int}{x:Rt}
theorem le{M:Int}(H:x.Inv N)(h:N≤M):x.Inv M:={H with h:=H.h.le h,aU:=⟨H.aU.1,by have:=H.aU.2;omega⟩,rn:=⟨H.rn.1,by have:=H.rn.2;omega⟩}
theorem EP(H:x.Inv N)(h:N<2^50):x.Fq:=by
 have hl:=H.w.f.len H.w.hw
 have h1:=H.rn
 exact{hw:=H.w.hw,rows:=H.w.q.yH H.w.hw,hs:=H.h.ok h,ro:=H.ro,wa:=by omega,pe:=by omega,ws:=H.w.ws,qb:=H.w.r.qb,st:=H.w.r.st H.w.hw,ck:=H.ck.2,aZ:=H.aZ.2,stack:=H.stack,rn:=⟨h1.1,by omega⟩}
theorem ok(H:x.Inv N)(h:N<2^50):x.Ok:=(H.EP h).toOk
theorem n4(H:x.Inv N):∀r∈x.rows,∀b∈r.take 1,b∈x.roots:=fun r hr b hb=>by
 unfold Rt.roots
 refine Mg.mem_merge.mpr ⟨?_,x.rows.flatMap (·.take 1),by simp,List.mem_flatMap.mpr ⟨r,hr,hb⟩⟩
 obtain⟨hd,hh,_⟩:=aM (H.w.q.qr b (List.mem_flatten.mpr ⟨r,hr,List.mem_of_mem_take hb⟩)).1
 obtain⟨n,w,e,_⟩:=Ob.bt H.w.hw hh
 have:b≠0:=fun e=>Mk.gF H.w.hw (by unfold Mk.obj;rw[←e,hh];rfl)
 omega
theorem pq(H:x.Inv N):∀b∈x.pe,b∈x.roots:=fun b hb=>by
 unfold Rt.roots
 refine Mg.mem_merge.mpr ⟨?_,x.pe,by simp,hb⟩
 obtain⟨hd,hh,_⟩:=H.w.f.fl b (List.mem_append_right _ hb)
 obtain⟨n,w,e,_⟩:=Ob.bt H.w.hw hh
 have:b≠0:=fun e=>Mk.gF H.w.hw (by unfold Mk.obj;rw[←e,hh];rfl)
 omega
theorem after(H:x.Inv N){y:mY}{l:List bW}{m2 m3:List Bool}(hC:lD x.S x.cs y x.roots x.wa l m2 m3):(x.after (aT x.S m2 m3 l) (bG x.S m3 (aT x.S m2 m3 l)) (bA x.S m2 x.wa) (Mk.all m3)).Inv (N+1):=by
 have h1:=H.rn
 have h2:=H.aU
 exact{w:=H.w.after hC H.n4 H.pq,h:=H.h.le (by omega),ro:=H.ro,ck:=H.ck,aU:=⟨h2.1,by show x.aU≤_;omega⟩,rn:=⟨by show 0≤x.rn+1;omega,by show x.rn+1≤N+1;omega⟩,aZ:=H.aZ,stack:=H.stack}
theorem new{pg aZ stack:Int}(h:(1≤pg∧pg≤256)∧0≤aZ∧(1≤stack∧stack≤4096))(hr:aZ<9223372036854775808):(Rt.new pg aZ stack).Inv 0:=by
 have h0:1≤pg.toNat:=by omega
 have h1:pg.toNat≤256:=by omega
 have hno:∀a,Qu.ba (Sp.bB pg.toNat) a=true→False:=fun a ha=>by
  obtain⟨hd,hh,_⟩:=aM ha
  rw[pA h0 a]at hh;cases hh
 have hws:64≤(Sp.bB pg.toNat).ws.length:=by
  show 64≤(List.replicate (pg.toNat*64) (0:Int)).length
  rw[List.length_replicate];omega
 refine{w:=⟨lL h0 h1,⟨Nat.zero_le _,(fun r hr=>by cases hr),(fun a ha=>by cases ha),.nil⟩,⟨fun a ha=>(hno a ha).elim,fun a ha=>(hno a ha).elim,fun a ha=>(hno a ha).elim,fun a _ ha=>(hno a ha).elim⟩,⟨.nil,(fun a ha=>by cases ha)⟩,hws⟩,h:=⟨List.length_replicate,fun e he=>by rw[List.eq_of_mem_replicate he];decide⟩,ro:=List.length_replicate,ck:=⟨Int.le_refl 0,(by decide:(0:Int)<9223372036854775808)⟩,aU:=⟨Int.le_refl 0,Int.le_refl 0⟩,rn:=⟨Int.le_refl 0,Int.le_refl 0⟩,aZ:=⟨h.2.1,hr⟩,stack:=h.2.2}
end Rt.Inv
end Go.Proofs.YtfepdmpplahloaaGreat
