/- What is behind a collection: objects, fields, rows. -/
import Derived.Test.YtfepdmpplahloaaGreatGsL20c
set_option linter.unusedSimpArgs false
set_option linter.unusedVariables false
namespace Go.Proofs.YtfepdmpplahloaaGreat
open Go Go.Gl
theorem C1{cs:List aS}(l:List Int):∀{S:aD},aO S cs→∀{b j:Int} {hd:Hd},Ob.head S b=some hd→0≤j→j<hd.n→Ob.get (Rf.eJ S l) b j=if b∈l∧j=0 then(0,0)else Ob.get S b j:=by
 induction l with
 |nil=>intro S _ b j hd _ _ _;rw[if_neg (by rintro⟨h,_⟩;cases h)];rfl
 |cons a l ih=>
  intro S hw b j hd hb j0 j1
  have e:=ih (hw.put a 0 0) (b:=b) (j:=j) (hd:=hd) (by rw[bb hw];exact hb) j0 j1
  show Ob.get (Rf.eJ (Ob.put S a 0 0).2 l) b j=_
  rw[e,fG hw hb j0 j1]
  by_cases h1:b∈l∧j=0
  ·rw[if_pos h1,if_pos ⟨.tail _ h1.1,h1.2⟩]
  ·rw[if_neg h1]
   by_cases h2:b=a∧j=0
   ·rw[if_pos h2,if_pos ⟨by rw[h2.1];exact .head _,h2.2⟩]
   ·rw[if_neg h2,if_neg]
    rintro⟨g1,g2⟩
    rcases List.mem_cons.mp g1 with g|g
    ·exact h2 ⟨g,g2⟩
    ·exact h1 ⟨g,g2⟩
theorem yq{S:aD}{cs:List aS}(hw:aO S cs){rows:List (List Int)}{i a b j:Int}{hd:Hd}(hb:Ob.head S b=some hd)(j0:0≤j)(j1:j<hd.n)(j2:j≠2∨(b≠a∧b∉rows.flatten)):Ob.get (Qu.bh S rows i a) b j=Ob.get S b j:=by
 have n1:¬(b=a∧j=2):=fun g=>j2.elim (fun h=>h g.2) fun h=>h.1 g.1
 unfold Qu.bh
 split
 ·rename_i hh
  rw[Bool.and_eq_true]at hh
  split
  ·rw[fG hw hb j0 j1,if_neg n1]
  ·rename_i hne
   have n2:¬(b=(Qu.row rows i).getLastD 0∧j=2):=fun g=>j2.elim (fun h=>h g.2) fun h=>h.2 (by rw[g.1];exact List.mem_flatten.mpr ⟨_,jj hh.1,kx hne⟩)
   rw[fG (hw.put _ _ _) (by rw[bb hw];exact hb) j0 j1,if_neg n2,fG hw hb j0 j1,if_neg n1]
 ·rfl
theorem DH{S:aD}{cs:List aS}(hw:aO S cs){rows:List (List Int)}(H:QI S rows){a i:Int}(hr:Qu.ba S a=true)(hq:(Ob.get S a 1).1=i+1)(i0:0≤i)(i1:i<rows.length):
  (Rf.ct S rows a).1=(true,0)∧(Rf.ct S rows a).2.2=rows.set i.toNat (rows.getD i.toNat []++[a])∧a∉rows.flatten∧
   ∀{b j:Int} {hd:Hd},Ob.head S b=some hd→0≤j→j<hd.n→(j≠2∨(b≠a∧b∉rows.flatten))→Ob.get (Rf.ct S rows a).2.1 b j=if b=a∧j=0 then(0,0)else if b=a∧j=1 then(-1,0)else Ob.get S b j:=by
 have hw1:=hw.put a 0 0
 have H1:QI (Ob.put S a 0 0).2 rows:=H.put hw (.inl ⟨by decide,by decide⟩)
 have hr1:Qu.ba (Ob.put S a 0 0).2 a=true:=by rw[bI hw];exact hr
 have hqn:Rf.qn S a=i+1:=by
  unfold Rf.qn
  rw[bR hw hr (by decide) (by decide),if_neg (by simp)];exact hq
 have ha:a∉rows.flatten:=H.Dd (by rw[hq];omega)
 have hh:Qu.has rows (Rf.qn S a-1)=true:=by unfold Qu.has;rw[hqn,decide_eq_true_iff];omega
 obtain⟨p1,p2,p3,p4⟩:=H1.push hw1 hr1 ha hh
 unfold Rf.ct
 rw[if_pos hr,if_neg (by omega),if_neg (fun g=>g p2)]
 refine⟨rfl,?_,ha,fun{b j hd} hb j0 j1 j2=> ?_⟩
 ·show Qu.cE _ rows (Rf.qn S a-1) a=_
  unfold Qu.cE Qu.row
  rw[hh,hr1,hqn,show i+1-1=i by omega];rfl
 ·show Ob.get (Ob.put (Qu.bh (Ob.put S a 0 0).2 rows (Rf.qn S a-1) a) a 1 (-1)).2 b j=_
  have hb1:Ob.head (Ob.put S a 0 0).2 b=some hd:=by rw[bb hw];exact hb
  rw[fG p3 (by rw[jv hw1];exact hb1) j0 j1,yq hw1 hb1 j0 j1 j2,fG hw hb j0 j1]
  by_cases h1:b=a∧j=0
  ·rw[if_pos h1,if_neg (by omega),if_pos h1]
  ·rw[if_neg h1,if_neg h1]
theorem BU{cs:List aS}(qf:Int→Int)(l:List Int):∀{S:aD} {rows:List (List Int)},aO S cs→QI S rows→l.Nodup→(∀a∈l,Qu.ba S a=true∧(Ob.get S a 1).1=qf a+1∧0≤qf a∧qf a<rows.length)→
  (Rf.bq S rows l).2.length=rows.length∧(∀j,j<rows.length→(Rf.bq S rows l).2.getD j []=rows.getD j []++l.filter fun a=>qf a==(j:Int))∧
   ∀{b j:Int} {hd:Hd},Ob.head S b=some hd→0≤j→j<hd.n→(j≠2∨(b∉l∧b∉rows.flatten))→Ob.get (Rf.bq S rows l).1 b j=if b∈l∧j=0 then(0,0)else if b∈l∧j=1 then(-1,0)else Ob.get S b j:=by
 induction l with
 |nil=>
  intro S rows _ _ _ _
  refine⟨rfl,fun j _=>by rw[List.filter_nil,List.append_nil];rfl,fun{b j hd} _ _ _ _=> ?_⟩
  rw[if_neg (by rintro⟨h,_⟩;cases h),if_neg (by rintro⟨h,_⟩;cases h)];rfl
 |cons a l ih=>
  intro S rows hw H hn h
  obtain⟨n1,n2⟩:=List.nodup_cons.mp hn
  obtain⟨r1,r2,r3,r4⟩:=h a (.head _)
  obtain⟨e1,e2,e3,e4⟩:=DH hw H r1 r2 r3 r4
  obtain⟨q1,q2,q3⟩:=H.ct hw a
  have hlen:(Rf.ct S rows a).2.2.length=rows.length:=by rw[e2,List.length_set]
  have hR:∀b,Qu.ba (Rf.ct S rows a).2.1 b=Qu.ba S b:=fun b=>by unfold Qu.ba;rw[iH hw]
  obtain⟨g1,g2,g3⟩:=ih (S:=(Rf.ct S rows a).2.1) (rows:=(Rf.ct S rows a).2.2) q2 q1 n2 (fun b hb=>by
   obtain⟨t1,t2,t3,t4⟩:=h b (.tail _ hb)
   obtain⟨hd,hh,hk⟩:=aM t1
   have hn5:=dm hw hh hk
   refine⟨by rw[hR];exact t1,?_,t3,by rw[hlen];exact t4⟩
   have hne:b≠a:=fun e=>n1 (e▸hb)
   rw[e4 hh (by decide) (by omega) (.inl (by decide)),if_neg (fun g=>hne g.1),if_neg (fun g=>hne g.1)];exact t2)
  refine⟨g1.trans hlen,fun j hj=> ?_,fun{b j hd} hb j0 j1 j2=> ?_⟩
  ·have:=g2 j (by rw[hlen];exact hj)
   show(Rf.bq (Rf.ct S rows a).2.1 (Rf.ct S rows a).2.2 l).2.getD j []=_
   rw[this,e2,List.getD_eq_getElem?_getD,List.getElem?_set]
   by_cases e:(qf a).toNat=j
   ·subst e
    rw[if_pos rfl,if_pos hj,List.filter_cons_of_pos (by rw[beq_iff_eq];omega)]
    show rows.getD (qf a).toNat []++[a]++_=_
    rw[List.append_assoc];rfl
   ·rw[if_neg e,List.filter_cons_of_neg (by rw[beq_iff_eq];omega),List.getD_eq_getElem?_getD]
  ·have c1:j≠2∨(b≠a∧b∉rows.flatten):=j2.imp_right fun h=>⟨fun e=>h.1 (by rw[e];exact .head _),h.2⟩
   have c2:j≠2∨(b∉l∧b∉(Rf.ct S rows a).2.2.flatten):=j2.imp_right fun h=>⟨fun e=>h.1 (.tail _ e),fun e=>(q3 b e).elim (fun e=>h.1 (by rw[e];exact .head _)) h.2⟩
   have:=g3 (b:=b) (j:=j) (hd:=hd) (by rw[iH hw];exact hb) j0 j1 c2
   show Ob.get (Rf.bq (Rf.ct S rows a).2.1 (Rf.ct S rows a).2.2 l).1 b j=_
   rw[this,e4 hb j0 j1 c1]
   clear c1 c2
   by_cases c1:b∈l
   ·by_cases d1:j=0
    ·rw[if_pos ⟨c1,d1⟩,if_pos ⟨.tail _ c1,d1⟩]
    ·rw[if_neg (fun g=>d1 g.2),if_neg (c:=b∈a::l∧j=0) (fun g=>d1 g.2)]
     by_cases d2:j=1
     ·rw[if_pos ⟨c1,d2⟩,if_pos ⟨.tail _ c1,d2⟩]
     ·rw[if_neg (fun g=>d2 g.2),if_neg (c:=b∈a::l∧j=1) (fun g=>d2 g.2),if_neg (fun g=>d1 g.2),if_neg (fun g=>d2 g.2)]
   ·rw[if_neg (fun g=>c1 g.1),if_neg (fun g=>c1 g.1)]
    by_cases c2:b=a
    ·subst c2
     have hm:b∈b::l:= .head _
     by_cases d1:j=0
     ·rw[if_pos ⟨rfl,d1⟩,if_pos ⟨hm,d1⟩]
     ·rw[if_neg (fun g=>d1 g.2),if_neg (c:=b∈b::l∧j=0) (fun g=>d1 g.2)]
      by_cases d2:j=1
      ·rw[if_pos ⟨rfl,d2⟩,if_pos ⟨hm,d2⟩]
      ·rw[if_neg (fun g=>d2 g.2),if_neg (c:=b∈b::l∧j=1) (fun g=>d2 g.2)]
    ·have hm:b∉a::l:=fun g=>by
      rcases List.mem_cons.mp g with g|g
      ·exact c2 g
      ·exact c1 g
     rw[if_neg (fun g=>c2 g.1),if_neg (fun g=>c2 g.1),if_neg (c:=b∈a::l∧j=0) (fun g=>hm g.1),if_neg (c:=b∈a::l∧j=1) (fun g=>hm g.1)]
structure Fz(S S':aD)(rows rows':List (List Int))(cl pu:List Int)(m3:List Bool)(qf:Int→Int):Prop where
 head:∀a,Sp.has m3 a=true→Ob.head S' a=Ob.head S a
 obj:∀a,Mk.obj S' a↔Sp.has m3 a=true
 get:∀a,Sp.has m3 a=true→∀{j:Int} {hd:Hd},Ob.head S a=some hd→0≤j→j<hd.n→(j≠2∨(a∉pu∧a∉rows.flatten))→Ob.get S' a j=if a∈cl∧j=0 then(0,0)else if a∈pu∧j=1 then(-1,0)else Ob.get S a j
 len:rows'.length=rows.length
 row:∀j,j<rows.length→rows'.getD j []=rows.getD j []++pu.filter fun a=>qf a==(j:Int)
theorem FF{S:aD}{cs:List aS}(hw:aO S cs){rows:List (List Int)}(H:QI S rows){x:mY}{ros fs:List Int}{l:List bW}{m2 m3:List Bool}(hC:lD S cs x ros fs l m2 m3)(qf:Int→Int){cl pu:List Int}(hcl:aT S m2 m3 l=cl)(hpu:bG S m3 cl=pu)(hq:∀a∈pu,(Ob.get S a 1).1=qf a+1∧qf a<rows.length)(hn:cl.Nodup):
  Fz S (Sw.cz (Rf.bq (Rf.clear S cl).2 rows pu).1 (Mk.all m3)) rows (Rf.bq (Rf.clear S cl).2 rows pu).2 cl pu m3 qf:=by
 have hclr:∀a∈cl,Qu.ba S a=true:=fun a ha=>by
  rw[←hcl]at ha
  unfold aT at ha
  have:∃r∈l,r.1=a:=by
   rcases List.mem_append.mp ha with h|h
   ·obtain⟨r,hr,e,_⟩:=iK.mp h;exact⟨r,hr,e⟩
   ·obtain⟨r,hr,e,_⟩:=iK.mp h;exact⟨r,hr,e⟩
  obtain⟨r,hr,e⟩:=this
  obtain⟨h,hh,hk,_⟩:=(fA hw).mp (hC.perm.mem_iff.mp hr)
  rw[e]at hh
  unfold Qu.ba;rw[hh];simpa using hk
 have hpc:∀a∈pu,a∈cl∧(Ob.get S a 1).1>0:=fun a ha=>by
  rw[←hpu]at ha
  unfold bG at ha
  rw[List.mem_filter,Bool.and_eq_true,decide_eq_true_iff]at ha
  exact⟨ha.1,ha.2.2⟩
 have hpn:pu.Nodup:=by rw[←hpu];unfold bG;exact hn.sublist List.filter_sublist
 have eC:(Rf.clear S cl).2=Rf.eJ S cl:=by unfold Rf.clear;rw[if_pos (by rw[List.all_eq_true];exact hclr)]
 rw[eC]
 have hw1:aO (Rf.eJ S cl) cs:=aO.eJ hw
 have H1:=H.eJ hw cl
 have g0:∀{b j:Int} {hd:Hd},Ob.head S b=some hd→0≤j→j<hd.n→Ob.get (Rf.eJ S cl) b j=if b∈cl∧j=0 then(0,0)else Ob.get S b j:=fun hb j0 j1=>C1 cl hw hb j0 j1
 have hh1:=jT cl hw
 generalize Rf.eJ S cl=S1 at*
 have hR1:∀b,Qu.ba S1 b=Qu.ba S b:=fun b=>by unfold Qu.ba;rw[hh1]
 obtain⟨i1,i2,i3⟩:=BU qf pu hw1 H1 hpn fun a ha=>by
  obtain⟨c1,c2⟩:=hpc a ha
  obtain⟨hd,hh,hk⟩:=aM (hclr a c1)
  have hn5:=dm hw hh hk
  obtain⟨q1,q2⟩:=hq a ha
  refine⟨by rw[hR1];exact hclr a c1,?_,by omega,q2⟩
  rw[g0 hh (by decide) (by omega),if_neg (by simp)];exact q1
 have hh2:=nJ pu (rows:=rows) hw1
 obtain⟨_,hw2,_⟩:=QI.bq pu hw1 H1
 generalize(Rf.bq S1 rows pu).1=S2 at*
 generalize(Rf.bq S1 rows pu).2=rows2 at*
 have L:=Sw.jQ hw2 (Mk.all m3)
 generalize Sw.cz S2 (Mk.all m3)=S3 at*
 have hl3:∀b,Sp.has m3 b=true→Ob.head S3 b=Ob.head S b:=fun b hb=>by
  rw[L.head,if_neg,hh2,hh1]
  intro g
  unfold Sw.dead at g
  rw[List.mem_filter,decide_eq_true_iff]at g
  exact g.2 (Mk.fE.mpr hb)
 refine⟨hl3,fun a=> ?_,fun a ha {j hd} hh j0 j1 j2=> ?_,i1,i2⟩
 ·constructor
  ·intro h
   unfold Mk.obj at h
   rw[L.head]at h
   split at h
   ·cases h
   ·rename_i g
    have ho:a∈Sp.each S2:=by
     cases e:Ob.head S2 a with
     |none=>rw[e]at h;cases h
     |some hd=>exact(cb hw2).mpr ⟨hd,e⟩
    cases e:Sp.has m3 a with
    |true=>rfl
    |false=>
     refine absurd ?_ g
     unfold Sw.dead
     rw[List.mem_filter,decide_eq_true_iff]
     exact⟨ho,fun h=>by rw[Mk.fE,e]at h;cases h⟩
  ·intro h
   unfold Mk.obj
   rw[hl3 a h]
   exact hC.c3.obj a h
 ·have hh3:Ob.head S3 a=some hd:=by rw[hl3 a ha];exact hh
  have hh1':Ob.head S1 a=some hd:=by rw[hh1];exact hh
  have hh2':Ob.head S2 a=some hd:=by rw[hh2];exact hh1'
  rw[Ob.da hh3 j0 j1,L.ws,←Ob.da hh2' j0 j1,i3 hh1' j0 j1 j2,g0 hh j0 j1]
  by_cases c1:a∈pu
  ·have c2:=(hpc a c1).1
   by_cases d1:j=0
   ·rw[if_pos ⟨c1,d1⟩,if_pos ⟨c2,d1⟩]
   ·rw[if_neg (fun g=>d1 g.2),if_neg (c:=a∈cl∧j=0) (fun g=>d1 g.2),if_neg (c:=a∈cl∧j=0) (fun g=>d1 g.2)]
  ·rw[if_neg (fun g=>c1 g.1),if_neg (fun g=>c1 g.1),if_neg (c:=a∈pu∧j=1) (fun g=>c1 g.1)]
theorem BY{S:aD}{cs:List aS}(hw:aO S cs):(refsOf S).map (·.1)=(Sp.each S).filter (Qu.ba S):=by
 unfold refsOf Ob.mS
 have:∀l:List Int,(∀a∈l,a∈Sp.each S)→((l.map (Ob.gU S)).filterMap jz).map (·.1)=l.filter (Qu.ba S):=fun l=>by
  induction l with
  |nil=>intro _;rfl
  |cons a l ih=>
   intro h
   have ih:=ih fun b hb=>h b (.tail _ hb)
   obtain⟨hd,hh⟩:=(cb hw).mp (h a (.head _))
   rw[List.map_cons]
   by_cases hk:hd.k=4
   ·have hr:Qu.ba S a=true:=by unfold Qu.ba;rw[hh];simpa using hk
    rw[List.filterMap_cons,rG hw hh hk,List.filter_cons_of_pos hr]
    show a::_=_
    rw[ih]
   ·have hr:¬Qu.ba S a=true:=by unfold Qu.ba;rw[hh];simpa using hk
    have e:jz (Ob.gU S a)=none:=by unfold jz Ob.gU;rw[hh];dsimp only;rw[if_neg hk]
    rw[List.filterMap_cons,e,List.filter_cons_of_neg hr,ih]
 exact this _ fun a h=>h
theorem oh{S:aD}{cs:List aS}(hw:aO S cs){m:List Bool}{xs:List Int}{l:List bW}(hp:l.Perm (refsOf S)):(bH S m xs l).Nodup:=by
 unfold bH
 have h1:(l.map (·.1)).Nodup:=by
  rw[(hp.map _).nodup_iff,BY hw]
  exact(eh hw.wf).sublist List.filter_sublist
 exact h1.sublist (List.filter_sublist.map _)
theorem jq{S:aD}{cs:List aS}(hw:aO S cs){m:List Bool}{xs:List Int}{l:List bW}(hp:l.Perm (refsOf S)){a:Int}:a∈bH S m xs l↔∃h,Ob.head S a=some h∧h.k=4∧h.c∈xs∧Mk.obj S (Ob.get S a 0).1∧¬Sp.has m (Ob.get S a 0).1=true:=by
 rw[iK]
 constructor
 ·rintro⟨r,hr,rfl,h1,h2⟩
  obtain⟨h,hh,hk,e⟩:=(fA hw).mp (hp.mem_iff.mp hr)
  rw[o0,e]at h2
  rw[e]at h1
  exact⟨h,hh,hk,h1,h2⟩
 ·rintro⟨h,hh,hk,h1,h2⟩
  exact⟨DB S h a,hp.mem_iff.mpr ((fA hw).mpr ⟨h,hh,hk,rfl⟩),rfl,h1,o0.mpr h2⟩
theorem m9{S:aD}{cs:List aS}(hz:∀a,Mk.obj S a→∀b∈Mk.kids S cs a,¬Mk.obj S b){R:List Int}{a:Int}:Mk.jM S cs R a↔(a∈R∧Mk.obj S a):=by
 constructor
 ·intro h
  cases h with
  |root h ho=>exact⟨h,ho⟩
  |step h hb ho=>exact absurd ho (hz _ h.obj _ hb)
 ·rintro⟨h1,h2⟩
  exact .root h1 h2
end Go.Proofs.YtfepdmpplahloaaGreat
