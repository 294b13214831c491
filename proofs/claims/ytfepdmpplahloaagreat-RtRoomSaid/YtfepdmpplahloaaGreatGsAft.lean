/- What is behind a collection: objects, fields, rows. -/
import Derived.Test.YtfepdmpplahloaaGreatGsL20b
set_option linter.unusedSimpArgs false
set_option linter.unusedVariables false
namespace Go.Proofs.YtfepdmpplahloaaGreat
open Go Go.Gl
theorem clr_get{cs:List Cls}(l:List Int):∀{S:Spc},HWf S cs→∀{b j:Int} {hd:Hd},Ob.head S b=some hd→0≤j→j<hd.n→Ob.get (Rf.clr S l) b j=if b∈l∧j=0 then(0,0)else Ob.get S b j:=by
 induction l with
 |nil=>intro S _ b j hd _ _ _;rw[if_neg (by rintro⟨h,_⟩;cases h)];rfl
 |cons a l ih=>
  intro S hw b j hd hb j0 j1
  have e:=ih (hw.put a 0 0) (b:=b) (j:=j) (hd:=hd) (by rw[put_head hw];exact hb) j0 j1
  show Ob.get (Rf.clr (Ob.put S a 0 0).2 l) b j=_
  rw[e,get_put hw hb j0 j1]
  by_cases h1:b∈l∧j=0
  ·rw[if_pos h1,if_pos ⟨.tail _ h1.1,h1.2⟩]
  ·rw[if_neg h1]
   by_cases h2:b=a∧j=0
   ·rw[if_pos h2,if_pos ⟨by rw[h2.1];exact .head _,h2.2⟩]
   ·rw[if_neg h2,if_neg]
    rintro⟨g1,g2⟩
    rcases List.mem_cons.mp g1 with g|g
    ·exact h2 ⟨g,g2⟩
    ·exact h1 ⟨g,g2⟩
theorem pushS_get{S:Spc}{cs:List Cls}(hw:HWf S cs){rows:List (List Int)}{i a b j:Int}{hd:Hd}(hb:Ob.head S b=some hd)(j0:0≤j)(j1:j<hd.n)(j2:j≠2∨(b≠a∧b∉rows.flatten)):Ob.get (Qu.pushS S rows i a) b j=Ob.get S b j:=by
 have n1:¬(b=a∧j=2):=fun g=>j2.elim (fun h=>h g.2) fun h=>h.1 g.1
 unfold Qu.pushS
 split
 ·rename_i hh
  rw[Bool.and_eq_true]at hh
  split
  ·rw[get_put hw hb j0 j1,if_neg n1]
  ·rename_i hne
   have n2:¬(b=(Qu.row rows i).getLastD 0∧j=2):=fun g=>j2.elim (fun h=>h g.2) fun h=>h.2 (by rw[g.1];exact List.mem_flatten.mpr ⟨_,row_mem hh.1,last_mem hne⟩)
   rw[get_put (hw.put _ _ _) (by rw[put_head hw];exact hb) j0 j1,if_neg n2,get_put hw hb j0 j1,if_neg n1]
 ·rfl
theorem enq_is{S:Spc}{cs:List Cls}(hw:HWf S cs){rows:List (List Int)}(H:QI S rows){a i:Int}(hr:Qu.isR S a=true)(hq:(Ob.get S a 1).1=i+1)(i0:0≤i)(i1:i<rows.length):
  (Rf.enq S rows a).1=(true,0)∧(Rf.enq S rows a).2.2=rows.set i.toNat (rows.getD i.toNat []++[a])∧a∉rows.flatten∧
   ∀{b j:Int} {hd:Hd},Ob.head S b=some hd→0≤j→j<hd.n→(j≠2∨(b≠a∧b∉rows.flatten))→Ob.get (Rf.enq S rows a).2.1 b j=if b=a∧j=0 then(0,0)else if b=a∧j=1 then(-1,0)else Ob.get S b j:=by
 have hw1:=hw.put a 0 0
 have H1:QI (Ob.put S a 0 0).2 rows:=H.put hw (.inl ⟨by decide,by decide⟩)
 have hr1:Qu.isR (Ob.put S a 0 0).2 a=true:=by rw[isR_putA hw];exact hr
 have hqn:Rf.qn S a=i+1:=by
  unfold Rf.qn
  rw[get_putR hw hr (by decide) (by decide),if_neg (by simp)];exact hq
 have ha:a∉rows.flatten:=H.notin (by rw[hq];omega)
 have hh:Qu.has rows (Rf.qn S a-1)=true:=by unfold Qu.has;rw[hqn,decide_eq_true_iff];omega
 obtain⟨p1,p2,p3,p4⟩:=H1.push hw1 hr1 ha hh
 unfold Rf.enq
 rw[if_pos hr,if_neg (by omega),if_neg (fun g=>g p2)]
 refine⟨rfl,?_,ha,fun{b j hd} hb j0 j1 j2=> ?_⟩
 ·show Qu.pushQ _ rows (Rf.qn S a-1) a=_
  unfold Qu.pushQ Qu.row
  rw[hh,hr1,hqn,show i+1-1=i by omega];rfl
 ·show Ob.get (Ob.put (Qu.pushS (Ob.put S a 0 0).2 rows (Rf.qn S a-1) a) a 1 (-1)).2 b j=_
  have hb1:Ob.head (Ob.put S a 0 0).2 b=some hd:=by rw[put_head hw];exact hb
  rw[get_put p3 (by rw[pushS_head hw1];exact hb1) j0 j1,pushS_get hw1 hb1 j0 j1 j2,get_put hw hb j0 j1]
  by_cases h1:b=a∧j=0
  ·rw[if_pos h1,if_neg (by omega),if_pos h1]
  ·rw[if_neg h1,if_neg h1]
theorem enqs_is{cs:List Cls}(qf:Int→Int)(l:List Int):∀{S:Spc} {rows:List (List Int)},HWf S cs→QI S rows→l.Nodup→(∀a∈l,Qu.isR S a=true∧(Ob.get S a 1).1=qf a+1∧0≤qf a∧qf a<rows.length)→
  (Rf.enqs S rows l).2.length=rows.length∧(∀j,j<rows.length→(Rf.enqs S rows l).2.getD j []=rows.getD j []++l.filter fun a=>qf a==(j:Int))∧
   ∀{b j:Int} {hd:Hd},Ob.head S b=some hd→0≤j→j<hd.n→(j≠2∨(b∉l∧b∉rows.flatten))→Ob.get (Rf.enqs S rows l).1 b j=if b∈l∧j=0 then(0,0)else if b∈l∧j=1 then(-1,0)else Ob.get S b j:=by
 induction l with
 |nil=>
  intro S rows _ _ _ _
  refine⟨rfl,fun j _=>by rw[List.filter_nil,List.append_nil];rfl,fun{b j hd} _ _ _ _=> ?_⟩
  rw[if_neg (by rintro⟨h,_⟩;cases h),if_neg (by rintro⟨h,_⟩;cases h)];rfl
 |cons a l ih=>
  intro S rows hw H hn h
  obtain⟨n1,n2⟩:=List.nodup_cons.mp hn
  obtain⟨r1,r2,r3,r4⟩:=h a (.head _)
  obtain⟨e1,e2,e3,e4⟩:=enq_is hw H r1 r2 r3 r4
  obtain⟨q1,q2,q3⟩:=H.enq hw a
  have hlen:(Rf.enq S rows a).2.2.length=rows.length:=by rw[e2,List.length_set]
  have hR:∀b,Qu.isR (Rf.enq S rows a).2.1 b=Qu.isR S b:=fun b=>by unfold Qu.isR;rw[enq_head hw]
  obtain⟨g1,g2,g3⟩:=ih (S:=(Rf.enq S rows a).2.1) (rows:=(Rf.enq S rows a).2.2) q2 q1 n2 (fun b hb=>by
   obtain⟨t1,t2,t3,t4⟩:=h b (.tail _ hb)
   obtain⟨hd,hh,hk⟩:=isR_head t1
   have hn5:=isR_n hw hh hk
   refine⟨by rw[hR];exact t1,?_,t3,by rw[hlen];exact t4⟩
   have hne:b≠a:=fun e=>n1 (e▸hb)
   rw[e4 hh (by decide) (by omega) (.inl (by decide)),if_neg (fun g=>hne g.1),if_neg (fun g=>hne g.1)];exact t2)
  refine⟨g1.trans hlen,fun j hj=> ?_,fun{b j hd} hb j0 j1 j2=> ?_⟩
  ·have:=g2 j (by rw[hlen];exact hj)
   show(Rf.enqs (Rf.enq S rows a).2.1 (Rf.enq S rows a).2.2 l).2.getD j []=_
   rw[this,e2,List.getD_eq_getElem?_getD,List.getElem?_set]
   by_cases e:(qf a).toNat=j
   ·subst e
    rw[if_pos rfl,if_pos hj,List.filter_cons_of_pos (by rw[beq_iff_eq];omega)]
    show rows.getD (qf a).toNat []++[a]++_=_
    rw[List.append_assoc];rfl
   ·rw[if_neg e,List.filter_cons_of_neg (by rw[beq_iff_eq];omega),List.getD_eq_getElem?_getD]
  ·have c1:j≠2∨(b≠a∧b∉rows.flatten):=j2.imp_right fun h=>⟨fun e=>h.1 (by rw[e];exact .head _),h.2⟩
   have c2:j≠2∨(b∉l∧b∉(Rf.enq S rows a).2.2.flatten):=j2.imp_right fun h=>⟨fun e=>h.1 (.tail _ e),fun e=>(q3 b e).elim (fun e=>h.1 (by rw[e];exact .head _)) h.2⟩
   have:=g3 (b:=b) (j:=j) (hd:=hd) (by rw[enq_head hw];exact hb) j0 j1 c2
   show Ob.get (Rf.enqs (Rf.enq S rows a).2.1 (Rf.enq S rows a).2.2 l).1 b j=_
   rw[this,e4 hb j0 j1 c1]
   clear c1 c2
   by_cases c1:b∈l
   ·by_cases d1:j=0
    ·rw[if_pos ⟨c1,d1⟩,if_pos ⟨.tail _ c1,d1⟩]
    ·rw[if_neg (fun g=>d1 g.2),if_neg (c:=b∈a::l∧j=0) (fun g=>d1 g.2)]
     by_cases d2:j=1
     ·rw[if_pos ⟨c1,d2⟩,if_pos ⟨.tail _ c1,d2⟩]
     ·rw[if_neg (fun g=>d2 g.2),if_neg (c:=b∈a::l∧j=1) (fun g=>d2 g.2),if_neg (fun g=>d1 g.2),if_neg (fun g=>d2 g.2)]
   ·rw[if_neg (fun g=>c1 g.1),if_neg (fun g=>c1 g.1)]
    by_cases c2:b=a
    ·subst c2
     have hm:b∈b::l:= .head _
     by_cases d1:j=0
     ·rw[if_pos ⟨rfl,d1⟩,if_pos ⟨hm,d1⟩]
     ·rw[if_neg (fun g=>d1 g.2),if_neg (c:=b∈b::l∧j=0) (fun g=>d1 g.2)]
      by_cases d2:j=1
      ·rw[if_pos ⟨rfl,d2⟩,if_pos ⟨hm,d2⟩]
      ·rw[if_neg (fun g=>d2 g.2),if_neg (c:=b∈b::l∧j=1) (fun g=>d2 g.2)]
    ·have hm:b∉a::l:=fun g=>by
      rcases List.mem_cons.mp g with g|g
      ·exact c2 g
      ·exact c1 g
     rw[if_neg (fun g=>c2 g.1),if_neg (fun g=>c2 g.1),if_neg (c:=b∈a::l∧j=0) (fun g=>hm g.1),if_neg (c:=b∈a::l∧j=1) (fun g=>hm g.1)]
structure Aft(S S':Spc)(rows rows':List (List Int))(cl pu:List Int)(m3:List Bool)(qf:Int→Int):Prop where
 head:∀a,Sp.has m3 a=true→Ob.head S' a=Ob.head S a
 obj:∀a,Mk.obj S' a↔Sp.has m3 a=true
 get:∀a,Sp.has m3 a=true→∀{j:Int} {hd:Hd},Ob.head S a=some hd→0≤j→j<hd.n→(j≠2∨(a∉pu∧a∉rows.flatten))→Ob.get S' a j=if a∈cl∧j=0 then(0,0)else if a∈pu∧j=1 then(-1,0)else Ob.get S a j
 len:rows'.length=rows.length
 row:∀j,j<rows.length→rows'.getD j []=rows.getD j []++pu.filter fun a=>qf a==(j:Int)
theorem aft{S:Spc}{cs:List Cls}(hw:HWf S cs){rows:List (List Int)}(H:QI S rows){x:In7}{ros fs:List Int}{l:List Rf6}{m2 m3:List Bool}(hC:Coll S cs x ros fs l m2 m3)(qf:Int→Int){cl pu:List Int}(hcl:clrOf S m2 m3 l=cl)(hpu:putOf S m3 cl=pu)(hq:∀a∈pu,(Ob.get S a 1).1=qf a+1∧qf a<rows.length)(hn:cl.Nodup):
  Aft S (Sw.sweep (Rf.enqs (Rf.clear S cl).2 rows pu).1 (Mk.all m3)) rows (Rf.enqs (Rf.clear S cl).2 rows pu).2 cl pu m3 qf:=by
 have hclr:∀a∈cl,Qu.isR S a=true:=fun a ha=>by
  rw[←hcl]at ha
  unfold clrOf at ha
  have:∃r∈l,r.1=a:=by
   rcases List.mem_append.mp ha with h|h
   ·obtain⟨r,hr,e,_⟩:=mem_clear.mp h;exact⟨r,hr,e⟩
   ·obtain⟨r,hr,e,_⟩:=mem_clear.mp h;exact⟨r,hr,e⟩
  obtain⟨r,hr,e⟩:=this
  obtain⟨h,hh,hk,_⟩:=(mem_refsOf hw).mp (hC.perm.mem_iff.mp hr)
  rw[e]at hh
  unfold Qu.isR;rw[hh];simpa using hk
 have hpc:∀a∈pu,a∈cl∧(Ob.get S a 1).1>0:=fun a ha=>by
  rw[←hpu]at ha
  unfold putOf at ha
  rw[List.mem_filter,Bool.and_eq_true,decide_eq_true_iff]at ha
  exact⟨ha.1,ha.2.2⟩
 have hpn:pu.Nodup:=by rw[←hpu];unfold putOf;exact hn.sublist List.filter_sublist
 have eC:(Rf.clear S cl).2=Rf.clr S cl:=by unfold Rf.clear;rw[if_pos (by rw[List.all_eq_true];exact hclr)]
 rw[eC]
 have hw1:HWf (Rf.clr S cl) cs:=HWf.clr hw
 have H1:=H.clr hw cl
 have g0:∀{b j:Int} {hd:Hd},Ob.head S b=some hd→0≤j→j<hd.n→Ob.get (Rf.clr S cl) b j=if b∈cl∧j=0 then(0,0)else Ob.get S b j:=fun hb j0 j1=>clr_get cl hw hb j0 j1
 have hh1:=clr_head cl hw
 generalize Rf.clr S cl=S1 at*
 have hR1:∀b,Qu.isR S1 b=Qu.isR S b:=fun b=>by unfold Qu.isR;rw[hh1]
 obtain⟨i1,i2,i3⟩:=enqs_is qf pu hw1 H1 hpn fun a ha=>by
  obtain⟨c1,c2⟩:=hpc a ha
  obtain⟨hd,hh,hk⟩:=isR_head (hclr a c1)
  have hn5:=isR_n hw hh hk
  obtain⟨q1,q2⟩:=hq a ha
  refine⟨by rw[hR1];exact hclr a c1,?_,by omega,q2⟩
  rw[g0 hh (by decide) (by omega),if_neg (by simp)];exact q1
 have hh2:=enqs_head pu (rows:=rows) hw1
 obtain⟨_,hw2,_⟩:=QI.enqs pu hw1 H1
 generalize(Rf.enqs S1 rows pu).1=S2 at*
 generalize(Rf.enqs S1 rows pu).2=rows2 at*
 have L:=Sw.sweep_ok hw2 (Mk.all m3)
 generalize Sw.sweep S2 (Mk.all m3)=S3 at*
 have hl3:∀b,Sp.has m3 b=true→Ob.head S3 b=Ob.head S b:=fun b hb=>by
  rw[L.head,if_neg,hh2,hh1]
  intro g
  unfold Sw.dead at g
  rw[List.mem_filter,decide_eq_true_iff]at g
  exact g.2 (Mk.mem_all.mpr hb)
 refine⟨hl3,fun a=> ?_,fun a ha {j hd} hh j0 j1 j2=> ?_,i1,i2⟩
 ·constructor
  ·intro h
   unfold Mk.obj at h
   rw[L.head]at h
   split at h
   ·cases h
   ·rename_i g
    have ho:a∈Sp.each S2:=by
     cases e:Ob.head S2 a with
     |none=>rw[e]at h;cases h
     |some hd=>exact(obj_each hw2).mpr ⟨hd,e⟩
    cases e:Sp.has m3 a with
    |true=>rfl
    |false=>
     refine absurd ?_ g
     unfold Sw.dead
     rw[List.mem_filter,decide_eq_true_iff]
     exact⟨ho,fun h=>by rw[Mk.mem_all,e]at h;cases h⟩
  ·intro h
   unfold Mk.obj
   rw[hl3 a h]
   exact hC.c3.obj a h
 ·have hh3:Ob.head S3 a=some hd:=by rw[hl3 a ha];exact hh
  have hh1':Ob.head S1 a=some hd:=by rw[hh1];exact hh
  have hh2':Ob.head S2 a=some hd:=by rw[hh2];exact hh1'
  rw[Ob.get_ok hh3 j0 j1,L.ws,←Ob.get_ok hh2' j0 j1,i3 hh1' j0 j1 j2,g0 hh j0 j1]
  by_cases c1:a∈pu
  ·have c2:=(hpc a c1).1
   by_cases d1:j=0
   ·rw[if_pos ⟨c1,d1⟩,if_pos ⟨c2,d1⟩]
   ·rw[if_neg (fun g=>d1 g.2),if_neg (c:=a∈cl∧j=0) (fun g=>d1 g.2),if_neg (c:=a∈cl∧j=0) (fun g=>d1 g.2)]
  ·rw[if_neg (fun g=>c1 g.1),if_neg (fun g=>c1 g.1),if_neg (c:=a∈pu∧j=1) (fun g=>c1 g.1)]
theorem refs_as{S:Spc}{cs:List Cls}(hw:HWf S cs):(refsOf S).map (·.1)=(Sp.each S).filter (Qu.isR S):=by
 unfold refsOf Ob.objs
 have:∀l:List Int,(∀a∈l,a∈Sp.each S)→((l.map (Ob.at1 S)).filterMap ref1).map (·.1)=l.filter (Qu.isR S):=fun l=>by
  induction l with
  |nil=>intro _;rfl
  |cons a l ih=>
   intro h
   have ih:=ih fun b hb=>h b (.tail _ hb)
   obtain⟨hd,hh⟩:=(obj_each hw).mp (h a (.head _))
   rw[List.map_cons]
   by_cases hk:hd.k=4
   ·have hr:Qu.isR S a=true:=by unfold Qu.isR;rw[hh];simpa using hk
    rw[List.filterMap_cons,at1_ref hw hh hk,List.filter_cons_of_pos hr]
    show a::_=_
    rw[ih]
   ·have hr:¬Qu.isR S a=true:=by unfold Qu.isR;rw[hh];simpa using hk
    have e:ref1 (Ob.at1 S a)=none:=by unfold ref1 Ob.at1;rw[hh];dsimp only;rw[if_neg hk]
    rw[List.filterMap_cons,e,List.filter_cons_of_neg hr,ih]
 exact this _ fun a h=>h
theorem clear_nodup{S:Spc}{cs:List Cls}(hw:HWf S cs){m:List Bool}{xs:List Int}{l:List Rf6}(hp:l.Perm (refsOf S)):(clearOf S m xs l).Nodup:=by
 unfold clearOf
 have h1:(l.map (·.1)).Nodup:=by
  rw[(hp.map _).nodup_iff,refs_as hw]
  exact(each_nodup hw.wf).sublist List.filter_sublist
 exact h1.sublist (List.filter_sublist.map _)
theorem mem_clr{S:Spc}{cs:List Cls}(hw:HWf S cs){m:List Bool}{xs:List Int}{l:List Rf6}(hp:l.Perm (refsOf S)){a:Int}:a∈clearOf S m xs l↔∃h,Ob.head S a=some h∧h.k=4∧h.c∈xs∧Mk.obj S (Ob.get S a 0).1∧¬Sp.has m (Ob.get S a 0).1=true:=by
 rw[mem_clear]
 constructor
 ·rintro⟨r,hr,rfl,h1,h2⟩
  obtain⟨h,hh,hk,e⟩:=(mem_refsOf hw).mp (hp.mem_iff.mp hr)
  rw[lost_iff,e]at h2
  rw[e]at h1
  exact⟨h,hh,hk,h1,h2⟩
 ·rintro⟨h,hh,hk,h1,h2⟩
  exact⟨rfAt S h a,hp.mem_iff.mpr ((mem_refsOf hw).mpr ⟨h,hh,hk,rfl⟩),rfl,h1,lost_iff.mpr h2⟩
theorem nodup_one{l:List Int}{a:Int}(hn:l.Nodup)(h:∀b,b∈l↔b=a):l=[a]:=
 List.perm_singleton.mp ((List.perm_ext_iff_of_nodup hn (by simp)).mpr fun b=>by rw[h];simp)
theorem no_mem{l:List Int}(h:∀b,¬b∈l):l=[]:=List.eq_nil_iff_forall_not_mem.mpr h
theorem rch_flat2{S:Spc}{cs:List Cls}(hz:∀a,Mk.obj S a→∀b∈Mk.kids S cs a,¬Mk.obj S b){R:List Int}{a:Int}:Mk.Rch S cs R a↔(a∈R∧Mk.obj S a):=by
 constructor
 ·intro h
  cases h with
  |root h ho=>exact⟨h,ho⟩
  |step h hb ho=>exact absurd ho (hz _ h.obj _ hb)
 ·rintro⟨h1,h2⟩
  exact .root h1 h2
end Go.Proofs.YtfepdmpplahloaaGreat
