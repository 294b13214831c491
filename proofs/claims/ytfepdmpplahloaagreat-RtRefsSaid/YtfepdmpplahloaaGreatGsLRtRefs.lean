/- The law RtRefs. -/
import Derived.Test.YtfepdmpplahloaaGreatGsRtC
import Derived.Test.YtfepdmpplahloaaGreatGsTxRtRefs
set_option linter.unusedSimpArgs false
set_option linter.unusedVariables false
namespace Go.Proofs.YtfepdmpplahloaaGreat
open Go Go.Gl
variable{ρ0 ρ:FR}{L L':List Asn}{Post:Value→List Asn→Prop}{T:Tree}
namespace Rx
theorem poll_empty{x:Rt}{a:Int}(h:Qu.has x.rows a=true)(h0:Qu.row x.rows a=[]):poll x a=((0,0),x):=by
 unfold poll
 rw[if_neg (by rw[h];decide),if_pos h0]
theorem poll_is{x:Rt}{a f:Int}{t:List Int}(h:Qu.has x.rows a=true)(h0:Qu.row x.rows a=f::t)(hf:Hn.free x.hs≠none):
  poll x a=(giveR {x with S:=(Ob.put x.S f 2 0).2,rows:=x.rows.set a.toNat t} f,giveS {x with S:=(Ob.put x.S f 2 0).2,rows:=x.rows.set a.toNat t} f):=by
 have e1:Qu.pollR x.rows a=(f,0):=by unfold Qu.pollR;rw[if_pos h,h0];rfl
 have e2:Qu.pollS x.S x.rows a=(Ob.put x.S f 2 0).2:=by unfold Qu.pollS;rw[if_pos ⟨h,by rw[h0];simp⟩,h0];rfl
 have e3:Qu.pollQ x.rows a=x.rows.set a.toNat t:=by unfold Qu.pollQ;rw[if_pos h,h0];rfl
 unfold poll
 rw[if_neg (fun g=>by rw[h]at g;cases g),if_neg (by rw[h0];simp),if_neg hf,e1,e2,e3,if_neg (fun g=>g rfl)]
end Rx
namespace Refs
abbrev ro0:List Int:=List.replicate 16 0
abbrev os(k a f v:Int):List Ob1:=[⟨a,⟨3,0,2,false⟩,[0,77]⟩,⟨f,⟨4,k,5,false⟩,[v,1,0,0,1]⟩]
abbrev xs(rows:List (List Int))(l:List Hn.Slot)(rn:Int)(S:Spc):Rt:=RZ [] rows 1 S l ro0 [] [] 0 rn
theorem coll{S:Spc}{k a f v:Int}{l2:List Hn.Slot}(hk:1≤k∧k≤3)(h2:l2=[]∨l2=[(1,0)])(hv:v=a∨v=0)(H:Bo S [] (os k a f v)){N:Int}(I:(xs [[]] ((1,0)::(0,f)::l2) 0 S).Inv N){x':Rt}(h:(xs [[]] ((1,0)::(0,f)::l2) 0 S).CollR x' true):
  ∃S',x'=xs (if v=a then[[f]]else[[]]) ((1,0)::(0,f)::l2) 1 S'∧Ob.head S' f=some ⟨4,k,5,false⟩∧Ob.get S' f 0=(0,0)∧(v=a→Ob.get S' f 1=(-1,0))∧(Sp.each S).length=2∧(Sp.each S').length=1:=by
 have D:(xs [[]] ((1,0)::(0,f)::l2) 0 S).InvD:=bo_invd H rfl (fun o ho=>by
  simp only[List.mem_cons,List.not_mem_nil,or_false]at ho
  rcases ho with rfl|rfl<;>(dsimp only;decide)) (fun o ho hk=>by
  simp only[List.mem_cons,List.not_mem_nil,or_false]at ho
  rcases ho with rfl|rfl
  ·exact absurd hk (by dsimp only;decide)
  ·exact Int.le_refl 1)
 have nd:=H.nodup
 simp only[List.map_cons,List.map_nil,List.nodup_cons,List.mem_cons,List.not_mem_nil,or_false,not_false_eq_true,List.nodup_nil,and_true]at nd
 have pa:0<a:=H.pos (o:=⟨a,⟨3,0,2,false⟩,[0,77]⟩) (by simp)
 have pf:0<f:=H.pos (o:=⟨f,⟨4,k,5,false⟩,[v,1,0,0,1]⟩) (by simp)
 have hf:Fl.Flat (os k a f v):=⟨fun o ho=>by
  simp only[List.mem_cons,List.not_mem_nil,or_false]at ho
  rcases ho with rfl|rfl<;>simp,fun o ho hk o' ho' e=>by
  simp only[List.mem_cons,List.not_mem_nil,or_false]at ho ho'
  rcases ho with rfl|rfl
  ·exact absurd hk (by dsimp only;decide)
  ·rcases ho' with rfl|rfl
   ·rfl
   ·change f=v at e;omega⟩
 have hl:((1,0)::(0,f)::l2:List Hn.Slot).length≤512:=by rcases h2 with rfl|rfl<;>(dsimp only[List.length];omega)
 have hro:∀b,0<b→(b∈(xs [[]] ((1,0)::(0,f)::l2) 0 S).roots↔b=f):=fun b hb=>by
  rw[z_roots hl hb]
  constructor
  ·rintro(⟨e,he,g⟩|g|⟨r,hr,g⟩|g)
   ·rcases List.mem_cons.mp he with rfl|he
    ·change(0:Int)=b at g;omega
    ·rcases List.mem_cons.mp he with rfl|he
     ·exact g.symm
     ·rcases h2 with rfl|rfl
      ·cases he
      ·rw[List.mem_singleton]at he;subst he;change(0:Int)=b at g;omega
   ·have:=List.eq_of_mem_replicate g;omega
   ·rw[List.mem_singleton]at hr;subst hr;cases g
   ·cases g
  ·rintro rfl
   exact .inl ⟨(0,b),by simp,rfl⟩
 obtain⟨l,m2,m3,cl,pu,pn,C⟩:=h.cf I D
 obtain⟨g2,g3⟩:=Fl.marks C H hf
 have oa:Mk.obj S a:=H.obj.mpr ⟨⟨a,⟨3,0,2,false⟩,[0,77]⟩,by simp,rfl⟩
 have of':Mk.obj S f:=H.obj.mpr ⟨⟨f,⟨4,k,5,false⟩,[v,1,0,0,1]⟩,by simp,rfl⟩
 have hd:=H.head ⟨f,⟨4,k,5,false⟩,[v,1,0,0,1]⟩ (by simp)
 dsimp only at hd
 have e0:Ob.get S f 0=(v,0):=H.get ⟨f,⟨4,k,5,false⟩,[v,1,0,0,1]⟩ (by simp) 0 (show((0:Nat):Int)<5 by decide)
 have e1:Ob.get S f 1=(1,0):=H.get ⟨f,⟨4,k,5,false⟩,[v,1,0,0,1]⟩ (by simp) 1 (show((1:Nat):Int)<5 by decide)
 have ma:¬Sp.has m2 a=true:=fun g=>by
  obtain⟨_,g|⟨o,ho,kk,_⟩⟩:=(g2 a).mp g
  ·exact nd ((hro a pa).mp g)
  ·exact absurd kk.all (by decide)
 have ma3:¬Sp.has m3 a=true:=fun g=>((g3 a).mp g).elim ma fun g=>by cases g.1
 have mf:Sp.has m3 f=true:=(g3 f).mpr (.inl ((g2 f).mpr ⟨of',.inl ((hro f pf).mpr rfl)⟩))
 have hcl:∀b,b∈cl↔(b=f∧v=a):=fun b=>by
  rw[C.mcl]
  constructor
  ·rintro⟨hh,h1,h2,h3,h4⟩
   change Ob.head S b=_ at h1
   obtain⟨o,ho,rfl⟩:=H.obj.mp (show Mk.obj S b by unfold Mk.obj;rw[h1];rfl)
   rw[H.head o ho]at h1
   injection h1 with h1
   subst h1
   simp only[List.mem_cons,List.not_mem_nil,or_false]at ho
   rcases ho with rfl|rfl
   ·exact absurd h2 (by dsimp only;decide)
   ·refine⟨rfl,hv.resolve_right fun g=> ?_⟩
    change Mk.obj S (Ob.get S f 0).1 at h3
    rw[e0,g]at h3
    exact Mk.obj_zero H.hw h3
  ·rintro⟨rfl,rfl⟩
   refine⟨_,hd,rfl,?_,?_⟩
   ·show Mk.obj S (Ob.get S b 0).1
    rw[e0];exact oa
   ·show¬Sp.has (if k=3 then m3 else m2) (Ob.get S b 0).1=true
    rw[e0]
    split
    ·exact ma3
    ·exact ma
 have hpu:∀b,b∈pu↔(b=f∧v=a):=fun b=>by
  rw[C.mpu,hcl]
  constructor
  ·exact fun g=>g.1
  ·rintro⟨rfl,rfl⟩
   exact⟨⟨rfl,rfl⟩,mf,by show(Ob.get S b 1).1>0;rw[e1];decide⟩
 have hpn:pn=[]:=no_mem fun b hb=>by
  have:=((C.mpn b).mp hb).1
  cases this
 have hrow:=C.A.row 0 (show 0<1 by decide)
 have hrl:x'.rows.length=1:=C.A.len
 have hpl:pu=if v=a then[f]else[]:=by
  have hn:pu.Nodup:=by rw[C.epu];unfold putOf;exact C.nd.filter _
  split
  ·exact nodup_one hn fun b=>by rw[hpu];exact⟨fun g=>g.1,fun g=>⟨g,‹_›⟩⟩
  ·exact no_mem fun b hb=>absurd ((hpu b).mp hb).2 ‹_›
 have hr:x'.rows=if v=a then[[f]]else[[]]:=by
  obtain⟨r,hr⟩:=List.length_eq_one_iff.mp hrl
  rw[hr]at hrow⊢
  change r=[]++_ at hrow
  rw[hrow,hpl]
  split
  ·rw[List.filter_cons_of_pos (by show((Ob.get S f 1).1-1==((0:Nat):Int))=true;rw[e1];rfl)];rfl
  ·rfl
 have ex:=C.eq
 rw[hr,hpn]at ex
 have hh:Ob.head x'.S f=some ⟨4,k,5,false⟩:=(C.A.head f mf).trans hd
 obtain⟨_,_,ce,_⟩:=coll_free h I
 refine⟨x'.S,ex,hh,?_,fun e=> ?_,H.each.length_eq,?_⟩
 ·rw[C.A.get f mf (j:=0) hd (by decide) (show _<(5:Int) by decide) (.inl (by decide))]
  by_cases g:v=a
  ·rw[if_pos ⟨(hcl f).mpr ⟨rfl,g⟩,rfl⟩]
  ·rw[if_neg (fun q=>g ((hcl f).mp q.1).2),if_neg (fun q=>absurd q.2 (by decide))]
   show Ob.get S f 0=_
   rw[e0,hv.resolve_left g]
 ·rw[C.A.get f mf (j:=1) hd (by decide) (show _<(5:Int) by decide) (.inl (by decide)),if_neg (fun q=>absurd q.2 (by decide)),if_pos ⟨(hpu f).mpr ⟨rfl,e⟩,rfl⟩]
 ·rw[ce,(H.each.filter _).length_eq]
  have h1:Ob.head x'.S a=none:=by
   cases e:Ob.head x'.S a with
   |none=>rfl
   |some _=>exact absurd ((C.A.obj a).mp (by unfold Mk.obj;rw[e];rfl)) ma3
  show(([a,f]:List Int).filter fun a=>(Ob.head x'.S a).isSome).length=1
  rw[List.filter_cons_of_neg (by rw[h1];decide),List.filter_cons_of_pos (by rw[hh];rfl)];rfl
structure Q1(k f:Int)(S:Spc):Prop where
 hw:HWf S []
 h:Ob.head S f=some ⟨4,k,5,false⟩
 g0:Ob.get S f 0=(0,0)
 g1:Ob.get S f 1=(-1,0)
theorem Q1.put{k f:Int}{S:Spc}(H:Q1 k f S){i:Int}(hi:i=2∨i=0):Q1 k f (Ob.put S f i 0).2:=by
 refine⟨H.hw.put _ _ _,by rw[put_head H.hw];exact H.h,?_,?_⟩
 ·rw[get_put H.hw H.h (by decide) (show _<(5:Int) by decide)]
  split
  ·rfl
  ·exact H.g0
 ·rw[get_put H.hw H.h (by decide) (show _<(5:Int) by decide),if_neg (by omega)];exact H.g1
theorem poll1{f rn:Int}{S:Spc}(pf:0<f){l2:List Hn.Slot}(h2:l2=[]∨l2=[(1,0)]):Rx.poll (xs [[f]] ((1,0)::(0,f)::l2) rn S) 0=((1024,0),xs [[]] ((1,f)::(0,f)::l2) rn (Ob.put S f 2 0).2):=by
 have hl:((1,0)::(0,f)::l2:List Hn.Slot).length≤512:=by rcases h2 with rfl|rfl<;>(dsimp only[List.length];omega)
 have hf:Hn.free (Hn.Hs ((1,0)::(0,f)::l2))≠none:=by rw[Hn.hs_free' (l:=(1,0)::(0,f)::l2) (j:=0) (t:=1) rfl (fun i h=>by omega) hl];simp
 have e:=Rx.poll_is (x:=xs [[f]] ((1,0)::(0,f)::l2) rn S) (a:=0) (f:=f) (t:=[]) rfl rfl hf
 obtain⟨g1,g2⟩:=Rx.give_at (x:=xs [[]] ((1,0)::(0,f)::l2) rn (Ob.put S f 2 0).2) (l:=(1,0)::(0,f)::l2) (j:=0) (t:=1) rfl rfl (fun i h=>by omega) hl pf
 rw[e]
 exact Prod.ext g1 g2
theorem enq0{k f:Int}{S:Spc}(H:Q1 k f S){x:Rt}(hx:x.S=S){h:Int}(hh:Hn.held x.hs h=(f,0)):Rx.enqueue x h=((0,0),{x with S:=(Ob.put S f 0 0).2}):=by
 have hr:Qu.isR S f=true:=by unfold Qu.isR;rw[H.h];rfl
 have e:Rf.enq x.S x.rows f=((false,0),(Ob.put S f 0 0).2,x.rows):=by
  have hq:Rf.qn S f= -1:=by unfold Rf.qn;rw[(H.put (.inr rfl)).g1]
  unfold Rf.enq
  rw[hx,if_pos hr,if_pos (by rw[hq];decide)]
 unfold Rx.enqueue
 rw[Rx.by_is hh,e]
 rfl
end Refs
theorem law_rtrefs(p c:Int)(hp:0≤p∧p<256)(hc:0≤c∧c<256):Gl.Spec ρ Tryz.prog 3 [.int .u8 p,.int .u8 c] [] RB fun r M=>r=true∧M=[]:=by
 refine Gl.Spec.of (fun Q w h=>F.gloaminglaw21.RtRefs.calls p c h) fun R=> ?_
 unfold F.gloaminglaw21.RtRefs
 rw[wrap64 (n:=p) (by omega) (by omega),Int.tmod_eq_emod_of_nonneg hp.1,Int.tmod_eq_emod_of_nonneg hc.1,wrap64 (n:=1+p%3) (by omega) (by omega)]
 obtain⟨k,ek,hk⟩:∃k:Int,1+p%3=k∧(1≤k∧k≤3):=⟨_,rfl,by omega⟩
 obtain⟨m,em,hm⟩:∃m:Int,c%3=m∧(m=0∨m=1∨m=2):=⟨_,rfl,by omega⟩
 rw[ek,em]
 refine en_call law_fresh .nil ?_
 rintro _ _ ⟨i,q,rfl,rfl⟩
 rw[rz_new,zcAns]
 try simp only[lca,lna]
 refine en_brf rfl ?_
 have e1:Rx.open' (RZ [] [] 0 (Sp.newSpc 60) [] Refs.ro0 [] [] 0 0)=((0,0),RZ [] [[]] 0 (Sp.newSpc 60) [] Refs.ro0 [] [] 0 0):=rfl
 refine en_dos (e1▸op_open i q _ rz_inv0 0 0 0 (by decide)) tks ?_
 have I0:=Rx.open_inv rz_inv0
 change(Rx.open' (RZ [] [] 0 (Sp.newSpc 60) [] Refs.ro0 [] [] 0 0)).2.Inv _ at I0
 rw[e1]at I0
 dsimp only at I0⊢
 refine en_nw fun b3=> ?_
 refine en_st (b:=b3) (off:=0) rfl tk (by simp) rfl ?_
 refine en_need (by decide) ?_
 refine en_call (law_do (z_list i q new_bx I0 (by decide) (by simp) (by decide) (by decide) (.inr ⟨rfl,rfl⟩) 2 0 0 (by decide) (by decide) (hd:=512) rfl)) tks ?_
 rintro _ _ ⟨a,S1,rfl,ha,x1,I1,rfl⟩
 try simp only[lca,lna]
 refine en_nw fun b5=> ?_
 refine en_st (b:=b5) (off:=0) rfl tk (by simp) rfl ?_
 refine en_ld (k:= .int .i64) (b:=b5) (off:=1) (x:=512) (by rw[fa_mk]) tk rfl ?_
 refine en_ld (k:= .int .i64) (b:=b3) (off:=1) (x:=0) (by rw[fa_mk]) tk rfl ?_
 have h2:∀e∈([(0,a)]:List Hn.Slot),e.2≠0:=by simp;omega
 refine en_call (law_do (z_refer i q x1 I1 (by decide) h2 (show 1<512 by decide) (show 1+1<60 by decide) (w:=k) (h:=512) (o:=a) (qu:=0) hk (by decide) (fun _=>by decide) (Hn.hs_held (l:=[(0,a)]) (j:=0) (t:=0) (a:=a) (x:=512) rfl (by omega) (by decide) (show 1≤512 by decide) (by decide)) ⟨⟨a,⟨3,0,2,false⟩,[0,0]⟩,by simp,rfl⟩ (hd:=513) rfl)) tks ?_
 rintro _ _ ⟨f,S2,rfl,pf,x2,I2,rfl⟩
 try simp only[lca,lna]
 change Bx S2 [] 60 [⟨a,⟨3,0,2,false⟩,[0,0]⟩,⟨f,⟨4,k,5,false⟩,[a,1,0,0,1]⟩]at x2
 refine en_nw fun b9=> ?_
 refine en_st (b:=b9) (off:=0) rfl tk (by simp) rfl ?_
 refine en_ld (k:= .int .i64) (b:=b5) (off:=1) (x:=512) (by rw[fa_mk]) tk rfl ?_
 have hA:=Hn.hs_held (l:=[(0,a),(0,f)]) (j:=0) (t:=0) (a:=a) (x:=512) rfl (by omega) (by decide) (show 2≤512 by decide) (by decide)
 have hF:=Hn.hs_held (l:=[(0,a),(0,f)]) (j:=1) (t:=0) (a:=f) (x:=513) rfl (by omega) (by decide) (show 2≤512 by decide) (by decide)
 have e3:=Rx.put_num (x:=RZ [] [[]] 1 S2 [(0,a),(0,f)] Refs.ro0 [] [] 0 0) (o:=⟨a,⟨3,0,2,false⟩,[0,0]⟩) x2.bo (by simp) hA (show(3:Int)≠4 by decide) (j:=1) (show(1:Int)<2 by decide) (by show(1:Int)∉Rx.refsH [] ⟨3,0,2,false⟩;decide) 77
 refine en_dos (e3▸op_put i q _ I2 512 ((1:Nat):Int) 77 (by decide)) tks ?_
 have I3:=Rx.put_inv I2 512 ((1:Nat):Int) 77
 change(Rx.put (RZ [] [[]] 1 S2 [(0,a),(0,f)] Refs.ro0 [] [] 0 0) 512 ((1:Nat):Int) 77).2.Inv _ at I3
 rw[e3]at I3
 have x3:=(x2.put (i:=0) rfl (k:=1) (show(1:Int)<2 by decide) 77).2
 dsimp only at I3 x3⊢
 generalize(Ob.put S2 a ((1:Nat):Int) 77).2=S3 at*
 change Bx S3 [] 60 (Refs.os k a f a)at x3
 refine en_ld (k:= .int .i64) (b:=b9) (off:=1) (x:=513) (by rw[fa_mk]) tk rfl ?_
 have mf:(⟨f,⟨4,k,5,false⟩,[a,1,0,0,1]⟩:Ob1)∈Refs.os k a f a:=by simp
 obtain⟨v,S4,l2,e4,x4,hv,hl2⟩:∃(v:Int) (S4:Spc) (l2:List Hn.Slot),Rx.referent (Refs.xs [[]] [(0,a),(0,f)] 0 S3) 513=((v,0),Refs.xs [[]] ((0,a)::(0,f)::l2) 0 S4)∧Bo S4 [] (Refs.os k a f a)∧v=(if k=3 then 0 else 514)∧l2=(if k=3 then[]else[(0,a)]):=by
  by_cases k3:k=3
  ·refine⟨0,S3,[],Rx.referent_ph hF (x3.head _ mf) rfl k3,x3.bo,by rw[if_pos k3],by rw[if_pos k3]⟩
  ·have e:=Rx.referent_is (x:=Refs.xs [[]] [(0,a),(0,f)] 0 S3) (v:=a) hF (x3.head _ mf) rfl k3 (x3.get _ mf 0 (show(0:Int)<5 by decide)) (by omega) (by show Hn.free (Hn.Hs [(0,a),(0,f)])≠none;rw[Hn.hs_free (l:=[(0,a),(0,f)]) (by simp;omega) (show 2<512 by decide)];simp)
   have b4:Bo (if k=1 then(Ob.put S3 f 3 0).2 else S3) [] (Refs.os k a f a):=by
    split
    ·have:=(x3.put (i:=1) rfl (k:=3) (show(3:Int)<5 by decide) 0).2.bo
     exact this
    ·exact x3.bo
   change Rx.referent (Refs.xs [[]] [(0,a),(0,f)] 0 S3) 513=(Rx.giveR (Refs.xs [[]] [(0,a),(0,f)] 0 (if k=1 then(Ob.put S3 f 3 0).2 else S3)) a,Rx.giveS (Refs.xs [[]] [(0,a),(0,f)] 0 (if k=1 then(Ob.put S3 f 3 0).2 else S3)) a)at e
   generalize(if k=1 then(Ob.put S3 f 3 0).2 else S3)=S4 at*
   obtain⟨g1,g2⟩:=Rx.give_new (x:=Refs.xs [[]] [(0,a),(0,f)] 0 S4) (l:=[(0,a),(0,f)]) rfl (by simp;omega) (show 2<512 by decide) ha
   rw[g1,g2]at e
   exact⟨514,S4,[(0,a)],e,b4,by rw[if_neg k3],by rw[if_neg k3]⟩
 refine en_dos (e4▸op_referent i q _ I3 513 0 0 (by decide)) tks ?_
 have I4:=Rx.referent_inv I3 513
 change(Rx.referent (Refs.xs [[]] [(0,a),(0,f)] 0 S3) 513).2.Inv _ at I4
 rw[e4]at I4
 dsimp only at I4⊢
 try simp only[lca,lna]
 refine en_nw fun b14=> ?_
 refine en_st (b:=b14) (off:=0) rfl tk (by simp) rfl ?_
 refine en_drw (en_held [blk b3 [i64 0,i64 0],blk b5 [i64 0,i64 512],blk b9 [i64 0,i64 513],blk b14 [i64 0,i64 v]] tks ?_)
 refine en_ldS (k:= .int .i64) (b:=b3) (off:=0) (x:=0) (by rw[fa_mk]) tk rfl ?_
 refine en_ldS (k:= .int .i64) (b:=b5) (off:=0) (x:=0) (by rw[fa_mk]) tk rfl ?_
 refine en_ldS (k:= .int .i64) (b:=b9) (off:=0) (x:=0) (by rw[fa_mk]) tk rfl ?_
 refine en_ldS (k:= .int .i64) (b:=b14) (off:=0) (x:=0) (by rw[fa_mk]) tk rfl ?_
 refine en_errS tks (en_errS tks (en_errS tks (en_errS tks ?_)))
 refine en_brf (by kernel_rfl) ?_
 refine en_ldS (k:= .int .i64) (b:=b14) (off:=1) (x:=v) (by rw[fa_mk]) tk rfl ?_
 refine en_brf (by rw[hv];split<;>rename_i g<;>simp[g]) ?_
 refine en_jn (I:=fun _ M=>∃(S:Spc) (l2:List Hn.Slot) (N:Int),(l2=[]∨l2=[(1,0)])∧Bo S [] (Refs.os k a f a)∧(Refs.xs [[]] ((0,a)::(0,f)::l2) 0 S).Inv N∧N<2^40∧M.Perm (blk b3 [i64 0,i64 0]::blk b5 [i64 0,i64 512]::blk b9 [i64 0,i64 513]::i.Q q (Refs.xs [[]] ((0,a)::(0,f)::l2) 0 S)++R)) ?_ fun J HJ=> ?_
 ·rintro _ M ⟨S,l2,N,h2,b,I,hN,hp⟩
  refine Tr.perm hp ?_
  refine en_ld (k:= .int .i64) (b:=b5) (off:=1) (x:=512) (by rw[fa_mk]) tk rfl ?_
  have hl:((0,a)::(0,f)::l2:List Hn.Slot).length≤512:=by rcases h2 with rfl|rfl<;>(dsimp only[List.length];omega)
  have e5:=z_drop (cs:=[]) (rows:=[[]]) (ser:=1) (S:=S) (ro:=Refs.ro0) (pe:=[]) (wa:=[]) (ck:=0) (rn:=0) (l:=(0,a)::(0,f)::l2) (j:=0) (t:=0) (a:=a) (h:=512) rfl (by omega) (by decide) hl (by decide)
  refine en_dos (e5▸op_drop i q _ I 512 0 0 (by omega)) tks ?_
  have I5:=Rx.drop_inv I (by
   have:=I.ser.1
   have:=I.ser.2
   omega) 512
  rw[e5]at I5
  dsimp only[List.set]at I5⊢
  replace I5:(Refs.xs [[]] ((1,0)::(0,f)::l2) 0 S).Inv (N+1):=I5
  have hh:∀{t v:Int},Hn.held (Hn.Hs ((t,v)::(0,f)::l2)) 513=(f,0):=Hn.hs_held (j:=1) (t:=0) (a:=f) (x:=513) rfl (by omega) (by decide) hl (by decide)
  refine en_jn (I:=fun _ M=>∃(S:Spc) (rn N:Int),Refs.Q1 k f S∧(Refs.xs [[f]] ((1,0)::(0,f)::l2) rn S).Inv N∧N<2^41∧M.Perm (blk b3 [i64 0,i64 0]::blk b5 [i64 0,i64 512]::blk b9 [i64 0,i64 513]::i.Q q (Refs.xs [[f]] ((1,0)::(0,f)::l2) rn S)++R)) ?_ fun J HJ=> ?_
  ·rintro _ M ⟨S,rn,N,Q,I,hN,hp⟩
   refine Tr.perm hp ?_
   refine en_ld (k:= .int .i64) (b:=b3) (off:=1) (x:=0) (by rw[fa_mk]) tk rfl ?_
   refine en_dos (Refs.poll1 pf h2▸op_poll i q _ I 0 0 0 (by omega)) tks ?_
   have I6:=Rx.poll_inv I 0
   rw[Refs.poll1 pf h2]at I6
   dsimp only at I6⊢
   have Q2:=Q.put (i:=2) (.inl rfl)
   generalize(Ob.put S f 2 0).2=S2 at*
   try simp only[lca,lna]
   refine en_nw fun b37=> ?_
   refine en_st (b:=b37) (off:=0) rfl tk (by simp) rfl ?_
   refine en_ld (k:= .int .i64) (b:=b37) (off:=0) (x:=0) (by rw[fa_mk]) tk rfl ?_
   refine en_err (en_brt rfl ?_)
   refine en_ld (k:= .int .i64) (b:=b37) (off:=1) (x:=1024) (by rw[fa_mk]) tk rfl ?_
   refine en_brt rfl ?_
   refine en_ld (k:= .int .i64) (b:=b37) (off:=1) (x:=1024) (by rw[fa_mk]) tk rfl ?_
   refine en_ld (k:= .int .i64) (b:=b9) (off:=1) (x:=513) (by rw[fa_mk]) tk rfl ?_
   refine en_brt rfl ?_
   refine en_ld (k:= .int .i64) (b:=b37) (off:=1) (x:=1024) (by rw[fa_mk]) tk rfl ?_
   have hq:=Hn.hs_held (l:=(1,f)::(0,f)::l2) (j:=0) (t:=1) (a:=f) (x:=1024) rfl (by omega) (by decide) hl (by decide)
   have e7:=Rx.referent_zero (x:=Refs.xs [[]] ((1,f)::(0,f)::l2) rn S2) hq Q2.h rfl Q2.g0
   refine en_isP (e7▸op_referent i q _ I6 1024 0 0 (by omega)) tks ?_
   refine en_ld (k:= .int .i64) (b:=b3) (off:=1) (x:=0) (by rw[fa_mk]) tk rfl ?_
   refine en_isP (Rx.poll_empty (x:=Refs.xs [[]] ((1,f)::(0,f)::l2) rn S2) (a:=0) rfl rfl▸op_poll i q _ I6 0 0 0 (by omega)) tks ?_
   refine en_ld (k:= .int .i64) (b:=b9) (off:=1) (x:=513) (by rw[fa_mk]) tk rfl ?_
   have e8:=Refs.enq0 Q2 (x:=Refs.xs [[]] ((1,f)::(0,f)::l2) rn S2) rfl (h:=513) hh
   refine en_isP (e8▸op_enqueue i q _ I6 513 0 0 (by omega)) tks ?_
   have I7:=Rx.enqueue_inv I6 513
   rw[e8]at I7
   dsimp only at I7
   refine en_ld (k:= .int .i64) (b:=b3) (off:=1) (x:=0) (by rw[fa_mk]) tk rfl ?_
   refine en_isP (Rx.poll_empty (x:=Refs.xs [[]] ((1,f)::(0,f)::l2) rn (Ob.put S2 f 0 0).2) (a:=0) rfl rfl▸op_poll i q _ I7 0 0 0 (by omega)) tks ?_
   refine en_call (law_awake21) tks ?_
   rintro x' M ⟨rfl,rfl⟩
   try simp only[lca,lna]
   exact en_rets (x:=true) rfl ⟨rfl,rfl⟩ tks ens
  refine en_need (by decide) ?_
  rcases hm with rfl|rfl|rfl
  ·refine en_brt rfl ?_
   refine en_collectN I5 (by omega) (.inr rfl) tks fun x' hC Ic=> ?_
   obtain⟨S',rfl,c1,c2,c3,c4,c5⟩:=Refs.coll hk h2 (.inl rfl) b I5 hC
   rw[if_pos rfl]at Ic⊢
   refine⟨?_,HJ _ _ ⟨S',_,_,⟨Ic.w.hw,c1,c2,c3 rfl⟩,Ic,by omega,Takes.perm tks⟩⟩
   show(((Sp.each S).length:Nat):Int)-(((Sp.each S').length:Nat):Int)=1
   omega
  ·refine en_brf rfl (en_brt rfl ?_)
   refine en_ld (k:= .int .i64) (b:=b9) (off:=1) (x:=513) (by rw[fa_mk]) tk rfl ?_
   have mf:(⟨f,⟨4,k,5,false⟩,[a,1,0,0,1]⟩:Ob1)∈Refs.os k a f a:=by simp
   have hd:=b.head _ mf
   dsimp only at hd
   have hr:Qu.isR S f=true:=by unfold Qu.isR;rw[hd];rfl
   have g1:Ob.get S f 1=(1,0):=b.get _ mf 1 (show((1:Nat):Int)<5 by decide)
   obtain⟨q1,q2,_,q4⟩:=enq_is b.hw I5.w.q hr (i:=0) (by show(Ob.get S f 1).1=_;rw[g1];rfl) (by decide) (show(0:Int)<1 by decide)
   have e6:Rx.enqueue (Refs.xs [[]] ((1,0)::(0,f)::l2) 0 S) 513=((1,0),Refs.xs [[f]] ((1,0)::(0,f)::l2) 0 (Rf.enq S [[]] f).2.1):=by
    unfold Rx.enqueue
    rw[Rx.by_is hh]
    show((if(Rf.enq S [[]] f).1.2≠0∨(Rf.enq S [[]] f).1.1=false then(0,(Rf.enq S [[]] f).1.2)else(1,0):Int×Int),({Refs.xs [[]] ((1,0)::(0,f)::l2) 0 S with S:=(Rf.enq S [[]] f).2.1,rows:=(Rf.enq S [[]] f).2.2}:Rt))=_
    rw[show Rf.enq S [[]] f=((true,0),(Rf.enq S [[]] f).2.1,[[f]])from Prod.ext q1 (Prod.ext rfl q2)]
    rfl
   refine en_isN (e6▸op_enqueue i q _ I5 513 0 0 (by omega)) tks ?_
   have I6:=Rx.enqueue_inv I5 513
   rw[e6]at I6
   dsimp only at I6
   refine HJ _ _ ⟨_,_,_,⟨I6.w.hw,(enq_head b.hw [[]] f f).trans hd,?_,?_⟩,I6,by omega,Takes.perm tks⟩
   ·rw[q4 hd (by decide) (show _<(5:Int) by decide) (.inl (by decide)),if_pos ⟨rfl,rfl⟩]
   ·rw[q4 hd (by decide) (show _<(5:Int) by decide) (.inl (by decide)),if_neg (fun g=>absurd g.2 (by decide)),if_pos ⟨rfl,rfl⟩]
  ·refine en_brf rfl (en_brf rfl ?_)
   refine en_ld (k:= .int .i64) (b:=b9) (off:=1) (x:=513) (by rw[fa_mk]) tk rfl ?_
   have nd:=b.nodup
   simp only[List.map_cons,List.map_nil,List.nodup_cons,List.mem_cons,List.not_mem_nil,or_false,not_false_eq_true,List.nodup_nil,and_true]at nd
   have mf:(⟨f,⟨4,k,5,false⟩,[a,1,0,0,1]⟩:Ob1)∈Refs.os k a f a:=by simp
   have hr:Qu.isR S f=true:=by unfold Qu.isR;rw[b.head _ mf];rfl
   have e6:Rx.clear (Refs.xs [[]] ((1,0)::(0,f)::l2) 0 S) 513=((0,0),Refs.xs [[]] ((1,0)::(0,f)::l2) 0 (Ob.put S f 0 0).2):=by
    unfold Rx.clear
    rw[Rx.by_is hh,show Rf.clear (Refs.xs [[]] ((1,0)::(0,f)::l2) 0 S).S [f]=(0,(Ob.put S f 0 0).2) by unfold Rf.clear;rw[if_pos (by simpa using hr)];rfl]
   refine en_isN (e6▸op_clear i q _ I5 513 0 0 (by omega)) tks ?_
   have I6:=Rx.clear_inv I5 513
   rw[e6]at I6
   dsimp only at I6⊢
   have b6:=b.put f 0 0
   rw[show Om.upd (Refs.os k a f a) f 0 0=Refs.os k a f 0 by unfold Om.upd;simp[Om.up,nd]]at b6
   generalize(Ob.put S f 0 0).2=S6 at*
   refine en_collectN I6 (by omega) (.inr rfl) tks fun x' hC Ic=> ?_
   obtain⟨S',rfl,c1,c2,c3,c4,c5⟩:=Refs.coll hk h2 (.inr rfl) b6 I6 hC
   rw[if_neg (show¬(0:Int)=a by omega)]at Ic⊢
   refine⟨?_,?_⟩
   ·show(((Sp.each S6).length:Nat):Int)-(((Sp.each S').length:Nat):Int)=1
    omega
   refine en_ld (k:= .int .i64) (b:=b3) (off:=1) (x:=0) (by rw[fa_mk]) tk rfl ?_
   refine en_isP (Rx.poll_empty (x:=Refs.xs [[]] ((1,0)::(0,f)::l2) 1 S') (a:=0) rfl rfl▸op_poll i q _ Ic 0 0 0 (by omega)) tks ?_
   refine en_ld (k:= .int .i64) (b:=b9) (off:=1) (x:=513) (by rw[fa_mk]) tk rfl ?_
   have e7:=Rx.referent_zero (x:=Refs.xs [[]] ((1,0)::(0,f)::l2) 1 S') hh c1 rfl c2
   refine en_isP (e7▸op_referent i q _ Ic 513 0 0 (by omega)) tks ?_
   refine en_call (law_awake21) tks ?_
   rintro x' M ⟨rfl,rfl⟩
   try simp only[lca,lna]
   exact en_rets (x:=true) rfl ⟨rfl,rfl⟩ tks ens
 by_cases k3:k=3
 ·rw[if_pos k3]at hl2
  subst hl2
  refine en_brf (by simp[k3]) ?_
  refine Tr.drop (A:=blk b14 _) tk ?_
  exact HJ _ _ ⟨S4,[],_,.inl rfl,x4,I4,by decide,Takes.perm tks⟩
 ·rw[if_neg k3]at hl2 hv
  subst hl2 hv
  refine en_brt (by simp[k3]) ?_
  refine en_ld (k:= .int .i64) (b:=b14) (off:=1) (x:=514) (by rw[fa_mk]) tk rfl ?_
  have hh:=Hn.hs_held (l:=[(0,a),(0,f),(0,a)]) (j:=2) (t:=0) (a:=a) (x:=514) rfl (by omega) (by decide) (show 3≤512 by decide) (by decide)
  have e5:=Rx.get_num (x:=Refs.xs [[]] [(0,a),(0,f),(0,a)] 0 S4) (o:=⟨a,⟨3,0,2,false⟩,[0,77]⟩) x4 (by simp) hh (show(3:Int)≠4 by decide) (j:=1) (show(1:Int)<2 by decide) (by show(1:Int)∉Rx.refsH [] ⟨3,0,2,false⟩;decide)
  refine en_isN (e5▸op_get i q _ I4 514 ((1:Nat):Int) 0 (by decide)) tks ?_
  refine en_ld (k:= .int .i64) (b:=b14) (off:=1) (x:=514) (by rw[fa_mk]) tk rfl ?_
  have e6:=z_drop (cs:=[]) (rows:=[[]]) (ser:=1) (S:=S4) (ro:=Refs.ro0) (pe:=[]) (wa:=[]) (ck:=0) (rn:=0) (l:=[(0,a),(0,f),(0,a)]) (j:=2) (t:=0) (a:=a) (h:=514) rfl (by omega) (by decide) (show 3≤512 by decide) (by decide)
  refine en_isN (e6▸op_drop i q _ I4 514 0 0 (by decide)) tks ?_
  have I6:=Rx.drop_inv I4 (by decide) 514
  change(Rx.drop (Refs.xs [[]] [(0,a),(0,f),(0,a)] 0 S4) 514).2.Inv _ at I6
  rw[e6]at I6
  dsimp only[List.set]at I6⊢
  refine Tr.drop (A:=blk b14 _) tk ?_
  exact HJ _ _ ⟨S4,[(1,0)],_,.inr rfl,x4,I6,by decide,Takes.perm tks⟩
end Go.Proofs.YtfepdmpplahloaaGreat
