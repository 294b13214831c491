/- The law RtTimes. -/
import Derived.Test.YtfepdmpplahloaaGreatGsRtC
import Derived.Test.YtfepdmpplahloaaGreatGsTxRtTimes
set_option linter.unusedSimpArgs false
set_option linter.unusedVariables false
namespace Go.Proofs.YtfepdmpplahloaaGreat
open Go Go.Gl
variable{ρ0 ρ:FR}{L L':List Asn}{Post:Value→List Asn→Prop}{T:Tree}
namespace Times
abbrev ro0:List Int:=List.replicate 16 0
abbrev os(a u s w st:Int):List Ob1:=[⟨a,⟨3,0,2,false⟩,[0,0]⟩,⟨u,⟨3,0,3,false⟩,[0,0,0]⟩,⟨s,⟨4,1,5,false⟩,[a,0,0,st,1]⟩,⟨w,⟨4,2,5,false⟩,[u,0,0,0,2]⟩]
abbrev xs(t0 s w ck rn:Int)(S:Spc):Rt:=RZ [] [] 2 S [(t0,0),(1,0),(0,s),(0,w)] ro0 [] [] ck rn
theorem coll{S:Spc}{a u s w st t0 ck:Int}(H:Bo S [] (os a u s w st)){N:Int}(I:(xs t0 s w ck 0 S).Inv N){x':Rt}(h:(xs t0 s w ck 0 S).CollR x' false):
  ∃S',x'=xs t0 s w ck 1 S'∧Ob.head S' s=some ⟨4,1,5,false⟩∧Ob.head S' w=some ⟨4,2,5,false⟩∧Ob.get S' w 0=(0,0)∧Ob.get S' s 0=(if Sf.keep ck st (xs t0 s w ck 0 S).free 1=true then a else 0,0):=by
 have D:(xs t0 s w ck 0 S).InvD:=bo_invd H rfl (fun o ho=>by
  simp only[List.mem_cons,List.not_mem_nil,or_false]at ho
  rcases ho with rfl|rfl|rfl|rfl<;>(dsimp only;decide)) (fun o ho hk=>by
  simp only[List.mem_cons,List.not_mem_nil,or_false]at ho
  rcases ho with rfl|rfl|rfl|rfl<;>first |exact absurd hk (by dsimp only;decide)|exact Int.le_refl 0)
 have nd:=H.nodup
 simp only[List.map_cons,List.map_nil,List.nodup_cons,List.mem_cons,List.not_mem_nil,or_false,not_or,not_false_eq_true,List.nodup_nil,and_true]at nd
 obtain⟨⟨au,as',aw⟩,⟨us,uw⟩,sw⟩:=nd
 have hp:∀o∈os a u s w st,0<o.a:=fun o ho=>H.pos ho
 have pa:0<a:=hp ⟨a,⟨3,0,2,false⟩,[0,0]⟩ (by simp)
 have pu:0<u:=hp ⟨u,⟨3,0,3,false⟩,[0,0,0]⟩ (by simp)
 have ps:0<s:=hp ⟨s,⟨4,1,5,false⟩,[a,0,0,st,1]⟩ (by simp)
 have pw:0<w:=hp ⟨w,⟨4,2,5,false⟩,[u,0,0,0,2]⟩ (by simp)
 have hf:Fl.Flat (os a u s w st):=⟨fun o ho=>by
  simp only[List.mem_cons,List.not_mem_nil,or_false]at ho
  rcases ho with rfl|rfl|rfl|rfl<;>simp,fun o ho hk o' ho' e=>by
  simp only[List.mem_cons,List.not_mem_nil,or_false]at ho ho'
  rcases ho with rfl|rfl|rfl|rfl<;>first |exact absurd hk (by dsimp only;decide)|skip
  all_goals(rcases ho' with rfl|rfl|rfl|rfl<;>first |rfl|(change _=_ at e;simp at e;omega))⟩
 obtain⟨l,m2,m3,cl,pu',pn,C⟩:=h.cf I D
 obtain⟨g2,g3⟩:=Fl.marks C H hf
 have hro:∀b,0<b→(b∈(xs t0 s w ck 0 S).roots↔b=s∨b=w):=fun b hb=>by
  rw[z_roots (l:=[(t0,0),(1,0),(0,s),(0,w)]) (show 4≤512 by decide) hb]
  constructor
  ·rintro(⟨e,he,g⟩|g|⟨r,hr,_⟩|g)
   ·simp only[List.mem_cons,List.not_mem_nil,or_false]at he
    rcases he with rfl|rfl|rfl|rfl<;>simp at g<;>omega
   ·have:=List.eq_of_mem_replicate g;omega
   ·cases hr
   ·cases g
  ·rintro(rfl|rfl)
   ·exact .inl ⟨(0,b),by simp,rfl⟩
   ·exact .inl ⟨(0,b),by simp,rfl⟩
 have hob:∀o∈os a u s w st,Mk.obj S o.a:=fun o ho=>H.obj.mpr ⟨o,ho,rfl⟩
 have oa:Mk.obj S a:=hob ⟨a,⟨3,0,2,false⟩,[0,0]⟩ (by simp)
 have ou:Mk.obj S u:=hob ⟨u,⟨3,0,3,false⟩,[0,0,0]⟩ (by simp)
 have os':Mk.obj S s:=hob ⟨s,⟨4,1,5,false⟩,[a,0,0,st,1]⟩ (by simp)
 have ow:Mk.obj S w:=hob ⟨w,⟨4,2,5,false⟩,[u,0,0,0,2]⟩ (by simp)
 have hs:=H.head ⟨s,⟨4,1,5,false⟩,[a,0,0,st,1]⟩ (by simp)
 have hw:=H.head ⟨w,⟨4,2,5,false⟩,[u,0,0,0,2]⟩ (by simp)
 have gs:Ob.get S s 0=(a,0):=H.get ⟨s,⟨4,1,5,false⟩,[a,0,0,st,1]⟩ (by simp) 0 (show((0:Nat):Int)<5 by decide)
 have gw:Ob.get S w 0=(u,0):=H.get ⟨w,⟨4,2,5,false⟩,[u,0,0,0,2]⟩ (by simp) 0 (show((0:Nat):Int)<5 by decide)
 have gs1:Ob.get S s 1=(0,0):=H.get ⟨s,⟨4,1,5,false⟩,[a,0,0,st,1]⟩ (by simp) 1 (show((1:Nat):Int)<5 by decide)
 have gw1:Ob.get S w 1=(0,0):=H.get ⟨w,⟨4,2,5,false⟩,[u,0,0,0,2]⟩ (by simp) 1 (show((1:Nat):Int)<5 by decide)
 dsimp only at hs hw
 have kp:∀o∈os a u s w st,(Fl.Kept (xs t0 s w ck 0 S) false o↔(o.a=s∧Sf.keep ck st (xs t0 s w ck 0 S).free 1=true)):=fun o ho=>by
  simp only[List.mem_cons,List.not_mem_nil,or_false]at ho
  constructor
  ·intro k
   rcases ho with rfl|rfl|rfl|rfl
   ·exact absurd k.k (by dsimp only;decide)
   ·exact absurd k.k (by dsimp only;decide)
   ·exact⟨rfl,k.t⟩
   ·exact absurd k.c (by dsimp only;decide)
  ·rintro⟨e,hk⟩
   rcases ho with rfl|rfl|rfl|rfl
   ·exact absurd e (by dsimp only;omega)
   ·exact absurd e (by dsimp only;omega)
   ·exact⟨rfl,rfl,rfl,(hro s ps).mpr (.inl rfl),hk⟩
   ·exact absurd e (by dsimp only;omega)
 have ma:Sp.has m2 a=true↔Sf.keep ck st (xs t0 s w ck 0 S).free 1=true:=by
  rw[g2,hro a pa]
  constructor
  ·rintro⟨_,(rfl|rfl)|⟨o,ho,k,_⟩⟩
   ·exact absurd rfl as'
   ·exact absurd rfl aw
   ·exact((kp o ho).mp k).2
  ·exact fun k=>⟨oa,.inr ⟨⟨s,⟨4,1,5,false⟩,[a,0,0,st,1]⟩,by simp,(kp _ (by simp)).mpr ⟨rfl,k⟩,rfl⟩⟩
 have mu:¬Sp.has m2 u=true:=fun g=>by
  obtain⟨_,g|⟨o,ho,k,e⟩⟩:=(g2 u).mp g
  ·rcases(hro u pu).mp g with rfl|rfl
   ·exact us rfl
   ·exact uw rfl
  ·have:=((kp o ho).mp k).1
   simp only[List.mem_cons,List.not_mem_nil,or_false]at ho
   rcases ho with rfl|rfl|rfl|rfl<;>simp at this e<;>omega
 have m3s:Sp.has m3 s=true:=(g3 s).mpr (.inl ((g2 s).mpr ⟨os',.inl ((hro s ps).mpr (.inl rfl))⟩))
 have m3w:Sp.has m3 w=true:=(g3 w).mpr (.inl ((g2 w).mpr ⟨ow,.inl ((hro w pw).mpr (.inr rfl))⟩))
 have cs:s∈cl↔¬Sf.keep ck st (xs t0 s w ck 0 S).free 1=true:=by
  rw[C.mcl]
  constructor
  ·rintro⟨hd,h1,h2,h3,h4⟩
   change Ob.head S s=_ at h1
   rw[hs]at h1
   injection h1 with h1
   subst h1
   change¬Sp.has (if(1:Int)=3 then m3 else m2) (Ob.get S s 0).1=true at h4
   rw[if_neg (by decide),gs,ma]at h4
   exact h4
  ·intro k
   refine⟨_,hs,rfl,?_,?_⟩
   ·show Mk.obj S (Ob.get S s 0).1
    rw[gs];exact oa
   ·show¬Sp.has (if(1:Int)=3 then m3 else m2) (Ob.get S s 0).1=true
    rw[if_neg (by decide),gs,ma];exact k
 have cw:w∈cl:=by
  rw[C.mcl]
  refine⟨_,hw,rfl,?_,?_⟩
  ·show Mk.obj S (Ob.get S w 0).1
   rw[gw];exact ou
  ·show¬Sp.has (if(2:Int)=3 then m3 else m2) (Ob.get S w 0).1=true
   rw[if_neg (by decide),gw];exact mu
 have hpu:pu'=[]:=no_mem fun b hb=>by
  obtain⟨h1,h2,h3⟩:=(C.mpu b).mp hb
  obtain⟨hd,h4,h5,_⟩:=(C.mcl b).mp h1
  obtain⟨o,ho,rfl,hk⟩:=H.isR.mp (show Qu.isR S b=true by unfold Qu.isR;rw[show Ob.head S b=some hd from h4];simpa using h5)
  change(Ob.get S o.a 1).1>0 at h3
  simp only[List.mem_cons,List.not_mem_nil,or_false]at ho
  rcases ho with rfl|rfl|rfl|rfl
  ·exact absurd hk (by dsimp only;decide)
  ·exact absurd hk (by dsimp only;decide)
  ·rw[show Ob.get S (⟨s,⟨4,1,5,false⟩,[a,0,0,st,1]⟩:Ob1).a 1=(0,0)from gs1]at h3;exact absurd h3 (by decide)
  ·rw[show Ob.get S (⟨w,⟨4,2,5,false⟩,[u,0,0,0,2]⟩:Ob1).a 1=(0,0)from gw1]at h3;exact absurd h3 (by decide)
 have hpn:pn=[]:=no_mem fun b hb=>by
  have:=((C.mpn b).mp hb).1
  cases this
 have hr:x'.rows=[]:=by
  have:=C.A.len
  exact List.eq_nil_of_length_eq_zero this
 have ex:=C.eq
 rw[hr,hpn]at ex
 refine⟨x'.S,ex,(C.A.head s m3s).trans hs,(C.A.head w m3w).trans hw,?_,?_⟩
 ·rw[C.A.get w m3w (j:=0) hw (by decide) (by decide) (.inl (by decide)),if_pos ⟨cw,rfl⟩]
 ·rw[C.A.get s m3s (j:=0) hs (by decide) (by decide) (.inl (by decide))]
  by_cases k:Sf.keep ck st (xs t0 s w ck 0 S).free 1=true
  ·rw[if_pos k,if_neg (fun g=>cs.mp g.1 k),hpu,if_neg (fun g=>by cases g.1)];exact gs
  ·rw[if_neg k,if_pos ⟨cs.mpr k,rfl⟩]
theorem keep_self(c f:Int):Sf.keep c c f 1=true:=by
 have h:∀n,0≤Sf.none n:=fun n=>by unfold Sf.none;split<;>omega
 unfold Sf.keep Sf.idle Sf.limit
 rw[Int.sub_self]
 refine decide_eq_true ?_
 have:=Int.mul_nonneg (h f) (h 1)
 show(0:Int)≤_
 split<;>omega
theorem keep_zero{c:Int}(h:0≤c∧c<30000):Sf.keep c 0 3752 1=decide (c≤3752):=by
 unfold Sf.keep Sf.idle
 rw[show Sf.limit 3752 1=3752 from rfl,show Sf.none 0=0 from rfl,Int.sub_zero,decide_eq_decide]
 unfold Sf.none
 by_cases g:c>0
 ·rw[if_pos g];split<;>omega
 ·rw[if_neg g];simp;omega
end Times
theorem law_rttimes(t:Int)(ask:Bool)(ht:0≤t∧t<256):Gl.Spec ρ Tryz.prog 5 [.int .u8 t,.bool ask] [] RB fun r M=>r=true∧M=[]:=by
 refine Gl.Spec.of (fun Q w h=>F.gloaminglaw21.RtTimes.calls t ask h) fun R=> ?_
 unfold F.gloaminglaw21.RtTimes
 rw[wrap64 (n:=t) (by omega) (by omega),wrap64 (n:=100*t) (by omega) (by omega)]
 refine en_call law_fresh .nil ?_
 rintro _ _ ⟨i,q,rfl,rfl⟩
 rw[rz_new,zcAns]
 try simp only[lca,lna]
 refine en_brf rfl ?_
 refine en_call (law_do (z_listA i q new_bx rz_inv0 rz_au0 (by decide) (by simp) (by decide) (by decide) (.inr ⟨rfl,rfl⟩) 2 0 0 (by decide) (by decide) (hd:=512) rfl)) tks ?_
 rintro _ _ ⟨a,S1,rfl,ha,x1,I1,A1,rfl⟩
 try simp only[lca,lna]
 refine en_call (law_do (z_listA i q x1 I1 A1 (by decide) (by simp;omega) (show 1<512 by decide) (show 1+1<60 by decide) (.inr ⟨rfl,rfl⟩) 3 0 0 (by decide) (by decide) (hd:=513) rfl)) tks ?_
 rintro _ _ ⟨u,S2,rfl,hu,x2,I2,A2,rfl⟩
 try simp only[lca,lna]
 refine en_nw fun b4=>en_nw fun b5=> ?_
 refine en_st (b:=b4) (off:=0) rfl tk (by simp) rfl ?_
 refine en_st (b:=b5) (off:=0) rfl tk (by simp) rfl ?_
 refine en_ld (k:= .int .i64) (b:=b4) (off:=1) (x:=512) (by rw[fa_mk]) tk rfl ?_
 have h2:∀e∈([(0,a),(0,u)]:List Hn.Slot),e.2≠0:=by simp;omega
 refine en_call (law_do (z_referA i q x2 I2 A2 (by decide) h2 (show 2<512 by decide) (show 2+1<60 by decide) (w:=1) (h:=512) (o:=a) (qu:= -1) (by decide) (by decide) (by decide) (Hn.hs_held (l:=[(0,a),(0,u)]) (j:=0) (t:=0) (a:=a) (x:=512) rfl (by omega) (by decide) (show 2≤512 by decide) (by decide)) ⟨⟨a,⟨3,0,2,false⟩,[0,0]⟩,by simp,rfl⟩ (hd:=514) rfl)) tks ?_
 rintro _ _ ⟨s,S3,rfl,hs,x3,I3,A3,rfl⟩
 try simp only[lca,lna]
 refine en_nw fun b8=> ?_
 refine en_st (b:=b8) (off:=0) rfl tk (by simp) rfl ?_
 refine en_ld (k:= .int .i64) (b:=b5) (off:=1) (x:=513) (by rw[fa_mk]) tk rfl ?_
 have h3:∀e∈([(0,a),(0,u),(0,s)]:List Hn.Slot),e.2≠0:=by simp;omega
 refine en_call (law_do (z_referA i q x3 I3 A3 (by decide) h3 (show 3<512 by decide) (show 3+1<60 by decide) (w:=2) (h:=513) (o:=u) (qu:= -1) (by decide) (by decide) (by decide) (Hn.hs_held (l:=[(0,a),(0,u),(0,s)]) (j:=1) (t:=0) (a:=u) (x:=513) rfl (by omega) (by decide) (show 3≤512 by decide) (by decide)) ⟨⟨u,⟨3,0,3,false⟩,[0,0,0]⟩,by simp,rfl⟩ (hd:=515) rfl)) tks ?_
 rintro _ _ ⟨w,S4,rfl,hw,x4,I4,A4,rfl⟩
 try simp only[lca,lna]
 change Bx S4 [] 60 (Times.os a u s w 0)at x4
 refine en_nw fun b11=> ?_
 refine en_st (b:=b11) (off:=0) rfl tk (by simp) rfl ?_
 refine en_ld (k:= .int .i64) (b:=b4) (off:=1) (x:=512) (by rw[fa_mk]) tk rfl ?_
 have e5:=z_drop (cs:=[]) (rows:=[]) (ser:=2) (S:=S4) (ro:=Times.ro0) (pe:=[]) (wa:=[]) (ck:=0) (rn:=0) (l:=[(0,a),(0,u),(0,s),(0,w)]) (j:=0) (t:=0) (a:=a) (h:=512) rfl (by omega) (by decide) (show 4≤512 by decide) (by decide)
 refine en_dos (e5▸op_drop i q _ I4 512 0 0 (by decide)) tks ?_
 have I5:=Rx.drop_inv I4 (by decide) 512
 change(Rx.drop (RZ [] [] 2 S4 [(0,a),(0,u),(0,s),(0,w)] Times.ro0 [] [] 0 0) 512).2.Inv _ at I5
 rw[e5]at I5
 dsimp only[List.set]at I5⊢
 refine en_ld (k:= .int .i64) (b:=b5) (off:=1) (x:=513) (by rw[fa_mk]) tk rfl ?_
 have e6:=z_drop (cs:=[]) (rows:=[]) (ser:=2) (S:=S4) (ro:=Times.ro0) (pe:=[]) (wa:=[]) (ck:=0) (rn:=0) (l:=[(0+1,0),(0,u),(0,s),(0,w)]) (j:=1) (t:=0) (a:=u) (h:=513) rfl (by omega) (by decide) (show 4≤512 by decide) (by decide)
 refine en_dos (e6▸op_drop i q _ I5 513 0 0 (by decide)) tks ?_
 have I6:=Rx.drop_inv I5 (by decide) 513
 rw[e6]at I6
 dsimp only[List.set]at I6⊢
 have e7:Rx.tick (Times.xs 1 s w 0 0 S4) (100*t)=((0,0),Times.xs 1 s w (100*t) 0 S4):=by
  unfold Rx.tick
  rw[if_neg (by omega),show Sf.later (Times.xs 1 s w 0 0 S4).ck (100*t)=100*t by show Sf.later 0 (100*t)=_;unfold Sf.later Sf.none;split<;>omega]
 refine en_dos (e7▸op_tick i q _ I6 (100*t) 0 0 (by decide) (by omega)) tks ?_
 have I7:=Rx.tick_inv I6 (a:=100*t) (by omega)
 change(Rx.tick (Times.xs 1 s w 0 0 S4) (100*t)).2.Inv _ at I7
 rw[e7]at I7
 dsimp only at I7⊢
 refine en_jn (I:=fun _ M=>∃(S:Spc) (t0 st N:Int),Bo S [] (Times.os a u s w st)∧(Times.xs t0 s w (100*t) 0 S).Inv N∧N<2^40∧0≤t0∧(st=if ask=true then 100*t else 0)∧(ask=false→(Times.xs t0 s w (100*t) 0 S).free=3752)∧M.Perm (blk b4 [i64 0,i64 512]::blk b5 [i64 0,i64 513]::blk b8 [i64 0,i64 514]::blk b11 [i64 0,i64 515]::i.Q q (Times.xs t0 s w (100*t) 0 S)++R)) ?_ fun J HJ=> ?_
 ·rintro _ M ⟨S,t0,st,N,b,I,hN,h0,est,hfr,hp⟩
  refine Tr.perm hp ?_
  have ec:Rx.count (Times.xs t0 s w (100*t) 0 S) 1=(((Times.xs t0 s w (100*t) 0 S).free,0),Times.xs t0 s w (100*t) 0 S):=by unfold Rx.count;rw[if_neg (by decide)];rfl
  have hkeep:Sf.keep (100*t) st (Times.xs t0 s w (100*t) 0 S).free 1=if ask=true then true else decide (100*t≤(Times.xs t0 s w (100*t) 0 S).free):=by
   cases ask with
   |true=>rw[if_pos rfl]at est⊢;rw[est];exact Times.keep_self ..
   |false=>rw[if_neg (by decide)]at est;rw[est,hfr rfl];exact Times.keep_zero (by omega)
  refine en_dos (ec▸op_count i q _ I 1 0 0 (by omega)) tks ?_
  have hfree:ask=false→(Times.xs t0 s w (100*t) 0 S).free=3752:=hfr
  generalize hfe:(Times.xs t0 s w (100*t) 0 S).free=fr at hkeep hfree⊢
  try simp only[lca,lna]
  refine en_nw fun b20=> ?_
  refine en_st (b:=b20) (off:=0) rfl tk (by simp) rfl ?_
  refine en_call (law_do (op_collect i q _ I 0 0 0 (by omega))) tks ?_
  rintro _ _ ⟨y,hy,rfl,rfl⟩
  unfold Rx.CollectR at hy
  rw[if_neg (by decide)]at hy
  obtain⟨x',hC,rfl⟩:=hy
  have I6:=hC.inv I
  obtain⟨S',rfl,c1,c2,c3,c4⟩:=Times.coll b I hC
  rw[hfe,hkeep]at c4
  try simp only[lca,lna]
  generalize hkp:(if ask=true then true else decide (100*t≤fr))=keep at c4 hkeep
  have hh:=Hn.hs_held (l:=[(t0,0),(1,0),(0,s),(0,w)]) (j:=2) (t:=0) (a:=s) (x:=514) rfl (by omega) (by decide) (show 4≤512 by decide) (by decide)
  have hhw:=Hn.hs_held (l:=[(t0,0),(1,0),(0,s),(0,w)]) (j:=3) (t:=0) (a:=w) (x:=515) rfl (by omega) (by decide) (show 4≤512 by decide) (by decide)
  obtain⟨x7,yv,e7,e8,hyv⟩:∃(x7:Rt) (yv:Int),Rx.referent (Times.xs t0 s w (100*t) 1 S') 514=((yv,0),x7)∧Rx.referent x7 515=((0,0),x7)∧(yv != 0)=keep:=by
   cases keep with
   |false=>
    rw[if_neg (by decide)]at c4
    exact⟨_,0,Rx.referent_zero hh c1 rfl c4,Rx.referent_zero hhw c2 rfl c3,rfl⟩
   |true=>
    rw[if_pos rfl]at c4
    have e:=Rx.referent_is (x:=Times.xs t0 s w (100*t) 1 S') (v:=a) hh c1 rfl (show(1:Int)≠3 by decide) c4 (by omega) (by show Hn.free (Hn.Hs [(t0,0),(1,0),(0,s),(0,w)])≠none;rw[Hn.hs_free' (l:=[(t0,0),(1,0),(0,s),(0,w)]) (j:=0) (t:=t0) rfl (fun i h=>by omega) (show 4≤512 by decide)];simp)
    rw[if_pos rfl]at e
    have hw':HWf S' []:=I6.w.hw
    obtain⟨_,hk⟩:=Ob.put_keep hw' (x:=100*t) c1 (i:=3) (by decide) (by decide)
    have k1:=hk _ _ c2
    change Rx.referent (Times.xs t0 s w (100*t) 1 S') 514=(Rx.giveR (Times.xs t0 s w (100*t) 1 (Ob.put S' s 3 (100*t)).2) a,Rx.giveS (Times.xs t0 s w (100*t) 1 (Ob.put S' s 3 (100*t)).2) a)at e
    have k2:=k1.2 0 (by decide) (by decide)
    rw[if_neg (fun g=>absurd g.2 (by decide)),c3]at k2
    generalize(Ob.put S' s 3 (100*t)).2=S5 at*
    obtain⟨g1,g2⟩:=Rx.give_at (x:=Times.xs t0 s w (100*t) 1 S5) (l:=[(t0,0),(1,0),(0,s),(0,w)]) (j:=0) (t:=t0) rfl rfl (fun t ht=>by omega) (show 4≤512 by decide) ha
    rw[g1,g2]at e
    refine⟨_,_,e,?_,?_⟩
    ·exact Rx.referent_zero (x:=RZ [] [] 2 S5 [(t0,a),(1,0),(0,s),(0,w)] Times.ro0 [] [] (100*t) 1) (Hn.hs_held (l:=[(t0,a),(1,0),(0,s),(0,w)]) (j:=3) (t:=0) (a:=w) (x:=515) rfl (by omega) (by decide) (show 4≤512 by decide) (by decide)) k1.1 rfl k2
    ·simp;omega
  have I7:=Rx.referent_inv I6 514
  rw[e7]at I7
  dsimp only at I7
  refine en_jn (I:=fun s M=>∃by' bz:Nat,s=(⟨by',0,none⟩,⟨bz,0,none⟩,())∧M.Perm (blk by' [i64 0,i64 yv]::blk bz [i64 0,i64 0]::blk b20 [i64 0,i64 fr]::blk b4 [i64 0,i64 512]::blk b5 [i64 0,i64 513]::blk b8 [i64 0,i64 514]::blk b11 [i64 0,i64 515]::i.Q q x7++R)) ?_ fun J HJ=> ?_
  ·rintro _ M ⟨by',bz,rfl,hp⟩
   refine Tr.perm hp ?_
   dsimp only
   cases ask with
   |true=>
    refine en_brt rfl ?_
    refine en_drw (en_held [blk by' [i64 0,i64 yv],blk bz [i64 0,i64 0],blk b4 [i64 0,i64 512],blk b5 [i64 0,i64 513],blk b8 [i64 0,i64 514],blk b11 [i64 0,i64 515]] tks ?_)
    refine en_ldS (k:= .int .i64) (b:=b4) (off:=0) (x:=0) (by rw[fa_mk]) tk rfl ?_
    refine en_ldS (k:= .int .i64) (b:=b5) (off:=0) (x:=0) (by rw[fa_mk]) tk rfl ?_
    refine en_ldS (k:= .int .i64) (b:=b8) (off:=0) (x:=0) (by rw[fa_mk]) tk rfl ?_
    refine en_ldS (k:= .int .i64) (b:=b11) (off:=0) (x:=0) (by rw[fa_mk]) tk rfl ?_
    refine en_ldS (k:= .int .i64) (b:=by') (off:=0) (x:=0) (by rw[fa_mk]) tk rfl ?_
    refine en_errS tks (en_errS tks (en_errS tks (en_errS tks (en_errS tks ?_))))
    refine en_brt (by kernel_rfl) ?_
    refine en_ldS (k:= .int .i64) (b:=by') (off:=1) (x:=yv) (by rw[fa_mk]) tk rfl ?_
    refine en_brt (by rw[hyv,←hkp];rfl) ?_
    refine en_ldgS (b:=bz) (x:=((0:Int),(0:Int),())) [] rfl tk rfl ?_
    refine en_is (en_brt (by decide) ?_)
    refine en_call (law_awake21) tks ?_
    rintro x' M ⟨rfl,rfl⟩
    try simp only[lca,lna]
    exact en_rets (x:=true) rfl ⟨rfl,rfl⟩ tks ens
   |false=>
    refine en_brf rfl ?_
    refine en_ld (k:= .int .i64) (b:=b20) (off:=1) (x:=fr) (by rw[fa_mk]) tk rfl ?_
    refine en_drw (en_held [blk by' [i64 0,i64 yv],blk bz [i64 0,i64 0],blk b4 [i64 0,i64 512],blk b5 [i64 0,i64 513],blk b8 [i64 0,i64 514],blk b11 [i64 0,i64 515]] tks ?_)
    refine en_ldS (k:= .int .i64) (b:=b4) (off:=0) (x:=0) (by rw[fa_mk]) tk rfl ?_
    refine en_ldS (k:= .int .i64) (b:=b5) (off:=0) (x:=0) (by rw[fa_mk]) tk rfl ?_
    refine en_ldS (k:= .int .i64) (b:=b8) (off:=0) (x:=0) (by rw[fa_mk]) tk rfl ?_
    refine en_ldS (k:= .int .i64) (b:=b11) (off:=0) (x:=0) (by rw[fa_mk]) tk rfl ?_
    refine en_ldS (k:= .int .i64) (b:=by') (off:=0) (x:=0) (by rw[fa_mk]) tk rfl ?_
    refine en_errS tks (en_errS tks (en_errS tks (en_errS tks (en_errS tks ?_))))
    refine en_brt (by kernel_rfl) ?_
    refine en_ldS (k:= .int .i64) (b:=by') (off:=1) (x:=yv) (by rw[fa_mk]) tk rfl ?_
    refine en_brt (by rw[hyv,←hkp];simp) ?_
    refine en_ldgS (b:=bz) (x:=((0:Int),(0:Int),())) [] rfl tk rfl ?_
    refine en_is (en_brt (by decide) ?_)
    refine en_call (law_awake21) tks ?_
    rintro x' M ⟨rfl,rfl⟩
    try simp only[lca,lna]
    exact en_rets (x:=true) rfl ⟨rfl,rfl⟩ tks ens
  refine en_drw (en_held [blk b8 [i64 0,i64 514],blk b11 [i64 0,i64 515]] tks ?_)
  obtain⟨n1,hn1⟩:∃n:Int,(514:Int)=n:=⟨_,rfl⟩
  obtain⟨n2,hn2⟩:∃n:Int,(515:Int)=n:=⟨_,rfl⟩
  refine en_ldS (k:= .int .i64) (b:=b8) (off:=1) (x:=n1) (by rw[fa_mk]) tk (by rw[hn1];rfl) ?_
  refine en_ldS (k:= .int .i64) (b:=b11) (off:=1) (x:=n2) (by rw[fa_mk]) tk (by rw[hn2];rfl) ?_
  have s7:=op_referent (ρ:=ρ) i q _ I6 514 0 0 (by omega)
  have s8:=op_referent (ρ:=ρ) i q _ I7 515 0 0 (by omega)
  rw[e7,hn1]at s7
  rw[e8,hn2]at s8
  refine en_both ?_ ?_
  ·refine en_dos s7 tks (en_chk tks (en_both (en_dos s8 tks ?_) (en_both ?_ ?_)))
   rotate_left
   ·exact en_nw fun b=>en_chk tks (en_both (en_dos s8 tks (en_nw fun b'=>en_st rfl tk (by simp) rfl (en_st rfl tk (by simp) rfl (HJ _ _ ⟨_,_,rfl,Takes.perm tks⟩)))) (en_nw fun b'=>en_chk tks (en_dos s8 tks (en_st rfl tk (by simp) rfl (en_st rfl tk (by simp) rfl (HJ _ _ ⟨_,_,rfl,Takes.perm tks⟩))))))
   ·exact en_nw fun b=>en_chk tks (en_both (en_dos s8 tks (en_nw fun b'=>en_st rfl tk (by simp) rfl (en_st rfl tk (by simp) rfl (HJ _ _ ⟨_,_,rfl,Takes.perm tks⟩)))) (en_nw fun b'=>en_chk tks (en_dos s8 tks (en_st rfl tk (by simp) rfl (en_st rfl tk (by simp) rfl (HJ _ _ ⟨_,_,rfl,Takes.perm tks⟩))))))
   ·refine en_both ?_ ?_
    all_goals exact en_nw fun b=>en_nw fun b'=>en_st rfl tk (by simp) rfl (en_st rfl tk (by simp) rfl (HJ _ _ ⟨_,_,rfl,Takes.perm tks⟩))
  ·refine en_both ?_ ?_
   all_goals refine en_nw fun b=>en_chk tks (en_both (en_dos s7 tks (en_chk tks (en_both (en_dos s8 tks ?_) (en_nw fun b'=>en_chk tks (en_dos s8 tks ?_))))) (en_nw fun b'=>en_chk tks (en_dos s7 tks (en_chk tks (en_dos s8 tks ?_)))))
   ·exact en_nw fun b'=>en_st rfl tk (by simp) rfl (en_st rfl tk (by simp) rfl (HJ _ _ ⟨_,_,rfl,Takes.perm tks⟩))
   ·exact en_st rfl tk (by simp) rfl (en_st rfl tk (by simp) rfl (HJ _ _ ⟨_,_,rfl,Takes.perm tks⟩))
   ·exact en_st rfl tk (by simp) rfl (en_st rfl tk (by simp) rfl (HJ _ _ ⟨_,_,rfl,Takes.perm tks⟩))
   ·exact en_nw fun b'=>en_st rfl tk (by simp) rfl (en_st rfl tk (by simp) rfl (HJ _ _ ⟨_,_,rfl,Takes.perm tks⟩))
   ·exact en_st rfl tk (by simp) rfl (en_st rfl tk (by simp) rfl (HJ _ _ ⟨_,_,rfl,Takes.perm tks⟩))
   ·exact en_st rfl tk (by simp) rfl (en_st rfl tk (by simp) rfl (HJ _ _ ⟨_,_,rfl,Takes.perm tks⟩))
 cases ask with
 |false=>
  refine en_brf rfl (HJ _ _ ⟨S4,1,0,_,x4.bo,I7,by decide,by decide,rfl,fun _=> ?_,Takes.perm tks⟩)
  have h1:=x4.hw.wf.len
  rw[x4.pgs]at h1
  show((S4.ws.length-64:Nat):Int)-((Sp.each S4).map (Sp.wordsAt S4)).sum=3752
  rw[used_of x4.bo A4,h1]
  have:∀a u s w:Int,((Times.os a u s w 0).map fun o=>Sp.blk (o.h.n+1)).sum=24:=fun a u s w=>rfl
  rw[this];rfl
 |true=>
  refine en_brt rfl ?_
  refine en_ld (k:= .int .i64) (b:=b8) (off:=1) (x:=514) (by rw[fa_mk]) tk rfl ?_
  have hh:=Hn.hs_held (l:=[(1,0),(1,0),(0,s),(0,w)]) (j:=2) (t:=0) (a:=s) (x:=514) rfl (by omega) (by decide) (show 4≤512 by decide) (by decide)
  have ms:(⟨s,⟨4,1,5,false⟩,[a,0,0,0,1]⟩:Ob1)∈Times.os a u s w 0:=by simp
  have e8:=Rx.referent_is (x:=Times.xs 1 s w (100*t) 0 S4) (v:=a) hh (x4.head _ ms) rfl (show(1:Int)≠3 by decide) (x4.get _ ms 0 (show(0:Int)<5 by decide)) (by omega) (by show Hn.free (Hn.Hs [(1,0),(1,0),(0,s),(0,w)])≠none;rw[Hn.hs_free' (l:=[(1,0),(1,0),(0,s),(0,w)]) (j:=0) (t:=1) rfl (fun i h=>by omega) (show 4≤512 by decide)];simp)
  rw[if_pos rfl]at e8
  have x5:=(x4.put (i:=2) rfl (k:=3) (show(3:Int)<5 by decide) (100*t)).2.bo
  change Bo (Ob.put S4 s 3 (100*t)).2 [] (Times.os a u s w (100*t))at x5
  change Rx.referent (Times.xs 1 s w (100*t) 0 S4) 514=(Rx.giveR (Times.xs 1 s w (100*t) 0 (Ob.put S4 s 3 (100*t)).2) a,Rx.giveS (Times.xs 1 s w (100*t) 0 (Ob.put S4 s 3 (100*t)).2) a)at e8
  generalize(Ob.put S4 s 3 (100*t)).2=S5 at*
  obtain⟨g1,g2⟩:=Rx.give_at (x:=Times.xs 1 s w (100*t) 0 S5) (l:=[(1,0),(1,0),(0,s),(0,w)]) (j:=0) (t:=1) rfl rfl (fun t ht=>by omega) (show 4≤512 by decide) ha
  rw[g1,g2]at e8
  replace e8:Rx.referent (Times.xs 1 s w (100*t) 0 S4) 514=((1024,0),RZ [] [] 2 S5 [(1,a),(1,0),(0,s),(0,w)] Times.ro0 [] [] (100*t) 0):=e8
  refine en_dos (e8▸op_referent i q _ I7 514 0 0 (by decide)) tks ?_
  have I8:=Rx.referent_inv I7 514
  rw[e8]at I8
  dsimp only at I8⊢
  try simp only[lca,lna]
  refine en_nw fun b80=> ?_
  refine en_st (b:=b80) (off:=0) rfl tk (by simp) rfl ?_
  refine en_ld (k:= .int .i64) (b:=b80) (off:=0) (x:=0) (by rw[fa_mk]) tk rfl ?_
  refine en_err (en_brf rfl ?_)
  refine en_ld (k:= .int .i64) (b:=b80) (off:=1) (x:=1024) (by rw[fa_mk]) tk rfl ?_
  refine en_brf rfl ?_
  refine en_ld (k:= .int .i64) (b:=b80) (off:=1) (x:=1024) (by rw[fa_mk]) tk rfl ?_
  have e9:=z_drop (cs:=[]) (rows:=[]) (ser:=2) (S:=S5) (ro:=Times.ro0) (pe:=[]) (wa:=[]) (ck:=100*t) (rn:=0) (l:=[(1,a),(1,0),(0,s),(0,w)]) (j:=0) (t:=1) (a:=a) (h:=1024) rfl (by omega) (by decide) (show 4≤512 by decide) (by decide)
  refine en_isN (e9▸op_drop i q _ I8 1024 0 0 (by decide)) tks ?_
  have I9:=Rx.drop_inv I8 (by decide) 1024
  rw[e9]at I9
  dsimp only[List.set]at I9⊢
  refine Tr.drop (A:=blk b80 _) tk ?_
  exact HJ _ _ ⟨S5,2,100*t,_,x5,I9,by decide,by decide,rfl,(fun g=>by cases g),Takes.perm tks⟩
end Go.Proofs.YtfepdmpplahloaaGreat
