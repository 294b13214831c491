/- What a collection does, plainly; rounds that come to an end. -/
import Derived.Test.YtfepdmpplahloaaGreatGsAu
set_option linter.unusedSimpArgs false
set_option linter.unusedVariables false
namespace Go.Proofs.YtfepdmpplahloaaGreat
open Go Go.Gl
abbrev nilZ:Slc:=⟨none,0,0⟩
def Rt.Soft(x:Rt)(all:Bool)(a:Int):Prop:=SoftR x.S x.cs (refsOf x.S) (x.in7 nilZ nilZ all) (Mk.Rch x.S x.cs x.roots) a
structure CF(x x':Rt)(all:Bool)(l:List Rf6)(m2 m3:List Bool)(cl pu pn:List Int):Prop where
 A:Aft x.S x'.S x.rows x'.rows cl pu m3 (fun a=>(Ob.get x.S a 1).1-1)
 has2:∀a,Sp.has m2 a=true↔x.Soft all a
 has3:∀a,Sp.has m3 a=true↔(Sp.has m2 a=true∨Mk.Rch x.S x.cs pn a)
 mcl:∀a,a∈cl↔∃h,Ob.head x.S a=some h∧h.k=4∧Mk.obj x.S (Ob.get x.S a 0).1∧¬Sp.has (if h.c=3 then m3 else m2) (Ob.get x.S a 0).1=true
 mpu:∀a,a∈pu↔(a∈cl∧Sp.has m3 a=true∧(Ob.get x.S a 1).1>0)
 mpn:∀a,a∈pn↔(a∈x.wa∧Mk.obj x.S a∧¬Sp.has m2 a=true)
 nd:cl.Nodup
 eq:x'={x with S:=x'.S,rows:=x'.rows,wa:=(Fn.pend x.wa x.pe pn).1,pe:=(Fn.pend x.wa x.pe pn).2,rn:=x.rn+1}
 kid:∀a,Sp.has m3 a=true→∀b∈Mk.kids x.S x.cs a,Mk.obj x.S b→Sp.has m3 b=true
 o3:∀a,Sp.has m3 a=true→Mk.obj x.S a
 ecl:cl=clrOf x.S m2 m3 l
 epu:pu=putOf x.S m3 cl
 epn:pn=pendOf x.S m2 x.wa
 eS:x'.S=Sw.sweep (Rf.enqs (Rf.clear x.S cl).2 x.rows pu).1 (Mk.all m3)
 eR:x'.rows=(Rf.enqs (Rf.clear x.S cl).2 x.rows pu).2
theorem cls3{S:Spc}{cs:List Cls}(hw:HWf S cs){b:Int}{hd:Hd}(hh:Ob.head S b=some hd)(hk:hd.k=4):1≤hd.c∧hd.c≤3:=by
 have hc:=Ob.head_cls hw hh
 obtain⟨k,c,n,f⟩:=hd
 unfold Sp.mayH at hc
 dsimp only at hk hc⊢
 subst hk
 simp at hc
 omega
theorem Rt.CollR.cf{x x':Rt}{all:Bool}{N:Int}(h:x.CollR x' all)(I:x.Inv N)(D:x.InvD):∃l m2 m3 cl pu pn,CF x x' all l m2 m3 cl pu pn:=by
 obtain⟨z1,z2,l,m2,m3,hC,rfl⟩:=h
 have hw:=I.w.hw
 refine⟨l,m2,m3,clrOf x.S m2 m3 l,putOf x.S m3 (clrOf x.S m2 m3 l),pendOf x.S m2 x.wa,?_⟩
 refine⟨aft hw I.w.q hC (fun a=>(Ob.get x.S a 1).1-1) rfl rfl (fun a ha=>⟨by omega,by
  have:=D.qn a (clr_isR hw hC ((List.mem_filter.mp ha).1));omega⟩) (clr_nodup hw hC),fun a=> ?_,hC.has3,fun a=> ?_,fun a=> ?_,fun a=>mem_pendOf,clr_nodup hw hC,rfl,hC.c3.kid,hC.c3.obj,rfl,rfl,rfl,rfl,rfl⟩
 ·rw[hC.has2]
  exact⟨SoftR.mono (x:=x.in7 z1 z2 all) (x':=x.in7 nilZ nilZ all) (fun _ h=>h) ⟨rfl,rfl,rfl,rfl⟩ fun _ h=>h,SoftR.mono (x:=x.in7 nilZ nilZ all) (x':=x.in7 z1 z2 all) (fun _ h=>h) ⟨rfl,rfl,rfl,rfl⟩ fun _ h=>h⟩
 ·unfold clrOf
  rw[List.mem_append,mem_clr hw hC.perm,mem_clr hw hC.perm]
  constructor
  ·rintro(⟨h,h1,h2,h3,h4,h5⟩|⟨h,h1,h2,h3,h4,h5⟩)
   ·refine⟨h,h1,h2,h4,?_⟩
    rw[if_neg (fun e=>by rw[e]at h3;simp at h3)];exact h5
   ·refine⟨h,h1,h2,h4,?_⟩
    rw[if_pos (List.mem_singleton.mp h3)];exact h5
  ·rintro⟨h,h1,h2,h4,h5⟩
   have hc:=cls3 hw h1 h2
   by_cases e:h.c=3
   ·rw[if_pos e]at h5
    exact .inr ⟨h,h1,h2,by rw[e];simp,h4,h5⟩
   ·rw[if_neg e]at h5
    refine .inl ⟨h,h1,h2,?_,h4,h5⟩
    have:h.c=1∨h.c=2:=by omega
    simpa using this
 ·unfold putOf
  rw[List.mem_filter,Bool.and_eq_true,decide_eq_true_iff]
namespace CF
variable{x x':Rt}{all:Bool}{l:List Rf6}{m2 m3:List Bool}{cl pu pn:List Int}
end CF
theorem enqs_each{cs:List Cls}:∀(l:List Int) {S:Spc} {rows:List (List Int)},HWf S cs→Sp.each (Rf.enqs S rows l).1=Sp.each S∧(∀b,Sp.find (Rf.enqs S rows l).1 b=Sp.find S b)∧(Rf.enqs S rows l).1.ws.length=S.ws.length
 |[],_,_,_=>⟨rfl,fun _=>rfl,rfl⟩
 |a::l,S,rows,hw=>by
  have p:∀{S:Spc},HWf S cs→∀b i v,Sp.each (Ob.put S b i v).2=Sp.each S∧(∀c,Sp.find (Ob.put S b i v).2 c=Sp.find S c)∧(Ob.put S b i v).2.ws.length=S.ws.length:=fun hw b i v=>⟨put_each hw b i v,find_put _ b i v,put_wsl _ b i v⟩
  have tr:∀{S1 S2 S3:Spc},(Sp.each S2=Sp.each S1∧(∀c,Sp.find S2 c=Sp.find S1 c)∧S2.ws.length=S1.ws.length)→(Sp.each S3=Sp.each S2∧(∀c,Sp.find S3 c=Sp.find S2 c)∧S3.ws.length=S2.ws.length)→(Sp.each S3=Sp.each S1∧(∀c,Sp.find S3 c=Sp.find S1 c)∧S3.ws.length=S1.ws.length):=fun h g=>⟨g.1.trans h.1,fun c=>(g.2.1 c).trans (h.2.1 c),g.2.2.trans h.2.2⟩
  have ps:∀{S:Spc},HWf S cs→∀i v,Sp.each (Qu.pushS S rows i v)=Sp.each S∧(∀c,Sp.find (Qu.pushS S rows i v) c=Sp.find S c)∧(Qu.pushS S rows i v).ws.length=S.ws.length:=fun{S} hw i v=>by
   unfold Qu.pushS
   split
   ·split
    ·exact p hw _ _ _
    ·exact tr (p hw v 2 0) (p (hw.put v 2 0) _ _ _)
   ·exact⟨rfl,fun _=>rfl,rfl⟩
  have e1:Sp.each (Rf.enq S rows a).2.1=Sp.each S∧(∀c,Sp.find (Rf.enq S rows a).2.1 c=Sp.find S c)∧(Rf.enq S rows a).2.1.ws.length=S.ws.length:=by
   have hw1:=hw.put a 0 0
   unfold Rf.enq
   split
   ·split
    ·exact p hw _ _ _
    ·split
     ·exact tr (p hw a 0 0) (ps hw1 _ _)
     ·exact tr (tr (p hw a 0 0) (ps hw1 _ _)) (p (pushS_hw hw1 _ _ _) _ _ _)
   ·exact⟨rfl,fun _=>rfl,rfl⟩
  exact tr e1 (enqs_each l (S:=(Rf.enq S rows a).2.1) (rows:=(Rf.enq S rows a).2.2) (enq_hw hw rows a))
theorem clr_each{cs:List Cls}:∀(l:List Int) {S:Spc},HWf S cs→Sp.each (Rf.clr S l)=Sp.each S∧(∀b,Sp.find (Rf.clr S l) b=Sp.find S b)∧(Rf.clr S l).ws.length=S.ws.length
 |[],_,_=>⟨rfl,fun _=>rfl,rfl⟩
 |a::l,S,hw=>by
  obtain⟨h1,h2,h3⟩:=clr_each l (S:=(Ob.put S a 0 0).2) (hw.put a 0 0)
  exact⟨h1.trans (put_each hw a 0 0),fun b=>(h2 b).trans (find_put S a 0 0 b),h3.trans (put_wsl S a 0 0)⟩
theorem clear_each{cs:List Cls}(l:List Int){S:Spc}(hw:HWf S cs):Sp.each (Rf.clear S l).2=Sp.each S∧(∀b,Sp.find (Rf.clear S l).2 b=Sp.find S b)∧(Rf.clear S l).2.ws.length=S.ws.length:=by
 unfold Rf.clear
 split
 ·exact clr_each l hw
 ·exact⟨rfl,fun _=>rfl,rfl⟩
theorem sum_filter_le{l:List Int}{p:Int→Bool}{f:Int→Int}(h:∀a∈l,0≤f a):((l.filter p).map f).sum≤(l.map f).sum:=by
 induction l with
 |nil=>exact Int.le_refl _
 |cons a l ih=>
  have h0:=h a (.head _)
  have h1:=ih fun b hb=>h b (.tail _ hb)
  rw[List.filter_cons]
  split
  ·rw[List.map_cons,List.map_cons,List.sum_cons,List.sum_cons];omega
  ·rw[List.map_cons,List.sum_cons];omega
theorem map_congr_mem{l:List Int}{f g:Int→Int}(h:∀a∈l,f a=g a):l.map f=l.map g:=List.map_congr_left h
theorem coll_free{x x':Rt}{all:Bool}{N:Int}(h:x.CollR x' all)(I:x.Inv N):x.free≤x'.free∧x'.S.ws.length=x.S.ws.length∧Sp.each x'.S=(Sp.each x.S).filter (fun a=>(Ob.head x'.S a).isSome)∧x'.used≤x.used:=by
 obtain⟨z1,z2,l,m2,m3,hC,rfl⟩:=h
 have hw:=I.w.hw
 have W:=I.w.clear (clrOf x.S m2 m3 l)
 obtain⟨c1,c2,c3⟩:=clear_each (clrOf x.S m2 m3 l) hw
 obtain⟨e1,e2,e3⟩:=enqs_each (putOf x.S m3 (clrOf x.S m2 m3 l)) (rows:=x.rows) W.hw
 obtain⟨_,hw2,_⟩:=QI.enqs (putOf x.S m3 (clrOf x.S m2 m3 l)) W.hw W.q
 unfold Rt.after
 generalize(Rf.clear x.S (clrOf x.S m2 m3 l)).2=S1 at*
 generalize(Rf.enqs S1 x.rows (putOf x.S m3 (clrOf x.S m2 m3 l)))=E at*
 obtain⟨S2,rows2⟩:=E
 dsimp only at*
 have L:=Sw.sweep_ok hw2 (Mk.all m3)
 have Le:=L.each hw2
 generalize Sw.sweep S2 (Mk.all m3)=S3 at*
 have f1:Sp.each S3=(Sp.each x.S).filter (fun a=>(Ob.head S3 a).isSome):=by
  rw[Le,e1,c1]
  refine List.filter_congr fun a ha=> ?_
  have ho:(Ob.head S2 a).isSome=true:=by
   obtain⟨hd,hh⟩:=(obj_each hw2).mp (show a∈Sp.each S2 by rw[e1,c1];exact ha)
   rw[hh];rfl
  rw[L.head]
  by_cases g:a∈Sw.dead S2 (Mk.all m3)
  ·rw[if_pos g];simpa using g
  ·rw[if_neg g,ho];simpa using g
 have hu:((Sp.each S3).map (Sp.wordsAt S3)).sum≤((Sp.each x.S).map (Sp.wordsAt x.S)).sum:=by
  have g1:(Sp.each S3).map (Sp.wordsAt S3)=(Sp.each S3).map (Sp.wordsAt x.S):=map_congr_mem fun a ha=>by
   obtain⟨n,w,rfl,hf⟩:=(mem_each L.hw.wf).mp ha
   have h2:=((L.find n w).mp hf).1
   exact words_find (by rw[hf,←h2,e2,c2])
  rw[g1,f1]
  refine sum_filter_le fun a ha=> ?_
  obtain⟨n,rfl,_,w,h1,_⟩:=Sp.each_find hw.wf ha
  unfold Sp.wordsAt;rw[h1];dsimp only;omega
 have hl:S3.ws.length=x.S.ws.length:=by rw[L.ws,e3,c3]
 refine⟨?_,hl,f1,hu⟩
 show((x.S.ws.length-64:Nat):Int)-((Sp.each x.S).map (Sp.wordsAt x.S)).sum≤((S3.ws.length-64:Nat):Int)-((Sp.each S3).map (Sp.wordsAt S3)).sum
 rw[hl];omega
namespace Fr
end Fr
end Go.Proofs.YtfepdmpplahloaaGreat
