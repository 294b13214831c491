/- Heaps that are known by their list of objects, whatever room there is. -/
import Derived.Test.YtfepdmpplahloaaGreatGsBx
import Derived.Test.YtfepdmpplahloaaGreatGsL20a
set_option linter.unusedSimpArgs false
set_option linter.unusedVariables false
namespace Go.Proofs.YtfepdmpplahloaaGreat
open Go Go.Gl
namespace Om
def up(a:Int)(k:Nat)(x:Int)(o:Ob1):Ob1:=if o.a=a then⟨o.a,o.h,o.ws.set k x⟩else o
def upd(os:List Ob1)(a:Int)(k:Nat)(x:Int):List Ob1:=os.map (up a k x)
theorem up_a(a:Int)(k:Nat)(x:Int)(o:Ob1):(up a k x o).a=o.a:=by unfold up;split<;>rfl
theorem up_h(a:Int)(k:Nat)(x:Int)(o:Ob1):(up a k x o).h=o.h:=by unfold up;split<;>rfl
theorem up_len(a:Int)(k:Nat)(x:Int)(o:Ob1):(up a k x o).ws.length=o.ws.length:=by
 unfold up;split
 ·exact List.length_set ..
 ·rfl
theorem upd_as(os:List Ob1)(a:Int)(k:Nat)(x:Int):(upd os a k x).map (·.a)=os.map (·.a):=by
 unfold upd;rw[List.map_map];exact List.map_congr_left fun o _=>up_a a k x o
end Om
structure Bo(S:Spc)(cs:List Cls)(os:List Ob1):Prop where
 hw:HWf S cs
 each:(Sp.each S).Perm (os.map (·.a))
 head:∀o∈os,Ob.head S o.a=some o.h
 len:∀o∈os,o.ws.length=o.h.n.toNat
 get:∀o∈os,∀j:Nat,(j:Int)<o.h.n→Ob.get S o.a j=(o.ws.getD j 0,0)
theorem Bx.bo{S:Spc}{cs:List Cls}{P:Nat}{os:List Ob1}(H:Bx S cs P os):Bo S cs os:=⟨H.hw,H.each,H.head,H.len,H.get⟩
namespace Bo
variable{S:Spc}{cs:List Cls}{os:List Ob1}
theorem nodup(H:Bo S cs os):(os.map (·.a)).Nodup:=H.each.nodup_iff.mp (each_nodup H.hw.wf)
theorem obj(H:Bo S cs os){a:Int}:Mk.obj S a↔∃o∈os,o.a=a:=by
 constructor
 ·intro h
  unfold Mk.obj at h
  cases hh:Ob.head S a with
  |none=>rw[hh]at h;cases h
  |some hd=>
   obtain⟨n,w,rfl,hf,_⟩:=Ob.head_is H.hw hh
   have:=H.each.mem_iff.mp ((mem_each H.hw.wf).mpr ⟨n,w,rfl,hf⟩)
   obtain⟨o,ho,e⟩:=List.mem_map.mp this
   exact⟨o,ho,e⟩
 ·rintro⟨o,ho,rfl⟩
  unfold Mk.obj
  rw[H.head o ho];rfl
theorem ne(H:Bo S cs os){o:Ob1}(ho:o∈os):o.a≠0:=fun e=>Mk.obj_zero H.hw (e▸H.obj.mpr ⟨o,ho,rfl⟩)
theorem pos(H:Bo S cs os){o:Ob1}(ho:o∈os):0<o.a:=by
 obtain⟨n,w,e,_⟩:=Ob.head_is H.hw (H.head o ho)
 have:=H.ne ho
 omega
theorem at1(H:Bo S cs os){o:Ob1}(ho:o∈os):Ob.at1 S o.a=o:=by
 unfold Ob.at1
 rw[H.head o ho]
 obtain⟨a,h,ws⟩:=o
 have h1:=H.len _ ho
 have h2:=H.get _ ho
 dsimp only at h1 h2⊢
 congr 1
 apply List.ext_getElem?
 intro j
 rw[List.getElem?_map]
 by_cases hj:j<h.n.toNat
 ·rw[List.getElem?_range hj,Option.map_some,h2 j (by omega),List.getD_eq_getElem?_getD,List.getElem?_eq_getElem (by omega)];rfl
 ·rw[List.getElem?_eq_none (by simp;omega),List.getElem?_eq_none (by omega)];rfl
theorem objs(H:Bo S cs os):(Ob.objs S).Perm os:=by
 unfold Ob.objs
 refine(H.each.map _).trans ?_
 rw[List.map_map]
 have:os.map (Ob.at1 S∘fun o=>o.a)=os:=by
  conv=>rhs;rw[←List.map_id os]
  exact List.map_congr_left fun o ho=>H.at1 ho
 rw[this]
theorem refs(H:Bo S cs os):(refsOf S).Perm (os.filterMap ref1):=H.objs.filterMap _
theorem kids(H:Bo S cs os){o:Ob1}(ho:o∈os)(hk:o.h.k≠1):Mk.kids S cs o.a=Bx.kidsO o:=by
 have h1:=H.len o ho
 have h2:=H.get o ho
 have hh:=H.head o ho
 obtain⟨_,_,_,_,_,g,_⟩:=Ob.head_is H.hw hh
 have hm:=Sp.mayH_is g
 unfold Mk.kids Ob.refs
 rw[hh]
 dsimp only
 rw[if_neg hk]
 unfold Bx.kidsO
 by_cases k2:o.h.k=2
 ·rw[if_pos k2,if_pos k2]
  unfold Sp.upto
  rw[List.filterMap_map]
  have:List.filterMap (Mk.kid S o.a∘fun j:Nat=>(j:Int)) (List.range o.h.n.toNat)=List.map (fun j=>o.ws.getD j 0) (List.range o.h.n.toNat):=by
   have hall:∀l:List Nat,(∀j∈l,(j:Int)<o.h.n)→List.filterMap (Mk.kid S o.a∘fun j:Nat=>(j:Int)) l=List.map (fun j=>o.ws.getD j 0) l:=fun l=>by
    induction l with
    |nil=>intro _;rfl
    |cons j l ih=>
     intro hl
     have:(Mk.kid S o.a∘fun j:Nat=>(j:Int)) j=some (o.ws.getD j 0):=by
      show Mk.kid S o.a j=some _
      unfold Mk.kid
      rw[h2 j (hl j (List.mem_cons_self)),if_pos rfl]
     rw[List.filterMap_cons,this,ih fun j hj=>hl j (List.mem_cons_of_mem _ hj)];rfl
   exact hall _ fun j hj=>by rw[List.mem_range]at hj;omega
  rw[this]
  apply List.ext_getElem?
  intro j
  rw[List.getElem?_map]
  by_cases hj:j<o.h.n.toNat
  ·rw[List.getElem?_range hj,Option.map_some,List.getD_eq_getElem?_getD,List.getElem?_eq_getElem (by omega)];rfl
  ·rw[List.getElem?_eq_none (by simp;omega),List.getElem?_eq_none (by omega)];rfl
 ·rw[if_neg k2,if_neg k2]
  by_cases k4:o.h.k=4
  ·have h5:=ref_n g k4
   rw[if_pos k4,if_pos k4,List.filterMap_cons]
   have:Mk.kid S o.a 2=some (o.ws.getD 2 0):=by
    unfold Mk.kid
    rw[show((2:Int))=((2:Nat):Int)from rfl,h2 2 (by omega),if_pos rfl]
   rw[this];rfl
  ·rw[if_neg k4,if_neg k4];rfl
theorem kid_in(H:Bo S cs os)(hk:∀o∈os,o.h.k≠1){a b:Int}(ha:Mk.obj S a)(hb:b∈Mk.kids S cs a):∃o∈os,o.a=a∧b∈Bx.kidsO o:=by
 obtain⟨o,ho,rfl⟩:=H.obj.mp ha
 rw[H.kids ho (hk o ho)]at hb
 exact⟨o,ho,rfl,hb⟩
theorem put(H:Bo S cs os)(a:Int)(k:Nat)(x:Int):Bo (Ob.put S a k x).2 cs (Om.upd os a k x):=by
 by_cases g:(Ob.fieldAt S a k).2=0
 ·obtain⟨hd,hh,h0,h1,_⟩:=Ob.fieldAt_ok H.hw g
  obtain⟨_,hkp⟩:=Ob.put_keep H.hw (x:=x) hh h0 h1
  refine⟨H.hw.put _ _ _,by rw[put_each H.hw,Om.upd_as];exact H.each,fun o' ho'=> ?_,fun o' ho'=> ?_,fun o' ho' j hj=> ?_⟩
  ·obtain⟨o,ho,rfl⟩:=List.mem_map.mp ho'
   rw[Om.up_a,Om.up_h];exact(hkp _ _ (H.head o ho)).1
  ·obtain⟨o,ho,rfl⟩:=List.mem_map.mp ho'
   rw[Om.up_h,Om.up_len];exact H.len o ho
  ·obtain⟨o,ho,rfl⟩:=List.mem_map.mp ho'
   rw[Om.up_h]at hj
   rw[Om.up_a,(hkp _ _ (H.head o ho)).2 j (by omega) hj]
   have hl:=H.len o ho
   unfold Om.up
   by_cases ha:o.a=a
   ·rw[if_pos ha]
    dsimp only
    by_cases hjk:(j:Int)=k
    ·have hjk':j=k:=by omega
     subst hjk'
     rw[if_pos ⟨ha,rfl⟩,List.getD_eq_getElem?_getD,List.getElem?_set_self (by omega)];rfl
    ·rw[if_neg (fun g=>hjk g.2),H.get o ho j hj,List.getD_eq_getElem?_getD,List.getD_eq_getElem?_getD,List.getElem?_set_ne (fun g=>hjk (by omega))]
   ·rw[if_neg ha,if_neg (fun g=>ha g.1),H.get o ho j hj]
 ·have e:(Ob.put S a k x).2=S:=by unfold Ob.put;rw[if_pos g]
  have eo:Om.upd os a k x=os:=by
   unfold Om.upd
   conv=>rhs;rw[←List.map_id os]
   refine List.map_congr_left fun o ho=> ?_
   unfold Om.up
   by_cases ha:o.a=a
   ·rw[if_pos ha]
    have hh:=H.head o ho
    have hl:=H.len o ho
    rw[ha]at hh
    have:¬(k:Int)<o.h.n:=fun hlt=>g (by unfold Ob.fieldAt;rw[hh];dsimp only;rw[if_neg (by rintro(h|h)<;>omega)])
    rw[List.set_eq_of_length_le (by omega)];rfl
   ·rw[if_neg ha];rfl
  rw[e,eo];exact H
theorem put0(H:Bo S cs os){o:Ob1}(ho:o∈os){k:Nat}(hk:(k:Int)<o.h.n)(x:Int):(Ob.put S o.a k x).1=0:=put_in (H.head o ho) (by omega) hk
theorem isR(H:Bo S cs os){a:Int}:Qu.isR S a=true↔∃o∈os,o.a=a∧o.h.k=4:=by
 constructor
 ·intro h
  obtain⟨hd,hh,hk⟩:=isR_head h
  obtain⟨o,ho,e⟩:=H.obj.mp (show Mk.obj S a by unfold Mk.obj;rw[hh];rfl)
  have:=H.head o ho
  rw[e,hh]at this
  injection this with this
  exact⟨o,ho,e,this▸hk⟩
 ·rintro⟨o,ho,rfl,hk⟩
  unfold Qu.isR
  rw[H.head o ho]
  simpa using hk
end Bo
end Go.Proofs.YtfepdmpplahloaaGreat
