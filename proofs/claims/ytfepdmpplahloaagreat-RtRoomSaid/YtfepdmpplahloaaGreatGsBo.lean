/- Heaps that are known by their list of objects, whatever room there is. -/
import Derived.Test.YtfepdmpplahloaaGreatGsBx
import Derived.Test.YtfepdmpplahloaaGreatGsL20a
set_option linter.unusedSimpArgs false
set_option linter.unusedVariables false
namespace Go.Proofs.YtfepdmpplahloaaGreat
open Go Go.Gl
namespace Om
end Om
structure Bo(S:Spc)(cs:List Cls)(os:List Ob1):Prop where
 hw:HWf S cs
 each:(Sp.each S).Perm (os.map (·.a))
 head:∀o∈os,Ob.head S o.a=some o.h
 len:∀o∈os,o.ws.length=o.h.n.toNat
 get:∀o∈os,∀j:Nat,(j:Int)<o.h.n→Ob.get S o.a j=(o.ws.getD j 0,0)
namespace Bo
variable{S:Spc}{cs:List Cls}{os:List Ob1}
theorem obj(H:Bo S cs os){a:Int}:Mk.obj S a↔∃o∈os,o.a=a:=by
 constructor
 ·intro h
  unfold Mk.obj at h
  cases hh:Ob.head S a with
  |none=>rw[hh]at h;cases h
  |some hd=>
   obtain⟨n,w,rfl,hf,_⟩:=Ob.head_is H.hw hh
   have:=H.each.mem_iff.mp ((mem_each H.hw.wf).mpr ⟨n,w,rfl,hf⟩)
   obtain⟨o,ho,e⟩:=List.mem_map.mp this
   exact⟨o,ho,e⟩
 ·rintro⟨o,ho,rfl⟩
  unfold Mk.obj
  rw[H.head o ho];rfl
theorem at1(H:Bo S cs os){o:Ob1}(ho:o∈os):Ob.at1 S o.a=o:=by
 unfold Ob.at1
 rw[H.head o ho]
 obtain⟨a,h,ws⟩:=o
 have h1:=H.len _ ho
 have h2:=H.get _ ho
 dsimp only at h1 h2⊢
 congr 1
 apply List.ext_getElem?
 intro j
 rw[List.getElem?_map]
 by_cases hj:j<h.n.toNat
 ·rw[List.getElem?_range hj,Option.map_some,h2 j (by omega),List.getD_eq_getElem?_getD,List.getElem?_eq_getElem (by omega)];rfl
 ·rw[List.getElem?_eq_none (by simp;omega),List.getElem?_eq_none (by omega)];rfl
theorem objs(H:Bo S cs os):(Ob.objs S).Perm os:=by
 unfold Ob.objs
 refine(H.each.map _).trans ?_
 rw[List.map_map]
 have:os.map (Ob.at1 S∘fun o=>o.a)=os:=by
  conv=>rhs;rw[←List.map_id os]
  exact List.map_congr_left fun o ho=>H.at1 ho
 rw[this]
theorem refs(H:Bo S cs os):(refsOf S).Perm (os.filterMap ref1):=H.objs.filterMap _
theorem kids(H:Bo S cs os){o:Ob1}(ho:o∈os)(hk:o.h.k≠1):Mk.kids S cs o.a=Bx.kidsO o:=by
 have h1:=H.len o ho
 have h2:=H.get o ho
 have hh:=H.head o ho
 obtain⟨_,_,_,_,_,g,_⟩:=Ob.head_is H.hw hh
 have hm:=Sp.mayH_is g
 unfold Mk.kids Ob.refs
 rw[hh]
 dsimp only
 rw[if_neg hk]
 unfold Bx.kidsO
 by_cases k2:o.h.k=2
 ·rw[if_pos k2,if_pos k2]
  unfold Sp.upto
  rw[List.filterMap_map]
  have:List.filterMap (Mk.kid S o.a∘fun j:Nat=>(j:Int)) (List.range o.h.n.toNat)=List.map (fun j=>o.ws.getD j 0) (List.range o.h.n.toNat):=by
   have hall:∀l:List Nat,(∀j∈l,(j:Int)<o.h.n)→List.filterMap (Mk.kid S o.a∘fun j:Nat=>(j:Int)) l=List.map (fun j=>o.ws.getD j 0) l:=fun l=>by
    induction l with
    |nil=>intro _;rfl
    |cons j l ih=>
     intro hl
     have:(Mk.kid S o.a∘fun j:Nat=>(j:Int)) j=some (o.ws.getD j 0):=by
      show Mk.kid S o.a j=some _
      unfold Mk.kid
      rw[h2 j (hl j (List.mem_cons_self)),if_pos rfl]
     rw[List.filterMap_cons,this,ih fun j hj=>hl j (List.mem_cons_of_mem _ hj)];rfl
   exact hall _ fun j hj=>by rw[List.mem_range]at hj;omega
  rw[this]
  apply List.ext_getElem?
  intro j
  rw[List.getElem?_map]
  by_cases hj:j<o.h.n.toNat
  ·rw[List.getElem?_range hj,Option.map_some,List.getD_eq_getElem?_getD,List.getElem?_eq_getElem (by omega)];rfl
  ·rw[List.getElem?_eq_none (by simp;omega),List.getElem?_eq_none (by omega)];rfl
 ·rw[if_neg k2,if_neg k2]
  by_cases k4:o.h.k=4
  ·have h5:=ref_n g k4
   rw[if_pos k4,if_pos k4,List.filterMap_cons]
   have:Mk.kid S o.a 2=some (o.ws.getD 2 0):=by
    unfold Mk.kid
    rw[show((2:Int))=((2:Nat):Int)from rfl,h2 2 (by omega),if_pos rfl]
   rw[this];rfl
  ·rw[if_neg k4,if_neg k4];rfl
theorem kid_in(H:Bo S cs os)(hk:∀o∈os,o.h.k≠1){a b:Int}(ha:Mk.obj S a)(hb:b∈Mk.kids S cs a):∃o∈os,o.a=a∧b∈Bx.kidsO o:=by
 obtain⟨o,ho,rfl⟩:=H.obj.mp ha
 rw[H.kids ho (hk o ho)]at hb
 exact⟨o,ho,rfl,hb⟩
theorem isR(H:Bo S cs os){a:Int}:Qu.isR S a=true↔∃o∈os,o.a=a∧o.h.k=4:=by
 constructor
 ·intro h
  obtain⟨hd,hh,hk⟩:=isR_head h
  obtain⟨o,ho,e⟩:=H.obj.mp (show Mk.obj S a by unfold Mk.obj;rw[hh];rfl)
  have:=H.head o ho
  rw[e,hh]at this
  injection this with this
  exact⟨o,ho,e,this▸hk⟩
 ·rintro⟨o,ho,rfl,hk⟩
  unfold Qu.isR
  rw[H.head o ho]
  simpa using hk
end Bo
end Go.Proofs.YtfepdmpplahloaaGreat
