/- Heaps that are known by their list of objects, whatever room there is. -/
import Derived.Test.YtfepdmpplahloaaGreatGsBx
import Derived.Test.YtfepdmpplahloaaGreatGsL20a
set_option linter.unusedSimpArgs false
set_option linter.unusedVariables false
namespace Go.Proofs.YtfepdmpplahloaaGreat
open Go Go.Gl
namespace Om
def up(a:Int)(k:Nat)(x:Int)(o:Ob1):Ob1:=if o.a=a then⟨o.a,o.h,o.ws.set k x⟩else o
def upd(os:List Ob1)(a:Int)(k:Nat)(x:Int):List Ob1:=os.map (up a k x)
theorem up_a(a:Int)(k:Nat)(x:Int)(o:Ob1):(up a k x o).a=o.a:=by unfold up;split<;>rfl
theorem up_h(a:Int)(k:Nat)(x:Int)(o:Ob1):(up a k x o).h=o.h:=by unfold up;split<;>rfl
theorem up_len(a:Int)(k:Nat)(x:Int)(o:Ob1):(up a k x o).ws.length=o.ws.length:=by
 unfold up;split
 ·exact List.length_set ..
 ·rfl
theorem upd_as(os:List Ob1)(a:Int)(k:Nat)(x:Int):(upd os a k x).map (·.a)=os.map (·.a):=by
 unfold upd;rw[List.map_map];exact List.map_congr_left fun o _=>up_a a k x o
end Om
structure Bo(S:Spc)(cs:List Cls)(os:List Ob1):Prop where
 hw:HWf S cs
 each:(Sp.each S).Perm (os.map (·.a))
 head:∀o∈os,Ob.head S o.a=some o.h
 len:∀o∈os,o.ws.length=o.h.n.toNat
 get:∀o∈os,∀j:Nat,(j:Int)<o.h.n→Ob.get S o.a j=(o.ws.getD j 0,0)
theorem Bx.bo{S:Spc}{cs:List Cls}{P:Nat}{os:List Ob1}(H:Bx S cs P os):Bo S cs os:=⟨H.hw,H.each,H.head,H.len,H.get⟩
namespace Bo
variable{S:Spc}{cs:List Cls}{os:List Ob1}
theorem obj(H:Bo S cs os){a:Int}:Mk.obj S a↔∃o∈os,o.a=a:=by
 constructor
 ·intro h
  unfold Mk.obj at h
  cases hh:Ob.head S a with
  |none=>rw[hh]at h;cases h
  |some hd=>
   obtain⟨n,w,rfl,hf,_⟩:=Ob.head_is H.hw hh
   have:=H.each.mem_iff.mp ((mem_each H.hw.wf).mpr ⟨n,w,rfl,hf⟩)
   obtain⟨o,ho,e⟩:=List.mem_map.mp this
   exact⟨o,ho,e⟩
 ·rintro⟨o,ho,rfl⟩
  unfold Mk.obj
  rw[H.head o ho];rfl
theorem ne(H:Bo S cs os){o:Ob1}(ho:o∈os):o.a≠0:=fun e=>Mk.obj_zero H.hw (e▸H.obj.mpr ⟨o,ho,rfl⟩)
theorem pos(H:Bo S cs os){o:Ob1}(ho:o∈os):0<o.a:=by
 obtain⟨n,w,e,_⟩:=Ob.head_is H.hw (H.head o ho)
 have:=H.ne ho
 omega
theorem put(H:Bo S cs os)(a:Int)(k:Nat)(x:Int):Bo (Ob.put S a k x).2 cs (Om.upd os a k x):=by
 by_cases g:(Ob.fieldAt S a k).2=0
 ·obtain⟨hd,hh,h0,h1,_⟩:=Ob.fieldAt_ok H.hw g
  obtain⟨_,hkp⟩:=Ob.put_keep H.hw (x:=x) hh h0 h1
  refine⟨H.hw.put _ _ _,by rw[put_each H.hw,Om.upd_as];exact H.each,fun o' ho'=> ?_,fun o' ho'=> ?_,fun o' ho' j hj=> ?_⟩
  ·obtain⟨o,ho,rfl⟩:=List.mem_map.mp ho'
   rw[Om.up_a,Om.up_h];exact(hkp _ _ (H.head o ho)).1
  ·obtain⟨o,ho,rfl⟩:=List.mem_map.mp ho'
   rw[Om.up_h,Om.up_len];exact H.len o ho
  ·obtain⟨o,ho,rfl⟩:=List.mem_map.mp ho'
   rw[Om.up_h]at hj
   rw[Om.up_a,(hkp _ _ (H.head o ho)).2 j (by omega) hj]
   have hl:=H.len o ho
   unfold Om.up
   by_cases ha:o.a=a
   ·rw[if_pos ha]
    dsimp only
    by_cases hjk:(j:Int)=k
    ·have hjk':j=k:=by omega
     subst hjk'
     rw[if_pos ⟨ha,rfl⟩,List.getD_eq_getElem?_getD,List.getElem?_set_self (by omega)];rfl
    ·rw[if_neg (fun g=>hjk g.2),H.get o ho j hj,List.getD_eq_getElem?_getD,List.getD_eq_getElem?_getD,List.getElem?_set_ne (fun g=>hjk (by omega))]
   ·rw[if_neg ha,if_neg (fun g=>ha g.1),H.get o ho j hj]
 ·have e:(Ob.put S a k x).2=S:=by unfold Ob.put;rw[if_pos g]
  have eo:Om.upd os a k x=os:=by
   unfold Om.upd
   conv=>rhs;rw[←List.map_id os]
   refine List.map_congr_left fun o ho=> ?_
   unfold Om.up
   by_cases ha:o.a=a
   ·rw[if_pos ha]
    have hh:=H.head o ho
    have hl:=H.len o ho
    rw[ha]at hh
    have:¬(k:Int)<o.h.n:=fun hlt=>g (by unfold Ob.fieldAt;rw[hh];dsimp only;rw[if_neg (by rintro(h|h)<;>omega)])
    rw[List.set_eq_of_length_le (by omega)];rfl
   ·rw[if_neg ha];rfl
  rw[e,eo];exact H
theorem put0(H:Bo S cs os){o:Ob1}(ho:o∈os){k:Nat}(hk:(k:Int)<o.h.n)(x:Int):(Ob.put S o.a k x).1=0:=put_in (H.head o ho) (by omega) hk
end Bo
end Go.Proofs.YtfepdmpplahloaaGreat
