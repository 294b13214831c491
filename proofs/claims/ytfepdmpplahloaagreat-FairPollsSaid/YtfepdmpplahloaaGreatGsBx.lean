/- Heaps that are made one object behind the other: known by their list of objects. -/
import Derived.Test.YtfepdmpplahloaaGreatGsRefR
set_option linter.unusedSimpArgs false
set_option linter.unusedVariables false
namespace Go.Proofs.YtfepdmpplahloaaGreat
open Go Go.Gl
variable{ρ0 ρ:FR}{L L':List aA}{Post:Value→List aA→Prop}{T:Tree}
structure Bx(S:aD)(cs:List aS)(P:Nat)(os:List fT):Prop where
 hw:aO S cs
 Fj:∃m,Bi S.pg m∧m≤1+os.length
 jL:S.pg.length=P
 each:(Sp.each S).Perm (os.map (·.a))
 head:∀o∈os,Ob.head S o.a=some o.h
 len:∀o∈os,o.ws.length=o.h.n.toNat
 get:∀o∈os,∀j:Nat,(j:Int)<o.h.n→Ob.get S o.a j=(o.ws.getD j 0,0)
namespace Bx
variable{S:aD}{cs:List aS}{P:Nat}{os:List fT}
theorem nodup(H:Bx S cs P os):(os.map (·.a)).Nodup:=H.each.nodup_iff.mp (eh H.hw.wf)
theorem inj(H:Bx S cs P os){i j:Nat}{o o':fT}(hi:os[i]? =some o)(hj:os[j]? =some o')(e:o.a=o'.a):i=j:=by
 have h1:(os.map (·.a))[i]? =some o.a:=by rw[List.getElem?_map,hi];rfl
 have h2:(os.map (·.a))[j]? =some o'.a:=by rw[List.getElem?_map,hj];rfl
 exact(List.getElem?_inj (by rw[List.length_map];exact aV hi) H.nodup).mp (by rw[h1,h2,e])
theorem make(H:Bx S cs P os)(hn:os.length+1<P){h:Hd}(hm:Ob.may cs h=0)(hs:Sp.bQ (h.n+1)≤1):
  (Ob.make S cs h).2.1=0∧Bx (Ob.make S cs h).2.2 cs P (os++[⟨(Ob.make S cs h).1,h,List.replicate h.n.toNat 0⟩]):=by
 obtain⟨m,hp,hm2⟩:=H.Fj
 have hpg:=H.jL
 have hh0:=Sp.bU (Ob.jD hm).1
 obtain⟨h0,⟨m',p1,p2⟩,p3⟩:=Ax H.hw hp hm (by omega)
 refine⟨h0,H.hw.make _,⟨m',p1,by simp;omega⟩,by omega,?_,fun o ho=> ?_,fun o ho=> ?_,fun o ho j hj=> ?_⟩
 ·rw[List.map_append]
  refine(nP H.hw h0).trans ?_
  exact(List.Perm.cons _ H.each).trans (List.perm_append_singleton _ _).symm
 ·rcases List.mem_append.mp ho with ho|ho
  ·exact(Ob.bX H.hw h0 (H.head o ho)).1
  ·rw[List.mem_singleton]at ho;subst ho
   exact Ob.eA H.hw h0
 ·rcases List.mem_append.mp ho with ho|ho
  ·exact H.len o ho
  ·rw[List.mem_singleton]at ho;subst ho;simp
 ·rcases List.mem_append.mp ho with ho|ho
  ·rw[(Ob.bX H.hw h0 (H.head o ho)).2.2 j (by omega) hj]
   exact H.get o ho j hj
  ·rw[List.mem_singleton]at ho;subst ho
   dsimp only at hj⊢
   rw[Ob.kX H.hw h0 (by omega) hj,List.getD_eq_getElem?_getD,List.getElem?_replicate,if_pos (by omega)];rfl
theorem put(H:Bx S cs P os){i:Nat}{o:fT}(hi:os[i]? =some o){k:Nat}(hk:(k:Int)<o.h.n)(x:Int):
  (Ob.put S o.a k x).1=0∧Bx (Ob.put S o.a k x).2 cs P (os.set i ⟨o.a,o.h,o.ws.set k x⟩):=by
 have hlt:=aV hi
 have ho:=List.mem_of_getElem? hi
 obtain⟨h0,hkp⟩:=Ob.j9 H.hw (x:=x) (H.head o ho) (i:=(k:Int)) (by omega) hk
 obtain⟨ws',e,hl⟩:=pG S o.a k x
 have hmem:∀o'∈os.set i ⟨o.a,o.h,o.ws.set k x⟩,(o'=⟨o.a,o.h,o.ws.set k x⟩)∨(∃j,j≠i∧os[j]? =some o'):=fun o' ho'=>by
  obtain⟨j,hj⟩:=List.mem_iff_getElem?.mp ho'
  rw[List.getElem?_set]at hj
  by_cases hij:i=j
  ·rw[if_pos hij,if_pos hlt]at hj
   injection hj with hj
   exact .inl hj.symm
  ·rw[if_neg hij]at hj
   exact .inr ⟨j,fun e=>hij e.symm,hj⟩
 have ha:(os.set i ⟨o.a,o.h,o.ws.set k x⟩).map (·.a)=os.map (·.a):=by
  rw[List.map_set]
  apply List.ext_getElem?
  intro j
  rw[List.getElem?_set]
  split
  ·rename_i hij
   subst hij
   rw[if_pos (by rw[List.length_map];exact hlt),List.getElem?_map,hi];rfl
  ·rfl
 refine⟨h0,H.hw.put _ _ _,by rw[e];simpa using H.Fj,by rw[e];exact H.jL,?_,fun o' ho'=> ?_,fun o' ho'=> ?_,fun o' ho' j hj=> ?_⟩
 ·rw[kj H.hw,ha];exact H.each
 ·rcases hmem o' ho' with rfl|⟨j,_,hj⟩
  ·exact(hkp _ _ (H.head o ho)).1
  ·exact(hkp _ _ (H.head o' (List.mem_of_getElem? hj))).1
 ·rcases hmem o' ho' with rfl|⟨j,_,hj⟩
  ·dsimp only;rw[List.length_set];exact H.len o ho
  ·exact H.len o' (List.mem_of_getElem? hj)
 ·have hlo:=H.len o ho
  rcases hmem o' ho' with rfl|⟨i',hi',hj'⟩
  ·dsimp only at hj⊢
   rw[(hkp _ _ (H.head o ho)).2 j (by omega) hj]
   by_cases hjk:j=k
   ·subst hjk
    rw[if_pos ⟨rfl,rfl⟩,List.getD_eq_getElem?_getD,List.getElem?_set_self (by omega)];rfl
   ·rw[if_neg (fun g=>hjk (by have:=g.2;omega)),H.get o ho j hj,List.getD_eq_getElem?_getD,List.getD_eq_getElem?_getD,List.getElem?_set_ne (fun g=>hjk g.symm)]
  ·have ho':=List.mem_of_getElem? hj'
   rw[(hkp _ _ (H.head o' ho')).2 j (by omega) hj,if_neg (fun g=>hi' (H.inj hj' hi g.1)),H.get o' ho' j hj]
end Bx
theorem Mk.jM.le{S:aD}{cs:List aS}{ro:List Int}{T:Int→Prop}(h1:∀a∈ro,Mk.obj S a→T a)(h2:∀a,T a→Mk.obj S a→∀b∈Mk.kids S cs a,Mk.obj S b→T b){a:Int}(h:Mk.jM S cs ro a):T a:=by
 induction h with
 |root h ho=>exact h1 _ h ho
 |step h hb ho ih=>exact h2 _ ih h.obj _ hb ho
theorem fW.le{S:aD}{cs:List aS}{l:List bW}{x:mY}{R T:Int→Prop}(h0:∀a,R a→T a)(h1:∀r∈l,r.2.1=1→x.all=false→T r.1→Sf.fv x.clock r.2.2.2.2.1 x.free x.aZ=true→Mk.obj S r.2.2.1→T r.2.2.1)
  (h2:∀a,T a→Mk.obj S a→∀b∈Mk.kids S cs a,Mk.obj S b→T b) {a:Int} (h:fW S cs l x R a):T a:=by
 induction h with
 |base h=>exact h0 _ h
 |fv hr g1 g2 _ g4 go ga ih=>
  refine ga.le (fun b hb ho=> ?_) h2
  rw[List.mem_singleton]at hb
  subst hb
  exact h1 _ hr g1 g2 ih g4 go
end Go.Proofs.YtfepdmpplahloaaGreat
