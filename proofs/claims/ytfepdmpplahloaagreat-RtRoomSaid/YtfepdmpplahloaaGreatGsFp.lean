/- What a collection does, plainly; rounds that come to an end. -/
import Derived.Test.YtfepdmpplahloaaGreatGsRtB
import Derived.Test.YtfepdmpplahloaaGreatGsSd
set_option linter.unusedSimpArgs false
set_option linter.unusedVariables false
namespace Go.Proofs.YtfepdmpplahloaaGreat
open Go Go.Gl
abbrev nilZ:Slc:=⟨none,0,0⟩
def Rt.Soft(x:Rt)(all:Bool)(a:Int):Prop:=SoftR x.S x.cs (refsOf x.S) (x.in7 nilZ nilZ all) (Mk.Rch x.S x.cs x.roots) a
structure CF(x x':Rt)(all:Bool)(l:List Rf6)(m2 m3:List Bool)(cl pu pn:List Int):Prop where
 A:Aft x.S x'.S x.rows x'.rows cl pu m3 (fun a=>(Ob.get x.S a 1).1-1)
 has2:∀a,Sp.has m2 a=true↔x.Soft all a
 has3:∀a,Sp.has m3 a=true↔(Sp.has m2 a=true∨Mk.Rch x.S x.cs pn a)
 mcl:∀a,a∈cl↔∃h,Ob.head x.S a=some h∧h.k=4∧Mk.obj x.S (Ob.get x.S a 0).1∧¬Sp.has (if h.c=3 then m3 else m2) (Ob.get x.S a 0).1=true
 mpu:∀a,a∈pu↔(a∈cl∧Sp.has m3 a=true∧(Ob.get x.S a 1).1>0)
 mpn:∀a,a∈pn↔(a∈x.wa∧Mk.obj x.S a∧¬Sp.has m2 a=true)
 nd:cl.Nodup
 eq:x'={x with S:=x'.S,rows:=x'.rows,wa:=(Fn.pend x.wa x.pe pn).1,pe:=(Fn.pend x.wa x.pe pn).2,rn:=x.rn+1}
 kid:∀a,Sp.has m3 a=true→∀b∈Mk.kids x.S x.cs a,Mk.obj x.S b→Sp.has m3 b=true
 o3:∀a,Sp.has m3 a=true→Mk.obj x.S a
 ecl:cl=clrOf x.S m2 m3 l
 epu:pu=putOf x.S m3 cl
 epn:pn=pendOf x.S m2 x.wa
 eS:x'.S=Sw.sweep (Rf.enqs (Rf.clear x.S cl).2 x.rows pu).1 (Mk.all m3)
 eR:x'.rows=(Rf.enqs (Rf.clear x.S cl).2 x.rows pu).2
theorem cls3{S:Spc}{cs:List Cls}(hw:HWf S cs){b:Int}{hd:Hd}(hh:Ob.head S b=some hd)(hk:hd.k=4):1≤hd.c∧hd.c≤3:=by
 have hc:=Ob.head_cls hw hh
 obtain⟨k,c,n,f⟩:=hd
 unfold Sp.mayH at hc
 dsimp only at hk hc⊢
 subst hk
 simp at hc
 omega
theorem Rt.CollR.cf{x x':Rt}{all:Bool}{N:Int}(h:x.CollR x' all)(I:x.Inv N)(D:x.InvD):∃l m2 m3 cl pu pn,CF x x' all l m2 m3 cl pu pn:=by
 obtain⟨z1,z2,l,m2,m3,hC,rfl⟩:=h
 have hw:=I.w.hw
 refine⟨l,m2,m3,clrOf x.S m2 m3 l,putOf x.S m3 (clrOf x.S m2 m3 l),pendOf x.S m2 x.wa,?_⟩
 refine⟨aft hw I.w.q hC (fun a=>(Ob.get x.S a 1).1-1) rfl rfl (fun a ha=>⟨by omega,by
  have:=D.qn a (clr_isR hw hC ((List.mem_filter.mp ha).1));omega⟩) (clr_nodup hw hC),fun a=> ?_,hC.has3,fun a=> ?_,fun a=> ?_,fun a=>mem_pendOf,clr_nodup hw hC,rfl,hC.c3.kid,hC.c3.obj,rfl,rfl,rfl,rfl,rfl⟩
 ·rw[hC.has2]
  exact⟨SoftR.mono (x:=x.in7 z1 z2 all) (x':=x.in7 nilZ nilZ all) (fun _ h=>h) ⟨rfl,rfl,rfl,rfl⟩ fun _ h=>h,SoftR.mono (x:=x.in7 nilZ nilZ all) (x':=x.in7 z1 z2 all) (fun _ h=>h) ⟨rfl,rfl,rfl,rfl⟩ fun _ h=>h⟩
 ·unfold clrOf
  rw[List.mem_append,mem_clr hw hC.perm,mem_clr hw hC.perm]
  constructor
  ·rintro(⟨h,h1,h2,h3,h4,h5⟩|⟨h,h1,h2,h3,h4,h5⟩)
   ·refine⟨h,h1,h2,h4,?_⟩
    rw[if_neg (fun e=>by rw[e]at h3;simp at h3)];exact h5
   ·refine⟨h,h1,h2,h4,?_⟩
    rw[if_pos (List.mem_singleton.mp h3)];exact h5
  ·rintro⟨h,h1,h2,h4,h5⟩
   have hc:=cls3 hw h1 h2
   by_cases e:h.c=3
   ·rw[if_pos e]at h5
    exact .inr ⟨h,h1,h2,by rw[e];simp,h4,h5⟩
   ·rw[if_neg e]at h5
    refine .inl ⟨h,h1,h2,?_,h4,h5⟩
    have:h.c=1∨h.c=2:=by omega
    simpa using this
 ·unfold putOf
  rw[List.mem_filter,Bool.and_eq_true,decide_eq_true_iff]
namespace CF
variable{x x':Rt}{all:Bool}{l:List Rf6}{m2 m3:List Bool}{cl pu pn:List Int}
end CF
namespace Fr
end Fr
end Go.Proofs.YtfepdmpplahloaaGreat
