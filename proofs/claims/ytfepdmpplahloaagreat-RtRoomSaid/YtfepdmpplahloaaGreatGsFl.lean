/- Heaps where addresses lead nowhere but through references: what a collection finds. -/
import Derived.Test.YtfepdmpplahloaaGreatGsFp
set_option linter.unusedSimpArgs false
set_option linter.unusedVariables false
namespace Go.Proofs.YtfepdmpplahloaaGreat
open Go Go.Gl
namespace Fl
structure Flat(os:List Ob1):Prop where
 k:∀o∈os,o.h.k=3∨(o.h.k=4∧o.ws.getD 2 0=0)
 r:∀o∈os,o.h.k=4→∀o'∈os,o'.a=o.ws.getD 0 0→o'.h.k=3
variable{S:Spc}{cs:List Cls}{os:List Ob1}
theorem flat_kids(H:Bo S cs os)(hf:Flat os):∀a,Mk.obj S a→∀b∈Mk.kids S cs a,¬Mk.obj S b:=fun a ha b hb ho=>by
 obtain⟨o,hm,_,hb⟩:=H.kid_in (fun o ho=>by rcases hf.k o ho with h|h;rw[h];decide;rw[h.1];decide) ha hb
 unfold Bx.kidsO at hb
 rcases hf.k o hm with h|⟨h,h2⟩
 ·rw[h,if_neg (by decide),if_neg (by decide)]at hb;cases hb
 ·rw[h,if_neg (by decide),if_pos rfl,List.mem_singleton,h2]at hb
  exact Mk.obj_zero H.hw (hb▸ho)
theorem ref_of(H:Bo S cs os){r:Rf6}:r∈refsOf S↔∃o∈os,o.h.k=4∧r=(o.a,o.h.c,o.ws.getD 0 0,o.ws.getD 1 0,o.ws.getD 3 0,o.ws.getD 4 0,()):=by
 rw[H.refs.mem_iff,List.mem_filterMap]
 constructor
 ·rintro⟨o,ho,e⟩
  unfold ref1 at e
  split at e
  ·rename_i hk
   injection e with e
   exact⟨o,ho,hk,e.symm⟩
  ·cases e
 ·rintro⟨o,ho,hk,rfl⟩
  exact⟨o,ho,by unfold ref1;rw[if_pos hk]⟩
structure Kept(x:Rt)(all:Bool)(o:Ob1):Prop where
 k:o.h.k=4
 c:o.h.c=1
 all:all=false
 ro:o.a∈x.roots
 t:Sf.keep x.ck (o.ws.getD 3 0) x.free x.rate=true
theorem soft{x:Rt}(H:Bo x.S x.cs os)(hf:Flat os)(all:Bool)(a:Int):x.Soft all a↔(Mk.obj x.S a∧(a∈x.roots∨∃o∈os,Kept x all o∧o.ws.getD 0 0=a)):=by
 have hz:=flat_kids H hf
 constructor
 ·intro h
  refine SoftR.le (T:=fun a=>Mk.obj x.S a∧(a∈x.roots∨∃o∈os,Kept x all o∧o.ws.getD 0 0=a)) (fun d hd=> ?_) (fun r hr e1 e2 e3 e4 e5=> ?_) (fun c _ hc d hd ho=>(hz c hc d hd ho).elim) h
  ·obtain⟨g1,g2⟩:=(rch_flat2 hz).mp hd
   exact⟨g2,.inl g1⟩
  ·obtain⟨o,ho,hk,rfl⟩:=(ref_of H).mp hr
   dsimp only at e1 e3 e4 e5⊢
   have hro:o.a∈x.roots:=by
    rcases e3.2 with g|⟨o',ho',k',ew⟩
    ·exact g
    ·have:=hf.r o' ho' k'.k o ho ew.symm
     rw[hk]at this;cases this
   exact⟨e5,.inr ⟨o,ho,⟨hk,e1,e2,hro,e4⟩,rfl⟩⟩
 ·rintro⟨ho,g|⟨o,hm,k,rfl⟩⟩
  ·exact .base ((rch_flat2 hz).mpr ⟨g,ho⟩)
  ·exact .keep (r:=(o.a,o.h.c,o.ws.getD 0 0,o.ws.getD 1 0,o.ws.getD 3 0,o.ws.getD 4 0,())) ((ref_of H).mpr ⟨o,hm,k.k,rfl⟩) k.c k.all (.base ((rch_flat2 hz).mpr ⟨k.ro,H.obj.mpr ⟨o,hm,rfl⟩⟩)) k.t ho ((rch_flat2 hz).mpr ⟨by simp,ho⟩)
theorem marks{x x':Rt}{all:Bool}{l:List Rf6}{m2 m3:List Bool}{cl pu pn:List Int}(C:CF x x' all l m2 m3 cl pu pn)(H:Bo x.S x.cs os)(hf:Flat os):
  (∀a,Sp.has m2 a=true↔(Mk.obj x.S a∧(a∈x.roots∨∃o∈os,Kept x all o∧o.ws.getD 0 0=a)))∧(∀a,Sp.has m3 a=true↔(Sp.has m2 a=true∨(a∈x.wa∧Mk.obj x.S a))):=by
 refine⟨fun a=>by rw[C.has2,soft H hf],fun a=> ?_⟩
 rw[C.has3,rch_flat2 (flat_kids H hf),C.mpn]
 constructor
 ·rintro(g|⟨⟨g1,g2,_⟩,_⟩)
  ·exact .inl g
  ·exact .inr ⟨g1,g2⟩
 ·rintro(g|⟨g1,g2⟩)
  ·exact .inl g
  ·by_cases e:Sp.has m2 a=true
   ·exact .inl e
   ·exact .inr ⟨⟨g1,g2,e⟩,g2⟩
end Fl
end Go.Proofs.YtfepdmpplahloaaGreat
