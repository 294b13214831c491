/- What is asked of both heaps. -/
import Derived.Test.YtfepdmpplahloaaGreatGsGraph2
import Derived.Test.YtfepdmpplahloaaGreatGsRefE
import Derived.Test.YtfepdmpplahloaaGreatGsMark5
set_option linter.unusedSimpArgs false
set_option linter.unusedVariables false
namespace Go.Proofs.YtfepdmpplahloaaGreat
open Go Go.Gl
variable{ρ0 ρ:FR}{L L':List aA}{Post:Value→List aA→Prop}{T:Tree}
theorem cb{S:aD}{cs:List aS}(hw:aO S cs){a:Int}:a∈Sp.each S↔∃h,Ob.head S a=some h:=by
 constructor
 ·intro h
  obtain⟨n,w,rfl,hf⟩:=(cg hw.wf).mp h
  exact⟨_,by unfold Ob.head;rw[hf];dsimp only;rw[if_pos rfl]⟩
 ·rintro⟨h,hh⟩
  obtain⟨n,w,rfl,hf,_⟩:=Ob.bt hw hh
  exact(cg hw.wf).mpr ⟨n,w,rfl,hf⟩
theorem Kn.make{S:aD}{cs:List aS}(hw:aO S cs)(hk:Kn S cs)(h:Hd):Kn (Ob.make S cs h).2.2 cs:=by
 by_cases h0:(Ob.make S cs h).2.1=0
 ·intro a h' hh hk1
  have hin:=(nP hw h0).mem_iff.mp ((cb (hw.make h)).mpr ⟨h',hh⟩)
  rcases List.mem_cons.mp hin with rfl|hin
  ·rw[Ob.eA hw h0]at hh
   injection hh with hh
   subst hh
   obtain⟨_,_,_,hm,_⟩:=Ob.g9 hw h0
   unfold Ob.may at hm
   split at hm
   ·cases hm
   ·rw[if_neg (fun g=>g hk1)]at hm
    split at hm
    ·exact⟨_,by assumption⟩
    ·cases hm
  ·obtain⟨h1,hh1⟩:=(cb hw).mp hin
   rw[(Ob.bX hw h0 hh1).1]at hh
   injection hh with hh
   subst hh
   exact hk a _ hh1 hk1
 ·have:(Ob.make S cs h).2.2=S:=by
   unfold Ob.make at h0⊢
   split
   ·rfl
   ·rename_i h1
    rw[if_neg h1]at h0
    split
    ·rfl
    ·rename_i h2;rw[if_neg h2]at h0;exact absurd rfl h0
  rw[this];exact hk
theorem Kn.put{S:aD}{cs:List aS}(hw:aO S cs)(hk:Kn S cs)(a i x:Int):Kn (Ob.put S a i x).2 cs:=by
 by_cases h0:(Ob.fieldAt S a i).2=0
 ·obtain⟨hd,e,i0,i1,_⟩:=Ob.ee hw h0
  obtain⟨_,hkeep⟩:=Ob.j9 (x:=x) hw e i0 i1
  intro b h' hh hk1
  have hin:=(cb (hw.put a i x)).mpr ⟨h',hh⟩
  rw[kj hw]at hin
  obtain⟨h1,hh1⟩:=(cb hw).mp hin
  rw[(hkeep b h1 hh1).1]at hh
  injection hh with hh
  subst hh
  exact hk b _ hh1 hk1
 ·have:(Ob.put S a i x).2=S:=by unfold Ob.put;rw[if_pos h0]
  rw[this];exact hk
theorem Kn.final{S:aD}{cs:List aS}(hw:aO S cs)(hk:Kn S cs)(a:Int):Kn (Ob.final S a).2 cs:=by
 cases hh:Ob.head S a with
 |none=>
  have:(Ob.final S a).2=S:=by unfold Ob.final;rw[hh]
  rw[this];exact hk
 |some h=>
  by_cases h4:h.k=4
  ·have:(Ob.final S a).2=S:=by unfold Ob.final;rw[hh];dsimp only;rw[if_pos h4]
   rw[this];exact hk
  ·cases hf:h.f with
   |true=>
    have:(Ob.final S a).2=S:=by unfold Ob.final;rw[hh];dsimp only;rw[if_neg h4,if_pos hf]
    rw[this];exact hk
   |false=>
    obtain⟨_,g2,g3,_⟩:=Ob.fu hw hh h4 hf
    have he:Sp.each (Ob.final S a).2=Sp.each S:=by
     unfold Ob.final;rw[hh];dsimp only;rw[if_neg h4,if_neg (by rw[hf];simp)];rfl
    intro b h' hb hk1
    have hin:=(cb (hw.final a)).mpr ⟨h',hb⟩
    rw[he]at hin
    obtain⟨h1,hh1⟩:=(cb hw).mp hin
    by_cases hba:b=a
    ·subst hba
     rw[g2]at hb
     injection hb with hb
     subst hb
     exact hk b h hh hk1
    ·rw[g3 b h1 hba hh1]at hb
     injection hb with hb
     subst hb
     exact hk b _ hh1 hk1
theorem aO.dC{S:aD}{cs:List aS}(hw:aO S cs){n:Int}{xs:List Int}(hl:xs.length≤2^20):aO S (Sp.dC cs (n,xs)).2.2:=by
 unfold Sp.dC
 split
 ·exact hw
 ·split
  ·exact hw
  ·exact B7 hw (by omega) hl
theorem Kn.dC{S:aD}{cs:List aS}(hk:Kn S cs){c:aS}:Kn S (Sp.dC cs c).2.2:=by
 unfold Sp.dC
 split
 ·exact hk
 ·split
  ·exact hk
  ·intro a h hh hk1
   obtain⟨x,hx⟩:=hk a h hh hk1
   obtain⟨i,hi,hx⟩:=Sp.jl hx
   refine⟨x,?_⟩
   have hlt:=aV hx
   unfold Sp.fP
   dsimp only
   rw[if_pos ⟨by omega,by simp;omega⟩,List.getElem?_append_left (by omega),show(h.c-1).toNat=i by omega]
   exact hx
end Go.Proofs.YtfepdmpplahloaaGreat
