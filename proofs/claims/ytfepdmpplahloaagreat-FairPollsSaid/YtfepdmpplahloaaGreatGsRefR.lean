/- RefP RefQ Bor RefR. -/
import Derived.Test.YtfepdmpplahloaaGreatGsGraph2
import Derived.Test.YtfepdmpplahloaaGreatGsRefE
import Derived.Test.YtfepdmpplahloaaGreatGsMark5
import Derived.Test.YtfepdmpplahloaaGreatGsRuns
import Derived.Test.YtfepdmpplahloaaGreatGsProc8
import Derived.Test.YtfepdmpplahloaaGreatGsClass
set_option linter.unusedSimpArgs false
set_option linter.unusedVariables false
namespace Go.Proofs.YtfepdmpplahloaaGreat
open Go Go.Gl
variable{ρ0 ρ:FR}{L L':List aA}{Post:Value→List aA→Prop}{T:Tree}
end Go.Proofs.YtfepdmpplahloaaGreat
namespace Go.Proofs.YtfepdmpplahloaaGreat
open Go Go.Gl
variable{ρ0 ρ:FR}{L L':List aA}{Post:Value→List aA→Prop}{T:Tree}
end Go.Proofs.YtfepdmpplahloaaGreat
namespace Go.Gl
open Go
variable{ρ0 ρ:FR}{L L':List aA}{Post:Value→List aA→Prop}
theorem Sat.EW{b:Nat}{o:Obj}{w:World}(hr:ρ b=none)(H:Sat ⟨fun c=>if c=b then some o else ρ c,ρ.z⟩ L w):Sat ρ (Gl.pt b o::L) w:=by
 obtain⟨⟨h,hl,hh⟩,h3⟩:=H
 have hb:h b=none:=by
  cases e:h b with
  |none=>rfl
  |some u=>have:=(hh b u e).2;simp at this
 refine⟨⟨fun c=>((fun c=>if c=b then some o else none) c).or (h c),⟨_,h,fun c=> ?_,rfl,rfl,hl⟩,fun c u hu=> ?_⟩,⟨fun c u hc=> ?_,h3.same⟩⟩
 ·by_cases hc:c=b
  ·subst hc;exact .inr hb
  ·left;simp[hc]
 ·by_cases hc:c=b
  ·subst hc
   simp at hu
   subst hu
   exact⟨h3.mem c o (by simp),hr⟩
  ·simp[hc]at hu
   obtain⟨g1,g2⟩:=hh c u hu
   simp[hc]at g2
   exact⟨g1,g2⟩
 ·have hc':c≠b:=by rintro rfl;rw[hr]at hc;cases hc
  exact h3.mem c u (by simp[hc',hc])
theorem Sat.emp{A:aA}{w:World}(hA:A fun _=>none)(H:Sat ρ L w):Sat ρ (A::L) w:=by
 obtain⟨⟨h,hl,hh⟩,h3⟩:=H
 refine⟨⟨h,⟨fun _=>none,h,fun _=> .inl rfl,by funext c;simp,hA,hl⟩,hh⟩,h3⟩
theorem Spec.own{P:Program}{f:FuncId}{args:List Value}{A:List aA}{r:RK}{B:RT r→List aA→Prop}{s:ay}{m:Nat}{xs:List Value}(hs:∀ρ',Le ρ ρ'→eX ρ' s m xs→Spec ρ' P f args A r B):
  Spec ρ P f args (aE s m xs::A) r fun x M=>∃M',B x M'∧M=aE s m xs::M':=by
 intro R w hw
 rcases Sat.sl (L:=A++R) hw with ⟨g1,g2,g3,g4,g5⟩|⟨b,off,pre,rest,g1,g2,g3,g4,g5,g6⟩
 ·refine(hs ρ (Le.refl _) ⟨by rw[g4,g2];simp,.inl g2⟩ R w g5).mono ?_
  rintro e w' ⟨x,M,rfl,hB,hsat⟩
  exact⟨x,_,rfl,⟨M,hB,rfl⟩,Sat.emp (.inl ⟨g1,g2,g3,g4,fun _=>rfl⟩) hsat⟩
 ·obtain⟨⟨h0,⟨h1,h2,hd,rfl,⟨ty,ha⟩,hl⟩,hh⟩,h3⟩:=g6
  generalize ho:Obj.cells (pre++(xs++rest)).toArray ty (0,0)=o at*
  have hb1:h1 b=some o:=by rw[ha];simp
  have hr:ρ b=none:=(hh b o (by simp[hb1])).2
  have hb2:h2 b=none:=by
   rcases hd b with h|h
   ·rw[hb1]at h;cases h
   ·exact h
  have hle':Le ρ ⟨fun c=>if c=b then some o else ρ c,ρ.z⟩:=by
   refine⟨fun c o' hc=> ?_,rfl⟩
   have:c≠b:=by rintro rfl;rw[hr]at hc;cases hc
   simp[this,hc]
  have hw':Sat ⟨fun c=>if c=b then some o else ρ c,ρ.z⟩ (A++R) w:=by
   refine⟨⟨h2,hl,fun c u hc=> ?_⟩,⟨fun c u hc=> ?_,h3.same⟩⟩
   ·have hcb:c≠b:=by rintro rfl;rw[hb2]at hc;cases hc
    have h1c:h1 c=none:=by rw[ha];simp[hcb]
    have:=hh c u (by simp[h1c,hc])
    exact⟨this.1,by simp[hcb,this.2]⟩
   ·by_cases hcb:c=b
    ·subst hcb;simp at hc;subst hc;exact(hh c o (by simp[hb1])).1
    ·simp[hcb]at hc;exact h3.mem c u hc
  refine(hs _ hle' ⟨g3,.inr ⟨b,off,_,ty,(0,0),g1,by simp[←ho];rfl,fun i hi=> ?_⟩⟩ R w hw').mono ?_
  ·rw[List.getElem?_toArray,←g2,gp hi]
  ·rintro e w' ⟨x,M,rfl,hB,hsat⟩
   refine⟨x,_,rfl,⟨M,hB,rfl⟩,(Sat.EW hr hsat).imp ?_⟩
   intro h hh
   exact .inr ⟨b,off,pre,rest,g1,g2,g3,g4,g5,ty,by rw[ho];exact hh⟩
theorem Spec.Fc{P:Program}{f:FuncId}{args:List Value}{A:List aA}{r:RK}{B:RT r→List aA→Prop}{b:Nat}{cs:List Value}(hs:∀ρ':FR,Le ρ ρ'→(∃ty,ρ' b=some (.cells cs.toArray ty (0,0)))→Spec ρ' P f args A r B):
  Spec ρ P f args (aw b cs::A) r fun x M=>∃M',B x M'∧M=aw b cs::M':=by
 intro R w hw
 obtain⟨⟨h0,⟨h1,h2,hd,rfl,⟨ty,ha⟩,hl⟩,hh⟩,h3⟩:=hw
 generalize ho:Obj.cells cs.toArray ty (0,0)=o at*
 have hb1:h1 b=some o:=by rw[ha];simp
 have hr:ρ b=none:=(hh b o (by simp[hb1])).2
 have hb2:h2 b=none:=by
  rcases hd b with h|h
  ·rw[hb1]at h;cases h
  ·exact h
 have hle':Le ρ ⟨fun c=>if c=b then some o else ρ c,ρ.z⟩:=by
  refine⟨fun c o' hc=> ?_,rfl⟩
  have:c≠b:=by rintro rfl;rw[hr]at hc;cases hc
  simp[this,hc]
 have hw':Sat ⟨fun c=>if c=b then some o else ρ c,ρ.z⟩ (A++R) w:=by
  refine⟨⟨h2,hl,fun c u hc=> ?_⟩,⟨fun c u hc=> ?_,h3.same⟩⟩
  ·have hcb:c≠b:=by rintro rfl;rw[hb2]at hc;cases hc
   have h1c:h1 c=none:=by rw[ha];simp[hcb]
   have:=hh c u (by simp[h1c,hc])
   exact⟨this.1,by simp[hcb,this.2]⟩
  ·by_cases hcb:c=b
   ·subst hcb;simp at hc;subst hc;exact(hh c o (by simp[hb1])).1
   ·simp[hcb]at hc;exact h3.mem c u hc
 refine(hs _ hle' ⟨ty,by simp[←ho]⟩ R w hw').mono ?_
 rintro e w' ⟨x,M,rfl,hB,hsat⟩
 refine⟨x,_,rfl,⟨M,hB,rfl⟩,(Sat.EW hr hsat).imp ?_⟩
 intro h hh
 exact⟨ty,by rw[ho];exact hh⟩
end Go.Gl
namespace Go.Proofs.YtfepdmpplahloaaGreat
open Go Go.Gl
variable{ρ0 ρ:FR}{L L':List aA}{Post:Value→List aA→Prop}{T:Tree}
end Go.Proofs.YtfepdmpplahloaaGreat
