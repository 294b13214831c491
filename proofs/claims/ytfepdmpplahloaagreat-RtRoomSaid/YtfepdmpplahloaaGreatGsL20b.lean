/- Collections of heaps that are known by their objects: what they come to. -/
import Derived.Test.YtfepdmpplahloaaGreatGsBx
import Derived.Test.YtfepdmpplahloaaGreatGsInv2
set_option linter.unusedSimpArgs false
set_option linter.unusedVariables false
namespace Go.Proofs.YtfepdmpplahloaaGreat
open Go Go.Gl
variable{ρ0 ρ:FR}{L L':List Asn}{Post:Value→List Asn→Prop}{T:Tree}
def Flat(S:Spc)(cs:List Cls):Prop:=∀a,Mk.obj S a→∀b∈Mk.kids S cs a,¬Mk.obj S b
end Go.Proofs.YtfepdmpplahloaaGreat
namespace Go.Proofs.YtfepdmpplahloaaGreat
open Go Go.Gl
variable{ρ0 ρ:FR}{L L':List Asn}{Post:Value→List Asn→Prop}{T:Tree}
theorem Spec.post{P:Program}{f:FuncId}{args:List Value}{A:List Asn}{r:RK}{B B':RT r→List Asn→Prop}(h:Gl.Spec ρ P f args A r B)(hb:∀x M,B x M→B' x M):Gl.Spec ρ P f args A r B':=fun R w hw=>
 Calls.mono (h R w hw) fun e w' ⟨x,L,h1,h2,h3⟩=>⟨x,L,h1,hb x L h2,h3⟩
namespace Hn
theorem mem_all{hs:List Slot}(hl:hs.length=512){a:Int}:a∈(all hs).map (·.2)↔(a≠0∧∃t,t<512∧(at' hs t).2=a):=by
 unfold all
 rw[List.mem_map,hl]
 constructor
 ·rintro⟨e,he,rfl⟩
  obtain⟨t,ht,h⟩:=List.mem_flatMap.mp he
  rw[List.mem_range]at ht
  unfold all1 at h
  split at h
  ·rename_i g
   rw[List.mem_singleton]at h
   subst h
   exact⟨g,t,ht,rfl⟩
  ·cases h
 ·rintro⟨h0,t,ht,rfl⟩
  refine⟨(told hs t,(at' hs t).2),List.mem_flatMap.mpr ⟨t,List.mem_range.mpr ht,?_⟩,rfl⟩
  unfold all1
  rw[if_pos h0];simp
end Hn
theorem mem_roots{x:Rt}(hl:x.hs.length=512){a:Int}(ha:0<a):a∈x.roots↔((∃t,t<512∧(Hn.at' x.hs t).2=a)∨a∈x.ro∨(∃r∈x.rows,a∈r.take 1)∨a∈x.pe):=by
 unfold Rt.roots
 rw[Mg.mem_merge]
 constructor
 ·rintro⟨_,r,hr,h⟩
  simp only[List.mem_cons,List.not_mem_nil,or_false]at hr
  rcases hr with rfl|rfl|rfl|rfl
  ·exact .inl ((Hn.mem_all hl).mp h).2
  ·exact .inr (.inl h)
  ·exact .inr (.inr (.inl (List.mem_flatMap.mp h)))
  ·exact .inr (.inr (.inr h))
 ·rintro(h|h|h|h)
  ·exact⟨ha,_,by simp,(Hn.mem_all hl).mpr ⟨by omega,h⟩⟩
  ·exact⟨ha,x.ro,by simp,h⟩
  ·exact⟨ha,x.rows.flatMap (·.take 1),by simp,List.mem_flatMap.mpr h⟩
  ·exact⟨ha,x.pe,by simp,h⟩
end Go.Proofs.YtfepdmpplahloaaGreat
