/- The document's finalizers. -/
import Derived.Test.YtfepdmpplahloaaGreatGsGc4
import Derived.Test.YtfepdmpplahloaaGreatGsRefR
import Derived.Test.YtfepdmpplahloaaGreatGsL20b
import Derived.Test.YtfepdmpplahloaaGreatGsInv2
import Derived.Test.YtfepdmpplahloaaGreatGsAft
set_option linter.unusedSimpArgs false
set_option linter.unusedVariables false
namespace Go.Proofs.YtfepdmpplahloaaGreat
open Go Go.Gl
variable{ρ0 ρ:FR}{L L':List Asn}{Post:Value→List Asn→Prop}{T:Tree}
theorem Takes.skip1{B:Asn}:∀{L M R:List Asn},Takes L M R→Takes (B::L) M (B::R)
 |_,_,_,.nil=> .nil
 |_,_,_,.cons h hs=> .cons (.skip h) hs.skip1
end Go.Proofs.YtfepdmpplahloaaGreat
namespace Go.Proofs.YtfepdmpplahloaaGreat
open Go Go.Gl
variable{ρ0 ρ:FR}{L L':List Asn}{Post:Value→List Asn→Prop}{T:Tree}
def QN(S:Spc)(n:Int):Prop:=∀a,Qu.isR S a=true→(Ob.get S a 1).1≤n
namespace QN
variable{S S':Spc}{cs:List Cls}{n:Int}
end QN
structure Rt.InvD(x:Rt):Prop where
 qn:QN x.S x.rows.length
 kn:Kn x.S x.cs
 cl:∀c∈x.cs,c.2.length≤1023
end Go.Proofs.YtfepdmpplahloaaGreat
namespace Go.Proofs.YtfepdmpplahloaaGreat
open Go Go.Gl
namespace Sd
variable{S S':Spc}{cs:List Cls}
end Sd
theorem clr_isR{S:Spc}{cs:List Cls}(hw:HWf S cs){x:In7}{ro fs:List Int}{l:List Rf6}{m2 m3:List Bool}(hC:Coll S cs x ro fs l m2 m3){a:Int}(ha:a∈clrOf S m2 m3 l):Qu.isR S a=true:=by
 unfold clrOf at ha
 rw[List.mem_append]at ha
 rcases ha with h|h<;>obtain⟨hd,hh,hk,_⟩:=(mem_clr hw hC.perm).mp h<;>unfold Qu.isR<;>rw[hh]<;>simpa using hk
theorem clr_nodup{S:Spc}{cs:List Cls}(hw:HWf S cs){x:In7}{ro fs:List Int}{l:List Rf6}{m2 m3:List Bool}(hC:Coll S cs x ro fs l m2 m3):(clrOf S m2 m3 l).Nodup:=by
 unfold clrOf
 rw[List.nodup_append]
 refine⟨clear_nodup hw hC.perm,clear_nodup hw hC.perm,fun a ha b hb e=> ?_⟩
 subst e
 obtain⟨hd,hh,_,h1,_⟩:=(mem_clr hw hC.perm).mp ha
 obtain⟨hd',hh',_,h3,_⟩:=(mem_clr hw hC.perm).mp hb
 rw[hh]at hh';injection hh' with hh';subst hh'
 have h3:=List.mem_singleton.mp h3
 rw[h3]at h1;simp at h1
end Go.Proofs.YtfepdmpplahloaaGreat
