/- The document's finalizers. -/
import Derived.Test.YtfepdmpplahloaaGreatGsGc3
import Derived.Test.YtfepdmpplahloaaGreatGsRefR
import Derived.Test.YtfepdmpplahloaaGreatGsL20c
import Derived.Test.YtfepdmpplahloaaGreatGsInv2
import Derived.Test.YtfepdmpplahloaaGreatGsAft
import Derived.Test.YtfepdmpplahloaaGreatGsRtB
set_option linter.unusedSimpArgs false
set_option linter.unusedVariables false
namespace Go.Proofs.YtfepdmpplahloaaGreat
open Go Go.Gl
variable{ρ0 ρ:FR}{L L':List Asn}{Post:Value→List Asn→Prop}{T:Tree}
theorem Takes.skip1{B:Asn}:∀{L M R:List Asn},Takes L M R→Takes (B::L) M (B::R)
 |_,_,_,.nil=> .nil
 |_,_,_,.cons h hs=> .cons (.skip h) hs.skip1
end Go.Proofs.YtfepdmpplahloaaGreat
namespace Go.Proofs.YtfepdmpplahloaaGreat
open Go Go.Gl
variable{ρ0 ρ:FR}{L L':List Asn}{Post:Value→List Asn→Prop}{T:Tree}
def QN(S:Spc)(n:Int):Prop:=∀a,Qu.isR S a=true→(Ob.get S a 1).1≤n
namespace QN
variable{S S':Spc}{cs:List Cls}{n:Int}
end QN
structure Rt.InvD(x:Rt):Prop where
 qn:QN x.S x.rows.length
 kn:Kn x.S x.cs
 cl:∀c∈x.cs,c.2.length≤1023
end Go.Proofs.YtfepdmpplahloaaGreat
namespace Go.Proofs.YtfepdmpplahloaaGreat
open Go Go.Gl
theorem get_any(S:Spc)(b j:Int):(∃hd,Ob.head S b=some hd∧0≤j∧j<hd.n)∨(Ob.get S b j).1=0:=by
 cases hb:Ob.head S b with
 |none=>right;unfold Ob.get Ob.fieldAt;rw[hb];rfl
 |some hd=>
  by_cases h:j<0∨j≥hd.n
  ·right
   have e:Ob.fieldAt S b j=(0,1):=by unfold Ob.fieldAt;rw[hb];dsimp only;rw[if_pos h]
   unfold Ob.get;rw[e];rfl
  ·left;exact⟨hd,rfl,by omega,by omega⟩
namespace Sd
variable{S S':Spc}{cs:List Cls}
end Sd
theorem clr_isR{S:Spc}{cs:List Cls}(hw:HWf S cs){x:In7}{ro fs:List Int}{l:List Rf6}{m2 m3:List Bool}(hC:Coll S cs x ro fs l m2 m3){a:Int}(ha:a∈clrOf S m2 m3 l):Qu.isR S a=true:=by
 unfold clrOf at ha
 rw[List.mem_append]at ha
 rcases ha with h|h<;>obtain⟨hd,hh,hk,_⟩:=(mem_clr hw hC.perm).mp h<;>unfold Qu.isR<;>rw[hh]<;>simpa using hk
theorem clr_nodup{S:Spc}{cs:List Cls}(hw:HWf S cs){x:In7}{ro fs:List Int}{l:List Rf6}{m2 m3:List Bool}(hC:Coll S cs x ro fs l m2 m3):(clrOf S m2 m3 l).Nodup:=by
 unfold clrOf
 rw[List.nodup_append]
 refine⟨clear_nodup hw hC.perm,clear_nodup hw hC.perm,fun a ha b hb e=> ?_⟩
 subst e
 obtain⟨hd,hh,_,h1,_⟩:=(mem_clr hw hC.perm).mp ha
 obtain⟨hd',hh',_,h3,_⟩:=(mem_clr hw hC.perm).mp hb
 rw[hh]at hh';injection hh' with hh';subst hh'
 have h3:=List.mem_singleton.mp h3
 rw[h3]at h1;simp at h1
end Go.Proofs.YtfepdmpplahloaaGreat
namespace Go.Proofs.YtfepdmpplahloaaGreat
open Go Go.Gl
variable{ρ0 ρ:FR}{L L':List Asn}{Post:Value→List Asn→Prop}{T:Tree}
namespace Rx
def Keeps(mk:Rt→Ans2):Prop:=∀(M:Int) (y:Rt),y.Inv M→(mk y).2.Inv (M+1)
theorem keeps_mk{h:Hd}(hk:h.k≠4):Keeps (mk h):=fun M y Iy=>
 {Iy with w:=Iy.w.make hk,ser:=⟨Iy.ser.1,by have:=Iy.ser.2;show y.ser≤_;omega⟩,rn:=⟨Iy.rn.1,by have:=Iy.rn.2;show y.rn≤_;omega⟩,h:=Iy.h.le (by omega)}
theorem keeps_rmk(a o c:Int):Keeps (rmk a o c):=fun M y Iy=>by
 obtain⟨w',s1,s2⟩:=Iy.w.refer a o c y.ck Iy.ck.2 Iy.ser.1
 exact{w:=w',h:=Iy.h.le (by omega),ro:=Iy.ro,ck:=Iy.ck,ser:=⟨by have:=Iy.ser.1;show 0≤(Rf.refer y.S y.cs y.rows y.ser a o c y.ck).2.2.2;omega,by have:=Iy.ser.2;show(Rf.refer y.S y.cs y.rows y.ser a o c y.ck).2.2.2≤_;omega⟩,rn:=⟨Iy.rn.1,by have:=Iy.rn.2;show y.rn≤_;omega⟩,rate:=Iy.rate,stack:=Iy.stack}
end Rx
namespace Rt.Wll
variable{x:Rt}{N M:Int}
end Rt.Wll
namespace Hn
end Hn
namespace Rt.Snd
variable{x:Rt}{N M:Int}
end Rt.Snd
namespace QN
variable{S S':Spc}{cs:List Cls}{n:Int}
end QN
namespace Rx
variable{x:Rt}{N:Int}
end Rx
end Go.Proofs.YtfepdmpplahloaaGreat
