/- The document's finalizers. -/
import Derived.Test.YtfepdmpplahloaaGreatGsGc3
import Derived.Test.YtfepdmpplahloaaGreatGsRefR
import Derived.Test.YtfepdmpplahloaaGreatGsL20c
import Derived.Test.YtfepdmpplahloaaGreatGsInv2
set_option linter.unusedSimpArgs false
set_option linter.unusedVariables false
namespace Go.Proofs.YtfepdmpplahloaaGreat
open Go Go.Gl
variable{ρ0 ρ:FR}{L L':List Asn}{Post:Value→List Asn→Prop}{T:Tree}
theorem Takes.skip1{B:Asn}:∀{L M R:List Asn},Takes L M R→Takes (B::L) M (B::R)
 |_,_,_,.nil=> .nil
 |_,_,_,.cons h hs=> .cons (.skip h) hs.skip1
end Go.Proofs.YtfepdmpplahloaaGreat
namespace Go.Proofs.YtfepdmpplahloaaGreat
open Go Go.Gl
variable{ρ0 ρ:FR}{L L':List Asn}{Post:Value→List Asn→Prop}{T:Tree}
def QN(S:Spc)(n:Int):Prop:=∀a,Qu.isR S a=true→(Ob.get S a 1).1≤n
namespace QN
variable{S S':Spc}{cs:List Cls}{n:Int}
end QN
end Go.Proofs.YtfepdmpplahloaaGreat
