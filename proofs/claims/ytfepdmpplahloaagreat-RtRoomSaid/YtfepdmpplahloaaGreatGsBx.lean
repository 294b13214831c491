/- Heaps that are made one object behind the other: known by their list of objects. -/
import Derived.Test.YtfepdmpplahloaaGreatGsRefR
set_option linter.unusedSimpArgs false
set_option linter.unusedVariables false
namespace Go.Proofs.YtfepdmpplahloaaGreat
open Go Go.Gl
variable{ρ0 ρ:FR}{L L':List Asn}{Post:Value→List Asn→Prop}{T:Tree}
namespace Bx
variable{S:Spc}{cs:List Cls}{P:Nat}{os:List Ob1}
def kidsO(o:Ob1):List Int:=if o.h.k=2 then o.ws else if o.h.k=4 then[o.ws.getD 2 0]else[]
end Bx
theorem Mk.Rch.le{S:Spc}{cs:List Cls}{ro:List Int}{T:Int→Prop}(h1:∀a∈ro,Mk.obj S a→T a)(h2:∀a,T a→Mk.obj S a→∀b∈Mk.kids S cs a,Mk.obj S b→T b){a:Int}(h:Mk.Rch S cs ro a):T a:=by
 induction h with
 |root h ho=>exact h1 _ h ho
 |step h hb ho ih=>exact h2 _ ih h.obj _ hb ho
theorem SoftR.le{S:Spc}{cs:List Cls}{l:List Rf6}{x:In7}{R T:Int→Prop}(h0:∀a,R a→T a)(h1:∀r∈l,r.2.1=1→x.all=false→T r.1→Sf.keep x.clock r.2.2.2.2.1 x.free x.rate=true→Mk.obj S r.2.2.1→T r.2.2.1)
  (h2:∀a,T a→Mk.obj S a→∀b∈Mk.kids S cs a,Mk.obj S b→T b) {a:Int} (h:SoftR S cs l x R a):T a:=by
 induction h with
 |base h=>exact h0 _ h
 |keep hr g1 g2 _ g4 go ga ih=>
  refine ga.le (fun b hb ho=> ?_) h2
  rw[List.mem_singleton]at hb
  subst hb
  exact h1 _ hr g1 g2 ih g4 go
end Go.Proofs.YtfepdmpplahloaaGreat
