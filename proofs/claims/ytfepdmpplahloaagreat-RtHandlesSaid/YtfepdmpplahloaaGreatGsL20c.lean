/- Laws of a runtime's parts: references. -/
import Derived.Test.YtfepdmpplahloaaGreatGsL20b
set_option linter.unusedSimpArgs false
set_option linter.unusedVariables false
namespace Go.Gl
open Go
variable{ρ0 ρ:FR}{L L':List Asn}{Post:Value→List Asn→Prop}{T:Tree}
end Go.Gl
namespace Go.Proofs.YtfepdmpplahloaaGreat
open Go Go.Gl
variable{ρ0 ρ:FR}{L L':List Asn}{Post:Value→List Asn→Prop}{T:Tree}
theorem Bx.refer{S:Spc}{os:List Ob1}{rows:List (List Int)}{n c o q t:Int}(H:Bx S [] 60 os)(hn:os.length+1<60)(h1:1≤c)(h2:c≤3)(q1: -1≤q)(q2:q<rows.length)(q3:c=3→0≤q)(ho:∃x∈os,x.a=o):
  ∃a S',Rf.refer S [] rows n c o q t=(a,0,S',n+1)∧0<a∧Bx S' [] 60 (os++[⟨a,⟨4,c,5,false⟩,[o,q+1,0,t,n+1]⟩]):=by
 obtain⟨h0,H1⟩:=H.make hn (may_refer [] h1 h2) (need1 (by dsimp only;omega) (by dsimp only;omega))
 have hm:Rf.may S rows c o q=0:=by
  unfold Rf.may
  obtain⟨x,hx,rfl⟩:=ho
  rw[if_neg (by omega),if_neg (by omega),if_neg (by omega),if_neg (by omega),if_neg (fun g=>by have:=q3 g.1;omega),H.head x hx];rfl
 have e:Rf.refer S [] rows n c o q t=((Ob.make S [] ⟨4,c,5,false⟩).1,0,Rf.puts (Ob.make S [] ⟨4,c,5,false⟩).2.2 (Ob.make S [] ⟨4,c,5,false⟩).1 0 [o,q+1,0,t,n+1],n+1):=by
  unfold Rf.refer;rw[if_neg (fun g=>g hm),if_neg (fun g=>g h0)]
 rw[e]
 have hpos:0<(Ob.make S [] ⟨4,c,5,false⟩).1:=H1.bo.pos (List.mem_append_right _ (List.mem_singleton.mpr rfl))
 generalize(Ob.make S [] ⟨4,c,5,false⟩).1=a at*
 generalize(Ob.make S [] ⟨4,c,5,false⟩).2.2=S1 at*
 refine⟨a,_,rfl,hpos,?_⟩
 obtain⟨_,H2⟩:=H1.put get_last (k:=0) (show((0:Nat):Int)<5 by decide) o
 rw[set_last]at H2
 obtain⟨_,H3⟩:=H2.put get_last (k:=1) (show((1:Nat):Int)<5 by decide) (q+1)
 rw[set_last]at H3
 obtain⟨_,H4⟩:=H3.put get_last (k:=2) (show((2:Nat):Int)<5 by decide) 0
 rw[set_last]at H4
 obtain⟨_,H5⟩:=H4.put get_last (k:=3) (show((3:Nat):Int)<5 by decide) t
 rw[set_last]at H5
 obtain⟨_,H6⟩:=H5.put get_last (k:=4) (show((4:Nat):Int)<5 by decide) (n+1)
 rw[set_last]at H6
 exact H6
end Go.Proofs.YtfepdmpplahloaaGreat
