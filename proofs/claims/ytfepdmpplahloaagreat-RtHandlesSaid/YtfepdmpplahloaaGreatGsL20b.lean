/- Laws of collections: what they share. -/
import Derived.Test.YtfepdmpplahloaaGreatGsBx
import Derived.Test.YtfepdmpplahloaaGreatGsInv2
set_option linter.unusedSimpArgs false
set_option linter.unusedVariables false
namespace Go.Proofs.YtfepdmpplahloaaGreat
open Go Go.Gl
variable{ρ0 ρ:FR}{L L':List Asn}{Post:Value→List Asn→Prop}{T:Tree}
theorem may_box(cs:List Cls){n:Int}(h0:0≤n)(h1:n≤1023):Ob.may cs ⟨2,0,n,false⟩=0:=by
 have hm:Sp.mayH ⟨2,0,n,false⟩=true:=by
  unfold Sp.mayH;dsimp only
  rw[decide_eq_true (by omega),if_neg (by omega),if_pos (by omega)];rfl
 unfold Ob.may;rw[hm];rfl
theorem may_data(cs:List Cls){n:Int}(h0:0≤n)(h1:n≤1023):Ob.may cs ⟨3,0,n,false⟩=0:=by
 have hm:Sp.mayH ⟨3,0,n,false⟩=true:=by
  unfold Sp.mayH;dsimp only
  rw[decide_eq_true (by omega),if_neg (by omega),if_pos (by omega)];rfl
 unfold Ob.may;rw[hm];rfl
theorem may_refer(cs:List Cls){c:Int}(h0:1≤c)(h1:c≤3):Ob.may cs ⟨4,c,5,false⟩=0:=by
 have:c=1∨c=2∨c=3:=by omega
 rcases this with rfl|rfl|rfl<;>rfl
theorem set_last{os:List Ob1}{x y:Ob1}:(os++[x]).set os.length y=os++[y]:=by simp
theorem get_last{os:List Ob1}{x:Ob1}:(os++[x])[os.length]? =some x:=by simp
end Go.Proofs.YtfepdmpplahloaaGreat
namespace Go.Proofs.YtfepdmpplahloaaGreat
open Go Go.Gl
variable{ρ0 ρ:FR}{L L':List Asn}{Post:Value→List Asn→Prop}{T:Tree}
theorem Spec.post{P:Program}{f:FuncId}{args:List Value}{A:List Asn}{r:RK}{B B':RT r→List Asn→Prop}(h:Gl.Spec ρ P f args A r B)(hb:∀x M,B x M→B' x M):Gl.Spec ρ P f args A r B':=fun R w hw=>
 Calls.mono (h R w hw) fun e w' ⟨x,L,h1,h2,h3⟩=>⟨x,L,h1,hb x L h2,h3⟩
theorem new_bx:Bx (Sp.newSpc 60) [] 60 []:=by
 have h:=newSpc_hwf (n:=60) (by omega) (by omega)
 refine⟨h,⟨1,Pfx.new (by omega),by simp⟩,by kernel_rfl,?_,by simp,by simp,by simp⟩
 rw[new_each (by omega) (by omega)];exact .refl _
namespace Hn
end Hn
end Go.Proofs.YtfepdmpplahloaaGreat
