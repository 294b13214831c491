/- What laws of the runtime go by, where there are references. -/
import Derived.Test.YtfepdmpplahloaaGreatGsRtB
import Derived.Test.YtfepdmpplahloaaGreatGsL20c
import Derived.Test.YtfepdmpplahloaaGreatGsDq
set_option linter.unusedSimpArgs false
set_option linter.unusedVariables false
namespace Go.Proofs.YtfepdmpplahloaaGreat
open Go Go.Gl
variable{ρ0 ρ:FR}{L L':List Asn}{Post:Value→List Asn→Prop}{T:Tree}
theorem en_errS{e:Int}{M R:List Asn}{K:Int→(World→Prop)→Tree}(t:Takes L M R)(h:Tr ρ0 ρ L (K e (Sat ρ M)) Post):
  Tr ρ0 ρ L (call Tryz.prog 10 [.int .i64 e] (.one (.l (.int .i64))) fun r=>chk (Sat ρ M) (narrow (Sat ρ M) (K r))) Post:=by
 refine en_call (law_err e) .nil ?_
 rintro _ _ ⟨rfl,rfl⟩
 exact en_chk t (en_cut M t (fun w h=>h) h)
namespace Rx
variable{x:Rt}{h o:Int}{hd:Hd}
end Rx
namespace Rx
theorem poll_is{x:Rt}{a f:Int}{t:List Int}(h:Qu.has x.rows a=true)(h0:Qu.row x.rows a=f::t)(hf:Hn.free x.hs≠none):
  poll x a=(giveR {x with S:=(Ob.put x.S f 2 0).2,rows:=x.rows.set a.toNat t} f,giveS {x with S:=(Ob.put x.S f 2 0).2,rows:=x.rows.set a.toNat t} f):=by
 have e1:Qu.pollR x.rows a=(f,0):=by unfold Qu.pollR;rw[if_pos h,h0];rfl
 have e2:Qu.pollS x.S x.rows a=(Ob.put x.S f 2 0).2:=by unfold Qu.pollS;rw[if_pos ⟨h,by rw[h0];simp⟩,h0];rfl
 have e3:Qu.pollQ x.rows a=x.rows.set a.toNat t:=by unfold Qu.pollQ;rw[if_pos h,h0];rfl
 unfold poll
 rw[if_neg (fun g=>by rw[h]at g;cases g),if_neg (by rw[h0];simp),if_neg hf,e1,e2,e3,if_neg (fun g=>g rfl)]
end Rx
section
variable(i:Pl)(q:Nat){N:Int}{cs:List Cls}{rows:List (List Int)}{ser:Int}{S:Spc}{l:List Hn.Slot}{ro wa pe:List Int}{ck rn:Int}{os:List Ob1}
end
end Go.Proofs.YtfepdmpplahloaaGreat
