/- The document's example of law 20. -/
import Derived.Test.YtfepdmpplahloaaGreatGsL20
set_option linter.unusedSimpArgs false
set_option linter.unusedVariables false
namespace Go.Proofs.YtfepdmpplahloaaGreat
open Go Go.Gl
variable{ρ0 ρ:FR}{L L':List Asn}{Post:Value→List Asn→Prop}{T:Tree}
theorem new_head{n:Nat}(h0:1≤n)(a:Int):Ob.head (Sp.newSpc n) a=none:=by unfold Ob.head;rw[newSpc_find h0]
theorem new_each{n:Nat}(h0:1≤n)(h1:n≤256):Sp.each (Sp.newSpc n)=[]:=by
 rw[List.eq_nil_iff_forall_not_mem]
 intro a ha
 obtain⟨m,w,rfl,hf⟩:=(mem_each (newSpc_hwf h0 h1).wf).mp ha
 rw[newSpc_find h0]at hf;cases hf
end Go.Proofs.YtfepdmpplahloaaGreat
