/- What is asked of both heaps. -/
import Derived.Test.YtfepdmpplahloaaGreatGsGraph2
import Derived.Test.YtfepdmpplahloaaGreatGsRefE
import Derived.Test.YtfepdmpplahloaaGreatGsMark5
set_option linter.unusedSimpArgs false
set_option linter.unusedVariables false
namespace Go.Proofs.YtfepdmpplahloaaGreat
open Go Go.Gl
variable{ρ0 ρ:FR}{L L':List Asn}{Post:Value→List Asn→Prop}{T:Tree}
theorem obj_each{S:Spc}{cs:List Cls}(hw:HWf S cs){a:Int}:a∈Sp.each S↔∃h,Ob.head S a=some h:=by
 constructor
 ·intro h
  obtain⟨n,w,rfl,hf⟩:=(mem_each hw.wf).mp h
  exact⟨_,by unfold Ob.head;rw[hf];dsimp only;rw[if_pos rfl]⟩
 ·rintro⟨h,hh⟩
  obtain⟨n,w,rfl,hf,_⟩:=Ob.head_is hw hh
  exact(mem_each hw.wf).mpr ⟨n,w,rfl,hf⟩
end Go.Proofs.YtfepdmpplahloaaGreat
