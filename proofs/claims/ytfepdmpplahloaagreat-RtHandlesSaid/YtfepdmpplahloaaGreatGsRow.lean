/- What a contract says of a law's call. -/
import Derived.Test.YtfepdmpplahloaaGreatGsOp
import Derived.OpenShut
import Derived.ProofKit
import Derived.Carry
set_option linter.unusedSimpArgs false
set_option linter.unusedVariables false
namespace Go.Gl
open Go
def FR.all(w:World):FR:=⟨fun b=>w.heap[b]?,w⟩
theorem FR.all_sat(w:World):Sat (FR.all w) [] w:=
 ⟨⟨fun _=>none,fun _=>rfl,fun b o h=>by cases h⟩,⟨fun b o h=>h,⟨rfl,rfl,rfl⟩⟩⟩
theorem Sat.belowAll{w w':World}{L:List Asn}(h:Sat (FR.all w) L w'):RowKit.Below w.heap.size w w':=by
 obtain⟨_,h3⟩:=h
 have hb:∀k,k<w.heap.size→w'.heap[k]? =w.heap[k]? :=fun k hk=>by
  have hs:w.heap[k]? =some w.heap[k]:=by simp[hk]
  rw[hs];exact h3.mem k _ hs
 refine⟨h3.same.1,h3.same.2.1,h3.same.2.2,?_,hb⟩
 rcases Nat.eq_zero_or_pos w.heap.size with h0|h0
 ·omega
 ·have h1:=hb (w.heap.size-1) (by omega)
  have hs:w.heap[w.heap.size-1]? =some (w.heap[w.heap.size-1]'(by omega)):=Array.getElem?_eq_getElem (by omega)
  rw[hs]at h1
  have:=(Array.getElem?_eq_some_iff.1 h1).1
  omega
theorem law_row{P:Program}{f:FuncId}{args:List Value}{w:World}(h:Spec (FR.all w) P f args [] (.one (.l .bool)) fun r M=>r=true∧M=[]):
  Calls P f args.toArray w fun e w'=>e= .returned (.bool true)∧RowKit.Below w.heap.size w w':=by
 refine(h [] w (FR.all_sat w)).mono ?_
 rintro e w' ⟨x,L,rfl,⟨rfl,rfl⟩,hs⟩
 exact⟨rfl,hs.belowAll⟩
theorem u8_wf{a:Int}(h:(Lit.int .u8 a).wf=true):0≤a∧a<256:=by
 simp[Lit.wf,IntKind.min,IntKind.max,IntKind.signed,IntKind.bits]at h
 omega
end Go.Gl
