/- What a contract says of a law's call. -/
import Derived.Test.YtfepdmpplahloaaGreatGsOp
import Derived.OpenShut
import Derived.ProofKit
import Derived.Carry
import Derived.Test.YtfepdmpplahloaaGreatRows
import Derived.JoinedOf
import Derived.KernelRfl
set_option linter.unusedSimpArgs false
set_option linter.unusedVariables false
namespace Go.Gl
open Go
def FR.all(w:World):FR:=⟨fun b=>w.heap[b]?,w⟩
theorem FR.C0(w:World):Sat (FR.all w) [] w:=
 ⟨⟨fun _=>none,fun _=>rfl,fun b o h=>by cases h⟩,⟨fun b o h=>h,⟨rfl,rfl,rfl⟩⟩⟩
theorem Sat.yT{w w':World}{L:List aA}(h:Sat (FR.all w) L w'):RowKit.Below w.heap.size w w':=by
 obtain⟨_,h3⟩:=h
 have hb:∀k,k<w.heap.size→w'.heap[k]? =w.heap[k]? :=fun k hk=>by
  have hs:w.heap[k]? =some w.heap[k]:=by simp[hk]
  rw[hs];exact h3.mem k _ hs
 refine⟨h3.same.1,h3.same.2.1,h3.same.2.2,?_,hb⟩
 rcases Nat.eq_zero_or_pos w.heap.size with h0|h0
 ·omega
 ·have h1:=hb (w.heap.size-1) (by omega)
  have hs:w.heap[w.heap.size-1]? =some (w.heap[w.heap.size-1]'(by omega)):=Array.getElem?_eq_getElem (by omega)
  rw[hs]at h1
  have:=(Array.getElem?_eq_some_iff.1 h1).1
  omega
theorem Cu{P:Program}{f:FuncId}{args:List Value}{w:World}(h:Spec (FR.all w) P f args [] (.one (.l .bool)) fun r M=>r=true∧M=[]):
  Calls P f args.toArray w fun e w'=>e= .returned (.bool true)∧RowKit.Below w.heap.size w w':=by
 refine(h [] w (FR.C0 w)).mono ?_
 rintro e w' ⟨x,L,rfl,⟨rfl,rfl⟩,hs⟩
 exact⟨rfl,hs.yT⟩
theorem C5{a:Int}(h:(Lit.int .u8 a).wf=true):0≤a∧a<256:=by
 simp[Lit.wf,IntKind.min,IntKind.max,IntKind.signed,IntKind.bits]at h
 omega
open Go.ChangeShapes Go.WideShapes Go.ChangeAt Go.RowKit in
theorem xA{H:Type}{enc:TypeId×Value→H}{P:Program}{k:IntKind}{t e:TypeId}{W:World}{base:Nat}{v:Value}{d:DataW H}{p:List MemPlace}(ht:P.underlying t=some (.slice e))(he:P.underlying e=some (.int k))(hc:P.cellsOf e=1)
  (lX:Value.okWide P W .any base t v) (h:DataW.Trod enc P W 0 (fun _=>true) true t v d p):
  ∃(s:ay) (l:List Int),v= .slice s.a s.n s.c∧eX (FR.all W) s 1 (l.map fun x=> .int k x)∧(∀x∈l,(Lit.int k x).wf=true)∧l.length<2^63:=by
 obtain⟨a1,len,cap,rfl⟩:=okWide_slice ht lX
 obtain⟨fuel,hf⟩:=h
 rcases open_ints ht he hc hf with ⟨qs,hx⟩|⟨a,len',cap',zs,qs,_,hl,hm,hz,hx,hcell,hwz⟩
 ·simp[Value.cells]at qs
  obtain⟨rfl,rfl,rfl⟩:=qs
  exact⟨⟨none,0,0⟩,[],rfl,⟨rfl,.inl rfl⟩,by simp,by simp⟩
 ·simp[Value.cells]at qs
  obtain⟨rfl,rfl,rfl⟩:=qs
  simp only[if_true]at hz
  have hmx:maxLen=2^63-1:=rfl
  have hlen:(zs.take len).length=len:=by simp;omega
  refine⟨⟨some a,len,cap⟩,zs.take len,rfl,⟨by rw[List.length_map,hlen];simp,?_⟩,fun x hx=>hwz x (List.mem_of_mem_take hx),by omega⟩
  rcases Nat.eq_zero_or_pos len with h0|h0
  ·exact .inl h0
  ·right
   obtain⟨ab,ao,spot⟩:=a
   have hspot:spot=none:=by simpa[Addr.add]using World.cell?_spot (hcell 0 (by omega))
   subst hspot
   have hc0:=hcell 0 (by omega)
   rw[gg,af]at hc0
   unfold World.cell? at hc0
   dsimp only at hc0
   split at hc0
   ·rename_i cs ty fr hb
    refine⟨ab,ao,cs,ty,fr,rfl,hb,fun i hi=> ?_⟩
    rw[List.length_map,hlen]at hi
    have hci:=hcell i (by omega)
    rw[gg,af]at hci
    unfold World.cell? at hci
    dsimp only at hci
    rw[hb]at hci
    dsimp only at hci
    rw[List.getElem?_map,List.getElem?_take,if_pos hi]
    have:zs[i]? =some (zs.getD i 0):=by
     have:i<zs.length:=by omega
     simp[List.getD_eq_getElem?_getD,this]
    rw[this,Option.map_some]
    exact hci
   ·cases hc0
end Go.Gl
namespace Go.Proofs.YtfepdmpplahloaaGreat
open Go
theorem CA:Tryz.pinned.checked.prog.mayEnter=true:=by kernel_rfl
end Go.Proofs.YtfepdmpplahloaaGreat
namespace Go.Proofs.YtfepdmpplahloaaGreat
open Go
theorem xQ:Tryz.pinned.checked.prog.liftsFinal=false:=by kernel_rfl
end Go.Proofs.YtfepdmpplahloaaGreat
namespace Go.Proofs.YtfepdmpplahloaaGreat
open Go
theorem zQ:Tryz.pinned.checked.prog.make=(some .cut):=by kernel_rfl
end Go.Proofs.YtfepdmpplahloaaGreat
