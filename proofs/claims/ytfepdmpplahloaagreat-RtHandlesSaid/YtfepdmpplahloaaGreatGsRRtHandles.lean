/- RtHandles: for every input the law returns true, and the input reads as it did. No condition. -/
import Derived.Test.YtfepdmpplahloaaGreatRows
import Derived.Test.YtfepdmpplahloaaGreatGsLRtHandles
import Derived.Test.YtfepdmpplahloaaGreatGsRow
import Derived.Test.YtfepdmpplahloaaGreatGsRowK
import Derived.OpenShut
set_option linter.unusedSimpArgs false
set_option linter.unusedVariables false
namespace Go.Proofs.YtfepdmpplahloaaGreat.rtHandles
open Go.ChangeShapes Go.WideShapes Go.ChangeAt Go.RowKit
theorem own:ownKnob Tryz.prog.godebug=none:=by kernel_rfl
theorem walk(w:World)(a0:Int)(w0:(Lit.int .u8 a0).wf=true):
  Calls Tryz.prog 4 #[.int .u8 a0] w fun e w'=>e= .returned (.bool true)∧Below w.heap.size w w':=
 Gl.law_row (law_rthandles a0 (Gl.u8_wf w0))
set_option maxRecDepth 100000 in
theorem lifted(os:Os)(started:os.Started)(H:Type)(enc:TypeId×Value→H):
  ReturnsInHanded {} Tryz.checked os 4 .any (Rows.rtHandlesSpec.pre6 enc Tryz.prog Tryz.f4 Rows.rtHandlesRow.domain false) (Rows.rtHandlesSpec.post enc Tryz.prog Tryz.f4 false true false false):=by
 refine returnsInHanded_of_change (C:=Tryz.checked) own started (by kernel_rfl) Tryz.func4
  (ChangeSpec.witness6 (enc:=enc) (C:=Tryz.checked) false ⟨#[],#[.int .u8 0],[]⟩ 8 (by kernel_rfl) (by kernel_rfl) (by kernel_rfl) (by kernel_rfl)) ?_
 intro W base args ds gs before hval0 hW hcnd _
 have hval:∀(j:Nat) t v,Tryz.f4.params[j]? =some t→args[j]? =some v→Value.okWide Tryz.prog W .any base t v:=hval0
 have hW':=hW
 obtain⟨p,q,hA0,hV,rfl,hfz,hnd⟩:=hW
 have hA:DataW.TrodAll enc Tryz.prog W 0 (fun _=>true) true Tryz.f4.params.toList args.toList ds p:=hA0
 rw[Tryz.params4]at hA hval
 obtain⟨v0,vs0,d0,ds0,p0,q0,hargs,rfl,rfl,h0,r0⟩:=trodAll_cons hA
 obtain⟨rfl,rfl,rfl⟩:=trodAll_nil r0
 obtain rfl:args= #[v0]:=by cases args;simp_all
 obtain⟨rfl,rfl⟩:=trodVars_none hV
 obtain⟨a0,rfl,rfl,rfl,w0⟩:=open_int Tryz.underlying5 (hval 0 5 v0 rfl rfl) h0
 clear hA0 hval0
 simp only[List.append_nil]at hW'
 refine(walk W a0 w0).mono fun e W' ⟨he,hg⟩=> ?_
 subst he
 exact⟨_,rfl,⟨_,_,_,[],_,[],hW',trodAll_cons_mk (shut_bool Tryz.underlying4 _) trodAll_mk0,(trodAll_cons_mk (shut_int Tryz.underlying5 w0) trodAll_mk0),rfl,hg.frame _,fun h=>by cases h⟩⟩
theorem and3{a b c:Bool}(h:(a&&(b&&c))=true):a=true∧b=true∧c=true:=by cases a<;>cases b<;>cases c<;>simp_all
theorem j1:(Rows.rtHandlesRow.inPlace==Tryz.pinned.checked.prog.inPlace 4&&(Rows.rtHandlesRow.unfollowed==Tryz.pinned.checked.prog.unfollowed 4&&Rows.rtHandlesRow.recurses==Tryz.pinned.checked.prog.recurses 4))=true:=by kernel_rfl
theorem j2:(Rows.rtHandlesRow.named==Tryz.pinned.checked.prog.varsNamed 4)=true:=by kernel_rfl
theorem closed:joinedFacts Tryz.pinned.checked.prog 4 Tryz.f4 Rows.rtHandlesSpec Rows.rtHandlesRow=true:=by
 unfold joinedFacts
 rw[row_make,row_lifts,row_may,(and3 j1).1,(and3 j1).2.1,(and3 j1).2.2,j2]
 kernel_rfl
theorem over:Rows.rtHandlesRow.holds Tryz.pinned (OpenSpec.ofChange Rows.rtHandlesSpec):=
 OpenClaim.holds_of_wide 4 Tryz.f4 rfl rfl rfl rfl rfl rfl rfl ⟨rfl,rfl,rfl,rfl,rfl⟩ rfl rfl rfl rfl rfl (by kernel_rfl) Tryz.func4 closed
  (of_decide_eq_true (by kernel_rfl)) (by unfold Func.isWrapper;first |(rw[if_pos (by decide+kernel)];kernel_rfl)|(rw[if_neg (by decide+kernel)];exact⟨rfl,rfl⟩))
  (fun os started H enc _=>lifted os started H enc)
theorem proved:Rows.RtHandlesSaid:=
 over
#print axioms proved
end Go.Proofs.YtfepdmpplahloaaGreat.rtHandles
