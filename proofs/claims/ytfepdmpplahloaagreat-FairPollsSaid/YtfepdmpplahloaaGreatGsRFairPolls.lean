/- FairPolls: for every input the law returns true, and the input reads as it did. No condition. -/
import Derived.Test.YtfepdmpplahloaaGreatRows
import Derived.Test.YtfepdmpplahloaaGreatGsLFairPolls
import Derived.Test.YtfepdmpplahloaaGreatGsRowK
import Derived.OpenShut
set_option linter.unusedSimpArgs false
set_option linter.unusedVariables false
namespace Go.Proofs.YtfepdmpplahloaaGreat.fairPolls
open Go.ChangeShapes Go.WideShapes Go.ChangeAt Go.RowKit
theorem own:ownKnob Tryz.prog.godebug=none:=by kernel_rfl
theorem laidOut:laidOutB Tryz.prog=true:=by kernel_rfl
theorem walk(w:World)(s0:Gl.ay)(l0:List Int)(a1:Int)(a2:Int)(w1:(Lit.int .u8 a1).wf=true)(w2:(Lit.int .u8 a2).wf=true)(r0:Gl.eX (Gl.FR.all w) s0 1 (l0.map fun x=> .int .u8 x))(b0:∀x∈l0,(Lit.int .u8 x).wf=true)(n0:l0.length<2^63):
  Calls Tryz.prog 7 #[.slice s0.a s0.n s0.c,.int .u8 a1,.int .u8 a2] w fun e w'=>e= .returned (.bool true)∧Below w.heap.size w w':=
 Gl.Cu (qv s0 l0 a1 a2 (Gl.C5 w1) (Gl.C5 w2) r0 b0 n0)
set_option maxRecDepth 100000 in
theorem lifted(os:Os)(started:os.Started)(H:Type)(enc:TypeId×Value→H):
  ReturnsInHanded {} Tryz.checked os 7 .any (Rows.fairPollsSpec.pre6 enc Tryz.prog Tryz.f7 Rows.fairPollsRow.domain false) (Rows.fairPollsSpec.post enc Tryz.prog Tryz.f7 false true false false):=by
 refine returnsInHanded_of_change (C:=Tryz.checked) own started (by kernel_rfl) Tryz.func7
  (ChangeSpec.witness6 (enc:=enc) (C:=Tryz.checked) false ⟨#[],#[.slice none 0 0,.int .u8 0,.int .u8 0],[]⟩ 8 (by kernel_rfl) (by kernel_rfl) (by kernel_rfl) (by kernel_rfl)) ?_
 intro W base args ds gs before hval0 hW hcnd _
 have lX:∀(j:Nat) t v,Tryz.f7.params[j]? =some t→args[j]? =some v→Value.okWide Tryz.prog W .any base t v:=hval0
 have hW':=hW
 obtain⟨p,q,hA0,hV,rfl,hfz,hnd⟩:=hW
 have hA:DataW.TrodAll enc Tryz.prog W 0 (fun _=>true) true Tryz.f7.params.toList args.toList ds p:=hA0
 rw[Tryz.params7]at hA lX
 obtain⟨v0,vs0,d0,ds0,p0,q0,hargs,rfl,rfl,h0,r0⟩:=trodAll_cons hA
 obtain⟨v1,vs1,d1,ds1,p1,q1,rfl,rfl,rfl,h1,r1⟩:=trodAll_cons r0
 obtain⟨v2,vs2,d2,ds2,p2,q2,rfl,rfl,rfl,h2,r2⟩:=trodAll_cons r1
 obtain⟨rfl,rfl,rfl⟩:=trodAll_nil r2
 obtain rfl:args= #[v0,v1,v2]:=by cases args;simp_all
 obtain⟨rfl,rfl⟩:=trodVars_none hV
 have hk0:DataW.Trod enc Tryz.prog W 0 (fun _=>true) true 55 v0 d0 p0:=h0
 obtain⟨s0,l0,rfl,ro0,bo0,no0⟩:=Gl.xA Tryz.underlying55 Tryz.underlying5 (by kernel_rfl) (lX 0 55 v0 rfl rfl) h0
 obtain⟨a1,rfl,rfl,rfl,w1⟩:=open_int Tryz.underlying5 (lX 1 5 v1 rfl rfl) h1
 obtain⟨a2,rfl,rfl,rfl,w2⟩:=open_int Tryz.underlying5 (lX 2 5 v2 rfl rfl) h2
 clear hA0 hval0
 have hlt:=hW'.lt
 simp only[List.append_nil]at hW'
 refine(walk W s0 l0 a1 a2 w1 w2 ro0 bo0 no0).mono fun e W' ⟨he,hg⟩=> ?_
 subst he
 exact⟨_,rfl,⟨_,_,_,[],_,[],hW',trodAll_cons_mk (shut_bool Tryz.underlying4 _) trodAll_mk0,(trodAll_cons_mk (Below.trod laidOut (by kernel_rfl) (of_decide_eq_true (by kernel_rfl)) hk0 hg (fun x hx=>hlt x (by simp[hx]))) (trodAll_cons_mk (shut_int Tryz.underlying5 w1) (trodAll_cons_mk (shut_int Tryz.underlying5 w2) trodAll_mk0))),rfl,hg.frame _,fun h=>by cases h⟩⟩
theorem and3{a b c:Bool}(h:(a&&(b&&c))=true):a=true∧b=true∧c=true:=by cases a<;>cases b<;>cases c<;>simp_all
theorem j1:(Rows.fairPollsRow.inPlace==Tryz.pinned.checked.prog.inPlace 7&&(Rows.fairPollsRow.unfollowed==Tryz.pinned.checked.prog.unfollowed 7&&Rows.fairPollsRow.recurses==Tryz.pinned.checked.prog.recurses 7))=true:=by kernel_rfl
theorem j2:(Rows.fairPollsRow.named==Tryz.pinned.checked.prog.varsNamed 7)=true:=by kernel_rfl
theorem closed:joinedFacts Tryz.pinned.checked.prog 7 Tryz.f7 Rows.fairPollsSpec Rows.fairPollsRow=true:=by
 unfold joinedFacts
 rw[zQ,xQ,CA,(and3 j1).1,(and3 j1).2.1,(and3 j1).2.2,j2]
 kernel_rfl
theorem over:Rows.fairPollsRow.holds Tryz.pinned (OpenSpec.ofChange Rows.fairPollsSpec):=
 OpenClaim.holds_of_wide 7 Tryz.f7 rfl rfl rfl rfl rfl rfl rfl ⟨rfl,rfl,rfl,rfl,rfl⟩ rfl rfl rfl rfl rfl (by kernel_rfl) Tryz.func7 closed
  (of_decide_eq_true (by kernel_rfl)) (by unfold Func.isWrapper;first |(rw[if_pos (by decide+kernel)];kernel_rfl)|(rw[if_neg (by decide+kernel)];exact⟨rfl,rfl⟩))
  (fun os started H enc _=>lifted os started H enc)
theorem proved:Rows.FairPollsSaid:=
 over
#print axioms proved
end Go.Proofs.YtfepdmpplahloaaGreat.fairPolls
