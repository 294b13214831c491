/- RtRaw: for every input the law returns true, and the input reads as it did. No condition. -/
import Derived.Test.YtjginndmmlkjiaaGreatRows
import Derived.Test.YtjginndmmlkjiaaGreatGsOpenO
import Derived.Test.YtjginndmmlkjiaaGreatGsRowM
import Derived.Test.YtjginndmmlkjiaaGreatGsRowF
import Derived.Test.YtjginndmmlkjiaaGreatGsRowK
import Derived.OpenShut
set_option linter.unusedSimpArgs false
set_option linter.unusedVariables false
namespace Go.Proofs.YtjginndmmlkjiaaGreat.rtRaw
open Go.ChangeShapes Go.WideShapes Go.ChangeAt Go.RowKit
theorem own:ownKnob Tryz.prog.godebug=none:=by kernel_rfl
theorem laidOut:laidOutB Tryz.prog=true:=by kernel_rfl
theorem walk(w:World)(x0 y0 z0:Int)(s1:Gl.av)(l1:List Hl)(cx0:x0<9223372036854775808)(cy0:y0<9223372036854775808)(cz0:z0<9223372036854775808)(r1:Gl.fx (Gl.FR.all w) s1 4 (l1.flatMap sN))(n1:s1.n=l1.length)(b1:∀o∈l1,FZ o):
  Calls Tryz.prog 3 #[.agg #[.int .i64 x0,.int .i64 y0,.int .i64 z0],.slice s1.a s1.n s1.c] w fun e w'=>e= .returned (.bool true)∧Below w.heap.size w w':=
 Gl.IV (Dz x0 y0 z0 s1 l1 cx0 cy0 cz0 r1 n1 b1)
set_option maxRecDepth 100000 in
theorem lifted(os:Os)(started:os.Started)(H:Type)(enc:TypeId×Value→H):
  ReturnsInHanded {} Tryz.checked os 3 .any (Rows.rtRawSpec.pre6 enc Tryz.prog Tryz.f3 Rows.rtRawRow.domain false) (Rows.rtRawSpec.post enc Tryz.prog Tryz.f3 false true false false):=by
 refine returnsInHanded_of_change (C:=Tryz.checked) own started (by kernel_rfl) Tryz.func3
  (ChangeSpec.witness6 (enc:=enc) (C:=Tryz.checked) false ⟨#[],#[.agg #[.int .i64 0,.int .i64 0,.int .i64 0],.slice none 0 0],[]⟩ 8 (by kernel_rfl) (by kernel_rfl) (by kernel_rfl) (by kernel_rfl)) ?_;intro W base args ds gs before hval0 hW hcnd _;have lC:∀(j:Nat) t v,Tryz.f3.params[j]? =some t→args[j]? =some v→Value.okWide Tryz.prog W .any base t v:=hval0;have hW':=hW;obtain⟨p,q,hA0,hV,rfl,hfz,hnd⟩:=hW;have hA:DataW.TrodAll enc Tryz.prog W 0 (fun _=>true) true Tryz.f3.params.toList args.toList ds p:=hA0;rw[Tryz.params3]at hA lC;obtain⟨v0,vs0,d0,ds0,p0,q0,hargs,rfl,rfl,h0,r0⟩:=trodAll_cons hA;obtain⟨v1,vs1,d1,ds1,p1,q1,rfl,rfl,rfl,h1,r1⟩:=trodAll_cons r0;obtain⟨rfl,rfl,rfl⟩:=trodAll_nil r1;obtain rfl:args= #[v0,v1]:=by cases args;simp_all
 obtain⟨rfl,rfl⟩:=trodVars_none hV;have hk0:DataW.Trod enc Tryz.prog W 0 (fun _=>true) true 23 v0 d0 p0:=h0;obtain⟨x0,y0,z0,rfl,cx0,cy0,cz0⟩:=EN (lC 0 23 v0 rfl rfl) h0;have hk1:DataW.Trod enc Tryz.prog W 0 (fun _=>true) true 24 v1 d1 p1:=h1;obtain⟨s1,l1,rfl,ro1,no1,bo1⟩:=E8 (lC 1 24 v1 rfl rfl) h1;clear hA0 hval0;have hlt:=hW'.lt;simp only[List.append_nil]at hW';refine(walk W x0 y0 z0 s1 l1 cx0 cy0 cz0 ro1 no1 bo1).mono fun e W' ⟨he,hg⟩=>?_;subst he;exact⟨_,rfl,⟨_,_,_,[],_,[],hW',trodAll_cons_mk (shut_bool Tryz.underlying4 _) trodAll_mk0,(trodAll_cons_mk (Below.trod laidOut (by kernel_rfl) (of_decide_eq_true (by kernel_rfl)) hk0 hg (fun x hx=>hlt x (by simp[hx]))) (trodAll_cons_mk (Below.trod laidOut (by kernel_rfl) (of_decide_eq_true (by kernel_rfl)) hk1 hg (fun x hx=>hlt x (by simp[hx]))) trodAll_mk0)),rfl,hg.frame _,fun h=>by cases h⟩⟩
theorem and3{a b c:Bool}(h:(a&&(b&&c))=true):a=true∧b=true∧c=true:=by cases a<;>cases b<;>cases c<;>simp_all
theorem j1:(Rows.rtRawRow.inPlace==Tryz.pinned.checked.prog.inPlace 3&&(Rows.rtRawRow.unfollowed==Tryz.pinned.checked.prog.unfollowed 3&&Rows.rtRawRow.recurses==Tryz.pinned.checked.prog.recurses 3))=true:=by kernel_rfl
theorem j2:(Rows.rtRawRow.named==Tryz.pinned.checked.prog.varsNamed 3)=true:=by kernel_rfl
theorem closed:joinedFacts Tryz.pinned.checked.prog 3 Tryz.f3 Rows.rtRawSpec Rows.rtRawRow=true:=by unfold joinedFacts;rw[E2,CO,Ir,(and3 j1).1,(and3 j1).2.1,(and3 j1).2.2,j2];kernel_rfl
theorem over:Rows.rtRawRow.holds Tryz.pinned (OpenSpec.ofChange Rows.rtRawSpec):=
 OpenClaim.holds_of_wide 3 Tryz.f3 rfl rfl rfl rfl rfl rfl rfl ⟨rfl,rfl,rfl,rfl,rfl⟩ rfl rfl rfl rfl rfl (by kernel_rfl) Tryz.func3 closed
  (of_decide_eq_true (by kernel_rfl)) (by unfold Func.isWrapper;first |(rw[if_pos (by decide+kernel)];kernel_rfl)|(rw[if_neg (by decide+kernel)];exact⟨rfl,rfl⟩))
  (fun os started H enc _=>lifted os started H enc)
theorem proved:Rows.RtRawSaid:=
 over
#print axioms proved
end Go.Proofs.YtjginndmmlkjiaaGreat.rtRaw
