/- Laws of a runtime's parts: what they share. -/
import Derived.Test.YtfepdmpplahloaaGreatGsGc3
import Derived.Test.YtfepdmpplahloaaGreatGsTl20
import Derived.Test.YtfepdmpplahloaaGreatGsLaw5
set_option linter.unusedSimpArgs false
set_option linter.unusedVariables false
namespace Go.Proofs.YtfepdmpplahloaaGreat
open Go Go.Gl
variable{ρ0 ρ:FR}{L L':List Asn}{Post:Value→List Asn→Prop}{T:Tree}
theorem law_whole20(i:Pl)(x:Rt):Gl.Spec ρ Tryz.prog 22 [.pointer (some ⟨i.p,0,none⟩)] (i.A x) RB fun r M=>r=true∧M=i.A x:=by
 refine Gl.Spec.of (fun Q w h=>F.gloaminglaw20.Whole.calls (some ⟨i.p,0,none⟩) h) fun R=> ?_
 unfold F.gloaminglaw20.Whole
 try simp only[lca,lna]
 refine RfA.op (p:=i.r) (hp:=i.b) (rows:=x.rows) (n:=x.ser) tk fun q=> ?_
 refine FinA.op (p:=i.f) (hp:=i.b) (wa:=x.wa) (pe:=x.pe) tk fun s z hs hz=> ?_
 refine HeapA.op (p:=i.b) (S:=x.S) (cs:=x.cs) tk fun ps pt=> ?_
 refine en_brt rfl (en_nn ?_)
 refine en_ld (k:= .ptr) (b:=i.p) (off:=0) (x:=some ⟨i.r,0,none⟩) (by rw[fa_mk]) tk rfl ?_
 refine en_brt rfl (en_nn ?_)
 refine en_ld (k:= .ptr) (b:=i.p) (off:=0) (x:=some ⟨i.r,0,none⟩) (by rw[fa_mk]) tk rfl ?_
 refine en_nn ?_
 refine en_ld (k:= .ptr) (b:=i.r) (off:=0) (x:=some ⟨q,0,none⟩) (by rw[fa_mk]) tk rfl ?_
 refine en_brt rfl (en_nn ?_)
 refine en_ld (k:= .ptr) (b:=i.p) (off:=0) (x:=some ⟨i.r,0,none⟩) (by rw[fa_mk]) tk rfl ?_
 refine en_nn ?_
 refine en_ld (k:= .ptr) (b:=i.r) (off:=0) (x:=some ⟨q,0,none⟩) (by rw[fa_mk]) tk rfl ?_
 refine en_nn ?_
 refine que_heap (q:=q) (hp:=i.b) (rows:=x.rows) (by rw[fa_mk]) tk ?_
 refine en_brt rfl (en_nn ?_)
 refine en_ld (k:= .ptr) (b:=i.p) (off:=1) (x:=some ⟨i.h,0,none⟩) (by rw[fa_mk]) tk rfl ?_
 refine en_brt rfl (en_nn ?_)
 refine en_ld (k:= .ptr) (b:=i.p) (off:=2) (x:=some ⟨i.o,0,none⟩) (by rw[fa_mk]) tk rfl ?_
 refine en_brt rfl (en_nn ?_)
 refine en_ld (k:= .ptr) (b:=i.p) (off:=3) (x:=some ⟨i.f,0,none⟩) (by rw[fa_mk]) tk rfl ?_
 refine en_brt rfl (en_nn ?_)
 refine en_ld (k:= .ptr) (b:=i.p) (off:=3) (x:=some ⟨i.f,0,none⟩) (by rw[fa_mk]) tk rfl ?_
 refine en_nn ?_
 refine en_ld (k:= .ptr) (b:=i.f) (off:=0) (x:=some ⟨i.b,0,none⟩) (by rw[fa_mk]) tk rfl ?_
 refine en_brt rfl (en_nn ?_)
 refine en_ld (k:= .ptr) (b:=i.p) (off:=3) (x:=some ⟨i.f,0,none⟩) (by rw[fa_mk]) tk rfl ?_
 refine en_nn ?_
 refine en_ld (k:= .ptr) (b:=i.f) (off:=0) (x:=some ⟨i.b,0,none⟩) (by rw[fa_mk]) tk rfl ?_
 refine en_nn ?_
 refine en_ld (k:= .ptr) (b:=i.b) (off:=0) (x:=some ⟨ps,0,none⟩) (by rw[fa_mk]) tk rfl ?_
 refine en_brt rfl (en_nn ?_)
 refine en_ld (k:= .ptr) (b:=i.p) (off:=3) (x:=some ⟨i.f,0,none⟩) (by rw[fa_mk]) tk rfl ?_
 refine en_nn ?_
 refine en_ld (k:= .ptr) (b:=i.f) (off:=0) (x:=some ⟨i.b,0,none⟩) (by rw[fa_mk]) tk rfl ?_
 refine en_nn ?_
 refine en_ld (k:= .ptr) (b:=i.b) (off:=1) (x:=some ⟨pt,0,none⟩) (by rw[fa_mk]) tk rfl ?_
 refine Tr.close tks (HeapA.cl (p:=i.b) (ps:=ps) (pt:=pt) (S:=x.S) (cs:=x.cs)) ?_
 refine Tr.close tks (FinA.cl (p:=i.f) (hp:=i.b) (wa:=x.wa) (pe:=x.pe) hs hz) ?_
 refine Tr.close tks (RfA.cl (p:=i.r) (q:=q) (hp:=i.b) (rows:=x.rows) (n:=x.ser)) ?_
 exact en_rets (x:=true) rfl ⟨rfl,rfl⟩ tks ens
end Go.Proofs.YtfepdmpplahloaaGreat
