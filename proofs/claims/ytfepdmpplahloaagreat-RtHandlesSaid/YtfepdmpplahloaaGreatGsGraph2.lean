/- Graph Graph2. -/
import Derived.Test.YtfepdmpplahloaaGreatGsLaw5
import Derived.Test.YtfepdmpplahloaaGreatGsEz
import Derived.Test.YtfepdmpplahloaaGreatGsT
set_option linter.unusedSimpArgs false
set_option linter.unusedVariables false
namespace Go.Gl
open Go
variable{ρ0 ρ:FR}{L L':List Asn}{Post:Value→List Asn→Prop}
theorem en_ldRoS{M:List Asn}{s:Slc}{m:Nat}{xs:List Value}{k:LK}{a a0:Addr}{f:LT k→Tree}{j:Nat}{x:LT k}(hs:s.a=some a0)(hr:RoS ρ s m xs)(ha:∀b o,a0=⟨b,o,none⟩→a=⟨b,o+j,none⟩)
  (hx:xs[j]? =some (k.val x)) (h:Tr ρ0 ρ L (f x) Post):Tr ρ0 ρ L (ldLS (Sat ρ M) k a f) Post:=by
 have hj:j<xs.length:=by
  rcases Nat.lt_or_ge j xs.length with h|h
  ·exact h
  ·rw[List.getElem?_eq_none h]at hx;cases hx
 obtain⟨h1,hr|⟨b,off,cs,ty,fr,g1,g2,g3⟩⟩:=hr
 ·rw[hr]at h1;simp at h1;rw[h1]at hj;simp at hj
 ·rw[hs]at g1
  injection g1 with g1
  exact en_ldSR (ha b off g1) g2 (by rw[g3 j hj,hx]) h
theorem en_ldRog{s:Slc}{m:Nat}{xs:List Value}{a0 a:Addr}{j:Nat}(hs:s.a=some a0)(hr:RoS ρ s m xs)(ha:∀b o,a0=⟨b,o,none⟩→a=⟨b,o+j,none⟩):
  ∀(ks:List LK) (i:Nat) {f:LTs ks→Tree} {x:LTs ks} (_:∀e v,(vals ks x)[e]? =some v→xs[j+i+e]? =some v) (_:Tr ρ0 ρ L (f x) Post),Tr ρ0 ρ L (ldG a i ks f) Post
 |[],i,f,x,_,h=>h
 |k::ks,i,f,x,hv,h=>by
  refine en_ldRo (j:=j+i) (x:=x.1) hs hr (fun b o e=>by rw[ha b o e,fa_mk,Nat.add_assoc]) (by simpa using hv 0 (k.val x.1) rfl) ?_
  exact en_ldRog hs hr ha ks (i+1) (x:=x.2) (fun e v he=>by have:=hv (e+1) v he;rw[←this];congr 1;omega) h
theorem en_ldRg{s:Slc}{m:Nat}{xs:List Value}{a0 a:Addr}{j:Nat}{ks:List LK}{f:LTs ks→Tree}{x:LTs ks}(hs:s.a=some a0)(hr:RoS ρ s m xs)(ha:∀b o,a0=⟨b,o,none⟩→a=⟨b,o+j,none⟩)
  (hv:∀e v,(vals ks x)[e]? =some v→xs[j+0+e]? =some v) (h:Tr ρ0 ρ L (f x) Post):Tr ρ0 ρ L (ld (.g ks) a f) Post:=en_ldRog hs hr ha ks 0 hv h
end Go.Gl
namespace Go.Proofs.YtfepdmpplahloaaGreat
open Go Go.Gl
variable{ρ0 ρ:FR}{L L':List Asn}{Post:Value→List Asn→Prop}{T:Tree}
namespace Gr
end Gr
end Go.Proofs.YtfepdmpplahloaaGreat
namespace Go.Proofs.YtfepdmpplahloaaGreat
open Go Go.Gl
variable{ρ0 ρ:FR}{L L':List Asn}{Post:Value→List Asn→Prop}{T:Tree}
end Go.Proofs.YtfepdmpplahloaaGreat
