/- Heaps that are made one object behind the other: known by their list of objects. -/
import Derived.Test.YtkljcopnaodfgaaGreatGsRefR
set_option linter.unusedSimpArgs false
set_option linter.unusedVariables false
namespace Go.Proofs.YtkljcopnaodfgaaGreat
open Go Go.Gl
variable {ρ0 ρ : FR} {L L' : List Asn} {Post : Value → List Asn → Prop} {T : Tree}
structure Bx (S : Spc) (cs : List Cls) (P : Nat) (os : List Ob1) : Prop where
 hw : HWf S cs
 pfx : ∃ m, Pfx S.pg m ∧ m ≤ 1 + os.length
 pgs : S.pg.length = P
 each : (Sp.each S).Perm (os.map (·.a))
 head : ∀ o ∈ os, Ob.head S o.a = some o.h
 len : ∀ o ∈ os, o.ws.length = o.h.n.toNat
 get : ∀ o ∈ os, ∀ j : Nat, (j : Int) < o.h.n → Ob.get S o.a j = (o.ws.getD j 0, 0)
namespace Bx
variable {S : Spc} {cs : List Cls} {P : Nat} {os : List Ob1}
end Bx
end Go.Proofs.YtkljcopnaodfgaaGreat
