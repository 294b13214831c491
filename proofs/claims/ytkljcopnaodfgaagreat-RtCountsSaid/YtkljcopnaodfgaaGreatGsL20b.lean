/- Laws of a runtime's parts: handles, what is live where no reference is. -/
import Derived.Test.YtkljcopnaodfgaaGreatGsInv2
import Derived.Test.YtkljcopnaodfgaaGreatGsL18
set_option linter.unusedSimpArgs false
set_option linter.unusedVariables false
namespace Go.Proofs.YtkljcopnaodfgaaGreat
open Go Go.Gl
variable {ρ0 ρ : FR} {L L' : List Asn} {Post : Value → List Asn → Prop} {T : Tree}
theorem Spec.post {P : Program} {f : FuncId} {args : List Value} {A : List Asn} {r : RK} {B B' : RT r → List Asn → Prop} (h : Gl.Spec ρ P f args A r B) (hb : ∀ x M, B x M → B' x M) : Gl.Spec ρ P f args A r B' := fun R w hw =>
 Calls.mono (h R w hw) fun e w' ⟨x, L, h1, h2, h3⟩ => ⟨x, L, h1, hb x L h2, h3⟩
theorem new_bx : Bx (Sp.newSpc 60) [] 60 [] := by
 have h := newSpc_hwf (n := 60) (by omega) (by omega)
 refine ⟨h, ⟨1, Pfx.new (by omega), by simp⟩, by kernel_rfl, ?_, by simp, by simp, by simp⟩
 rw [new_each (by omega) (by omega)]; exact .refl _
namespace Hn
end Hn
end Go.Proofs.YtkljcopnaodfgaaGreat
