/- What is asked of both heaps. -/
import Derived.Test.YtdplphebjhfliaaGreatGsGraph2
import Derived.Test.YtdplphebjhfliaaGreatGsRefE
import Derived.Test.YtdplphebjhfliaaGreatGsMark5
set_option linter.unusedSimpArgs false
set_option linter.unusedVariables false
namespace Go.Proofs.YtdplphebjhfliaaGreat
open Go Go.Gl
variable {ρ0 ρ : FR} {L L' : List Asn} {Post : Value → List Asn → Prop} {T : Tree}
theorem tr_weak2 {ρ' : FR} (h0 : Le ρ0 ρ) (hle : Le ρ ρ') (h : Tr ρ0 ρ L T Post) : Tr ρ0 ρ' L T Post := fun _ w hw => h h0 w (hw.weak hle)
theorem obj_each {S : Spc} {cs : List Cls} (hw : HWf S cs) {a : Int} : a ∈ Sp.each S ↔ ∃ h, Ob.head S a = some h := by
 constructor
 ·intro h
  obtain ⟨n, w, rfl, hf⟩ := (mem_each hw.wf).mp h
  exact ⟨_, by unfold Ob.head; rw [hf]; dsimp only; rw [if_pos rfl]⟩
 ·rintro ⟨h, hh⟩
  obtain ⟨n, w, rfl, hf, _⟩ := Ob.head_is hw hh
  exact (mem_each hw.wf).mpr ⟨n, w, rfl, hf⟩
end Go.Proofs.YtdplphebjhfliaaGreat
