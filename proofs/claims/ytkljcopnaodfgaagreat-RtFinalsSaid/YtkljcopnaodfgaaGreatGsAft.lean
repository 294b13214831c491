/- What is behind a collection: objects, fields, rows. -/
import Derived.Test.YtkljcopnaodfgaaGreatGsL20b
set_option linter.unusedSimpArgs false
set_option linter.unusedVariables false
namespace Go.Proofs.YtkljcopnaodfgaaGreat
open Go Go.Gl
theorem rch_flat2 {S : Spc} {cs : List Cls} (hz : ∀ a, Mk.obj S a → ∀ b ∈ Mk.kids S cs a, ¬ Mk.obj S b) {R : List Int} {a : Int} : Mk.Rch S cs R a ↔ (a ∈ R ∧ Mk.obj S a) := by
 constructor
 ·intro h
  cases h with
  | root h ho => exact ⟨h, ho⟩
  | step h hb ho => exact absurd ho (hz _ h.obj _ hb)
 ·rintro ⟨h1, h2⟩
  exact .root h1 h2
end Go.Proofs.YtkljcopnaodfgaaGreat
