/- Laws of collections: what they share. -/
import Derived.Test.YtkljcopnaodfgaaGreatGsBx
set_option linter.unusedSimpArgs false
set_option linter.unusedVariables false
namespace Go.Proofs.YtkljcopnaodfgaaGreat
open Go Go.Gl
variable {ρ0 ρ : FR} {L L' : List Asn} {Post : Value → List Asn → Prop} {T : Tree}
theorem may_box (cs : List Cls) {n : Int} (h0 : 0 ≤ n) (h1 : n ≤ 1023) : Ob.may cs ⟨2, 0, n, false⟩ = 0 := by
 have hm : Sp.mayH ⟨2, 0, n, false⟩ = true := by
  unfold Sp.mayH; dsimp only
  rw [decide_eq_true (by omega), if_neg (by omega), if_pos (by omega)]; rfl
 unfold Ob.may; rw [hm]; rfl
theorem may_data (cs : List Cls) {n : Int} (h0 : 0 ≤ n) (h1 : n ≤ 1023) : Ob.may cs ⟨3, 0, n, false⟩ = 0 := by
 have hm : Sp.mayH ⟨3, 0, n, false⟩ = true := by
  unfold Sp.mayH; dsimp only
  rw [decide_eq_true (by omega), if_neg (by omega), if_pos (by omega)]; rfl
 unfold Ob.may; rw [hm]; rfl
end Go.Proofs.YtkljcopnaodfgaaGreat
