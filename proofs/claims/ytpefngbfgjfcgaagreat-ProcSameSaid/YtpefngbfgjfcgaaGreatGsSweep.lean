/- Sweeps: what is found behind a freeing; contracts of Dead, Sweep. -/
import Derived.Test.YtpefngbfgjfcgaaGreatGsGraph2
set_option linter.unusedSimpArgs false
set_option linter.unusedVariables false
namespace Go.Proofs.YtpefngbfgjfcgaaGreat
open Go Go.Gl
variable {ρ0 ρ : FR} {L L' : List Asn} {Post : Value → List Asn → Prop} {T : Tree}
theorem sorted_ext {l l' : List Int} (h1 : l.Pairwise (· < ·)) (h2 : l'.Pairwise (· < ·)) (h : ∀ a, a ∈ l ↔ a ∈ l') : l = l' := by
 have hp : l.Perm l' := by
  rw [List.perm_ext_iff_of_nodup (h1.imp fun h => by omega) (h2.imp fun h => by omega)]; exact h
 have s1 : Sp.sort l = l := Sp.sort_id (h1.imp fun h => by omega)
 have s2 : Sp.sort l' = l' := Sp.sort_id (h2.imp fun h => by omega)
 rw [← s1, ← s2, Sp.sort_perm hp]
end Go.Proofs.YtpefngbfgjfcgaaGreat
