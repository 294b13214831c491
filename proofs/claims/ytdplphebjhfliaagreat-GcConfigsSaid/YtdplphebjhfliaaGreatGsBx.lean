/- Heaps that are made one object behind the other: known by their list of objects. -/
import Derived.Test.YtdplphebjhfliaaGreatGsRefR
set_option linter.unusedSimpArgs false
set_option linter.unusedVariables false
namespace Go.Proofs.YtdplphebjhfliaaGreat
open Go Go.Gl
variable {ρ0 ρ : FR} {L L' : List Asn} {Post : Value → List Asn → Prop} {T : Tree}
namespace Bx
variable {S : Spc} {cs : List Cls} {P : Nat} {os : List Ob1}
end Bx
theorem Mk.all_eq {m : List Bool} {l : List Int} (hs : l.Pairwise (· < ·)) (h : ∀ a, a ∈ l ↔ Sp.has m a = true) : Mk.all m = l := by
 refine sorted_ext ?_ hs fun a => by rw [Mk.mem_all, h]
 unfold Mk.all
 rw [List.pairwise_map]
 refine List.Pairwise.imp (fun h => ?_) (List.Pairwise.filter _ (List.pairwise_lt_range))
 omega
end Go.Proofs.YtdplphebjhfliaaGreat
