/- Collections of heaps that are known by their objects: what they come to. -/
import Derived.Test.YtdplphebjhfliaaGreatGsL18
set_option linter.unusedSimpArgs false
set_option linter.unusedVariables false
namespace Go.Proofs.YtdplphebjhfliaaGreat
open Go Go.Gl
variable {ρ0 ρ : FR} {L L' : List Asn} {Post : Value → List Asn → Prop} {T : Tree}
theorem Mk.all_perm {m : List Bool} {l : List Int} (hn : l.Nodup) (h : ∀ a, Sp.has m a = true ↔ a ∈ l) : (Mk.all m).Perm l := by
 refine (List.perm_ext_iff_of_nodup ?_ hn).mpr fun a => by rw [Mk.mem_all, h]
 unfold Mk.all
 refine List.Pairwise.map _ (fun a b (hab : a < b) => ?_) (List.Pairwise.filter _ List.pairwise_lt_range)
 omega
end Go.Proofs.YtdplphebjhfliaaGreat
