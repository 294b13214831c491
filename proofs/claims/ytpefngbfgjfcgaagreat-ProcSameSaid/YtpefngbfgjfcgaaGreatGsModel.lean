/- Graphs by numbers, of the document's heap. -/
import Derived.Test.YtpefngbfgjfcgaaGreatGsGraph2
import Derived.Test.YtpefngbfgjfcgaaGreatGsRefE
set_option linter.unusedSimpArgs false
set_option linter.unusedVariables false
namespace Go.Proofs.YtpefngbfgjfcgaaGreat
open Go Go.Gl
variable {ρ0 ρ : FR} {L L' : List Asn} {Post : Value → List Asn → Prop} {T : Tree}
open Gr in
end Go.Proofs.YtpefngbfgjfcgaaGreat
