/- The document's answer for marks. -/
import Derived.Test.YtpefngbfgjfcgaaGreatGsModel
import Derived.Test.YtpefngbfgjfcgaaGreatGsMark5
set_option linter.unusedSimpArgs false
set_option linter.unusedVariables false
namespace Go.Proofs.YtpefngbfgjfcgaaGreat
open Go Go.Gl
variable {ρ0 ρ : FR} {L L' : List Asn} {Post : Value → List Asn → Prop} {T : Tree}
end Go.Proofs.YtpefngbfgjfcgaaGreat
