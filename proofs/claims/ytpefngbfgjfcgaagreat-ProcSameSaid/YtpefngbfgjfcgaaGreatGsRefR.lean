/- RefP RefQ Bor RefR. -/
import Derived.Test.YtpefngbfgjfcgaaGreatGsRefM
import Derived.Test.YtpefngbfgjfcgaaGreatGsRuns
import Derived.Test.YtpefngbfgjfcgaaGreatGsProc8
import Derived.Test.YtpefngbfgjfcgaaGreatGsClass
set_option linter.unusedSimpArgs false
set_option linter.unusedVariables false
namespace Go.Proofs.YtpefngbfgjfcgaaGreat
open Go Go.Gl
variable {ρ0 ρ : FR} {L L' : List Asn} {Post : Value → List Asn → Prop} {T : Tree}
end Go.Proofs.YtpefngbfgjfcgaaGreat
namespace Go.Proofs.YtpefngbfgjfcgaaGreat
open Go Go.Gl
variable {ρ0 ρ : FR} {L L' : List Asn} {Post : Value → List Asn → Prop} {T : Tree}
end Go.Proofs.YtpefngbfgjfcgaaGreat
namespace Go.Gl
open Go
variable {ρ0 ρ : FR} {L L' : List Asn} {Post : Value → List Asn → Prop}
end Go.Gl
namespace Go.Proofs.YtpefngbfgjfcgaaGreat
open Go Go.Gl
variable {ρ0 ρ : FR} {L L' : List Asn} {Post : Value → List Asn → Prop} {T : Tree}
end Go.Proofs.YtpefngbfgjfcgaaGreat
