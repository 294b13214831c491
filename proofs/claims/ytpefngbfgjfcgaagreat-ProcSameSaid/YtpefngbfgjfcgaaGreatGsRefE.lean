/- Ref1 RefA RefB RefC RefD RefE. -/
import Derived.Test.YtpefngbfgjfcgaaGreatGsLaw5
import Derived.Test.YtpefngbfgjfcgaaGreatGsTr1
import Derived.Test.YtpefngbfgjfcgaaGreatGsEz
import Derived.Test.YtpefngbfgjfcgaaGreatGsTr9
import Derived.Test.YtpefngbfgjfcgaaGreatGsSweep
set_option linter.unusedSimpArgs false
set_option linter.unusedVariables false
namespace Go.Proofs.YtpefngbfgjfcgaaGreat
open Go Go.Gl
variable {ρ0 ρ : FR} {L L' : List Asn} {Post : Value → List Asn → Prop} {T : Tree}
end Go.Proofs.YtpefngbfgjfcgaaGreat
namespace Go.Proofs.YtpefngbfgjfcgaaGreat
open Go Go.Gl
variable {ρ0 ρ : FR} {L L' : List Asn} {Post : Value → List Asn → Prop} {T : Tree}
def Pg.bits : Pg → List Bool | .small _ l => l | _ => []
def Pg.kind : Pg → Int | .res => -1 | .free => 0 | .small c _ => c + 1 | .head _ => 6 | .tail => 7
def Pg.many : Pg → Int | .head k => k | _ => 0
abbrev FD : RK := .one (.g [.int .i64, .int .i64, .bool])
def Rf.fnd : Option (Nat × Nat) → RT FD
 | some (s, w) => ((s : Int), (w : Int), true, ()) | none => ((0 : Int), (0 : Int), false, ())
end Go.Proofs.YtpefngbfgjfcgaaGreat
namespace Go.Proofs.YtpefngbfgjfcgaaGreat
open Go Go.Gl
variable {ρ0 ρ : FR} {L L' : List Asn} {Post : Value → List Asn → Prop} {T : Tree}
end Go.Proofs.YtpefngbfgjfcgaaGreat
namespace Go.Proofs.YtpefngbfgjfcgaaGreat
open Go Go.Gl
variable {ρ0 ρ : FR} {L L' : List Asn} {Post : Value → List Asn → Prop} {T : Tree}
def Pg.upto (p : Nat) (x : Pg) (i : Nat) : List Int := match x with | .small c l => Sp.atTo p c l i | .head _ => [((p * 64 : Nat) : Int)] | _ => []
end Go.Proofs.YtpefngbfgjfcgaaGreat
namespace Go.Proofs.YtpefngbfgjfcgaaGreat
open Go Go.Gl
variable {ρ0 ρ : FR} {L L' : List Asn} {Post : Value → List Asn → Prop} {T : Tree}
abbrev HX : RK := .one (.g [.int .i64, .int .i64, .int .i64, .bool, .bool])
def Rf.hd : Option Hd → RT HX
 | some h => (h.k, h.c, h.n, h.f, true, ()) | none => ((0 : Int), (0 : Int), (0 : Int), false, false, ())
end Go.Proofs.YtpefngbfgjfcgaaGreat
namespace Go.Proofs.YtpefngbfgjfcgaaGreat
open Go Go.Gl
variable {ρ0 ρ : FR} {L L' : List Asn} {Post : Value → List Asn → Prop} {T : Tree}
end Go.Proofs.YtpefngbfgjfcgaaGreat
