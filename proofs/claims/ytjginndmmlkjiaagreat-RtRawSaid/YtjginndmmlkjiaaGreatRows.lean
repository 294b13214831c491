/-
  No cell of these rows narrows 'for every input' (looked for: loops, veiled, ifaces, maps, wideKeys, modest, calm, conditions, laid).
  DERIVED. THE GIVEN ROWS OF THIS SEAT. 8 by the template 'for every input the law returns true; each argument reads behind the call as it read before'; 0 by the template 'total and deterministic' (their statements: YtjginndmmlkjiaaGreatTotals.lean).
  GIVEN WITH THE SEED: the statements are not yours to turn. If you find one false, say at which input.
  Laid BY PROGRAM, IN A SANDBOX (cutbox-rows.mjs): the forced cells as the released guide's own fill.sh prints them over the translation d6e5ae7694503165… (all of the seat's roots in one cut). By AI agents, Wed Nov 11 2026. No macro, syntax, notation, axiom, sorry.
-/
import Derived.Test.YtjginndmmlkjiaaGreatChecked
import GoSem.Claim
import GoSem.ClaimJoined
import GoSem.ClaimMapViews
import Derived.JoinedTies
import Derived.KernelRfl
namespace Go.Proofs.YtjginndmmlkjiaaGreat
/- THE CELL 'sum', in the pinned program and in every row, IS THE sha256 OF THE DUMP (.gsa) THAT YtjginndmmlkjiaaGreatProg.lean LOADS. Nothing in Lean hashes anything: it is a label: what it is worth is what the hold of that sum in a sandbox is worth. -/
noncomputable def Tryz.pinned : Pinned := { name := "ytjginndmmlkjiaagreat", sum := "d6e5ae7694503165b76e1970e0b3e43d842d9444da5977622ebf5ac0661ff429", checked := Tryz.checked }
namespace Rows
def none {H : Type} : Left H := { results := [], args := [] }

/-- 'gloaminglaw21.RtRaw': WHATEVER THE INPUT: true; the input reads as it did. -/
def rtRawSpec : ChangeSpec := { name := "rtRaw", fn := fun _ => fun
  | [d1, d2] => { results := [.lit (.bool true)], args := [d1, d2] }
  | _ => none }
def rtRawRow : OpenClaim := { program := "ytjginndmmlkjiaagreat", sum := "d6e5ae7694503165b76e1970e0b3e43d842d9444da5977622ebf5ac0661ff429", func := "gloaming/gloaminglaw21.RtRaw", spec := "rtRaw", unfollowed := true, recurses := true, apart := false }
def RtRawSaid : Prop := rtRawRow.holds Tryz.pinned (OpenSpec.ofChange rtRawSpec)

/-- ITS FALSE NEIGHBOUR: 'it returns false'. Refute it at one input. -/
def rtRawWrong : ChangeSpec := { name := "rtRaw", fn := fun _ => fun
  | [d1, d2] => { results := [.lit (.bool false)], args := [d1, d2] }
  | _ => none }
def RtRawWrongFalsely : Prop := rtRawRow.holds Tryz.pinned (OpenSpec.ofChange rtRawWrong)

/-- 'gloaminglaw21.RtMade': WHATEVER THE INPUT: true; the input reads as it did. -/
def rtMadeSpec : ChangeSpec := { name := "rtMade", fn := fun _ => fun
  | [d1, d2, d3, d4] => { results := [.lit (.bool true)], args := [d1, d2, d3, d4] }
  | _ => none }
def rtMadeRow : OpenClaim := { program := "ytjginndmmlkjiaagreat", sum := "d6e5ae7694503165b76e1970e0b3e43d842d9444da5977622ebf5ac0661ff429", func := "gloaming/gloaminglaw21.RtMade", spec := "rtMade", unfollowed := true, recurses := true, apart := false }
def RtMadeSaid : Prop := rtMadeRow.holds Tryz.pinned (OpenSpec.ofChange rtMadeSpec)

/-- ITS FALSE NEIGHBOUR: 'it returns false'. Refute it at one input. -/
def rtMadeWrong : ChangeSpec := { name := "rtMade", fn := fun _ => fun
  | [d1, d2, d3, d4] => { results := [.lit (.bool false)], args := [d1, d2, d3, d4] }
  | _ => none }
def RtMadeWrongFalsely : Prop := rtMadeRow.holds Tryz.pinned (OpenSpec.ofChange rtMadeWrong)

/-- 'gloaminglaw21.RtRefuses': WHATEVER THE INPUT: true; the input reads as it did. -/
def rtRefusesSpec : ChangeSpec := { name := "rtRefuses", fn := fun _ => fun
  | [d1, d2, d3, d4] => { results := [.lit (.bool true)], args := [d1, d2, d3, d4] }
  | _ => none }
def rtRefusesRow : OpenClaim := { program := "ytjginndmmlkjiaagreat", sum := "d6e5ae7694503165b76e1970e0b3e43d842d9444da5977622ebf5ac0661ff429", func := "gloaming/gloaminglaw21.RtRefuses", spec := "rtRefuses", unfollowed := true, recurses := true, apart := false }
def RtRefusesSaid : Prop := rtRefusesRow.holds Tryz.pinned (OpenSpec.ofChange rtRefusesSpec)

/-- ITS FALSE NEIGHBOUR: 'it returns false'. Refute it at one input. -/
def rtRefusesWrong : ChangeSpec := { name := "rtRefuses", fn := fun _ => fun
  | [d1, d2, d3, d4] => { results := [.lit (.bool false)], args := [d1, d2, d3, d4] }
  | _ => none }
def RtRefusesWrongFalsely : Prop := rtRefusesRow.holds Tryz.pinned (OpenSpec.ofChange rtRefusesWrong)

/-- 'gloaminglaw25.RunParts': WHATEVER THE INPUT: true; the input reads as it did. -/
def runPartsSpec : ChangeSpec := { name := "runParts", fn := fun _ => fun
  | [d1, d2, d3, d4] => { results := [.lit (.bool true)], args := [d1, d2, d3, d4] }
  | _ => none }
def runPartsRow : OpenClaim := { program := "ytjginndmmlkjiaagreat", sum := "d6e5ae7694503165b76e1970e0b3e43d842d9444da5977622ebf5ac0661ff429", func := "gloaming/gloaminglaw25.RunParts", spec := "runParts", unfollowed := true, recurses := true, apart := false }
def RunPartsSaid : Prop := runPartsRow.holds Tryz.pinned (OpenSpec.ofChange runPartsSpec)

/-- ITS FALSE NEIGHBOUR: 'it returns false'. Refute it at one input. -/
def runPartsWrong : ChangeSpec := { name := "runParts", fn := fun _ => fun
  | [d1, d2, d3, d4] => { results := [.lit (.bool false)], args := [d1, d2, d3, d4] }
  | _ => none }
def RunPartsWrongFalsely : Prop := runPartsRow.holds Tryz.pinned (OpenSpec.ofChange runPartsWrong)

/-- 'gloaminglaw25.RunStack': WHATEVER THE INPUT: true; the input reads as it did. -/
def runStackSpec : ChangeSpec := { name := "runStack", fn := fun _ => fun
  | [d1, d2, d3, d4, d5] => { results := [.lit (.bool true)], args := [d1, d2, d3, d4, d5] }
  | _ => none }
def runStackRow : OpenClaim := { program := "ytjginndmmlkjiaagreat", sum := "d6e5ae7694503165b76e1970e0b3e43d842d9444da5977622ebf5ac0661ff429", func := "gloaming/gloaminglaw25.RunStack", spec := "runStack", unfollowed := true, recurses := true, apart := false }
def RunStackSaid : Prop := runStackRow.holds Tryz.pinned (OpenSpec.ofChange runStackSpec)

/-- ITS FALSE NEIGHBOUR: 'it returns false'. Refute it at one input. -/
def runStackWrong : ChangeSpec := { name := "runStack", fn := fun _ => fun
  | [d1, d2, d3, d4, d5] => { results := [.lit (.bool false)], args := [d1, d2, d3, d4, d5] }
  | _ => none }
def RunStackWrongFalsely : Prop := runStackRow.holds Tryz.pinned (OpenSpec.ofChange runStackWrong)

/-- 'gloaminglaw24.FairRounds': WHATEVER THE INPUT: true; the input reads as it did. -/
def fairRoundsSpec : ChangeSpec := { name := "fairRounds", fn := fun _ => fun
  | [d1, d2, d3] => { results := [.lit (.bool true)], args := [d1, d2, d3] }
  | _ => none }
def fairRoundsRow : OpenClaim := { program := "ytjginndmmlkjiaagreat", sum := "d6e5ae7694503165b76e1970e0b3e43d842d9444da5977622ebf5ac0661ff429", func := "gloaming/gloaminglaw24.FairRounds", spec := "fairRounds", unfollowed := true, recurses := true, apart := false }
def FairRoundsSaid : Prop := fairRoundsRow.holds Tryz.pinned (OpenSpec.ofChange fairRoundsSpec)

/-- ITS FALSE NEIGHBOUR: 'it returns false'. Refute it at one input. -/
def fairRoundsWrong : ChangeSpec := { name := "fairRounds", fn := fun _ => fun
  | [d1, d2, d3] => { results := [.lit (.bool false)], args := [d1, d2, d3] }
  | _ => none }
def FairRoundsWrongFalsely : Prop := fairRoundsRow.holds Tryz.pinned (OpenSpec.ofChange fairRoundsWrong)

/-- 'gloaminglaw24.FairEnds': WHATEVER THE INPUT: true; the input reads as it did. -/
def fairEndsSpec : ChangeSpec := { name := "fairEnds", fn := fun _ => fun
  | [d1, d2] => { results := [.lit (.bool true)], args := [d1, d2] }
  | _ => none }
def fairEndsRow : OpenClaim := { program := "ytjginndmmlkjiaagreat", sum := "d6e5ae7694503165b76e1970e0b3e43d842d9444da5977622ebf5ac0661ff429", func := "gloaming/gloaminglaw24.FairEnds", spec := "fairEnds", unfollowed := true, recurses := true, apart := false }
def FairEndsSaid : Prop := fairEndsRow.holds Tryz.pinned (OpenSpec.ofChange fairEndsSpec)

/-- ITS FALSE NEIGHBOUR: 'it returns false'. Refute it at one input. -/
def fairEndsWrong : ChangeSpec := { name := "fairEnds", fn := fun _ => fun
  | [d1, d2] => { results := [.lit (.bool false)], args := [d1, d2] }
  | _ => none }
def FairEndsWrongFalsely : Prop := fairEndsRow.holds Tryz.pinned (OpenSpec.ofChange fairEndsWrong)

/-- 'gloaminglaw24.FairParts': WHATEVER THE INPUT: true; the input reads as it did. -/
def fairPartsSpec : ChangeSpec := { name := "fairParts", fn := fun _ => fun
  | [d1, d2, d3] => { results := [.lit (.bool true)], args := [d1, d2, d3] }
  | _ => none }
def fairPartsRow : OpenClaim := { program := "ytjginndmmlkjiaagreat", sum := "d6e5ae7694503165b76e1970e0b3e43d842d9444da5977622ebf5ac0661ff429", func := "gloaming/gloaminglaw24.FairParts", spec := "fairParts", unfollowed := true, recurses := true, apart := false }
def FairPartsSaid : Prop := fairPartsRow.holds Tryz.pinned (OpenSpec.ofChange fairPartsSpec)

/-- ITS FALSE NEIGHBOUR: 'it returns false'. Refute it at one input. -/
def fairPartsWrong : ChangeSpec := { name := "fairParts", fn := fun _ => fun
  | [d1, d2, d3] => { results := [.lit (.bool false)], args := [d1, d2, d3] }
  | _ => none }
def FairPartsWrongFalsely : Prop := fairPartsRow.holds Tryz.pinned (OpenSpec.ofChange fairPartsWrong)

/- THE SECOND FORM. 'bulk': how many values and letters a reading holds, each counted each time it is reached (what is shared counts as often as it is met; a slice's spare places count too). A statement '..UptoSaid' is the law's where the arguments, and the package variables that the reading takes, are together of bulk at most 1048576: NARROWER than '..Said'. Prove '..Said' where nothing that the law and all that it calls make is longer than what came in: it says more and counts as full. Else prove '..UptoSaid'. A law counts once. -/
mutual
def uptoBulk {H : Type} : DataW H → Nat
  | .lit (.string bytes) => bytes.length + 1
  | .lit _ => 1
  | .nil => 1
  | .ptr d => uptoBulk d + 1
  | .slice elems spare => uptoBulkAll elems + uptoBulkAll spare + 1
  | .agg parts => uptoBulkAll parts + 1
  | .iface _ d => uptoBulk d + 1
  | .map entries => uptoBulkEntries entries + 1
  | .held _ => 1
def uptoBulkAll {H : Type} : List (DataW H) → Nat
  | [] => 0
  | d :: r => uptoBulk d + uptoBulkAll r
def uptoBulkEntries {H : Type} : List (Lit × DataW H) → Nat
  | [] => 0
  | x :: r => uptoBulkEntry x + uptoBulkEntries r
def uptoBulkEntry {H : Type} : Lit × DataW H → Nat
  | (.string bytes, d) => bytes.length + uptoBulk d + 1
  | (_, d) => uptoBulk d + 1
 end
def uptoSmall : (H : Type) → List (DataW H) → Bool := fun _ ds => decide (uptoBulkAll ds ≤ 1048576)
def OpenSpec.upto (s : _root_.Go.ChangeSpec) : _root_.Go.OpenSpec := { _root_.Go.OpenSpec.ofChange s with cond := some uptoSmall }

/-- 'gloaminglaw21.RtRaw', WHERE WHAT IT READS IS OF BULK AT MOST 1048576: true; the input reads as it did. -/
def rtRawUptoRow : OpenClaim := { program := "ytjginndmmlkjiaagreat", sum := "d6e5ae7694503165b76e1970e0b3e43d842d9444da5977622ebf5ac0661ff429", func := "gloaming/gloaminglaw21.RtRaw", spec := "rtRaw", unfollowed := true, recurses := true, apart := false, narrowed := true }
def RtRawUptoSaid : Prop := rtRawUptoRow.holds Tryz.pinned (OpenSpec.upto rtRawSpec)

/-- 'gloaminglaw21.RtMade', WHERE WHAT IT READS IS OF BULK AT MOST 1048576: true; the input reads as it did. -/
def rtMadeUptoRow : OpenClaim := { program := "ytjginndmmlkjiaagreat", sum := "d6e5ae7694503165b76e1970e0b3e43d842d9444da5977622ebf5ac0661ff429", func := "gloaming/gloaminglaw21.RtMade", spec := "rtMade", unfollowed := true, recurses := true, apart := false, narrowed := true }
def RtMadeUptoSaid : Prop := rtMadeUptoRow.holds Tryz.pinned (OpenSpec.upto rtMadeSpec)

/-- 'gloaminglaw21.RtRefuses', WHERE WHAT IT READS IS OF BULK AT MOST 1048576: true; the input reads as it did. -/
def rtRefusesUptoRow : OpenClaim := { program := "ytjginndmmlkjiaagreat", sum := "d6e5ae7694503165b76e1970e0b3e43d842d9444da5977622ebf5ac0661ff429", func := "gloaming/gloaminglaw21.RtRefuses", spec := "rtRefuses", unfollowed := true, recurses := true, apart := false, narrowed := true }
def RtRefusesUptoSaid : Prop := rtRefusesUptoRow.holds Tryz.pinned (OpenSpec.upto rtRefusesSpec)

/-- 'gloaminglaw25.RunParts', WHERE WHAT IT READS IS OF BULK AT MOST 1048576: true; the input reads as it did. -/
def runPartsUptoRow : OpenClaim := { program := "ytjginndmmlkjiaagreat", sum := "d6e5ae7694503165b76e1970e0b3e43d842d9444da5977622ebf5ac0661ff429", func := "gloaming/gloaminglaw25.RunParts", spec := "runParts", unfollowed := true, recurses := true, apart := false, narrowed := true }
def RunPartsUptoSaid : Prop := runPartsUptoRow.holds Tryz.pinned (OpenSpec.upto runPartsSpec)

/-- 'gloaminglaw25.RunStack', WHERE WHAT IT READS IS OF BULK AT MOST 1048576: true; the input reads as it did. -/
def runStackUptoRow : OpenClaim := { program := "ytjginndmmlkjiaagreat", sum := "d6e5ae7694503165b76e1970e0b3e43d842d9444da5977622ebf5ac0661ff429", func := "gloaming/gloaminglaw25.RunStack", spec := "runStack", unfollowed := true, recurses := true, apart := false, narrowed := true }
def RunStackUptoSaid : Prop := runStackUptoRow.holds Tryz.pinned (OpenSpec.upto runStackSpec)

/-- 'gloaminglaw24.FairRounds', WHERE WHAT IT READS IS OF BULK AT MOST 1048576: true; the input reads as it did. -/
def fairRoundsUptoRow : OpenClaim := { program := "ytjginndmmlkjiaagreat", sum := "d6e5ae7694503165b76e1970e0b3e43d842d9444da5977622ebf5ac0661ff429", func := "gloaming/gloaminglaw24.FairRounds", spec := "fairRounds", unfollowed := true, recurses := true, apart := false, narrowed := true }
def FairRoundsUptoSaid : Prop := fairRoundsUptoRow.holds Tryz.pinned (OpenSpec.upto fairRoundsSpec)

/-- 'gloaminglaw24.FairEnds', WHERE WHAT IT READS IS OF BULK AT MOST 1048576: true; the input reads as it did. -/
def fairEndsUptoRow : OpenClaim := { program := "ytjginndmmlkjiaagreat", sum := "d6e5ae7694503165b76e1970e0b3e43d842d9444da5977622ebf5ac0661ff429", func := "gloaming/gloaminglaw24.FairEnds", spec := "fairEnds", unfollowed := true, recurses := true, apart := false, narrowed := true }
def FairEndsUptoSaid : Prop := fairEndsUptoRow.holds Tryz.pinned (OpenSpec.upto fairEndsSpec)

/-- 'gloaminglaw24.FairParts', WHERE WHAT IT READS IS OF BULK AT MOST 1048576: true; the input reads as it did. -/
def fairPartsUptoRow : OpenClaim := { program := "ytjginndmmlkjiaagreat", sum := "d6e5ae7694503165b76e1970e0b3e43d842d9444da5977622ebf5ac0661ff429", func := "gloaming/gloaminglaw24.FairParts", spec := "fairParts", unfollowed := true, recurses := true, apart := false, narrowed := true }
def FairPartsUptoSaid : Prop := fairPartsUptoRow.holds Tryz.pinned (OpenSpec.upto fairPartsSpec)

end Rows
end Go.Proofs.YtjginndmmlkjiaaGreat
