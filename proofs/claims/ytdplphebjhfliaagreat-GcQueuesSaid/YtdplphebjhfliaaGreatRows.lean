/-
  No cell of these rows narrows 'for every input' (looked for: loops, veiled, ifaces, maps, wideKeys, modest, calm, conditions, laid).
  DERIVED. THE GIVEN ROWS OF THIS SEAT. 9 by the template 'for every input the law returns true; each argument reads behind the call as it read before'; 0 by the template 'total and deterministic' (their statements: YtdplphebjhfliaaGreatTotals.lean).
  GIVEN WITH THE SEED: the statements are not yours to turn. If you find one false, say at which input.
  Laid BY PROGRAM, IN A SANDBOX (cutbox-rows.mjs): the forced cells as the released guide's own fill.sh prints them over the translation 8515d0c6dd9eb600… (all of the seat's roots in one cut). By AI agents, Wed Nov 11 2026. No macro, syntax, notation, axiom, sorry.
-/
import Derived.Test.YtdplphebjhfliaaGreatChecked
import GoSem.Claim
import GoSem.ClaimJoined
import GoSem.ClaimMapViews
import Derived.JoinedTies
import Derived.KernelRfl
namespace Go.Proofs.YtdplphebjhfliaaGreat
/- THE CELL 'sum', in the pinned program and in every row, IS THE sha256 OF THE DUMP (.gsa) THAT YtdplphebjhfliaaGreatProg.lean LOADS. Nothing in Lean hashes anything: it is a label: what it is worth is what the hold of that sum in a sandbox is worth. -/
noncomputable def Tryz.pinned : Pinned := { name := "ytdplphebjhfliaagreat", sum := "8515d0c6dd9eb6006bc6bcdf1d055ea4fb7072e14cd52e125019ece983464dc3", checked := Tryz.checked }
namespace Rows
def none {H : Type} : Left H := { results := [], args := [] }

/-- 'gloaminglaw20.GcConfigs': WHATEVER THE INPUT: true; the input reads as it did. -/
def gcConfigsSpec : ChangeSpec := { name := "gcConfigs", fn := fun _ => fun
  | [d] => { results := [.lit (.bool true)], args := [d] }
  | _ => none }
def gcConfigsRow : OpenClaim := { program := "ytdplphebjhfliaagreat", sum := "8515d0c6dd9eb6006bc6bcdf1d055ea4fb7072e14cd52e125019ece983464dc3", func := "gloaming/gloaminglaw20.GcConfigs", spec := "gcConfigs", unfollowed := true, recurses := true, apart := false }
def GcConfigsSaid : Prop := gcConfigsRow.holds Tryz.pinned (OpenSpec.ofChange gcConfigsSpec)

/-- ITS FALSE NEIGHBOUR: 'it returns false'. Refute it at one input. -/
def gcConfigsWrong : ChangeSpec := { name := "gcConfigs", fn := fun _ => fun
  | [d] => { results := [.lit (.bool false)], args := [d] }
  | _ => none }
def GcConfigsWrongFalsely : Prop := gcConfigsRow.holds Tryz.pinned (OpenSpec.ofChange gcConfigsWrong)

/-- 'gloaminglaw20.GcRings': WHATEVER THE INPUT: true; the input reads as it did. -/
def gcRingsSpec : ChangeSpec := { name := "gcRings", fn := fun _ => fun
  | [d1, d2, d3] => { results := [.lit (.bool true)], args := [d1, d2, d3] }
  | _ => none }
def gcRingsRow : OpenClaim := { program := "ytdplphebjhfliaagreat", sum := "8515d0c6dd9eb6006bc6bcdf1d055ea4fb7072e14cd52e125019ece983464dc3", func := "gloaming/gloaminglaw20.GcRings", spec := "gcRings", unfollowed := true, recurses := true, apart := false }
def GcRingsSaid : Prop := gcRingsRow.holds Tryz.pinned (OpenSpec.ofChange gcRingsSpec)

/-- ITS FALSE NEIGHBOUR: 'it returns false'. Refute it at one input. -/
def gcRingsWrong : ChangeSpec := { name := "gcRings", fn := fun _ => fun
  | [d1, d2, d3] => { results := [.lit (.bool false)], args := [d1, d2, d3] }
  | _ => none }
def GcRingsWrongFalsely : Prop := gcRingsRow.holds Tryz.pinned (OpenSpec.ofChange gcRingsWrong)

/-- 'gloaminglaw20.GcHolds': WHATEVER THE INPUT: true; the input reads as it did. -/
def gcHoldsSpec : ChangeSpec := { name := "gcHolds", fn := fun _ => fun
  | [d1, d2] => { results := [.lit (.bool true)], args := [d1, d2] }
  | _ => none }
def gcHoldsRow : OpenClaim := { program := "ytdplphebjhfliaagreat", sum := "8515d0c6dd9eb6006bc6bcdf1d055ea4fb7072e14cd52e125019ece983464dc3", func := "gloaming/gloaminglaw20.GcHolds", spec := "gcHolds", unfollowed := true, recurses := true, apart := false }
def GcHoldsSaid : Prop := gcHoldsRow.holds Tryz.pinned (OpenSpec.ofChange gcHoldsSpec)

/-- ITS FALSE NEIGHBOUR: 'it returns false'. Refute it at one input. -/
def gcHoldsWrong : ChangeSpec := { name := "gcHolds", fn := fun _ => fun
  | [d1, d2] => { results := [.lit (.bool false)], args := [d1, d2] }
  | _ => none }
def GcHoldsWrongFalsely : Prop := gcHoldsRow.holds Tryz.pinned (OpenSpec.ofChange gcHoldsWrong)

/-- 'gloaminglaw20.GcRaises': WHATEVER THE INPUT: true; the input reads as it did. -/
def gcRaisesSpec : ChangeSpec := { name := "gcRaises", fn := fun _ => fun
  | [d1, d2] => { results := [.lit (.bool true)], args := [d1, d2] }
  | _ => none }
def gcRaisesRow : OpenClaim := { program := "ytdplphebjhfliaagreat", sum := "8515d0c6dd9eb6006bc6bcdf1d055ea4fb7072e14cd52e125019ece983464dc3", func := "gloaming/gloaminglaw20.GcRaises", spec := "gcRaises", unfollowed := true, recurses := true, apart := false }
def GcRaisesSaid : Prop := gcRaisesRow.holds Tryz.pinned (OpenSpec.ofChange gcRaisesSpec)

/-- ITS FALSE NEIGHBOUR: 'it returns false'. Refute it at one input. -/
def gcRaisesWrong : ChangeSpec := { name := "gcRaises", fn := fun _ => fun
  | [d1, d2] => { results := [.lit (.bool false)], args := [d1, d2] }
  | _ => none }
def GcRaisesWrongFalsely : Prop := gcRaisesRow.holds Tryz.pinned (OpenSpec.ofChange gcRaisesWrong)

/-- 'gloaminglaw20.GcQueues': WHATEVER THE INPUT: true; the input reads as it did. -/
def gcQueuesSpec : ChangeSpec := { name := "gcQueues", fn := fun _ => fun
  | [d] => { results := [.lit (.bool true)], args := [d] }
  | _ => none }
def gcQueuesRow : OpenClaim := { program := "ytdplphebjhfliaagreat", sum := "8515d0c6dd9eb6006bc6bcdf1d055ea4fb7072e14cd52e125019ece983464dc3", func := "gloaming/gloaminglaw20.GcQueues", spec := "gcQueues", unfollowed := true, recurses := true, apart := false }
def GcQueuesSaid : Prop := gcQueuesRow.holds Tryz.pinned (OpenSpec.ofChange gcQueuesSpec)

/-- ITS FALSE NEIGHBOUR: 'it returns false'. Refute it at one input. -/
def gcQueuesWrong : ChangeSpec := { name := "gcQueues", fn := fun _ => fun
  | [d] => { results := [.lit (.bool false)], args := [d] }
  | _ => none }
def GcQueuesWrongFalsely : Prop := gcQueuesRow.holds Tryz.pinned (OpenSpec.ofChange gcQueuesWrong)

/-- 'gloaminglaw20.GcViews': WHATEVER THE INPUT: true; the input reads as it did. -/
def gcViewsSpec : ChangeSpec := { name := "gcViews", fn := fun _ => fun
  | [d1, d2, d3] => { results := [.lit (.bool true)], args := [d1, d2, d3] }
  | _ => none }
def gcViewsRow : OpenClaim := { program := "ytdplphebjhfliaagreat", sum := "8515d0c6dd9eb6006bc6bcdf1d055ea4fb7072e14cd52e125019ece983464dc3", func := "gloaming/gloaminglaw20.GcViews", spec := "gcViews", unfollowed := true, recurses := true, apart := false }
def GcViewsSaid : Prop := gcViewsRow.holds Tryz.pinned (OpenSpec.ofChange gcViewsSpec)

/-- ITS FALSE NEIGHBOUR: 'it returns false'. Refute it at one input. -/
def gcViewsWrong : ChangeSpec := { name := "gcViews", fn := fun _ => fun
  | [d1, d2, d3] => { results := [.lit (.bool false)], args := [d1, d2, d3] }
  | _ => none }
def GcViewsWrongFalsely : Prop := gcViewsRow.holds Tryz.pinned (OpenSpec.ofChange gcViewsWrong)

/-- 'gloaminglaw20.GcTimes': WHATEVER THE INPUT: true; the input reads as it did. -/
def gcTimesSpec : ChangeSpec := { name := "gcTimes", fn := fun _ => fun
  | [d1, d2, d3, d4] => { results := [.lit (.bool true)], args := [d1, d2, d3, d4] }
  | _ => none }
def gcTimesRow : OpenClaim := { program := "ytdplphebjhfliaagreat", sum := "8515d0c6dd9eb6006bc6bcdf1d055ea4fb7072e14cd52e125019ece983464dc3", func := "gloaming/gloaminglaw20.GcTimes", spec := "gcTimes", unfollowed := true, recurses := true, apart := false }
def GcTimesSaid : Prop := gcTimesRow.holds Tryz.pinned (OpenSpec.ofChange gcTimesSpec)

/-- ITS FALSE NEIGHBOUR: 'it returns false'. Refute it at one input. -/
def gcTimesWrong : ChangeSpec := { name := "gcTimes", fn := fun _ => fun
  | [d1, d2, d3, d4] => { results := [.lit (.bool false)], args := [d1, d2, d3, d4] }
  | _ => none }
def GcTimesWrongFalsely : Prop := gcTimesRow.holds Tryz.pinned (OpenSpec.ofChange gcTimesWrong)

/-- 'gloaminglaw20.GcRuns': WHATEVER THE INPUT: true; the input reads as it did. -/
def gcRunsSpec : ChangeSpec := { name := "gcRuns", fn := fun _ => fun
  | [d1, d2, d3, d4] => { results := [.lit (.bool true)], args := [d1, d2, d3, d4] }
  | _ => none }
def gcRunsRow : OpenClaim := { program := "ytdplphebjhfliaagreat", sum := "8515d0c6dd9eb6006bc6bcdf1d055ea4fb7072e14cd52e125019ece983464dc3", func := "gloaming/gloaminglaw20.GcRuns", spec := "gcRuns", unfollowed := true, recurses := true, apart := false }
def GcRunsSaid : Prop := gcRunsRow.holds Tryz.pinned (OpenSpec.ofChange gcRunsSpec)

/-- ITS FALSE NEIGHBOUR: 'it returns false'. Refute it at one input. -/
def gcRunsWrong : ChangeSpec := { name := "gcRuns", fn := fun _ => fun
  | [d1, d2, d3, d4] => { results := [.lit (.bool false)], args := [d1, d2, d3, d4] }
  | _ => none }
def GcRunsWrongFalsely : Prop := gcRunsRow.holds Tryz.pinned (OpenSpec.ofChange gcRunsWrong)

/-- 'gloaminglaw20.GcLeaves': WHATEVER THE INPUT: true; the input reads as it did. -/
def gcLeavesSpec : ChangeSpec := { name := "gcLeaves", fn := fun _ => fun
  | [d1, d2, d3] => { results := [.lit (.bool true)], args := [d1, d2, d3] }
  | _ => none }
def gcLeavesRow : OpenClaim := { program := "ytdplphebjhfliaagreat", sum := "8515d0c6dd9eb6006bc6bcdf1d055ea4fb7072e14cd52e125019ece983464dc3", func := "gloaming/gloaminglaw20.GcLeaves", spec := "gcLeaves", unfollowed := true, recurses := true, apart := false }
def GcLeavesSaid : Prop := gcLeavesRow.holds Tryz.pinned (OpenSpec.ofChange gcLeavesSpec)

/-- ITS FALSE NEIGHBOUR: 'it returns false'. Refute it at one input. -/
def gcLeavesWrong : ChangeSpec := { name := "gcLeaves", fn := fun _ => fun
  | [d1, d2, d3] => { results := [.lit (.bool false)], args := [d1, d2, d3] }
  | _ => none }
def GcLeavesWrongFalsely : Prop := gcLeavesRow.holds Tryz.pinned (OpenSpec.ofChange gcLeavesWrong)

/- THE SECOND FORM. 'bulk': how many values and letters a reading holds, each counted each time it is reached (what is shared counts as often as it is met; a slice's spare places count too). A statement '..UptoSaid' is the law's where the arguments, and the package variables that the reading takes, are together of bulk at most 1048576: NARROWER than '..Said'. Prove '..Said' where nothing that the law and all that it calls make is longer than what came in: it says more and counts as full. Else prove '..UptoSaid'. A law counts once. -/
mutual
def uptoBulk {H : Type} : DataW H → Nat
  | .lit (.string bytes) => bytes.length + 1
  | .lit _ => 1
  | .nil => 1
  | .ptr d => uptoBulk d + 1
  | .slice elems spare => uptoBulkAll elems + uptoBulkAll spare + 1
  | .agg parts => uptoBulkAll parts + 1
  | .iface _ d => uptoBulk d + 1
  | .map entries => uptoBulkEntries entries + 1
  | .held _ => 1
def uptoBulkAll {H : Type} : List (DataW H) → Nat
  | [] => 0
  | d :: r => uptoBulk d + uptoBulkAll r
def uptoBulkEntries {H : Type} : List (Lit × DataW H) → Nat
  | [] => 0
  | x :: r => uptoBulkEntry x + uptoBulkEntries r
def uptoBulkEntry {H : Type} : Lit × DataW H → Nat
  | (.string bytes, d) => bytes.length + uptoBulk d + 1
  | (_, d) => uptoBulk d + 1
 end
def uptoSmall : (H : Type) → List (DataW H) → Bool := fun _ ds => decide (uptoBulkAll ds ≤ 1048576)
def OpenSpec.upto (s : _root_.Go.ChangeSpec) : _root_.Go.OpenSpec := { _root_.Go.OpenSpec.ofChange s with cond := some uptoSmall }

/-- 'gloaminglaw20.GcConfigs', WHERE WHAT IT READS IS OF BULK AT MOST 1048576: true; the input reads as it did. -/
def gcConfigsUptoRow : OpenClaim := { program := "ytdplphebjhfliaagreat", sum := "8515d0c6dd9eb6006bc6bcdf1d055ea4fb7072e14cd52e125019ece983464dc3", func := "gloaming/gloaminglaw20.GcConfigs", spec := "gcConfigs", unfollowed := true, recurses := true, apart := false, narrowed := true }
def GcConfigsUptoSaid : Prop := gcConfigsUptoRow.holds Tryz.pinned (OpenSpec.upto gcConfigsSpec)

/-- 'gloaminglaw20.GcRings', WHERE WHAT IT READS IS OF BULK AT MOST 1048576: true; the input reads as it did. -/
def gcRingsUptoRow : OpenClaim := { program := "ytdplphebjhfliaagreat", sum := "8515d0c6dd9eb6006bc6bcdf1d055ea4fb7072e14cd52e125019ece983464dc3", func := "gloaming/gloaminglaw20.GcRings", spec := "gcRings", unfollowed := true, recurses := true, apart := false, narrowed := true }
def GcRingsUptoSaid : Prop := gcRingsUptoRow.holds Tryz.pinned (OpenSpec.upto gcRingsSpec)

/-- 'gloaminglaw20.GcHolds', WHERE WHAT IT READS IS OF BULK AT MOST 1048576: true; the input reads as it did. -/
def gcHoldsUptoRow : OpenClaim := { program := "ytdplphebjhfliaagreat", sum := "8515d0c6dd9eb6006bc6bcdf1d055ea4fb7072e14cd52e125019ece983464dc3", func := "gloaming/gloaminglaw20.GcHolds", spec := "gcHolds", unfollowed := true, recurses := true, apart := false, narrowed := true }
def GcHoldsUptoSaid : Prop := gcHoldsUptoRow.holds Tryz.pinned (OpenSpec.upto gcHoldsSpec)

/-- 'gloaminglaw20.GcRaises', WHERE WHAT IT READS IS OF BULK AT MOST 1048576: true; the input reads as it did. -/
def gcRaisesUptoRow : OpenClaim := { program := "ytdplphebjhfliaagreat", sum := "8515d0c6dd9eb6006bc6bcdf1d055ea4fb7072e14cd52e125019ece983464dc3", func := "gloaming/gloaminglaw20.GcRaises", spec := "gcRaises", unfollowed := true, recurses := true, apart := false, narrowed := true }
def GcRaisesUptoSaid : Prop := gcRaisesUptoRow.holds Tryz.pinned (OpenSpec.upto gcRaisesSpec)

/-- 'gloaminglaw20.GcQueues', WHERE WHAT IT READS IS OF BULK AT MOST 1048576: true; the input reads as it did. -/
def gcQueuesUptoRow : OpenClaim := { program := "ytdplphebjhfliaagreat", sum := "8515d0c6dd9eb6006bc6bcdf1d055ea4fb7072e14cd52e125019ece983464dc3", func := "gloaming/gloaminglaw20.GcQueues", spec := "gcQueues", unfollowed := true, recurses := true, apart := false, narrowed := true }
def GcQueuesUptoSaid : Prop := gcQueuesUptoRow.holds Tryz.pinned (OpenSpec.upto gcQueuesSpec)

/-- 'gloaminglaw20.GcViews', WHERE WHAT IT READS IS OF BULK AT MOST 1048576: true; the input reads as it did. -/
def gcViewsUptoRow : OpenClaim := { program := "ytdplphebjhfliaagreat", sum := "8515d0c6dd9eb6006bc6bcdf1d055ea4fb7072e14cd52e125019ece983464dc3", func := "gloaming/gloaminglaw20.GcViews", spec := "gcViews", unfollowed := true, recurses := true, apart := false, narrowed := true }
def GcViewsUptoSaid : Prop := gcViewsUptoRow.holds Tryz.pinned (OpenSpec.upto gcViewsSpec)

/-- 'gloaminglaw20.GcTimes', WHERE WHAT IT READS IS OF BULK AT MOST 1048576: true; the input reads as it did. -/
def gcTimesUptoRow : OpenClaim := { program := "ytdplphebjhfliaagreat", sum := "8515d0c6dd9eb6006bc6bcdf1d055ea4fb7072e14cd52e125019ece983464dc3", func := "gloaming/gloaminglaw20.GcTimes", spec := "gcTimes", unfollowed := true, recurses := true, apart := false, narrowed := true }
def GcTimesUptoSaid : Prop := gcTimesUptoRow.holds Tryz.pinned (OpenSpec.upto gcTimesSpec)

/-- 'gloaminglaw20.GcRuns', WHERE WHAT IT READS IS OF BULK AT MOST 1048576: true; the input reads as it did. -/
def gcRunsUptoRow : OpenClaim := { program := "ytdplphebjhfliaagreat", sum := "8515d0c6dd9eb6006bc6bcdf1d055ea4fb7072e14cd52e125019ece983464dc3", func := "gloaming/gloaminglaw20.GcRuns", spec := "gcRuns", unfollowed := true, recurses := true, apart := false, narrowed := true }
def GcRunsUptoSaid : Prop := gcRunsUptoRow.holds Tryz.pinned (OpenSpec.upto gcRunsSpec)

/-- 'gloaminglaw20.GcLeaves', WHERE WHAT IT READS IS OF BULK AT MOST 1048576: true; the input reads as it did. -/
def gcLeavesUptoRow : OpenClaim := { program := "ytdplphebjhfliaagreat", sum := "8515d0c6dd9eb6006bc6bcdf1d055ea4fb7072e14cd52e125019ece983464dc3", func := "gloaming/gloaminglaw20.GcLeaves", spec := "gcLeaves", unfollowed := true, recurses := true, apart := false, narrowed := true }
def GcLeavesUptoSaid : Prop := gcLeavesUptoRow.holds Tryz.pinned (OpenSpec.upto gcLeavesSpec)

end Rows
end Go.Proofs.YtdplphebjhfliaaGreat
