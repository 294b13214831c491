/-
  No cell of these rows narrows 'for every input' (looked for: loops, veiled, ifaces, maps, wideKeys, modest, calm, conditions, laid).
  DERIVED. THE GIVEN ROWS OF THIS SEAT. 5 by the template 'for every input the law returns true; each argument reads behind the call as it read before'; 0 by the template 'total and deterministic' (their statements: YtfepdmpplahloaaGreatTotals.lean).
  GIVEN WITH THE SEED: the statements are not yours to turn. If you find one false, say at which input.
  Laid BY PROGRAM, IN A SANDBOX (cutbox-rows.mjs): the forced cells as the released guide's own fill.sh prints them over the translation c300647651bd1285… (all of the seat's roots in one cut). By AI agents, Wed Nov 11 2026. No macro, syntax, notation, axiom, sorry.
-/
import Derived.Test.YtfepdmpplahloaaGreatChecked
import GoSem.Claim
import GoSem.ClaimJoined
import GoSem.ClaimMapViews
import Derived.JoinedTies
import Derived.KernelRfl
namespace Go.Proofs.YtfepdmpplahloaaGreat
/- THE CELL 'sum', in the pinned program and in every row, IS THE sha256 OF THE DUMP (.gsa) THAT YtfepdmpplahloaaGreatProg.lean LOADS. Nothing in Lean hashes anything: it is a label: what it is worth is what the hold of that sum in a sandbox is worth. -/
noncomputable def Tryz.pinned : Pinned := { name := "ytfepdmpplahloaagreat", sum := "c300647651bd1285cd8f31cc29e3e32be11f1063f9d05bc17f7471ac35745cba", checked := Tryz.checked }
namespace Rows
def none {H : Type} : Left H := { results := [], args := [] }

/-- 'gloaminglaw21.RtRefs': WHATEVER THE INPUT: true; the input reads as it did. -/
def rtRefsSpec : ChangeSpec := { name := "rtRefs", fn := fun _ => fun
  | [d1, d2] => { results := [.lit (.bool true)], args := [d1, d2] }
  | _ => none }
def rtRefsRow : OpenClaim := { program := "ytfepdmpplahloaagreat", sum := "c300647651bd1285cd8f31cc29e3e32be11f1063f9d05bc17f7471ac35745cba", func := "gloaming/gloaminglaw21.RtRefs", spec := "rtRefs", unfollowed := true, recurses := true, apart := false }
def RtRefsSaid : Prop := rtRefsRow.holds Tryz.pinned (OpenSpec.ofChange rtRefsSpec)

/-- ITS FALSE NEIGHBOUR: 'it returns false'. Refute it at one input. -/
def rtRefsWrong : ChangeSpec := { name := "rtRefs", fn := fun _ => fun
  | [d1, d2] => { results := [.lit (.bool false)], args := [d1, d2] }
  | _ => none }
def RtRefsWrongFalsely : Prop := rtRefsRow.holds Tryz.pinned (OpenSpec.ofChange rtRefsWrong)

/-- 'gloaminglaw21.RtHandles': WHATEVER THE INPUT: true; the input reads as it did. -/
def rtHandlesSpec : ChangeSpec := { name := "rtHandles", fn := fun _ => fun
  | [d] => { results := [.lit (.bool true)], args := [d] }
  | _ => none }
def rtHandlesRow : OpenClaim := { program := "ytfepdmpplahloaagreat", sum := "c300647651bd1285cd8f31cc29e3e32be11f1063f9d05bc17f7471ac35745cba", func := "gloaming/gloaminglaw21.RtHandles", spec := "rtHandles", unfollowed := true, recurses := true, apart := false }
def RtHandlesSaid : Prop := rtHandlesRow.holds Tryz.pinned (OpenSpec.ofChange rtHandlesSpec)

/-- ITS FALSE NEIGHBOUR: 'it returns false'. Refute it at one input. -/
def rtHandlesWrong : ChangeSpec := { name := "rtHandles", fn := fun _ => fun
  | [d] => { results := [.lit (.bool false)], args := [d] }
  | _ => none }
def RtHandlesWrongFalsely : Prop := rtHandlesRow.holds Tryz.pinned (OpenSpec.ofChange rtHandlesWrong)

/-- 'gloaminglaw21.RtTimes': WHATEVER THE INPUT: true; the input reads as it did. -/
def rtTimesSpec : ChangeSpec := { name := "rtTimes", fn := fun _ => fun
  | [d1, d2] => { results := [.lit (.bool true)], args := [d1, d2] }
  | _ => none }
def rtTimesRow : OpenClaim := { program := "ytfepdmpplahloaagreat", sum := "c300647651bd1285cd8f31cc29e3e32be11f1063f9d05bc17f7471ac35745cba", func := "gloaming/gloaminglaw21.RtTimes", spec := "rtTimes", unfollowed := true, recurses := true, apart := false }
def RtTimesSaid : Prop := rtTimesRow.holds Tryz.pinned (OpenSpec.ofChange rtTimesSpec)

/-- ITS FALSE NEIGHBOUR: 'it returns false'. Refute it at one input. -/
def rtTimesWrong : ChangeSpec := { name := "rtTimes", fn := fun _ => fun
  | [d1, d2] => { results := [.lit (.bool false)], args := [d1, d2] }
  | _ => none }
def RtTimesWrongFalsely : Prop := rtTimesRow.holds Tryz.pinned (OpenSpec.ofChange rtTimesWrong)

/-- 'gloaminglaw21.RtRoom': WHATEVER THE INPUT: true; the input reads as it did. -/
def rtRoomSpec : ChangeSpec := { name := "rtRoom", fn := fun _ => fun
  | [d1, d2] => { results := [.lit (.bool true)], args := [d1, d2] }
  | _ => none }
def rtRoomRow : OpenClaim := { program := "ytfepdmpplahloaagreat", sum := "c300647651bd1285cd8f31cc29e3e32be11f1063f9d05bc17f7471ac35745cba", func := "gloaming/gloaminglaw21.RtRoom", spec := "rtRoom", unfollowed := true, recurses := true, apart := false }
def RtRoomSaid : Prop := rtRoomRow.holds Tryz.pinned (OpenSpec.ofChange rtRoomSpec)

/-- ITS FALSE NEIGHBOUR: 'it returns false'. Refute it at one input. -/
def rtRoomWrong : ChangeSpec := { name := "rtRoom", fn := fun _ => fun
  | [d1, d2] => { results := [.lit (.bool false)], args := [d1, d2] }
  | _ => none }
def RtRoomWrongFalsely : Prop := rtRoomRow.holds Tryz.pinned (OpenSpec.ofChange rtRoomWrong)

/-- 'gloaminglaw24.FairPolls': WHATEVER THE INPUT: true; the input reads as it did. -/
def fairPollsSpec : ChangeSpec := { name := "fairPolls", fn := fun _ => fun
  | [d1, d2, d3] => { results := [.lit (.bool true)], args := [d1, d2, d3] }
  | _ => none }
def fairPollsRow : OpenClaim := { program := "ytfepdmpplahloaagreat", sum := "c300647651bd1285cd8f31cc29e3e32be11f1063f9d05bc17f7471ac35745cba", func := "gloaming/gloaminglaw24.FairPolls", spec := "fairPolls", unfollowed := true, recurses := true, apart := false }
def FairPollsSaid : Prop := fairPollsRow.holds Tryz.pinned (OpenSpec.ofChange fairPollsSpec)

/-- ITS FALSE NEIGHBOUR: 'it returns false'. Refute it at one input. -/
def fairPollsWrong : ChangeSpec := { name := "fairPolls", fn := fun _ => fun
  | [d1, d2, d3] => { results := [.lit (.bool false)], args := [d1, d2, d3] }
  | _ => none }
def FairPollsWrongFalsely : Prop := fairPollsRow.holds Tryz.pinned (OpenSpec.ofChange fairPollsWrong)

/- THE SECOND FORM. 'bulk': how many values and letters a reading holds, each counted each time it is reached (what is shared counts as often as it is met; a slice's spare places count too). A statement '..UptoSaid' is the law's where the arguments, and the package variables that the reading takes, are together of bulk at most 1048576: NARROWER than '..Said'. Prove '..Said' where nothing that the law and all that it calls make is longer than what came in: it says more and counts as full. Else prove '..UptoSaid'. A law counts once. -/
mutual
def uptoBulk {H : Type} : DataW H → Nat
  | .lit (.string bytes) => bytes.length + 1
  | .lit _ => 1
  | .nil => 1
  | .ptr d => uptoBulk d + 1
  | .slice elems spare => uptoBulkAll elems + uptoBulkAll spare + 1
  | .agg parts => uptoBulkAll parts + 1
  | .iface _ d => uptoBulk d + 1
  | .map entries => uptoBulkEntries entries + 1
  | .held _ => 1
def uptoBulkAll {H : Type} : List (DataW H) → Nat
  | [] => 0
  | d :: r => uptoBulk d + uptoBulkAll r
def uptoBulkEntries {H : Type} : List (Lit × DataW H) → Nat
  | [] => 0
  | x :: r => uptoBulkEntry x + uptoBulkEntries r
def uptoBulkEntry {H : Type} : Lit × DataW H → Nat
  | (.string bytes, d) => bytes.length + uptoBulk d + 1
  | (_, d) => uptoBulk d + 1
 end
def uptoSmall : (H : Type) → List (DataW H) → Bool := fun _ ds => decide (uptoBulkAll ds ≤ 1048576)
def OpenSpec.upto (s : _root_.Go.ChangeSpec) : _root_.Go.OpenSpec := { _root_.Go.OpenSpec.ofChange s with cond := some uptoSmall }

/-- 'gloaminglaw21.RtRefs', WHERE WHAT IT READS IS OF BULK AT MOST 1048576: true; the input reads as it did. -/
def rtRefsUptoRow : OpenClaim := { program := "ytfepdmpplahloaagreat", sum := "c300647651bd1285cd8f31cc29e3e32be11f1063f9d05bc17f7471ac35745cba", func := "gloaming/gloaminglaw21.RtRefs", spec := "rtRefs", unfollowed := true, recurses := true, apart := false, narrowed := true }
def RtRefsUptoSaid : Prop := rtRefsUptoRow.holds Tryz.pinned (OpenSpec.upto rtRefsSpec)

/-- 'gloaminglaw21.RtHandles', WHERE WHAT IT READS IS OF BULK AT MOST 1048576: true; the input reads as it did. -/
def rtHandlesUptoRow : OpenClaim := { program := "ytfepdmpplahloaagreat", sum := "c300647651bd1285cd8f31cc29e3e32be11f1063f9d05bc17f7471ac35745cba", func := "gloaming/gloaminglaw21.RtHandles", spec := "rtHandles", unfollowed := true, recurses := true, apart := false, narrowed := true }
def RtHandlesUptoSaid : Prop := rtHandlesUptoRow.holds Tryz.pinned (OpenSpec.upto rtHandlesSpec)

/-- 'gloaminglaw21.RtTimes', WHERE WHAT IT READS IS OF BULK AT MOST 1048576: true; the input reads as it did. -/
def rtTimesUptoRow : OpenClaim := { program := "ytfepdmpplahloaagreat", sum := "c300647651bd1285cd8f31cc29e3e32be11f1063f9d05bc17f7471ac35745cba", func := "gloaming/gloaminglaw21.RtTimes", spec := "rtTimes", unfollowed := true, recurses := true, apart := false, narrowed := true }
def RtTimesUptoSaid : Prop := rtTimesUptoRow.holds Tryz.pinned (OpenSpec.upto rtTimesSpec)

/-- 'gloaminglaw21.RtRoom', WHERE WHAT IT READS IS OF BULK AT MOST 1048576: true; the input reads as it did. -/
def rtRoomUptoRow : OpenClaim := { program := "ytfepdmpplahloaagreat", sum := "c300647651bd1285cd8f31cc29e3e32be11f1063f9d05bc17f7471ac35745cba", func := "gloaming/gloaminglaw21.RtRoom", spec := "rtRoom", unfollowed := true, recurses := true, apart := false, narrowed := true }
def RtRoomUptoSaid : Prop := rtRoomUptoRow.holds Tryz.pinned (OpenSpec.upto rtRoomSpec)

/-- 'gloaminglaw24.FairPolls', WHERE WHAT IT READS IS OF BULK AT MOST 1048576: true; the input reads as it did. -/
def fairPollsUptoRow : OpenClaim := { program := "ytfepdmpplahloaagreat", sum := "c300647651bd1285cd8f31cc29e3e32be11f1063f9d05bc17f7471ac35745cba", func := "gloaming/gloaminglaw24.FairPolls", spec := "fairPolls", unfollowed := true, recurses := true, apart := false, narrowed := true }
def FairPollsUptoSaid : Prop := fairPollsUptoRow.holds Tryz.pinned (OpenSpec.upto fairPollsSpec)

end Rows
end Go.Proofs.YtfepdmpplahloaaGreat
