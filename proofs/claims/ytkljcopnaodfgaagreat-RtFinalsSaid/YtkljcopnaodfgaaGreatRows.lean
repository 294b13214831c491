/-
  No cell of these rows narrows 'for every input' (looked for: loops, veiled, ifaces, maps, wideKeys, modest, calm, conditions, laid).
  DERIVED. THE GIVEN ROWS OF THIS SEAT. 11 by the template 'for every input the law returns true; each argument reads behind the call as it read before'; 0 by the template 'total and deterministic' (their statements: YtkljcopnaodfgaaGreatTotals.lean).
  GIVEN WITH THE SEED: the statements are not yours to turn. If you find one false, say at which input.
  Laid BY PROGRAM, IN A SANDBOX (cutbox-rows.mjs): the forced cells as the released guide's own fill.sh prints them over the translation 71c7a5214d8e1b77… (all of the seat's roots in one cut). By AI agents, Wed Nov 11 2026. No macro, syntax, notation, axiom, sorry.
-/
import Derived.Test.YtkljcopnaodfgaaGreatChecked
import GoSem.Claim
import GoSem.ClaimJoined
import GoSem.ClaimMapViews
import Derived.JoinedTies
import Derived.KernelRfl
namespace Go.Proofs.YtkljcopnaodfgaaGreat
/- THE CELL 'sum', in the pinned program and in every row, IS THE sha256 OF THE DUMP (.gsa) THAT YtkljcopnaodfgaaGreatProg.lean LOADS. Nothing in Lean hashes anything: it is a label: what it is worth is what the hold of that sum in a sandbox is worth. -/
noncomputable def Tryz.pinned : Pinned := { name := "ytkljcopnaodfgaagreat", sum := "71c7a5214d8e1b774ac382c3d93a3df5b57f2933f4ba6c0073d534b4af1d2234", checked := Tryz.checked }
namespace Rows
def none {H : Type} : Left H := { results := [], args := [] }

/-- 'gloaminglaw21.RtFields': WHATEVER THE INPUT: true; the input reads as it did. -/
def rtFieldsSpec : ChangeSpec := { name := "rtFields", fn := fun _ => fun
  | [d1, d2, d3] => { results := [.lit (.bool true)], args := [d1, d2, d3] }
  | _ => none }
def rtFieldsRow : OpenClaim := { program := "ytkljcopnaodfgaagreat", sum := "71c7a5214d8e1b774ac382c3d93a3df5b57f2933f4ba6c0073d534b4af1d2234", func := "gloaming/gloaminglaw21.RtFields", spec := "rtFields", unfollowed := true, recurses := true, apart := false }
def RtFieldsSaid : Prop := rtFieldsRow.holds Tryz.pinned (OpenSpec.ofChange rtFieldsSpec)

/-- ITS FALSE NEIGHBOUR: 'it returns false'. Refute it at one input. -/
def rtFieldsWrong : ChangeSpec := { name := "rtFields", fn := fun _ => fun
  | [d1, d2, d3] => { results := [.lit (.bool false)], args := [d1, d2, d3] }
  | _ => none }
def RtFieldsWrongFalsely : Prop := rtFieldsRow.holds Tryz.pinned (OpenSpec.ofChange rtFieldsWrong)

/-- 'gloaminglaw21.RtStale': WHATEVER THE INPUT: true; the input reads as it did. -/
def rtStaleSpec : ChangeSpec := { name := "rtStale", fn := fun _ => fun
  | [d] => { results := [.lit (.bool true)], args := [d] }
  | _ => none }
def rtStaleRow : OpenClaim := { program := "ytkljcopnaodfgaagreat", sum := "71c7a5214d8e1b774ac382c3d93a3df5b57f2933f4ba6c0073d534b4af1d2234", func := "gloaming/gloaminglaw21.RtStale", spec := "rtStale", unfollowed := true, recurses := true, apart := false }
def RtStaleSaid : Prop := rtStaleRow.holds Tryz.pinned (OpenSpec.ofChange rtStaleSpec)

/-- ITS FALSE NEIGHBOUR: 'it returns false'. Refute it at one input. -/
def rtStaleWrong : ChangeSpec := { name := "rtStale", fn := fun _ => fun
  | [d] => { results := [.lit (.bool false)], args := [d] }
  | _ => none }
def RtStaleWrongFalsely : Prop := rtStaleRow.holds Tryz.pinned (OpenSpec.ofChange rtStaleWrong)

/-- 'gloaminglaw21.RtRoots': WHATEVER THE INPUT: true; the input reads as it did. -/
def rtRootsSpec : ChangeSpec := { name := "rtRoots", fn := fun _ => fun
  | [d1, d2, d3] => { results := [.lit (.bool true)], args := [d1, d2, d3] }
  | _ => none }
def rtRootsRow : OpenClaim := { program := "ytkljcopnaodfgaagreat", sum := "71c7a5214d8e1b774ac382c3d93a3df5b57f2933f4ba6c0073d534b4af1d2234", func := "gloaming/gloaminglaw21.RtRoots", spec := "rtRoots", unfollowed := true, recurses := true, apart := false }
def RtRootsSaid : Prop := rtRootsRow.holds Tryz.pinned (OpenSpec.ofChange rtRootsSpec)

/-- ITS FALSE NEIGHBOUR: 'it returns false'. Refute it at one input. -/
def rtRootsWrong : ChangeSpec := { name := "rtRoots", fn := fun _ => fun
  | [d1, d2, d3] => { results := [.lit (.bool false)], args := [d1, d2, d3] }
  | _ => none }
def RtRootsWrongFalsely : Prop := rtRootsRow.holds Tryz.pinned (OpenSpec.ofChange rtRootsWrong)

/-- 'gloaminglaw21.RtRefs': WHATEVER THE INPUT: true; the input reads as it did. -/
def rtRefsSpec : ChangeSpec := { name := "rtRefs", fn := fun _ => fun
  | [d1, d2] => { results := [.lit (.bool true)], args := [d1, d2] }
  | _ => none }
def rtRefsRow : OpenClaim := { program := "ytkljcopnaodfgaagreat", sum := "71c7a5214d8e1b774ac382c3d93a3df5b57f2933f4ba6c0073d534b4af1d2234", func := "gloaming/gloaminglaw21.RtRefs", spec := "rtRefs", unfollowed := true, recurses := true, apart := false }
def RtRefsSaid : Prop := rtRefsRow.holds Tryz.pinned (OpenSpec.ofChange rtRefsSpec)

/-- ITS FALSE NEIGHBOUR: 'it returns false'. Refute it at one input. -/
def rtRefsWrong : ChangeSpec := { name := "rtRefs", fn := fun _ => fun
  | [d1, d2] => { results := [.lit (.bool false)], args := [d1, d2] }
  | _ => none }
def RtRefsWrongFalsely : Prop := rtRefsRow.holds Tryz.pinned (OpenSpec.ofChange rtRefsWrong)

/-- 'gloaminglaw21.RtFinals': WHATEVER THE INPUT: true; the input reads as it did. -/
def rtFinalsSpec : ChangeSpec := { name := "rtFinals", fn := fun _ => fun
  | [d1, d2, d3] => { results := [.lit (.bool true)], args := [d1, d2, d3] }
  | _ => none }
def rtFinalsRow : OpenClaim := { program := "ytkljcopnaodfgaagreat", sum := "71c7a5214d8e1b774ac382c3d93a3df5b57f2933f4ba6c0073d534b4af1d2234", func := "gloaming/gloaminglaw21.RtFinals", spec := "rtFinals", unfollowed := true, recurses := true, apart := false }
def RtFinalsSaid : Prop := rtFinalsRow.holds Tryz.pinned (OpenSpec.ofChange rtFinalsSpec)

/-- ITS FALSE NEIGHBOUR: 'it returns false'. Refute it at one input. -/
def rtFinalsWrong : ChangeSpec := { name := "rtFinals", fn := fun _ => fun
  | [d1, d2, d3] => { results := [.lit (.bool false)], args := [d1, d2, d3] }
  | _ => none }
def RtFinalsWrongFalsely : Prop := rtFinalsRow.holds Tryz.pinned (OpenSpec.ofChange rtFinalsWrong)

/-- 'gloaminglaw21.RtMakes': WHATEVER THE INPUT: true; the input reads as it did. -/
def rtMakesSpec : ChangeSpec := { name := "rtMakes", fn := fun _ => fun
  | [d1, d2, d3] => { results := [.lit (.bool true)], args := [d1, d2, d3] }
  | _ => none }
def rtMakesRow : OpenClaim := { program := "ytkljcopnaodfgaagreat", sum := "71c7a5214d8e1b774ac382c3d93a3df5b57f2933f4ba6c0073d534b4af1d2234", func := "gloaming/gloaminglaw21.RtMakes", spec := "rtMakes", unfollowed := true, recurses := true, apart := false }
def RtMakesSaid : Prop := rtMakesRow.holds Tryz.pinned (OpenSpec.ofChange rtMakesSpec)

/-- ITS FALSE NEIGHBOUR: 'it returns false'. Refute it at one input. -/
def rtMakesWrong : ChangeSpec := { name := "rtMakes", fn := fun _ => fun
  | [d1, d2, d3] => { results := [.lit (.bool false)], args := [d1, d2, d3] }
  | _ => none }
def RtMakesWrongFalsely : Prop := rtMakesRow.holds Tryz.pinned (OpenSpec.ofChange rtMakesWrong)

/-- 'gloaminglaw21.RtHandles': WHATEVER THE INPUT: true; the input reads as it did. -/
def rtHandlesSpec : ChangeSpec := { name := "rtHandles", fn := fun _ => fun
  | [d] => { results := [.lit (.bool true)], args := [d] }
  | _ => none }
def rtHandlesRow : OpenClaim := { program := "ytkljcopnaodfgaagreat", sum := "71c7a5214d8e1b774ac382c3d93a3df5b57f2933f4ba6c0073d534b4af1d2234", func := "gloaming/gloaminglaw21.RtHandles", spec := "rtHandles", unfollowed := true, recurses := true, apart := false }
def RtHandlesSaid : Prop := rtHandlesRow.holds Tryz.pinned (OpenSpec.ofChange rtHandlesSpec)

/-- ITS FALSE NEIGHBOUR: 'it returns false'. Refute it at one input. -/
def rtHandlesWrong : ChangeSpec := { name := "rtHandles", fn := fun _ => fun
  | [d] => { results := [.lit (.bool false)], args := [d] }
  | _ => none }
def RtHandlesWrongFalsely : Prop := rtHandlesRow.holds Tryz.pinned (OpenSpec.ofChange rtHandlesWrong)

/-- 'gloaminglaw21.RtTimes': WHATEVER THE INPUT: true; the input reads as it did. -/
def rtTimesSpec : ChangeSpec := { name := "rtTimes", fn := fun _ => fun
  | [d1, d2] => { results := [.lit (.bool true)], args := [d1, d2] }
  | _ => none }
def rtTimesRow : OpenClaim := { program := "ytkljcopnaodfgaagreat", sum := "71c7a5214d8e1b774ac382c3d93a3df5b57f2933f4ba6c0073d534b4af1d2234", func := "gloaming/gloaminglaw21.RtTimes", spec := "rtTimes", unfollowed := true, recurses := true, apart := false }
def RtTimesSaid : Prop := rtTimesRow.holds Tryz.pinned (OpenSpec.ofChange rtTimesSpec)

/-- ITS FALSE NEIGHBOUR: 'it returns false'. Refute it at one input. -/
def rtTimesWrong : ChangeSpec := { name := "rtTimes", fn := fun _ => fun
  | [d1, d2] => { results := [.lit (.bool false)], args := [d1, d2] }
  | _ => none }
def RtTimesWrongFalsely : Prop := rtTimesRow.holds Tryz.pinned (OpenSpec.ofChange rtTimesWrong)

/-- 'gloaminglaw21.RtRoom': WHATEVER THE INPUT: true; the input reads as it did. -/
def rtRoomSpec : ChangeSpec := { name := "rtRoom", fn := fun _ => fun
  | [d1, d2] => { results := [.lit (.bool true)], args := [d1, d2] }
  | _ => none }
def rtRoomRow : OpenClaim := { program := "ytkljcopnaodfgaagreat", sum := "71c7a5214d8e1b774ac382c3d93a3df5b57f2933f4ba6c0073d534b4af1d2234", func := "gloaming/gloaminglaw21.RtRoom", spec := "rtRoom", unfollowed := true, recurses := true, apart := false }
def RtRoomSaid : Prop := rtRoomRow.holds Tryz.pinned (OpenSpec.ofChange rtRoomSpec)

/-- ITS FALSE NEIGHBOUR: 'it returns false'. Refute it at one input. -/
def rtRoomWrong : ChangeSpec := { name := "rtRoom", fn := fun _ => fun
  | [d1, d2] => { results := [.lit (.bool false)], args := [d1, d2] }
  | _ => none }
def RtRoomWrongFalsely : Prop := rtRoomRow.holds Tryz.pinned (OpenSpec.ofChange rtRoomWrong)

/-- 'gloaminglaw21.RtCounts': WHATEVER THE INPUT: true; the input reads as it did. -/
def rtCountsSpec : ChangeSpec := { name := "rtCounts", fn := fun _ => fun
  | [d1, d2] => { results := [.lit (.bool true)], args := [d1, d2] }
  | _ => none }
def rtCountsRow : OpenClaim := { program := "ytkljcopnaodfgaagreat", sum := "71c7a5214d8e1b774ac382c3d93a3df5b57f2933f4ba6c0073d534b4af1d2234", func := "gloaming/gloaminglaw21.RtCounts", spec := "rtCounts", unfollowed := true, recurses := true, apart := false }
def RtCountsSaid : Prop := rtCountsRow.holds Tryz.pinned (OpenSpec.ofChange rtCountsSpec)

/-- ITS FALSE NEIGHBOUR: 'it returns false'. Refute it at one input. -/
def rtCountsWrong : ChangeSpec := { name := "rtCounts", fn := fun _ => fun
  | [d1, d2] => { results := [.lit (.bool false)], args := [d1, d2] }
  | _ => none }
def RtCountsWrongFalsely : Prop := rtCountsRow.holds Tryz.pinned (OpenSpec.ofChange rtCountsWrong)

/-- 'gloaminglaw24.FairPolls': WHATEVER THE INPUT: true; the input reads as it did. -/
def fairPollsSpec : ChangeSpec := { name := "fairPolls", fn := fun _ => fun
  | [d1, d2, d3] => { results := [.lit (.bool true)], args := [d1, d2, d3] }
  | _ => none }
def fairPollsRow : OpenClaim := { program := "ytkljcopnaodfgaagreat", sum := "71c7a5214d8e1b774ac382c3d93a3df5b57f2933f4ba6c0073d534b4af1d2234", func := "gloaming/gloaminglaw24.FairPolls", spec := "fairPolls", unfollowed := true, recurses := true, apart := false }
def FairPollsSaid : Prop := fairPollsRow.holds Tryz.pinned (OpenSpec.ofChange fairPollsSpec)

/-- ITS FALSE NEIGHBOUR: 'it returns false'. Refute it at one input. -/
def fairPollsWrong : ChangeSpec := { name := "fairPolls", fn := fun _ => fun
  | [d1, d2, d3] => { results := [.lit (.bool false)], args := [d1, d2, d3] }
  | _ => none }
def FairPollsWrongFalsely : Prop := fairPollsRow.holds Tryz.pinned (OpenSpec.ofChange fairPollsWrong)

/- THE SECOND FORM. 'bulk': how many values and letters a reading holds, each counted each time it is reached (what is shared counts as often as it is met; a slice's spare places count too). A statement '..UptoSaid' is the law's where the arguments, and the package variables that the reading takes, are together of bulk at most 1048576: NARROWER than '..Said'. Prove '..Said' where nothing that the law and all that it calls make is longer than what came in: it says more and counts as full. Else prove '..UptoSaid'. A law counts once. -/
mutual
def uptoBulk {H : Type} : DataW H → Nat
  | .lit (.string bytes) => bytes.length + 1
  | .lit _ => 1
  | .nil => 1
  | .ptr d => uptoBulk d + 1
  | .slice elems spare => uptoBulkAll elems + uptoBulkAll spare + 1
  | .agg parts => uptoBulkAll parts + 1
  | .iface _ d => uptoBulk d + 1
  | .map entries => uptoBulkEntries entries + 1
  | .held _ => 1
def uptoBulkAll {H : Type} : List (DataW H) → Nat
  | [] => 0
  | d :: r => uptoBulk d + uptoBulkAll r
def uptoBulkEntries {H : Type} : List (Lit × DataW H) → Nat
  | [] => 0
  | x :: r => uptoBulkEntry x + uptoBulkEntries r
def uptoBulkEntry {H : Type} : Lit × DataW H → Nat
  | (.string bytes, d) => bytes.length + uptoBulk d + 1
  | (_, d) => uptoBulk d + 1
 end
def uptoSmall : (H : Type) → List (DataW H) → Bool := fun _ ds => decide (uptoBulkAll ds ≤ 1048576)
def OpenSpec.upto (s : _root_.Go.ChangeSpec) : _root_.Go.OpenSpec := { _root_.Go.OpenSpec.ofChange s with cond := some uptoSmall }

/-- 'gloaminglaw21.RtFields', WHERE WHAT IT READS IS OF BULK AT MOST 1048576: true; the input reads as it did. -/
def rtFieldsUptoRow : OpenClaim := { program := "ytkljcopnaodfgaagreat", sum := "71c7a5214d8e1b774ac382c3d93a3df5b57f2933f4ba6c0073d534b4af1d2234", func := "gloaming/gloaminglaw21.RtFields", spec := "rtFields", unfollowed := true, recurses := true, apart := false, narrowed := true }
def RtFieldsUptoSaid : Prop := rtFieldsUptoRow.holds Tryz.pinned (OpenSpec.upto rtFieldsSpec)

/-- 'gloaminglaw21.RtStale', WHERE WHAT IT READS IS OF BULK AT MOST 1048576: true; the input reads as it did. -/
def rtStaleUptoRow : OpenClaim := { program := "ytkljcopnaodfgaagreat", sum := "71c7a5214d8e1b774ac382c3d93a3df5b57f2933f4ba6c0073d534b4af1d2234", func := "gloaming/gloaminglaw21.RtStale", spec := "rtStale", unfollowed := true, recurses := true, apart := false, narrowed := true }
def RtStaleUptoSaid : Prop := rtStaleUptoRow.holds Tryz.pinned (OpenSpec.upto rtStaleSpec)

/-- 'gloaminglaw21.RtRoots', WHERE WHAT IT READS IS OF BULK AT MOST 1048576: true; the input reads as it did. -/
def rtRootsUptoRow : OpenClaim := { program := "ytkljcopnaodfgaagreat", sum := "71c7a5214d8e1b774ac382c3d93a3df5b57f2933f4ba6c0073d534b4af1d2234", func := "gloaming/gloaminglaw21.RtRoots", spec := "rtRoots", unfollowed := true, recurses := true, apart := false, narrowed := true }
def RtRootsUptoSaid : Prop := rtRootsUptoRow.holds Tryz.pinned (OpenSpec.upto rtRootsSpec)

/-- 'gloaminglaw21.RtRefs', WHERE WHAT IT READS IS OF BULK AT MOST 1048576: true; the input reads as it did. -/
def rtRefsUptoRow : OpenClaim := { program := "ytkljcopnaodfgaagreat", sum := "71c7a5214d8e1b774ac382c3d93a3df5b57f2933f4ba6c0073d534b4af1d2234", func := "gloaming/gloaminglaw21.RtRefs", spec := "rtRefs", unfollowed := true, recurses := true, apart := false, narrowed := true }
def RtRefsUptoSaid : Prop := rtRefsUptoRow.holds Tryz.pinned (OpenSpec.upto rtRefsSpec)

/-- 'gloaminglaw21.RtFinals', WHERE WHAT IT READS IS OF BULK AT MOST 1048576: true; the input reads as it did. -/
def rtFinalsUptoRow : OpenClaim := { program := "ytkljcopnaodfgaagreat", sum := "71c7a5214d8e1b774ac382c3d93a3df5b57f2933f4ba6c0073d534b4af1d2234", func := "gloaming/gloaminglaw21.RtFinals", spec := "rtFinals", unfollowed := true, recurses := true, apart := false, narrowed := true }
def RtFinalsUptoSaid : Prop := rtFinalsUptoRow.holds Tryz.pinned (OpenSpec.upto rtFinalsSpec)

/-- 'gloaminglaw21.RtMakes', WHERE WHAT IT READS IS OF BULK AT MOST 1048576: true; the input reads as it did. -/
def rtMakesUptoRow : OpenClaim := { program := "ytkljcopnaodfgaagreat", sum := "71c7a5214d8e1b774ac382c3d93a3df5b57f2933f4ba6c0073d534b4af1d2234", func := "gloaming/gloaminglaw21.RtMakes", spec := "rtMakes", unfollowed := true, recurses := true, apart := false, narrowed := true }
def RtMakesUptoSaid : Prop := rtMakesUptoRow.holds Tryz.pinned (OpenSpec.upto rtMakesSpec)

/-- 'gloaminglaw21.RtHandles', WHERE WHAT IT READS IS OF BULK AT MOST 1048576: true; the input reads as it did. -/
def rtHandlesUptoRow : OpenClaim := { program := "ytkljcopnaodfgaagreat", sum := "71c7a5214d8e1b774ac382c3d93a3df5b57f2933f4ba6c0073d534b4af1d2234", func := "gloaming/gloaminglaw21.RtHandles", spec := "rtHandles", unfollowed := true, recurses := true, apart := false, narrowed := true }
def RtHandlesUptoSaid : Prop := rtHandlesUptoRow.holds Tryz.pinned (OpenSpec.upto rtHandlesSpec)

/-- 'gloaminglaw21.RtTimes', WHERE WHAT IT READS IS OF BULK AT MOST 1048576: true; the input reads as it did. -/
def rtTimesUptoRow : OpenClaim := { program := "ytkljcopnaodfgaagreat", sum := "71c7a5214d8e1b774ac382c3d93a3df5b57f2933f4ba6c0073d534b4af1d2234", func := "gloaming/gloaminglaw21.RtTimes", spec := "rtTimes", unfollowed := true, recurses := true, apart := false, narrowed := true }
def RtTimesUptoSaid : Prop := rtTimesUptoRow.holds Tryz.pinned (OpenSpec.upto rtTimesSpec)

/-- 'gloaminglaw21.RtRoom', WHERE WHAT IT READS IS OF BULK AT MOST 1048576: true; the input reads as it did. -/
def rtRoomUptoRow : OpenClaim := { program := "ytkljcopnaodfgaagreat", sum := "71c7a5214d8e1b774ac382c3d93a3df5b57f2933f4ba6c0073d534b4af1d2234", func := "gloaming/gloaminglaw21.RtRoom", spec := "rtRoom", unfollowed := true, recurses := true, apart := false, narrowed := true }
def RtRoomUptoSaid : Prop := rtRoomUptoRow.holds Tryz.pinned (OpenSpec.upto rtRoomSpec)

/-- 'gloaminglaw21.RtCounts', WHERE WHAT IT READS IS OF BULK AT MOST 1048576: true; the input reads as it did. -/
def rtCountsUptoRow : OpenClaim := { program := "ytkljcopnaodfgaagreat", sum := "71c7a5214d8e1b774ac382c3d93a3df5b57f2933f4ba6c0073d534b4af1d2234", func := "gloaming/gloaminglaw21.RtCounts", spec := "rtCounts", unfollowed := true, recurses := true, apart := false, narrowed := true }
def RtCountsUptoSaid : Prop := rtCountsUptoRow.holds Tryz.pinned (OpenSpec.upto rtCountsSpec)

/-- 'gloaminglaw24.FairPolls', WHERE WHAT IT READS IS OF BULK AT MOST 1048576: true; the input reads as it did. -/
def fairPollsUptoRow : OpenClaim := { program := "ytkljcopnaodfgaagreat", sum := "71c7a5214d8e1b774ac382c3d93a3df5b57f2933f4ba6c0073d534b4af1d2234", func := "gloaming/gloaminglaw24.FairPolls", spec := "fairPolls", unfollowed := true, recurses := true, apart := false, narrowed := true }
def FairPollsUptoSaid : Prop := fairPollsUptoRow.holds Tryz.pinned (OpenSpec.upto fairPollsSpec)

end Rows
end Go.Proofs.YtkljcopnaodfgaaGreat
