/-
  No cell of these rows narrows 'for every input' (looked for: loops, veiled, ifaces, maps, wideKeys, modest, calm, conditions, laid).
  DERIVED. THE GIVEN ROWS OF THIS SEAT. 8 by the template 'for every input the law returns true; each argument reads behind the call as it read before'; 0 by the template 'total and deterministic' (their statements: YtncpnmpfghppeaaTotals.lean).
  GIVEN WITH THE SEED: the statements are not yours to turn. If you find one false, say at which input.
  Laid BY PROGRAM, IN A SANDBOX (cutbox-rows.mjs): the forced cells as the released guide's own fill.sh prints them over the translation 1f4e5894197a6377… (all of the seat's roots in one cut). By AI agents, Wed Nov 11 2026. No macro, syntax, notation, axiom, sorry.
-/
import Derived.Test.YtncpnmpfghppeaaChecked
import GoSem.Claim
import GoSem.ClaimJoined
import GoSem.ClaimMapViews
import Derived.JoinedTies
import Derived.KernelRfl
namespace Go.Proofs.Ytncpnmpfghppeaa
/- THE CELL 'sum', in the pinned program and in every row, IS THE sha256 OF THE DUMP (.gsa) THAT YtncpnmpfghppeaaProg.lean LOADS. Nothing in Lean hashes anything: it is a label: what it is worth is what the hold of that sum in a sandbox is worth. -/
noncomputable def Try.pinned : Pinned := { name := "ytncpnmpfghppeaa", sum := "1f4e5894197a6377a131bcee7ffce4aa2665d568706cd869484d41a7d4897062", checked := Try.checked }
namespace Rows
def none {H : Type} : Left H := { results := [], args := [] }

/-- 'gloaminglaw9.ObjectMakes': WHATEVER THE INPUT: true; the input reads as it did. -/
def objectMakesSpec : ChangeSpec := { name := "objectMakes", fn := fun _ => fun
  | [d] => { results := [.lit (.bool true)], args := [d] }
  | _ => none }
def objectMakesRow : OpenClaim := { program := "ytncpnmpfghppeaa", sum := "1f4e5894197a6377a131bcee7ffce4aa2665d568706cd869484d41a7d4897062", func := "gloaming/gloaminglaw9.ObjectMakes", spec := "objectMakes", unfollowed := true, recurses := true, apart := false }
def ObjectMakesSaid : Prop := objectMakesRow.holds Try.pinned (OpenSpec.ofChange objectMakesSpec)

/-- ITS FALSE NEIGHBOUR: 'it returns false'. Refute it at one input. -/
def objectMakesWrong : ChangeSpec := { name := "objectMakes", fn := fun _ => fun
  | [d] => { results := [.lit (.bool false)], args := [d] }
  | _ => none }
def ObjectMakesWrongFalsely : Prop := objectMakesRow.holds Try.pinned (OpenSpec.ofChange objectMakesWrong)

/-- 'gloaminglaw9.ObjectFields': WHATEVER THE INPUT: true; the input reads as it did. -/
def objectFieldsSpec : ChangeSpec := { name := "objectFields", fn := fun _ => fun
  | [d1, d2, d3, d4, d5] => { results := [.lit (.bool true)], args := [d1, d2, d3, d4, d5] }
  | _ => none }
def objectFieldsRow : OpenClaim := { program := "ytncpnmpfghppeaa", sum := "1f4e5894197a6377a131bcee7ffce4aa2665d568706cd869484d41a7d4897062", func := "gloaming/gloaminglaw9.ObjectFields", spec := "objectFields", unfollowed := true, recurses := true, apart := false }
def ObjectFieldsSaid : Prop := objectFieldsRow.holds Try.pinned (OpenSpec.ofChange objectFieldsSpec)

/-- ITS FALSE NEIGHBOUR: 'it returns false'. Refute it at one input. -/
def objectFieldsWrong : ChangeSpec := { name := "objectFields", fn := fun _ => fun
  | [d1, d2, d3, d4, d5] => { results := [.lit (.bool false)], args := [d1, d2, d3, d4, d5] }
  | _ => none }
def ObjectFieldsWrongFalsely : Prop := objectFieldsRow.holds Try.pinned (OpenSpec.ofChange objectFieldsWrong)

/-- 'gloaminglaw9.ObjectGone': WHATEVER THE INPUT: true; the input reads as it did. -/
def objectGoneSpec : ChangeSpec := { name := "objectGone", fn := fun _ => fun
  | [d1, d2] => { results := [.lit (.bool true)], args := [d1, d2] }
  | _ => none }
def objectGoneRow : OpenClaim := { program := "ytncpnmpfghppeaa", sum := "1f4e5894197a6377a131bcee7ffce4aa2665d568706cd869484d41a7d4897062", func := "gloaming/gloaminglaw9.ObjectGone", spec := "objectGone", unfollowed := true, recurses := true, apart := false }
def ObjectGoneSaid : Prop := objectGoneRow.holds Try.pinned (OpenSpec.ofChange objectGoneSpec)

/-- ITS FALSE NEIGHBOUR: 'it returns false'. Refute it at one input. -/
def objectGoneWrong : ChangeSpec := { name := "objectGone", fn := fun _ => fun
  | [d1, d2] => { results := [.lit (.bool false)], args := [d1, d2] }
  | _ => none }
def ObjectGoneWrongFalsely : Prop := objectGoneRow.holds Try.pinned (OpenSpec.ofChange objectGoneWrong)

/-- 'gloaminglaw9.ObjectRefuses': WHATEVER THE INPUT: true; the input reads as it did. -/
def objectRefusesSpec : ChangeSpec := { name := "objectRefuses", fn := fun _ => fun
  | [d1, d2] => { results := [.lit (.bool true)], args := [d1, d2] }
  | _ => none }
def objectRefusesRow : OpenClaim := { program := "ytncpnmpfghppeaa", sum := "1f4e5894197a6377a131bcee7ffce4aa2665d568706cd869484d41a7d4897062", func := "gloaming/gloaminglaw9.ObjectRefuses", spec := "objectRefuses", unfollowed := true, recurses := true, apart := false }
def ObjectRefusesSaid : Prop := objectRefusesRow.holds Try.pinned (OpenSpec.ofChange objectRefusesSpec)

/-- ITS FALSE NEIGHBOUR: 'it returns false'. Refute it at one input. -/
def objectRefusesWrong : ChangeSpec := { name := "objectRefuses", fn := fun _ => fun
  | [d1, d2] => { results := [.lit (.bool false)], args := [d1, d2] }
  | _ => none }
def ObjectRefusesWrongFalsely : Prop := objectRefusesRow.holds Try.pinned (OpenSpec.ofChange objectRefusesWrong)

/-- 'gloaminglaw9.ObjectClasses': WHATEVER THE INPUT: true; the input reads as it did. -/
def objectClassesSpec : ChangeSpec := { name := "objectClasses", fn := fun _ => fun
  | [d] => { results := [.lit (.bool true)], args := [d] }
  | _ => none }
def objectClassesRow : OpenClaim := { program := "ytncpnmpfghppeaa", sum := "1f4e5894197a6377a131bcee7ffce4aa2665d568706cd869484d41a7d4897062", func := "gloaming/gloaminglaw9.ObjectClasses", spec := "objectClasses", unfollowed := true, recurses := true, apart := false }
def ObjectClassesSaid : Prop := objectClassesRow.holds Try.pinned (OpenSpec.ofChange objectClassesSpec)

/-- ITS FALSE NEIGHBOUR: 'it returns false'. Refute it at one input. -/
def objectClassesWrong : ChangeSpec := { name := "objectClasses", fn := fun _ => fun
  | [d] => { results := [.lit (.bool false)], args := [d] }
  | _ => none }
def ObjectClassesWrongFalsely : Prop := objectClassesRow.holds Try.pinned (OpenSpec.ofChange objectClassesWrong)

/-- 'gloaminglaw9.ObjectKinds': WHATEVER THE INPUT: true; the input reads as it did. -/
def objectKindsSpec : ChangeSpec := { name := "objectKinds", fn := fun _ => fun
  | [d1, d2, d3] => { results := [.lit (.bool true)], args := [d1, d2, d3] }
  | _ => none }
def objectKindsRow : OpenClaim := { program := "ytncpnmpfghppeaa", sum := "1f4e5894197a6377a131bcee7ffce4aa2665d568706cd869484d41a7d4897062", func := "gloaming/gloaminglaw9.ObjectKinds", spec := "objectKinds", unfollowed := true, recurses := true, apart := false }
def ObjectKindsSaid : Prop := objectKindsRow.holds Try.pinned (OpenSpec.ofChange objectKindsSpec)

/-- ITS FALSE NEIGHBOUR: 'it returns false'. Refute it at one input. -/
def objectKindsWrong : ChangeSpec := { name := "objectKinds", fn := fun _ => fun
  | [d1, d2, d3] => { results := [.lit (.bool false)], args := [d1, d2, d3] }
  | _ => none }
def ObjectKindsWrongFalsely : Prop := objectKindsRow.holds Try.pinned (OpenSpec.ofChange objectKindsWrong)

/-- 'gloaminglaw19.SweepDead': WHATEVER THE INPUT: true; the input reads as it did. -/
def sweepDeadSpec : ChangeSpec := { name := "sweepDead", fn := fun _ => fun
  | [d1, d2] => { results := [.lit (.bool true)], args := [d1, d2] }
  | _ => none }
def sweepDeadRow : OpenClaim := { program := "ytncpnmpfghppeaa", sum := "1f4e5894197a6377a131bcee7ffce4aa2665d568706cd869484d41a7d4897062", func := "gloaming/gloaminglaw19.SweepDead", spec := "sweepDead", unfollowed := true, recurses := true, apart := false }
def SweepDeadSaid : Prop := sweepDeadRow.holds Try.pinned (OpenSpec.ofChange sweepDeadSpec)

/-- ITS FALSE NEIGHBOUR: 'it returns false'. Refute it at one input. -/
def sweepDeadWrong : ChangeSpec := { name := "sweepDead", fn := fun _ => fun
  | [d1, d2] => { results := [.lit (.bool false)], args := [d1, d2] }
  | _ => none }
def SweepDeadWrongFalsely : Prop := sweepDeadRow.holds Try.pinned (OpenSpec.ofChange sweepDeadWrong)

/-- 'gloaminglaw19.SweepLeaves': WHATEVER THE INPUT: true; the input reads as it did. -/
def sweepLeavesSpec : ChangeSpec := { name := "sweepLeaves", fn := fun _ => fun
  | [d1, d2] => { results := [.lit (.bool true)], args := [d1, d2] }
  | _ => none }
def sweepLeavesRow : OpenClaim := { program := "ytncpnmpfghppeaa", sum := "1f4e5894197a6377a131bcee7ffce4aa2665d568706cd869484d41a7d4897062", func := "gloaming/gloaminglaw19.SweepLeaves", spec := "sweepLeaves", unfollowed := true, recurses := true, apart := false }
def SweepLeavesSaid : Prop := sweepLeavesRow.holds Try.pinned (OpenSpec.ofChange sweepLeavesSpec)

/-- ITS FALSE NEIGHBOUR: 'it returns false'. Refute it at one input. -/
def sweepLeavesWrong : ChangeSpec := { name := "sweepLeaves", fn := fun _ => fun
  | [d1, d2] => { results := [.lit (.bool false)], args := [d1, d2] }
  | _ => none }
def SweepLeavesWrongFalsely : Prop := sweepLeavesRow.holds Try.pinned (OpenSpec.ofChange sweepLeavesWrong)

/- THE SECOND FORM. 'bulk': how many values and letters a reading holds, each counted each time it is reached (what is shared counts as often as it is met; a slice's spare places count too). A statement '..UptoSaid' is the law's where the arguments, and the package variables that the reading takes, are together of bulk at most 1048576: NARROWER than '..Said'. Prove '..Said' where nothing that the law and all that it calls make is longer than what came in: it says more and counts as full. Else prove '..UptoSaid'. A law counts once. -/
mutual
def uptoBulk {H : Type} : DataW H → Nat
  | .lit (.string bytes) => bytes.length + 1
  | .lit _ => 1
  | .nil => 1
  | .ptr d => uptoBulk d + 1
  | .slice elems spare => uptoBulkAll elems + uptoBulkAll spare + 1
  | .agg parts => uptoBulkAll parts + 1
  | .iface _ d => uptoBulk d + 1
  | .map entries => uptoBulkEntries entries + 1
  | .held _ => 1
def uptoBulkAll {H : Type} : List (DataW H) → Nat
  | [] => 0
  | d :: r => uptoBulk d + uptoBulkAll r
def uptoBulkEntries {H : Type} : List (Lit × DataW H) → Nat
  | [] => 0
  | x :: r => uptoBulkEntry x + uptoBulkEntries r
def uptoBulkEntry {H : Type} : Lit × DataW H → Nat
  | (.string bytes, d) => bytes.length + uptoBulk d + 1
  | (_, d) => uptoBulk d + 1
 end
def uptoSmall : (H : Type) → List (DataW H) → Bool := fun _ ds => decide (uptoBulkAll ds ≤ 1048576)
def OpenSpec.upto (s : _root_.Go.ChangeSpec) : _root_.Go.OpenSpec := { _root_.Go.OpenSpec.ofChange s with cond := some uptoSmall }

/-- 'gloaminglaw9.ObjectMakes', WHERE WHAT IT READS IS OF BULK AT MOST 1048576: true; the input reads as it did. -/
def objectMakesUptoRow : OpenClaim := { program := "ytncpnmpfghppeaa", sum := "1f4e5894197a6377a131bcee7ffce4aa2665d568706cd869484d41a7d4897062", func := "gloaming/gloaminglaw9.ObjectMakes", spec := "objectMakes", unfollowed := true, recurses := true, apart := false, narrowed := true }
def ObjectMakesUptoSaid : Prop := objectMakesUptoRow.holds Try.pinned (OpenSpec.upto objectMakesSpec)

/-- 'gloaminglaw9.ObjectFields', WHERE WHAT IT READS IS OF BULK AT MOST 1048576: true; the input reads as it did. -/
def objectFieldsUptoRow : OpenClaim := { program := "ytncpnmpfghppeaa", sum := "1f4e5894197a6377a131bcee7ffce4aa2665d568706cd869484d41a7d4897062", func := "gloaming/gloaminglaw9.ObjectFields", spec := "objectFields", unfollowed := true, recurses := true, apart := false, narrowed := true }
def ObjectFieldsUptoSaid : Prop := objectFieldsUptoRow.holds Try.pinned (OpenSpec.upto objectFieldsSpec)

/-- 'gloaminglaw9.ObjectGone', WHERE WHAT IT READS IS OF BULK AT MOST 1048576: true; the input reads as it did. -/
def objectGoneUptoRow : OpenClaim := { program := "ytncpnmpfghppeaa", sum := "1f4e5894197a6377a131bcee7ffce4aa2665d568706cd869484d41a7d4897062", func := "gloaming/gloaminglaw9.ObjectGone", spec := "objectGone", unfollowed := true, recurses := true, apart := false, narrowed := true }
def ObjectGoneUptoSaid : Prop := objectGoneUptoRow.holds Try.pinned (OpenSpec.upto objectGoneSpec)

/-- 'gloaminglaw9.ObjectRefuses', WHERE WHAT IT READS IS OF BULK AT MOST 1048576: true; the input reads as it did. -/
def objectRefusesUptoRow : OpenClaim := { program := "ytncpnmpfghppeaa", sum := "1f4e5894197a6377a131bcee7ffce4aa2665d568706cd869484d41a7d4897062", func := "gloaming/gloaminglaw9.ObjectRefuses", spec := "objectRefuses", unfollowed := true, recurses := true, apart := false, narrowed := true }
def ObjectRefusesUptoSaid : Prop := objectRefusesUptoRow.holds Try.pinned (OpenSpec.upto objectRefusesSpec)

/-- 'gloaminglaw9.ObjectClasses', WHERE WHAT IT READS IS OF BULK AT MOST 1048576: true; the input reads as it did. -/
def objectClassesUptoRow : OpenClaim := { program := "ytncpnmpfghppeaa", sum := "1f4e5894197a6377a131bcee7ffce4aa2665d568706cd869484d41a7d4897062", func := "gloaming/gloaminglaw9.ObjectClasses", spec := "objectClasses", unfollowed := true, recurses := true, apart := false, narrowed := true }
def ObjectClassesUptoSaid : Prop := objectClassesUptoRow.holds Try.pinned (OpenSpec.upto objectClassesSpec)

/-- 'gloaminglaw9.ObjectKinds', WHERE WHAT IT READS IS OF BULK AT MOST 1048576: true; the input reads as it did. -/
def objectKindsUptoRow : OpenClaim := { program := "ytncpnmpfghppeaa", sum := "1f4e5894197a6377a131bcee7ffce4aa2665d568706cd869484d41a7d4897062", func := "gloaming/gloaminglaw9.ObjectKinds", spec := "objectKinds", unfollowed := true, recurses := true, apart := false, narrowed := true }
def ObjectKindsUptoSaid : Prop := objectKindsUptoRow.holds Try.pinned (OpenSpec.upto objectKindsSpec)

/-- 'gloaminglaw19.SweepDead', WHERE WHAT IT READS IS OF BULK AT MOST 1048576: true; the input reads as it did. -/
def sweepDeadUptoRow : OpenClaim := { program := "ytncpnmpfghppeaa", sum := "1f4e5894197a6377a131bcee7ffce4aa2665d568706cd869484d41a7d4897062", func := "gloaming/gloaminglaw19.SweepDead", spec := "sweepDead", unfollowed := true, recurses := true, apart := false, narrowed := true }
def SweepDeadUptoSaid : Prop := sweepDeadUptoRow.holds Try.pinned (OpenSpec.upto sweepDeadSpec)

/-- 'gloaminglaw19.SweepLeaves', WHERE WHAT IT READS IS OF BULK AT MOST 1048576: true; the input reads as it did. -/
def sweepLeavesUptoRow : OpenClaim := { program := "ytncpnmpfghppeaa", sum := "1f4e5894197a6377a131bcee7ffce4aa2665d568706cd869484d41a7d4897062", func := "gloaming/gloaminglaw19.SweepLeaves", spec := "sweepLeaves", unfollowed := true, recurses := true, apart := false, narrowed := true }
def SweepLeavesUptoSaid : Prop := sweepLeavesUptoRow.holds Try.pinned (OpenSpec.upto sweepLeavesSpec)

end Rows
end Go.Proofs.Ytncpnmpfghppeaa
