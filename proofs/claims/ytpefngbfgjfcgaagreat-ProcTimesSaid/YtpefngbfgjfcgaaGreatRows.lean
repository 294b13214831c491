/-
  No cell of these rows narrows 'for every input' (looked for: loops, veiled, ifaces, maps, wideKeys, modest, calm, conditions, laid).
  DERIVED. THE GIVEN ROWS OF THIS SEAT. 10 by the template 'for every input the law returns true; each argument reads behind the call as it read before'; 0 by the template 'total and deterministic' (their statements: YtpefngbfgjfcgaaGreatTotals.lean).
  GIVEN WITH THE SEED: the statements are not yours to turn. If you find one false, say at which input.
  Laid BY PROGRAM, IN A SANDBOX (cutbox-rows.mjs): the forced cells as the released guide's own fill.sh prints them over the translation c6814d7f0a669563… (all of the seat's roots in one cut). By AI agents, Wed Nov 11 2026. No macro, syntax, notation, axiom, sorry.
-/
import Derived.Test.YtpefngbfgjfcgaaGreatChecked
import GoSem.Claim
import GoSem.ClaimJoined
import GoSem.ClaimMapViews
import Derived.JoinedTies
import Derived.KernelRfl
namespace Go.Proofs.YtpefngbfgjfcgaaGreat
/- THE CELL 'sum', in the pinned program and in every row, IS THE sha256 OF THE DUMP (.gsa) THAT YtpefngbfgjfcgaaGreatProg.lean LOADS. Nothing in Lean hashes anything: it is a label: what it is worth is what the hold of that sum in a sandbox is worth. -/
noncomputable def Tryz.pinned : Pinned := { name := "ytpefngbfgjfcgaagreat", sum := "c6814d7f0a669563bfab7fe489cc72f471fbec0ca5c29ab13f4ccbc906d706a5", checked := Tryz.checked }
namespace Rows
def none {H : Type} : Left H := { results := [], args := [] }

/-- 'gloaminglaw18.ProcGraph': WHATEVER THE INPUT: true; the input reads as it did. -/
def procGraphSpec : ChangeSpec := { name := "procGraph", fn := fun _ => fun
  | [d1, d2, d3, d4, d5, d6, d7, d8] => { results := [.lit (.bool true)], args := [d1, d2, d3, d4, d5, d6, d7, d8] }
  | _ => none }
def procGraphRow : OpenClaim := { program := "ytpefngbfgjfcgaagreat", sum := "c6814d7f0a669563bfab7fe489cc72f471fbec0ca5c29ab13f4ccbc906d706a5", func := "gloaming/gloaminglaw18.ProcGraph", spec := "procGraph", unfollowed := true, recurses := true, apart := false }
def ProcGraphSaid : Prop := procGraphRow.holds Tryz.pinned (OpenSpec.ofChange procGraphSpec)

/-- ITS FALSE NEIGHBOUR: 'it returns false'. Refute it at one input. -/
def procGraphWrong : ChangeSpec := { name := "procGraph", fn := fun _ => fun
  | [d1, d2, d3, d4, d5, d6, d7, d8] => { results := [.lit (.bool false)], args := [d1, d2, d3, d4, d5, d6, d7, d8] }
  | _ => none }
def ProcGraphWrongFalsely : Prop := procGraphRow.holds Tryz.pinned (OpenSpec.ofChange procGraphWrong)

/-- 'gloaminglaw18.ProcRaw': WHATEVER THE INPUT: true; the input reads as it did. -/
def procRawSpec : ChangeSpec := { name := "procRaw", fn := fun _ => fun
  | [d1, d2] => { results := [.lit (.bool true)], args := [d1, d2] }
  | _ => none }
def procRawRow : OpenClaim := { program := "ytpefngbfgjfcgaagreat", sum := "c6814d7f0a669563bfab7fe489cc72f471fbec0ca5c29ab13f4ccbc906d706a5", func := "gloaming/gloaminglaw18.ProcRaw", spec := "procRaw", unfollowed := true, recurses := true, apart := false }
def ProcRawSaid : Prop := procRawRow.holds Tryz.pinned (OpenSpec.ofChange procRawSpec)

/-- ITS FALSE NEIGHBOUR: 'it returns false'. Refute it at one input. -/
def procRawWrong : ChangeSpec := { name := "procRaw", fn := fun _ => fun
  | [d1, d2] => { results := [.lit (.bool false)], args := [d1, d2] }
  | _ => none }
def ProcRawWrongFalsely : Prop := procRawRow.holds Tryz.pinned (OpenSpec.ofChange procRawWrong)

/-- 'gloaminglaw18.ProcClears': WHATEVER THE INPUT: true; the input reads as it did. -/
def procClearsSpec : ChangeSpec := { name := "procClears", fn := fun _ => fun
  | [d1, d2, d3, d4, d5, d6, d7] => { results := [.lit (.bool true)], args := [d1, d2, d3, d4, d5, d6, d7] }
  | _ => none }
def procClearsRow : OpenClaim := { program := "ytpefngbfgjfcgaagreat", sum := "c6814d7f0a669563bfab7fe489cc72f471fbec0ca5c29ab13f4ccbc906d706a5", func := "gloaming/gloaminglaw18.ProcClears", spec := "procClears", unfollowed := true, recurses := true, apart := false }
def ProcClearsSaid : Prop := procClearsRow.holds Tryz.pinned (OpenSpec.ofChange procClearsSpec)

/-- ITS FALSE NEIGHBOUR: 'it returns false'. Refute it at one input. -/
def procClearsWrong : ChangeSpec := { name := "procClears", fn := fun _ => fun
  | [d1, d2, d3, d4, d5, d6, d7] => { results := [.lit (.bool false)], args := [d1, d2, d3, d4, d5, d6, d7] }
  | _ => none }
def ProcClearsWrongFalsely : Prop := procClearsRow.holds Tryz.pinned (OpenSpec.ofChange procClearsWrong)

/-- 'gloaminglaw18.ProcFinals': WHATEVER THE INPUT: true; the input reads as it did. -/
def procFinalsSpec : ChangeSpec := { name := "procFinals", fn := fun _ => fun
  | [d1, d2, d3, d4, d5, d6, d7] => { results := [.lit (.bool true)], args := [d1, d2, d3, d4, d5, d6, d7] }
  | _ => none }
def procFinalsRow : OpenClaim := { program := "ytpefngbfgjfcgaagreat", sum := "c6814d7f0a669563bfab7fe489cc72f471fbec0ca5c29ab13f4ccbc906d706a5", func := "gloaming/gloaminglaw18.ProcFinals", spec := "procFinals", unfollowed := true, recurses := true, apart := false }
def ProcFinalsSaid : Prop := procFinalsRow.holds Tryz.pinned (OpenSpec.ofChange procFinalsSpec)

/-- ITS FALSE NEIGHBOUR: 'it returns false'. Refute it at one input. -/
def procFinalsWrong : ChangeSpec := { name := "procFinals", fn := fun _ => fun
  | [d1, d2, d3, d4, d5, d6, d7] => { results := [.lit (.bool false)], args := [d1, d2, d3, d4, d5, d6, d7] }
  | _ => none }
def ProcFinalsWrongFalsely : Prop := procFinalsRow.holds Tryz.pinned (OpenSpec.ofChange procFinalsWrong)

/-- 'gloaminglaw18.ProcTimes': WHATEVER THE INPUT: true; the input reads as it did. -/
def procTimesSpec : ChangeSpec := { name := "procTimes", fn := fun _ => fun
  | [d1, d2, d3, d4] => { results := [.lit (.bool true)], args := [d1, d2, d3, d4] }
  | _ => none }
def procTimesRow : OpenClaim := { program := "ytpefngbfgjfcgaagreat", sum := "c6814d7f0a669563bfab7fe489cc72f471fbec0ca5c29ab13f4ccbc906d706a5", func := "gloaming/gloaminglaw18.ProcTimes", spec := "procTimes", unfollowed := true, recurses := true, apart := false }
def ProcTimesSaid : Prop := procTimesRow.holds Tryz.pinned (OpenSpec.ofChange procTimesSpec)

/-- ITS FALSE NEIGHBOUR: 'it returns false'. Refute it at one input. -/
def procTimesWrong : ChangeSpec := { name := "procTimes", fn := fun _ => fun
  | [d1, d2, d3, d4] => { results := [.lit (.bool false)], args := [d1, d2, d3, d4] }
  | _ => none }
def ProcTimesWrongFalsely : Prop := procTimesRow.holds Tryz.pinned (OpenSpec.ofChange procTimesWrong)

/-- 'gloaminglaw18.ProcPhantoms': WHATEVER THE INPUT: true; the input reads as it did. -/
def procPhantomsSpec : ChangeSpec := { name := "procPhantoms", fn := fun _ => fun
  | [d1, d2, d3] => { results := [.lit (.bool true)], args := [d1, d2, d3] }
  | _ => none }
def procPhantomsRow : OpenClaim := { program := "ytpefngbfgjfcgaagreat", sum := "c6814d7f0a669563bfab7fe489cc72f471fbec0ca5c29ab13f4ccbc906d706a5", func := "gloaming/gloaminglaw18.ProcPhantoms", spec := "procPhantoms", unfollowed := true, recurses := true, apart := false }
def ProcPhantomsSaid : Prop := procPhantomsRow.holds Tryz.pinned (OpenSpec.ofChange procPhantomsSpec)

/-- ITS FALSE NEIGHBOUR: 'it returns false'. Refute it at one input. -/
def procPhantomsWrong : ChangeSpec := { name := "procPhantoms", fn := fun _ => fun
  | [d1, d2, d3] => { results := [.lit (.bool false)], args := [d1, d2, d3] }
  | _ => none }
def ProcPhantomsWrongFalsely : Prop := procPhantomsRow.holds Tryz.pinned (OpenSpec.ofChange procPhantomsWrong)

/-- 'gloaminglaw18.ProcOrder': WHATEVER THE INPUT: true; the input reads as it did. -/
def procOrderSpec : ChangeSpec := { name := "procOrder", fn := fun _ => fun
  | [d] => { results := [.lit (.bool true)], args := [d] }
  | _ => none }
def procOrderRow : OpenClaim := { program := "ytpefngbfgjfcgaagreat", sum := "c6814d7f0a669563bfab7fe489cc72f471fbec0ca5c29ab13f4ccbc906d706a5", func := "gloaming/gloaminglaw18.ProcOrder", spec := "procOrder", unfollowed := true, recurses := true, apart := false }
def ProcOrderSaid : Prop := procOrderRow.holds Tryz.pinned (OpenSpec.ofChange procOrderSpec)

/-- ITS FALSE NEIGHBOUR: 'it returns false'. Refute it at one input. -/
def procOrderWrong : ChangeSpec := { name := "procOrder", fn := fun _ => fun
  | [d] => { results := [.lit (.bool false)], args := [d] }
  | _ => none }
def ProcOrderWrongFalsely : Prop := procOrderRow.holds Tryz.pinned (OpenSpec.ofChange procOrderWrong)

/-- 'gloaminglaw18.ProcRings': WHATEVER THE INPUT: true; the input reads as it did. -/
def procRingsSpec : ChangeSpec := { name := "procRings", fn := fun _ => fun
  | [d1, d2, d3] => { results := [.lit (.bool true)], args := [d1, d2, d3] }
  | _ => none }
def procRingsRow : OpenClaim := { program := "ytpefngbfgjfcgaagreat", sum := "c6814d7f0a669563bfab7fe489cc72f471fbec0ca5c29ab13f4ccbc906d706a5", func := "gloaming/gloaminglaw18.ProcRings", spec := "procRings", unfollowed := true, recurses := true, apart := false }
def ProcRingsSaid : Prop := procRingsRow.holds Tryz.pinned (OpenSpec.ofChange procRingsSpec)

/-- ITS FALSE NEIGHBOUR: 'it returns false'. Refute it at one input. -/
def procRingsWrong : ChangeSpec := { name := "procRings", fn := fun _ => fun
  | [d1, d2, d3] => { results := [.lit (.bool false)], args := [d1, d2, d3] }
  | _ => none }
def ProcRingsWrongFalsely : Prop := procRingsRow.holds Tryz.pinned (OpenSpec.ofChange procRingsWrong)

/-- 'gloaminglaw18.ProcSame': WHATEVER THE INPUT: true; the input reads as it did. -/
def procSameSpec : ChangeSpec := { name := "procSame", fn := fun _ => fun
  | [d1, d2, d3, d4, d5, d6, d7, d8, d9] => { results := [.lit (.bool true)], args := [d1, d2, d3, d4, d5, d6, d7, d8, d9] }
  | _ => none }
def procSameRow : OpenClaim := { program := "ytpefngbfgjfcgaagreat", sum := "c6814d7f0a669563bfab7fe489cc72f471fbec0ca5c29ab13f4ccbc906d706a5", func := "gloaming/gloaminglaw18.ProcSame", spec := "procSame", unfollowed := true, recurses := true, apart := false }
def ProcSameSaid : Prop := procSameRow.holds Tryz.pinned (OpenSpec.ofChange procSameSpec)

/-- ITS FALSE NEIGHBOUR: 'it returns false'. Refute it at one input. -/
def procSameWrong : ChangeSpec := { name := "procSame", fn := fun _ => fun
  | [d1, d2, d3, d4, d5, d6, d7, d8, d9] => { results := [.lit (.bool false)], args := [d1, d2, d3, d4, d5, d6, d7, d8, d9] }
  | _ => none }
def ProcSameWrongFalsely : Prop := procSameRow.holds Tryz.pinned (OpenSpec.ofChange procSameWrong)

/-- 'gloaminglaw18.ProcSofts': WHATEVER THE INPUT: true; the input reads as it did. -/
def procSoftsSpec : ChangeSpec := { name := "procSofts", fn := fun _ => fun
  | [d1, d2, d3, d4] => { results := [.lit (.bool true)], args := [d1, d2, d3, d4] }
  | _ => none }
def procSoftsRow : OpenClaim := { program := "ytpefngbfgjfcgaagreat", sum := "c6814d7f0a669563bfab7fe489cc72f471fbec0ca5c29ab13f4ccbc906d706a5", func := "gloaming/gloaminglaw18.ProcSofts", spec := "procSofts", unfollowed := true, recurses := true, apart := false }
def ProcSoftsSaid : Prop := procSoftsRow.holds Tryz.pinned (OpenSpec.ofChange procSoftsSpec)

/-- ITS FALSE NEIGHBOUR: 'it returns false'. Refute it at one input. -/
def procSoftsWrong : ChangeSpec := { name := "procSofts", fn := fun _ => fun
  | [d1, d2, d3, d4] => { results := [.lit (.bool false)], args := [d1, d2, d3, d4] }
  | _ => none }
def ProcSoftsWrongFalsely : Prop := procSoftsRow.holds Tryz.pinned (OpenSpec.ofChange procSoftsWrong)

/- THE SECOND FORM. 'bulk': how many values and letters a reading holds, each counted each time it is reached (what is shared counts as often as it is met; a slice's spare places count too). A statement '..UptoSaid' is the law's where the arguments, and the package variables that the reading takes, are together of bulk at most 1048576: NARROWER than '..Said'. Prove '..Said' where nothing that the law and all that it calls make is longer than what came in: it says more and counts as full. Else prove '..UptoSaid'. A law counts once. -/
mutual
def uptoBulk {H : Type} : DataW H → Nat
  | .lit (.string bytes) => bytes.length + 1
  | .lit _ => 1
  | .nil => 1
  | .ptr d => uptoBulk d + 1
  | .slice elems spare => uptoBulkAll elems + uptoBulkAll spare + 1
  | .agg parts => uptoBulkAll parts + 1
  | .iface _ d => uptoBulk d + 1
  | .map entries => uptoBulkEntries entries + 1
  | .held _ => 1
def uptoBulkAll {H : Type} : List (DataW H) → Nat
  | [] => 0
  | d :: r => uptoBulk d + uptoBulkAll r
def uptoBulkEntries {H : Type} : List (Lit × DataW H) → Nat
  | [] => 0
  | x :: r => uptoBulkEntry x + uptoBulkEntries r
def uptoBulkEntry {H : Type} : Lit × DataW H → Nat
  | (.string bytes, d) => bytes.length + uptoBulk d + 1
  | (_, d) => uptoBulk d + 1
 end
def uptoSmall : (H : Type) → List (DataW H) → Bool := fun _ ds => decide (uptoBulkAll ds ≤ 1048576)
def OpenSpec.upto (s : _root_.Go.ChangeSpec) : _root_.Go.OpenSpec := { _root_.Go.OpenSpec.ofChange s with cond := some uptoSmall }

/-- 'gloaminglaw18.ProcGraph', WHERE WHAT IT READS IS OF BULK AT MOST 1048576: true; the input reads as it did. -/
def procGraphUptoRow : OpenClaim := { program := "ytpefngbfgjfcgaagreat", sum := "c6814d7f0a669563bfab7fe489cc72f471fbec0ca5c29ab13f4ccbc906d706a5", func := "gloaming/gloaminglaw18.ProcGraph", spec := "procGraph", unfollowed := true, recurses := true, apart := false, narrowed := true }
def ProcGraphUptoSaid : Prop := procGraphUptoRow.holds Tryz.pinned (OpenSpec.upto procGraphSpec)

/-- 'gloaminglaw18.ProcRaw', WHERE WHAT IT READS IS OF BULK AT MOST 1048576: true; the input reads as it did. -/
def procRawUptoRow : OpenClaim := { program := "ytpefngbfgjfcgaagreat", sum := "c6814d7f0a669563bfab7fe489cc72f471fbec0ca5c29ab13f4ccbc906d706a5", func := "gloaming/gloaminglaw18.ProcRaw", spec := "procRaw", unfollowed := true, recurses := true, apart := false, narrowed := true }
def ProcRawUptoSaid : Prop := procRawUptoRow.holds Tryz.pinned (OpenSpec.upto procRawSpec)

/-- 'gloaminglaw18.ProcClears', WHERE WHAT IT READS IS OF BULK AT MOST 1048576: true; the input reads as it did. -/
def procClearsUptoRow : OpenClaim := { program := "ytpefngbfgjfcgaagreat", sum := "c6814d7f0a669563bfab7fe489cc72f471fbec0ca5c29ab13f4ccbc906d706a5", func := "gloaming/gloaminglaw18.ProcClears", spec := "procClears", unfollowed := true, recurses := true, apart := false, narrowed := true }
def ProcClearsUptoSaid : Prop := procClearsUptoRow.holds Tryz.pinned (OpenSpec.upto procClearsSpec)

/-- 'gloaminglaw18.ProcFinals', WHERE WHAT IT READS IS OF BULK AT MOST 1048576: true; the input reads as it did. -/
def procFinalsUptoRow : OpenClaim := { program := "ytpefngbfgjfcgaagreat", sum := "c6814d7f0a669563bfab7fe489cc72f471fbec0ca5c29ab13f4ccbc906d706a5", func := "gloaming/gloaminglaw18.ProcFinals", spec := "procFinals", unfollowed := true, recurses := true, apart := false, narrowed := true }
def ProcFinalsUptoSaid : Prop := procFinalsUptoRow.holds Tryz.pinned (OpenSpec.upto procFinalsSpec)

/-- 'gloaminglaw18.ProcTimes', WHERE WHAT IT READS IS OF BULK AT MOST 1048576: true; the input reads as it did. -/
def procTimesUptoRow : OpenClaim := { program := "ytpefngbfgjfcgaagreat", sum := "c6814d7f0a669563bfab7fe489cc72f471fbec0ca5c29ab13f4ccbc906d706a5", func := "gloaming/gloaminglaw18.ProcTimes", spec := "procTimes", unfollowed := true, recurses := true, apart := false, narrowed := true }
def ProcTimesUptoSaid : Prop := procTimesUptoRow.holds Tryz.pinned (OpenSpec.upto procTimesSpec)

/-- 'gloaminglaw18.ProcPhantoms', WHERE WHAT IT READS IS OF BULK AT MOST 1048576: true; the input reads as it did. -/
def procPhantomsUptoRow : OpenClaim := { program := "ytpefngbfgjfcgaagreat", sum := "c6814d7f0a669563bfab7fe489cc72f471fbec0ca5c29ab13f4ccbc906d706a5", func := "gloaming/gloaminglaw18.ProcPhantoms", spec := "procPhantoms", unfollowed := true, recurses := true, apart := false, narrowed := true }
def ProcPhantomsUptoSaid : Prop := procPhantomsUptoRow.holds Tryz.pinned (OpenSpec.upto procPhantomsSpec)

/-- 'gloaminglaw18.ProcOrder', WHERE WHAT IT READS IS OF BULK AT MOST 1048576: true; the input reads as it did. -/
def procOrderUptoRow : OpenClaim := { program := "ytpefngbfgjfcgaagreat", sum := "c6814d7f0a669563bfab7fe489cc72f471fbec0ca5c29ab13f4ccbc906d706a5", func := "gloaming/gloaminglaw18.ProcOrder", spec := "procOrder", unfollowed := true, recurses := true, apart := false, narrowed := true }
def ProcOrderUptoSaid : Prop := procOrderUptoRow.holds Tryz.pinned (OpenSpec.upto procOrderSpec)

/-- 'gloaminglaw18.ProcRings', WHERE WHAT IT READS IS OF BULK AT MOST 1048576: true; the input reads as it did. -/
def procRingsUptoRow : OpenClaim := { program := "ytpefngbfgjfcgaagreat", sum := "c6814d7f0a669563bfab7fe489cc72f471fbec0ca5c29ab13f4ccbc906d706a5", func := "gloaming/gloaminglaw18.ProcRings", spec := "procRings", unfollowed := true, recurses := true, apart := false, narrowed := true }
def ProcRingsUptoSaid : Prop := procRingsUptoRow.holds Tryz.pinned (OpenSpec.upto procRingsSpec)

/-- 'gloaminglaw18.ProcSame', WHERE WHAT IT READS IS OF BULK AT MOST 1048576: true; the input reads as it did. -/
def procSameUptoRow : OpenClaim := { program := "ytpefngbfgjfcgaagreat", sum := "c6814d7f0a669563bfab7fe489cc72f471fbec0ca5c29ab13f4ccbc906d706a5", func := "gloaming/gloaminglaw18.ProcSame", spec := "procSame", unfollowed := true, recurses := true, apart := false, narrowed := true }
def ProcSameUptoSaid : Prop := procSameUptoRow.holds Tryz.pinned (OpenSpec.upto procSameSpec)

/-- 'gloaminglaw18.ProcSofts', WHERE WHAT IT READS IS OF BULK AT MOST 1048576: true; the input reads as it did. -/
def procSoftsUptoRow : OpenClaim := { program := "ytpefngbfgjfcgaagreat", sum := "c6814d7f0a669563bfab7fe489cc72f471fbec0ca5c29ab13f4ccbc906d706a5", func := "gloaming/gloaminglaw18.ProcSofts", spec := "procSofts", unfollowed := true, recurses := true, apart := false, narrowed := true }
def ProcSoftsUptoSaid : Prop := procSoftsUptoRow.holds Tryz.pinned (OpenSpec.upto procSoftsSpec)

end Rows
end Go.Proofs.YtpefngbfgjfcgaaGreat
