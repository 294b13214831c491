import Derived.Test.YtdplphebjhfliaaGreatGsT
namespace Go.Proofs.YtdplphebjhfliaaGreat
open Go Go.Gl
set_option maxRecDepth 100000
set_option linter.unusedVariables false
variable {Q : Value → World → Prop} {w : World}
def F.gloamingref1.SameInts.T : Tabs := ⟨(fun
 | 4 => [(5, .int .i64)]
 | _ => []),
 fun _ => none,
 (fun
 | 6 => .quiet
 | _ => .quiet)⟩
def F.gloamingref1.SameInts (p0 : Slc) (p1 : Slc) : Tree :=
 br (((p0.n : Nat) : Int) != (p1.n : Nat))
 (ret (.bool false))
 (lp [.int .i64] (fun X1 u2 =>
 br (decide ((u2.1 : Int) < (p0.n : Nat)))
 (drw <|
 ix p0.a p0.n u2.1 1 fun a3 =>
 ld (.l (.int .i64)) a3 fun (x4 : Int) =>
 ix p1.a p1.n u2.1 1 fun a5 =>
 ld (.l (.int .i64)) a5 fun (x6 : Int) =>
 br ((x4 : Int) != x6)
 (ret (.bool false))
 (X1 (IntKind.wrap .i64 (u2.1 + 1), ())))
 (ret (.bool true))) (0, ()))
theorem F.gloamingref1.SameInts.calls (p0 : Slc) (p1 : Slc) (h : F.gloamingref1.SameInts p0 p1 Q w) : Calls Tryz.prog 35 #[.slice p0.a p0.n p0.c, .slice p1.a p1.n p1.c] w (RetQ Q) :=
 Tryz.cd F.gloamingref1.SameInts.T Tryz.func35 (by kernel_rfl) (es := [.va (.slice p0.a p0.n p0.c), .va (.slice p1.a p1.n p1.c)]) rfl (by kernel_rfl) h
def F.gloamingref1.In.T : Tabs := ⟨(fun
 | 2 => [(5, .int .i64)]
 | _ => []),
 fun _ => none,
 fun _ => .quiet⟩
def F.gloamingref1.In (p0 : Slc) (p1 : Int) : Tree :=
 lp [.int .i64] (fun X1 u2 =>
 br (decide ((u2.1 : Int) < (p0.n : Nat)))
 (ix p0.a p0.n u2.1 1 fun a3 =>
 ld (.l (.int .i64)) a3 fun (x4 : Int) =>
 br ((x4 : Int) == p1)
 (ret (.bool true))
 (X1 (IntKind.wrap .i64 (u2.1 + 1), ())))
 (ret (.bool false))) (0, ())
theorem F.gloamingref1.In.calls (p0 : Slc) (p1 : Int) (h : F.gloamingref1.In p0 p1 Q w) : Calls Tryz.prog 36 #[.slice p0.a p0.n p0.c, .int .i64 p1] w (RetQ Q) :=
 Tryz.cd F.gloamingref1.In.T Tryz.func36 (by kernel_rfl) (es := [.va (.slice p0.a p0.n p0.c), .va (.int .i64 p1)]) rfl (by kernel_rfl) h
end Go.Proofs.YtdplphebjhfliaaGreat
