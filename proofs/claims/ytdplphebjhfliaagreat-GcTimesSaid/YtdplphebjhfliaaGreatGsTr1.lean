import Derived.Test.YtdplphebjhfliaaGreatGsT
namespace Go.Proofs.YtdplphebjhfliaaGreat
open Go Go.Gl
set_option maxRecDepth 100000
set_option linter.unusedVariables false
variable {Q : Value → World → Prop} {w : World}
def F.gloamingref1.In.T : Tabs := ⟨(fun
 | 2 => [(5, .int .i64)]
 | _ => []),
 fun _ => none,
 fun _ => .quiet⟩
def F.gloamingref1.In (p0 : Slc) (p1 : Int) : Tree :=
 lp [.int .i64] (fun X1 u2 =>
 br (decide ((u2.1 : Int) < (p0.n : Nat)))
 (ix p0.a p0.n u2.1 1 fun a3 =>
 ld (.l (.int .i64)) a3 fun (x4 : Int) =>
 br ((x4 : Int) == p1)
 (ret (.bool true))
 (X1 (IntKind.wrap .i64 (u2.1 + 1), ())))
 (ret (.bool false))) (0, ())
theorem F.gloamingref1.In.calls (p0 : Slc) (p1 : Int) (h : F.gloamingref1.In p0 p1 Q w) : Calls Tryz.prog 36 #[.slice p0.a p0.n p0.c, .int .i64 p1] w (RetQ Q) :=
 Tryz.cd F.gloamingref1.In.T Tryz.func36 (by kernel_rfl) (es := [.va (.slice p0.a p0.n p0.c), .va (.int .i64 p1)]) rfl (by kernel_rfl) h
end Go.Proofs.YtdplphebjhfliaaGreat
