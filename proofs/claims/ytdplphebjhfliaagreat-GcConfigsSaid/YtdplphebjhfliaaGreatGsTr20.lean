import Derived.Test.YtdplphebjhfliaaGreatGsT
namespace Go.Proofs.YtdplphebjhfliaaGreat
open Go Go.Gl
set_option maxRecDepth 100000
set_option linter.unusedVariables false
variable {Q : Value → World → Prop} {w : World}
def F.gloamingref20.MayConfig (p0 : LTs [.int .i64, .int .i64, .int .i64]) : Tree :=
 nw 23 [.int .i64 p0.1, .int .i64 p0.2.1, .int .i64 p0.2.2.1] fun b1 =>
 ld (.l (.int .i64)) (fa (⟨b1, 0, none⟩) 0) fun (x2 : Int) =>
 br (decide ((x2 : Int) ≥ 1))
 (ld (.l (.int .i64)) (fa (⟨b1, 0, none⟩) 0) fun (x3 : Int) =>
 br (decide ((x3 : Int) ≤ 256))
 (ld (.l (.int .i64)) (fa (⟨b1, 0, none⟩) 1) fun (x4 : Int) =>
 br (decide ((x4 : Int) ≥ 0))
 (ld (.l (.int .i64)) (fa (⟨b1, 0, none⟩) 2) fun (x5 : Int) =>
 br (decide ((x5 : Int) ≥ 1))
 (ld (.l (.int .i64)) (fa (⟨b1, 0, none⟩) 2) fun (x6 : Int) =>
 ret (.bool (decide ((x6 : Int) ≤ 4096))))
 (ret (.bool false)))
 (ret (.bool false)))
 (ret (.bool false)))
 (ret (.bool false))
theorem F.gloamingref20.MayConfig.calls (p0 : LTs [.int .i64, .int .i64, .int .i64]) (h : F.gloamingref20.MayConfig p0 Q w) : Calls Tryz.prog 13 #[.agg #[.int .i64 p0.1, .int .i64 p0.2.1, .int .i64 p0.2.2.1]] w (RetQ Q) :=
 Tryz.cd Tabs.z Tryz.func13 (by kernel_rfl) (es := [.va (.agg #[.int .i64 p0.1, .int .i64 p0.2.1, .int .i64 p0.2.2.1])]) rfl (by kernel_rfl) h
end Go.Proofs.YtdplphebjhfliaaGreat
