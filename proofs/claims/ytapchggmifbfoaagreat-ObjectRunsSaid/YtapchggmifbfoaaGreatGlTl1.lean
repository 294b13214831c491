import Derived.Test.YtapchggmifbfoaaGreatGlT
namespace Go.Proofs.YtapchggmifbfoaaGreat
open Go Go.Gl
set_option maxRecDepth 100000
set_option linter.unusedVariables false
-- gloaming/gloaminglaw1.Err
def F.gloaminglaw1.Err.T : Tabs := ⟨fun _ => [],
  fun _ => none,
  fun _ => .quiet⟩
def F.gloaminglaw1.Err (p0 : Int) : Tree :=
 ret (.int .i64 p0)
theorem F.gloaminglaw1.Err.den (p0 : Int) : denF Tryz.prog F.gloaminglaw1.Err.T Tryz.f39 [.va (.int .i64 p0)] = F.gloaminglaw1.Err p0 := by kernel_rfl
theorem F.gloaminglaw1.Err.ok : (Tryz.f39.body.map (codeB F.gloaminglaw1.Err.T)).getD false = true := by kernel_rfl
theorem F.gloaminglaw1.Err.calls (p0 : Int) {Q : Value → World → Prop} {w : World} (h : F.gloaminglaw1.Err p0 Q w) : Calls Tryz.prog 39 #[.int .i64 p0] w fun e w' => ∃ v, e = .returned v ∧ Q v w' :=
  calls_of_den Tryz.pnames Tryz.mixed F.gloaminglaw1.Err.T Tryz.func39 F.gloaminglaw1.Err.ok (es := [.va (.int .i64 p0)]) rfl (by rw [F.gloaminglaw1.Err.den]; exact h)
end Go.Proofs.YtapchggmifbfoaaGreat
