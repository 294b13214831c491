import Derived.Test.YtapchggmifbfoaaGreatGlT
namespace Go.Proofs.YtapchggmifbfoaaGreat
open Go Go.Gl
set_option maxRecDepth 100000
set_option linter.unusedVariables false
-- gloaming/gloaminglaw9.ObjectMade
def F.gloaminglaw9.ObjectMade.T : Tabs := ⟨fun _ => [],
  fun _ => none,
  fun _ => .quiet⟩
def F.gloaminglaw9.ObjectMade (p0 : Int) (p1 : Slc) : Tree :=
 need ((12 : Int) ≠ 0) <|
 call Tryz.prog 37 [.slice p1.a p1.n p1.c] (.one (.l .slice)) fun (r1 : Slc) =>
 call Tryz.prog 36 [.int .i64 (IntKind.wrap .i64 (2 + (Int.tmod (IntKind.wrap .i64 p0) 12))), .slice r1.a r1.n r1.c] (.one (.l .bool)) fun (r2 : Bool) =>
 br r2
  (call Tryz.prog 35 [] (.one (.l .bool)) fun (r3 : Bool) =>
  ret (.bool r3))
  (ret (.bool false))
theorem F.gloaminglaw9.ObjectMade.den (p0 : Int) (p1 : Slc) : denF Tryz.prog F.gloaminglaw9.ObjectMade.T Tryz.f5 [.va (.int .u8 p0), .va (.slice p1.a p1.n p1.c)] = F.gloaminglaw9.ObjectMade p0 p1 := by kernel_rfl
theorem F.gloaminglaw9.ObjectMade.ok : (Tryz.f5.body.map (codeB F.gloaminglaw9.ObjectMade.T)).getD false = true := by kernel_rfl
theorem F.gloaminglaw9.ObjectMade.calls (p0 : Int) (p1 : Slc) {Q : Value → World → Prop} {w : World} (h : F.gloaminglaw9.ObjectMade p0 p1 Q w) : Calls Tryz.prog 5 #[.int .u8 p0, .slice p1.a p1.n p1.c] w fun e w' => ∃ v, e = .returned v ∧ Q v w' :=
  calls_of_den Tryz.pnames Tryz.mixed F.gloaminglaw9.ObjectMade.T Tryz.func5 F.gloaminglaw9.ObjectMade.ok (es := [.va (.int .u8 p0), .va (.slice p1.a p1.n p1.c)]) rfl (by rw [F.gloaminglaw9.ObjectMade.den]; exact h)
end Go.Proofs.YtapchggmifbfoaaGreat
