import Derived.Test.YtapchggmifbfoaaGreatGlT
namespace Go.Proofs.YtapchggmifbfoaaGreat
open Go Go.Gl
set_option maxRecDepth 100000
set_option linter.unusedVariables false
-- gloaming/gloaminglaw19.awake
def F.gloaminglaw19.awake.T : Tabs := ⟨fun _ => [],
  fun _ => none,
  fun _ => .quiet⟩
def F.gloaminglaw19.awake  : Tree :=
 nw 5 [.int .u8 1, .int .u8 2, .int .u8 3] fun b1 =>
 call Tryz.prog 21 [.slice (some ⟨b1, 0, none⟩) 3 3] (.many [.l .ptr, .l .slice]) fun (r2 : KTs [.l .ptr, .l .slice]) =>
 br (Option.isNone r2.1)
  (ret (.bool false))
  (br (((r2.2.1.n : Nat) : Int) != 3)
   (ret (.bool false))
   (call Tryz.prog 26 [.pointer r2.1, .slice r2.2.1.a r2.2.1.n r2.2.1.c] (.one (.l (.int .i64))) fun (r3 : Int) =>
   br ((r3 : Int) == 0)
    (slc r2.2.1.a r2.2.1.c 1 (r2.2.1.n : Nat) 1 fun s4 =>
    call Tryz.prog 24 [.pointer r2.1, .slice s4.a s4.n s4.c] (.one (.l .slice)) fun (r5 : Slc) =>
    ret (.bool (((r5.n : Nat) : Int) == 1)))
    (ret (.bool false))))
theorem F.gloaminglaw19.awake.den  : denF Tryz.prog F.gloaminglaw19.awake.T Tryz.f34 [] = F.gloaminglaw19.awake := by kernel_rfl
theorem F.gloaminglaw19.awake.ok : (Tryz.f34.body.map (codeB F.gloaminglaw19.awake.T)).getD false = true := by kernel_rfl
theorem F.gloaminglaw19.awake.calls  {Q : Value → World → Prop} {w : World} (h : F.gloaminglaw19.awake Q w) : Calls Tryz.prog 34 #[] w fun e w' => ∃ v, e = .returned v ∧ Q v w' :=
  calls_of_den Tryz.pnames Tryz.mixed F.gloaminglaw19.awake.T Tryz.func34 F.gloaminglaw19.awake.ok (es := []) rfl (by rw [F.gloaminglaw19.awake.den]; exact h)
end Go.Proofs.YtapchggmifbfoaaGreat
