import Derived.Test.YtapchggmifbfoaaGreatGlT
namespace Go.Proofs.YtapchggmifbfoaaGreat
open Go Go.Gl
set_option maxRecDepth 100000
set_option linter.unusedVariables false
-- gloaming/gloaminglaw9.ObjectRuns
def F.gloaminglaw9.ObjectRuns.T : Tabs := ⟨(fun
    | 2 => [(5, .int .i64)]
    | _ => []),
  fun _ => none,
  fun _ => .quiet⟩
def F.gloaminglaw9.ObjectRuns (p0 : Int) (p1 : Slc) : Tree :=
 lp [.int .i64] (fun X1 u2 => -- i:t5
  br (decide ((u2.1 : Int) < (p1.n : Nat)))
   (br (decide ((u2.1 : Int) < 60))
    (ix p1.a p1.n u2.1 10 fun a3 =>
    ld (.l .slice) (fa (fa a3 5) 1) fun (x4 : Slc) =>
    br (decide (((x4.n : Nat) : Int) > 40))
     (call Tryz.prog 35 [] (.one (.l .bool)) fun (r5 : Bool) =>
     ret (.bool r5))
     (X1 (IntKind.wrap .i64 (u2.1 + 1), ())))
    (need ((20 : Int) ≠ 0) <|
    call Tryz.prog 36 [.int .i64 (IntKind.wrap .i64 (1 + (Int.tmod (IntKind.wrap .i64 p0) 20))), .slice p1.a p1.n p1.c] (.one (.l .bool)) fun (r3 : Bool) =>
    br r3
     (call Tryz.prog 35 [] (.one (.l .bool)) fun (r4 : Bool) =>
     ret (.bool r4))
     (ret (.bool false))))
   (need ((20 : Int) ≠ 0) <|
   call Tryz.prog 36 [.int .i64 (IntKind.wrap .i64 (1 + (Int.tmod (IntKind.wrap .i64 p0) 20))), .slice p1.a p1.n p1.c] (.one (.l .bool)) fun (r3 : Bool) =>
   br r3
    (call Tryz.prog 35 [] (.one (.l .bool)) fun (r4 : Bool) =>
    ret (.bool r4))
    (ret (.bool false)))) (0, ())
theorem F.gloaminglaw9.ObjectRuns.den (p0 : Int) (p1 : Slc) : denF Tryz.prog F.gloaminglaw9.ObjectRuns.T Tryz.f4 [.va (.int .u8 p0), .va (.slice p1.a p1.n p1.c)] = F.gloaminglaw9.ObjectRuns p0 p1 := by kernel_rfl
theorem F.gloaminglaw9.ObjectRuns.ok : (Tryz.f4.body.map (codeB F.gloaminglaw9.ObjectRuns.T)).getD false = true := by kernel_rfl
theorem F.gloaminglaw9.ObjectRuns.calls (p0 : Int) (p1 : Slc) {Q : Value → World → Prop} {w : World} (h : F.gloaminglaw9.ObjectRuns p0 p1 Q w) : Calls Tryz.prog 4 #[.int .u8 p0, .slice p1.a p1.n p1.c] w fun e w' => ∃ v, e = .returned v ∧ Q v w' :=
  calls_of_den Tryz.pnames Tryz.mixed F.gloaminglaw9.ObjectRuns.T Tryz.func4 F.gloaminglaw9.ObjectRuns.ok (es := [.va (.int .u8 p0), .va (.slice p1.a p1.n p1.c)]) rfl (by rw [F.gloaminglaw9.ObjectRuns.den]; exact h)
end Go.Proofs.YtapchggmifbfoaaGreat
