import Derived.Test.YtapchggmifbfoaaGreatGlT
namespace Go.Proofs.YtapchggmifbfoaaGreat
open Go Go.Gl
set_option maxRecDepth 100000
set_option linter.unusedVariables false
-- gloaming/gloaminglaw19.SweepGraph
def F.gloaminglaw19.SweepGraph.T : Tabs := ⟨fun _ => [],
  fun _ => none,
  (fun
    | 10 => .held (some 31) (.go 0 false (.go 1 false (.go 2 false (.cut (.go 3 false (.go 4 false (.go 5 false (.go 6 false (.go 7 false (.go 8 false (.go 9 false (.go 10 false (.go 11 false (.go 12 false (.go 13 false (.go 14 false (.go 15 false (.go 17 false (.go 16 false (.cut (.go 18 false (.cut (.go 19 false (.cut (.go 20 false (.go 21 false (.go 22 false (.go 23 false (.go 24 false (.go 25 false (.go 27 false (.go 28 false (.go 29 false (.go 30 false (.go 26 false (.go 31 true (.go 32 false (.go 33 false (.go 34 false (.go 35 false (.go 36 false (.go 37 false (.go 38 false (.go 39 false (.go 40 false (.go 41 false (.go 42 false (.go 43 false (.go 44 false (.go 45 false (.go 46 false (.go 47 false .nil))))))))))))))))))))))))))))))))))))))))))))))))))))
    | _ => .quiet)⟩
def F.gloaminglaw19.SweepGraph (p0 : Slc) (p1 : Slc) : Tree :=
 call Tryz.prog 21 [.slice p0.a p0.n p0.c] (.many [.l .ptr, .l .slice]) fun (r1 : KTs [.l .ptr, .l .slice]) =>
 call Tryz.prog 22 [.slice p0.a p0.n p0.c] (.many [.l .ptr, .l .slice]) fun (r2 : KTs [.l .ptr, .l .slice]) =>
 br (Option.isNone r1.1)
  (ret (.bool false))
  (call Tryz.prog 23 [.slice r1.2.1.a r1.2.1.n r1.2.1.c, .slice p1.a p1.n p1.c, .int .i64 30] (.one (.l .slice)) fun (r3 : Slc) =>
  call Tryz.prog 24 [.pointer r1.1, .slice r3.a r3.n r3.c] (.one (.l .slice)) fun (r4 : Slc) =>
  call Tryz.prog 25 [.pointer r2.1, .slice r3.a r3.n r3.c] (.one (.l .slice)) fun (r5 : Slc) =>
  call Tryz.prog 26 [.pointer r1.1, .slice r3.a r3.n r3.c] (.one (.l (.int .i64))) fun (r6 : Int) =>
  call Tryz.prog 27 [.pointer r2.1, .slice r3.a r3.n r3.c] (.one (.l (.int .i64))) fun (r7 : Int) =>
  drw <| held fun S8 =>
  call Tryz.prog 28 [.slice r4.a r4.n r4.c, .slice r5.a r5.n r5.c] (.one (.l .bool)) fun (r9 : Bool) =>
  chk S8 <|
  narrow S8 fun S10 =>
  br r9
   (br ((r6 : Int) == r7)
    (br ((r6 : Int) == (r4.n : Nat))
     (call Tryz.prog 30 [.pointer r1.1] (.one (.l .slice)) fun (r11 : Slc) =>
     chk S10 <|
     narrow S10 fun S12 =>
     call Tryz.prog 31 [.pointer r2.1] (.one (.l .slice)) fun (r13 : Slc) =>
     chk S12 <|
     narrow S12 fun S14 =>
     call Tryz.prog 29 [.slice r11.a r11.n r11.c, .slice r13.a r13.n r13.c] (.one (.l .bool)) fun (r15 : Bool) =>
     chk S14 <|
     narrow S14 fun S16 =>
     br r15
      (nn r1.1 fun a17 =>
      ldS S16 (.l .ptr) (fa a17 0) fun (x18 : Option Addr) =>
      nn r2.1 fun a19 =>
      ldS S16 (.l .ptr) (fa a19 0) fun (x20 : Option Addr) =>
      call Tryz.prog 32 [.pointer x18] (.one (.l (.int .i64))) fun (r21 : Int) =>
      chk S16 <|
      call Tryz.prog 33 [.pointer x20] (.one (.l (.int .i64))) fun (r22 : Int) =>
      br ((r21 : Int) == r22)
       (call Tryz.prog 26 [.pointer none, .slice r3.a r3.n r3.c] (.one (.l (.int .i64))) fun (r23 : Int) =>
       br ((r23 : Int) == 0)
        (call Tryz.prog 24 [.pointer none, .slice none 0 0] (.one (.l .slice)) fun (r24 : Slc) =>
        br (((r24.n : Nat) : Int) == 0)
         (call Tryz.prog 34 [] (.one (.l .bool)) fun (r25 : Bool) =>
         ret (.bool r25))
         (ret (.bool false)))
        (ret (.bool false)))
       (ret (.bool false)))
      (ret (.bool false)))
     (narrow S10 fun S11 =>
     narrow S11 fun S12 =>
     narrow S12 fun S13 =>
     ret (.bool false)))
    (narrow S10 fun S11 =>
    narrow S11 fun S12 =>
    narrow S12 fun S13 =>
    ret (.bool false)))
   (narrow S10 fun S11 =>
   narrow S11 fun S12 =>
   narrow S12 fun S13 =>
   ret (.bool false)))
theorem F.gloaminglaw19.SweepGraph.den (p0 : Slc) (p1 : Slc) : denF Tryz.prog F.gloaminglaw19.SweepGraph.T Tryz.f3 [.va (.slice p0.a p0.n p0.c), .va (.slice p1.a p1.n p1.c)] = F.gloaminglaw19.SweepGraph p0 p1 := by kernel_rfl
theorem F.gloaminglaw19.SweepGraph.ok : (Tryz.f3.body.map (codeB F.gloaminglaw19.SweepGraph.T)).getD false = true := by kernel_rfl
theorem F.gloaminglaw19.SweepGraph.calls (p0 : Slc) (p1 : Slc) {Q : Value → World → Prop} {w : World} (h : F.gloaminglaw19.SweepGraph p0 p1 Q w) : Calls Tryz.prog 3 #[.slice p0.a p0.n p0.c, .slice p1.a p1.n p1.c] w fun e w' => ∃ v, e = .returned v ∧ Q v w' :=
  calls_of_den Tryz.pnames Tryz.mixed F.gloaminglaw19.SweepGraph.T Tryz.func3 F.gloaminglaw19.SweepGraph.ok (es := [.va (.slice p0.a p0.n p0.c), .va (.slice p1.a p1.n p1.c)]) rfl (by rw [F.gloaminglaw19.SweepGraph.den]; exact h)
end Go.Proofs.YtapchggmifbfoaaGreat
