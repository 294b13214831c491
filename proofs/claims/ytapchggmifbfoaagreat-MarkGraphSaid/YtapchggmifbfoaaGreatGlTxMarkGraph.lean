import Derived.Test.YtapchggmifbfoaaGreatGlT
namespace Go.Proofs.YtapchggmifbfoaaGreat
open Go Go.Gl
set_option maxRecDepth 100000
set_option linter.unusedVariables false
-- gloaming/gloaminglaw17.MarkGraph
def F.gloaminglaw17.MarkGraph.T : Tabs := ⟨(fun
    | 11 => [(17, .int .i64)]
    | 21 => [(19, .int .i64)]
    | _ => []),
  fun _ => none,
  (fun
    | 23 => .held none (.go 0 false (.go 1 false (.go 2 false (.go 3 false (.go 4 false (.go 6 false (.go 7 false (.go 8 false (.go 9 false (.go 10 false (.go 11 false (.go 12 false (.go 5 false (.go 13 false .nil))))))))))))))
    | _ => .quiet)⟩
def F.gloaminglaw17.MarkGraph (p0 : Slc) (p1 : Slc) (p2 : Slc) (p3 : Int) : Tree :=
 call Tryz.prog 21 [.slice p0.a p0.n p0.c] (.many [.l .ptr, .l .slice]) fun (r1 : KTs [.l .ptr, .l .slice]) =>
 call Tryz.prog 22 [.slice p0.a p0.n p0.c] (.many [.l .ptr, .l .slice]) fun (r2 : KTs [.l .ptr, .l .slice]) =>
 br (Option.isNone r1.1)
  (ret (.bool false))
  (need ((64 : Int) ≠ 0) <|
  call Tryz.prog 38 [.pointer r1.1, .int .i64 (IntKind.wrap .i64 (1 + (Int.tmod (IntKind.wrap .i64 p3) 64)))] (.many [.l .ptr, .l (.int .i64)]) fun (r3 : KTs [.l .ptr, .l (.int .i64)]) =>
  br (Option.isNone r3.1)
   (ret (.bool false))
   (nn r3.1 fun a4 =>
   ld (.l .ptr) (fa a4 0) fun (x5 : Option Addr) =>
   br (Option.isNone x5)
    (ret (.bool false))
    (call Tryz.prog 39 [.int .i64 r3.2.1] (.one (.l (.int .i64))) fun (r6 : Int) =>
    br ((r6 : Int) != 0)
     (ret (.bool false))
     (call Tryz.prog 53 [.pointer r2.1] (.one (.l .slice)) fun (r7 : Slc) =>
     lp [.int .i64] (fun X8 u9 => -- i:t17
      br (decide ((u9.1 : Int) < 2))
       (call Tryz.prog 23 [.slice r1.2.1.a r1.2.1.n r1.2.1.c, .slice p1.a p1.n p1.c, .int .i64 6] (.one (.l .slice)) fun (r10 : Slc) =>
       br ((u9.1 : Int) == 1)
        (call Tryz.prog 23 [.slice r1.2.1.a r1.2.1.n r1.2.1.c, .slice p2.a p2.n p2.c, .int .i64 4] (.one (.l .slice)) fun (r11 : Slc) =>
        call Tryz.prog 40 [.pointer r3.1, .slice r11.a r11.n r11.c] (.many []) fun (r12 : KTs []) =>
        call Tryz.prog 54 [.slice r7.a r7.n r7.c, .pointer r2.1, .slice r11.a r11.n r11.c] (.many []) fun (r13 : KTs []) =>
        call Tryz.prog 41 [.pointer r3.1] (.one (.l .slice)) fun (r14 : Slc) =>
        call Tryz.prog 55 [.slice r7.a r7.n r7.c] (.one (.l .slice)) fun (r15 : Slc) =>
        call Tryz.prog 28 [.slice r14.a r14.n r14.c, .slice r15.a r15.n r15.c] (.one (.l .bool)) fun (r16 : Bool) =>
        br (!r16)
         (ret (.bool false))
         (call Tryz.prog 52 [.pointer r3.1] (.one (.l (.int .i64))) fun (r17 : Int) =>
         br (decide ((r17 : Int) > (IntKind.wrap .i64 (1 + (Int.tmod (IntKind.wrap .i64 p3) 64)))))
          (ret (.bool false))
          (call Tryz.prog 52 [.pointer r3.1] (.one (.l (.int .i64))) fun (r18 : Int) =>
          br (decide ((r18 : Int) < 0))
           (ret (.bool false))
           (X8 (IntKind.wrap .i64 (u9.1 + 1), ())))))
        (call Tryz.prog 40 [.pointer r3.1, .slice r10.a r10.n r10.c] (.many []) fun (r11 : KTs []) =>
        call Tryz.prog 54 [.slice r7.a r7.n r7.c, .pointer r2.1, .slice r10.a r10.n r10.c] (.many []) fun (r12 : KTs []) =>
        call Tryz.prog 41 [.pointer r3.1] (.one (.l .slice)) fun (r13 : Slc) =>
        call Tryz.prog 55 [.slice r7.a r7.n r7.c] (.one (.l .slice)) fun (r14 : Slc) =>
        call Tryz.prog 28 [.slice r13.a r13.n r13.c, .slice r14.a r14.n r14.c] (.one (.l .bool)) fun (r15 : Bool) =>
        br (!r15)
         (ret (.bool false))
         (call Tryz.prog 52 [.pointer r3.1] (.one (.l (.int .i64))) fun (r16 : Int) =>
         br (decide ((r16 : Int) > (IntKind.wrap .i64 (1 + (Int.tmod (IntKind.wrap .i64 p3) 64)))))
          (ret (.bool false))
          (call Tryz.prog 52 [.pointer r3.1] (.one (.l (.int .i64))) fun (r17 : Int) =>
          br (decide ((r17 : Int) < 0))
           (ret (.bool false))
           (X8 (IntKind.wrap .i64 (u9.1 + 1), ()))))))
       (lp [.int .i64] (fun X10 u11 => -- i:t19
        br (decide ((u11.1 : Int) < (r1.2.1.n : Nat)))
         (drw <| held fun S12 =>
         ix r1.2.1.a r1.2.1.n u11.1 1 fun a13 =>
         ldS S12 (.l (.int .i64)) a13 fun (x14 : Int) =>
         ix r1.2.1.a r1.2.1.n u11.1 1 fun a15 =>
         ldS S12 (.l (.int .i64)) a15 fun (x16 : Int) =>
         ix r7.a r7.n x16 1 fun a17 =>
         ldS S12 (.l .bool) a17 fun (x18 : Bool) =>
         call Tryz.prog 44 [.pointer r3.1, .int .i64 x14] (.one (.l .bool)) fun (r19 : Bool) =>
         chk S12 <|
         br (!(r19 == x18))
          (ret (.bool false))
          (X10 (IntKind.wrap .i64 (u11.1 + 1), ())))
         (call Tryz.prog 30 [.pointer r1.1] (.one (.l .slice)) fun (r12 : Slc) =>
         call Tryz.prog 31 [.pointer r2.1] (.one (.l .slice)) fun (r13 : Slc) =>
         call Tryz.prog 29 [.slice r12.a r12.n r12.c, .slice r13.a r13.n r13.c] (.one (.l .bool)) fun (r14 : Bool) =>
         br r14
          (call Tryz.prog 44 [.pointer r3.1, .int .i64 0] (.one (.l .bool)) fun (r15 : Bool) =>
          br (!r15)
           (call Tryz.prog 44 [.pointer r3.1, .int .i64 (-1)] (.one (.l .bool)) fun (r16 : Bool) =>
           br (!r16)
            (call Tryz.prog 43 [] (.one (.l .bool)) fun (r17 : Bool) =>
            ret (.bool r17))
            (ret (.bool false)))
           (ret (.bool false)))
          (ret (.bool false)))) (0, ()))) (0, ())))))
theorem F.gloaminglaw17.MarkGraph.den (p0 : Slc) (p1 : Slc) (p2 : Slc) (p3 : Int) : denF Tryz.prog F.gloaminglaw17.MarkGraph.T Tryz.f10 [.va (.slice p0.a p0.n p0.c), .va (.slice p1.a p1.n p1.c), .va (.slice p2.a p2.n p2.c), .va (.int .u16 p3)] = F.gloaminglaw17.MarkGraph p0 p1 p2 p3 := by kernel_rfl
theorem F.gloaminglaw17.MarkGraph.ok : (Tryz.f10.body.map (codeB F.gloaminglaw17.MarkGraph.T)).getD false = true := by kernel_rfl
theorem F.gloaminglaw17.MarkGraph.calls (p0 : Slc) (p1 : Slc) (p2 : Slc) (p3 : Int) {Q : Value → World → Prop} {w : World} (h : F.gloaminglaw17.MarkGraph p0 p1 p2 p3 Q w) : Calls Tryz.prog 10 #[.slice p0.a p0.n p0.c, .slice p1.a p1.n p1.c, .slice p2.a p2.n p2.c, .int .u16 p3] w fun e w' => ∃ v, e = .returned v ∧ Q v w' :=
  calls_of_den Tryz.pnames Tryz.mixed F.gloaminglaw17.MarkGraph.T Tryz.func10 F.gloaminglaw17.MarkGraph.ok (es := [.va (.slice p0.a p0.n p0.c), .va (.slice p1.a p1.n p1.c), .va (.slice p2.a p2.n p2.c), .va (.int .u16 p3)]) rfl (by rw [F.gloaminglaw17.MarkGraph.den]; exact h)
end Go.Proofs.YtapchggmifbfoaaGreat
