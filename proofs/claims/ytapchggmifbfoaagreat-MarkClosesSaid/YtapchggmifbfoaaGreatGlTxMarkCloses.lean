import Derived.Test.YtapchggmifbfoaaGreatGlT
namespace Go.Proofs.YtapchggmifbfoaaGreat
open Go Go.Gl
set_option maxRecDepth 100000
set_option linter.unusedVariables false
-- gloaming/gloaminglaw17.MarkCloses
def F.gloaminglaw17.MarkCloses.T : Tabs := ⟨(fun
    | 8 => [(12, .int .i64)]
    | 13 => [(14, .int .i64)]
    | 20 => [(17, .bool), (18, .int .i64)]
    | 24 => [(17, .bool), (19, .int .i64)]
    | 31 => [(22, .int .i64)]
    | _ => []),
  fun _ => none,
  (fun
    | 15 => .held (some 9) (.go 0 false (.go 1 false (.go 2 false (.go 3 false (.go 4 false (.go 5 false (.go 6 false (.go 7 false (.go 8 false (.go 9 true (.go 10 false (.go 11 false (.go 12 false (.go 13 false (.go 14 false .nil)))))))))))))))
    | 26 => .held (some 9) (.go 0 false (.go 1 false (.go 2 false (.go 3 false (.go 4 false (.go 5 false (.go 6 false (.go 7 false (.go 8 false (.go 9 true (.go 10 false (.go 11 false (.go 12 false (.go 13 false (.go 14 false .nil)))))))))))))))
    | _ => .quiet)⟩
def F.gloaminglaw17.MarkCloses (p0 : Slc) (p1 : Slc) (p2 : Int) : Tree :=
 call Tryz.prog 21 [.slice p0.a p0.n p0.c] (.many [.l .ptr, .l .slice]) fun (r1 : KTs [.l .ptr, .l .slice]) =>
 need ((40 : Int) ≠ 0) <|
 call Tryz.prog 38 [.pointer r1.1, .int .i64 (IntKind.wrap .i64 (1 + (Int.tmod (IntKind.wrap .i64 p2) 40)))] (.many [.l .ptr, .l (.int .i64)]) fun (r2 : KTs [.l .ptr, .l (.int .i64)]) =>
 br (Option.isNone r1.1)
  (ret (.bool false))
  (br (Option.isNone r2.1)
   (ret (.bool false))
   (nn r2.1 fun a3 =>
   ld (.l .ptr) (fa a3 0) fun (x4 : Option Addr) =>
   br (Option.isNone x4)
    (ret (.bool false))
    (call Tryz.prog 39 [.int .i64 r2.2.1] (.one (.l (.int .i64))) fun (r5 : Int) =>
    br ((r5 : Int) != 0)
     (ret (.bool false))
     (call Tryz.prog 23 [.slice r1.2.1.a r1.2.1.n r1.2.1.c, .slice p1.a p1.n p1.c, .int .i64 5] (.one (.l .slice)) fun (r6 : Slc) =>
     call Tryz.prog 40 [.pointer r2.1, .slice r6.a r6.n r6.c] (.many []) fun (r7 : KTs []) =>
     lp [.int .i64] (fun X8 u9 => -- i:t12
      br (decide ((u9.1 : Int) < (r1.2.1.n : Nat)))
       (ix r1.2.1.a r1.2.1.n u9.1 1 fun a10 =>
       ld (.l (.int .i64)) a10 fun (x11 : Int) =>
       call Tryz.prog 44 [.pointer r2.1, .int .i64 x11] (.one (.l .bool)) fun (r12 : Bool) =>
       br (!r12)
        (X8 (IntKind.wrap .i64 (u9.1 + 1), ()))
        (ix r1.2.1.a r1.2.1.n u9.1 1 fun a13 =>
        ld (.l (.int .i64)) a13 fun (x14 : Int) =>
        call Tryz.prog 45 [.pointer r1.1, .int .i64 x14] (.one (.l .slice)) fun (r15 : Slc) =>
        lp [.int .i64] (fun X16 u17 => -- k:t14
         br (decide ((u17.1 : Int) < (r15.n : Nat)))
          (drw <| held fun S18 =>
          ix r1.2.1.a r1.2.1.n u9.1 1 fun a19 =>
          ldS S18 (.l (.int .i64)) a19 fun (x20 : Int) =>
          ix r15.a r15.n u17.1 1 fun a21 =>
          ldS S18 (.l (.int .i64)) a21 fun (x22 : Int) =>
          call Tryz.prog 46 [.pointer r1.1, .int .i64 x20, .int .i64 x22] (.many [.l (.int .i64), .l (.int .i64)]) fun (r23 : KTs [.l (.int .i64), .l (.int .i64)]) =>
          call Tryz.prog 39 [.int .i64 r23.2.1] (.one (.l (.int .i64))) fun (r24 : Int) =>
          br ((r24 : Int) != 0)
           (ret (.bool false))
           (call Tryz.prog 47 [.slice r1.2.1.a r1.2.1.n r1.2.1.c, .int .i64 r23.1] (.one (.l .bool)) fun (r25 : Bool) =>
           br r25
            (call Tryz.prog 44 [.pointer r2.1, .int .i64 r23.1] (.one (.l .bool)) fun (r26 : Bool) =>
            br (!r26)
             (ret (.bool false))
             (X16 (IntKind.wrap .i64 (u17.1 + 1), ())))
            (X16 (IntKind.wrap .i64 (u17.1 + 1), ()))))
          (ix r1.2.1.a r1.2.1.n u9.1 1 fun a18 =>
          ld (.l (.int .i64)) a18 fun (x19 : Int) =>
          call Tryz.prog 47 [.slice r6.a r6.n r6.c, .int .i64 x19] (.one (.l .bool)) fun (r20 : Bool) =>
          lp [.bool, .int .i64] (fun X21 u22 => -- led:t17,j:t18
           br (decide ((u22.2.1 : Int) < (r1.2.1.n : Nat)))
            (ix r1.2.1.a r1.2.1.n u22.2.1 1 fun a23 =>
            ld (.l (.int .i64)) a23 fun (x24 : Int) =>
            call Tryz.prog 45 [.pointer r1.1, .int .i64 x24] (.one (.l .slice)) fun (r25 : Slc) =>
            lp [.bool, .int .i64] (fun X26 u27 => -- led:t17,k:t19
             br (decide ((u27.2.1 : Int) < (r25.n : Nat)))
              (drw <| held fun S28 =>
              ix r1.2.1.a r1.2.1.n u22.2.1 1 fun a29 =>
              ldS S28 (.l (.int .i64)) a29 fun (x30 : Int) =>
              ix r25.a r25.n u27.2.1 1 fun a31 =>
              ldS S28 (.l (.int .i64)) a31 fun (x32 : Int) =>
              call Tryz.prog 46 [.pointer r1.1, .int .i64 x30, .int .i64 x32] (.many [.l (.int .i64), .l (.int .i64)]) fun (r33 : KTs [.l (.int .i64), .l (.int .i64)]) =>
              br u27.1
               (X26 (true, IntKind.wrap .i64 (u27.2.1 + 1), ()))
               (br ((u22.2.1 : Int) != u9.1)
                (ix r1.2.1.a r1.2.1.n u22.2.1 1 fun a34 =>
                ld (.l (.int .i64)) a34 fun (x35 : Int) =>
                call Tryz.prog 44 [.pointer r2.1, .int .i64 x35] (.one (.l .bool)) fun (r36 : Bool) =>
                br r36
                 (ix r1.2.1.a r1.2.1.n u9.1 1 fun a37 =>
                 ld (.l (.int .i64)) a37 fun (x38 : Int) =>
                 X26 ((r33.1 : Int) == x38, IntKind.wrap .i64 (u27.2.1 + 1), ()))
                 (X26 (false, IntKind.wrap .i64 (u27.2.1 + 1), ())))
                (X26 (false, IntKind.wrap .i64 (u27.2.1 + 1), ()))))
              (X21 (u27.1, IntKind.wrap .i64 (u22.2.1 + 1), ()))) (u22.1, 0, ()))
            (br (!u22.1)
             (ret (.bool false))
             (X8 (IntKind.wrap .i64 (u9.1 + 1), ())))) (r20, 0, ()))) (0, ())))
       (lp [.int .i64] (fun X10 u11 => -- i:t22
        br (decide ((u11.1 : Int) < (r6.n : Nat)))
         (ix r6.a r6.n u11.1 1 fun a12 =>
         ld (.l (.int .i64)) a12 fun (x13 : Int) =>
         call Tryz.prog 47 [.slice r1.2.1.a r1.2.1.n r1.2.1.c, .int .i64 x13] (.one (.l .bool)) fun (r14 : Bool) =>
         br r14
          (ix r6.a r6.n u11.1 1 fun a15 =>
          ld (.l (.int .i64)) a15 fun (x16 : Int) =>
          call Tryz.prog 44 [.pointer r2.1, .int .i64 x16] (.one (.l .bool)) fun (r17 : Bool) =>
          br (!r17)
           (ret (.bool false))
           (X10 (IntKind.wrap .i64 (u11.1 + 1), ())))
          (X10 (IntKind.wrap .i64 (u11.1 + 1), ())))
         (call Tryz.prog 43 [] (.one (.l .bool)) fun (r12 : Bool) =>
         ret (.bool r12))) (0, ()))) (0, ())))))
theorem F.gloaminglaw17.MarkCloses.den (p0 : Slc) (p1 : Slc) (p2 : Int) : denF Tryz.prog F.gloaminglaw17.MarkCloses.T Tryz.f7 [.va (.slice p0.a p0.n p0.c), .va (.slice p1.a p1.n p1.c), .va (.int .u8 p2)] = F.gloaminglaw17.MarkCloses p0 p1 p2 := by kernel_rfl
theorem F.gloaminglaw17.MarkCloses.ok : (Tryz.f7.body.map (codeB F.gloaminglaw17.MarkCloses.T)).getD false = true := by kernel_rfl
theorem F.gloaminglaw17.MarkCloses.calls (p0 : Slc) (p1 : Slc) (p2 : Int) {Q : Value → World → Prop} {w : World} (h : F.gloaminglaw17.MarkCloses p0 p1 p2 Q w) : Calls Tryz.prog 7 #[.slice p0.a p0.n p0.c, .slice p1.a p1.n p1.c, .int .u8 p2] w fun e w' => ∃ v, e = .returned v ∧ Q v w' :=
  calls_of_den Tryz.pnames Tryz.mixed F.gloaminglaw17.MarkCloses.T Tryz.func7 F.gloaminglaw17.MarkCloses.ok (es := [.va (.slice p0.a p0.n p0.c), .va (.slice p1.a p1.n p1.c), .va (.int .u8 p2)]) rfl (by rw [F.gloaminglaw17.MarkCloses.den]; exact h)
end Go.Proofs.YtapchggmifbfoaaGreat
