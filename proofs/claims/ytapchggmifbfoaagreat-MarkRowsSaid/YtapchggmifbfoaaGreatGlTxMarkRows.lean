import Derived.Test.YtapchggmifbfoaaGreatGlT
namespace Go.Proofs.YtapchggmifbfoaaGreat
open Go Go.Gl
set_option maxRecDepth 100000
set_option linter.unusedVariables false
-- gloaming/gloaminglaw17.MarkRows
def F.gloaminglaw17.MarkRows.T : Tabs := ⟨(fun
    | 7 => [(13, .slice), (14, .int .i64)]
    | 14 => [(17, .int .i64)]
    | 17 => [(18, .int .i64)]
    | 29 => [(24, .int .i64)]
    | _ => []),
  fun _ => none,
  (fun
    | 19 => .tail 18
    | 20 => .tail 10
    | _ => .quiet)⟩
def F.gloaminglaw17.MarkRows (p0 : Int) (p1 : Int) (p2 : Int) (p3 : Int) : Tree :=
 call Tryz.prog 50 [.int .i64 200] (.many [.l .ptr, .l (.int .i64)]) fun (r1 : KTs [.l .ptr, .l (.int .i64)]) =>
 call Tryz.prog 51 [.pointer r1.1] (.one (.l .bool)) fun (r2 : Bool) =>
 br (!r2)
  (ret (.bool false))
  (call Tryz.prog 39 [.int .i64 r1.2.1] (.one (.l (.int .i64))) fun (r3 : Int) =>
  br ((r3 : Int) != 0)
   (ret (.bool false))
   (need ((40 : Int) ≠ 0) <|
   need ((30 : Int) ≠ 0) <|
   lp [.slice, .int .i64] (fun X4 u5 => -- l:t13,i:t14
    br (decide ((u5.2.1 : Int) < (IntKind.wrap .i64 (2 + (Int.tmod (IntKind.wrap .i64 p0) 40)))))
     (call Tryz.prog 48 [.pointer r1.1, .agg #[.int .i64 2, .int .i64 0, .int .i64 (IntKind.wrap .i64 (1 + (Int.tmod (IntKind.wrap .i64 p2) 30))), .bool false]] (.many [.l (.int .i64), .l (.int .i64)]) fun (r6 : KTs [.l (.int .i64), .l (.int .i64)]) =>
     call Tryz.prog 39 [.int .i64 r6.2.1] (.one (.l (.int .i64))) fun (r7 : Int) =>
     br ((r7 : Int) != 0)
      (ret (.bool false))
      (nw 3 [.int .i64 r6.1] fun b8 =>
      opr Tryz.prog (Builtin.append_ #[24, 24] 24 #[.slice u5.1.a u5.1.n u5.1.c, .slice (some ⟨b8, 0, none⟩) 1 1]) (.one (.l .slice)) fun (r9 : Slc) =>
      X4 (⟨r9.a, r9.n, r9.c⟩, IntKind.wrap .i64 (u5.2.1 + 1), ())))
     (lp [.int .i64] (fun X6 u7 => -- i:t17
      br (decide ((IntKind.wrap .i64 (u7.1 + 1) : Int) < (IntKind.wrap .i64 (2 + (Int.tmod (IntKind.wrap .i64 p0) 40)))))
       (lp [.int .i64] (fun X8 u9 => -- j:t18
        br (decide ((u9.1 : Int) < (IntKind.wrap .i64 (1 + (Int.tmod (IntKind.wrap .i64 p2) 30)))))
         (drw <|
         ix u5.1.a u5.1.n u7.1 1 fun a10 =>
         ld (.l (.int .i64)) a10 fun (x11 : Int) =>
         need ((IntKind.wrap .i64 ((IntKind.wrap .i64 ((IntKind.wrap .i64 (2 + (Int.tmod (IntKind.wrap .i64 p0) 40))) - 1)) - u7.1) : Int) ≠ 0) <|
         ix u5.1.a u5.1.n (IntKind.wrap .i64 ((IntKind.wrap .i64 (u7.1 + 1)) + (Int.tmod u9.1 (IntKind.wrap .i64 ((IntKind.wrap .i64 ((IntKind.wrap .i64 (2 + (Int.tmod (IntKind.wrap .i64 p0) 40))) - 1)) - u7.1))))) 1 fun a12 =>
         ld (.l (.int .i64)) a12 fun (x13 : Int) =>
         call Tryz.prog 49 [.pointer r1.1, .int .i64 x11, .int .i64 u9.1, .int .i64 x13] (.one (.l (.int .i64))) fun (r14 : Int) =>
         X8 (IntKind.wrap .i64 (u9.1 + 1), ()))
         (drw <|
         ix u5.1.a u5.1.n u7.1 1 fun a10 =>
         ld (.l (.int .i64)) a10 fun (x11 : Int) =>
         ix u5.1.a u5.1.n (IntKind.wrap .i64 (u7.1 + 1)) 1 fun a12 =>
         ld (.l (.int .i64)) a12 fun (x13 : Int) =>
         call Tryz.prog 49 [.pointer r1.1, .int .i64 x11, .int .i64 0, .int .i64 x13] (.one (.l (.int .i64))) fun (r14 : Int) =>
         X6 (IntKind.wrap .i64 (u7.1 + 1), ()))) (0, ()))
       (call Tryz.prog 48 [.pointer r1.1, .agg #[.int .i64 4, .int .i64 1, .int .i64 5, .bool false]] (.many [.l (.int .i64), .l (.int .i64)]) fun (r8 : KTs [.l (.int .i64), .l (.int .i64)]) =>
       ix u5.1.a u5.1.n 0 1 fun a9 =>
       ld (.l (.int .i64)) a9 fun (x10 : Int) =>
       call Tryz.prog 49 [.pointer r1.1, .int .i64 r8.1, .int .i64 0, .int .i64 x10] (.one (.l (.int .i64))) fun (r11 : Int) =>
       need ((4 : Int) ≠ 0) <|
       call Tryz.prog 38 [.pointer r1.1, .int .i64 (IntKind.wrap .i64 (1 + (Int.tmod (IntKind.wrap .i64 p3) 4)))] (.many [.l .ptr, .l (.int .i64)]) fun (r12 : KTs [.l .ptr, .l (.int .i64)]) =>
       br (Option.isNone r12.1)
        (ret (.bool false))
        (nn r12.1 fun a13 =>
        ld (.l .ptr) (fa a13 0) fun (x14 : Option Addr) =>
        br (Option.isNone x14)
         (ret (.bool false))
         (call Tryz.prog 39 [.int .i64 r8.2.1] (.one (.l (.int .i64))) fun (r15 : Int) =>
         call Tryz.prog 39 [.int .i64 r12.2.1] (.one (.l (.int .i64))) fun (r16 : Int) =>
         br ((IntKind.wrap .i64 (r15 + r16) : Int) != 0)
          (ret (.bool false))
          (need ((IntKind.wrap .i64 (2 + (Int.tmod (IntKind.wrap .i64 p0) 40)) : Int) ≠ 0) <|
          ix u5.1.a u5.1.n (Int.tmod (IntKind.wrap .i64 p1) (IntKind.wrap .i64 (2 + (Int.tmod (IntKind.wrap .i64 p0) 40)))) 1 fun a17 =>
          ld (.l (.int .i64)) a17 fun (x18 : Int) =>
          nw 3 [.int .i64 x18, .int .i64 r8.1, .int .i64 0, .int .i64 (-5)] fun b19 =>
          call Tryz.prog 40 [.pointer r12.1, .slice (some ⟨b19, 0, none⟩) 4 4] (.many []) fun (r20 : KTs []) =>
          lp [.int .i64] (fun X21 u22 => -- i:t24
           br (decide ((u22.1 : Int) < (IntKind.wrap .i64 (2 + (Int.tmod (IntKind.wrap .i64 p0) 40)))))
            (ix u5.1.a u5.1.n u22.1 1 fun a23 =>
            ld (.l (.int .i64)) a23 fun (x24 : Int) =>
            call Tryz.prog 44 [.pointer r12.1, .int .i64 x24] (.one (.l .bool)) fun (r25 : Bool) =>
            br (!(r25 == (decide ((u22.1 : Int) ≥ (Int.tmod (IntKind.wrap .i64 p1) (IntKind.wrap .i64 (2 + (Int.tmod (IntKind.wrap .i64 p0) 40))))))))
             (ret (.bool false))
             (X21 (IntKind.wrap .i64 (u22.1 + 1), ())))
            (call Tryz.prog 38 [.pointer none, .int .i64 1] (.many [.l .ptr, .l (.int .i64)]) fun (r23 : KTs [.l .ptr, .l (.int .i64)]) =>
            call Tryz.prog 38 [.pointer r1.1, .int .i64 0] (.many [.l .ptr, .l (.int .i64)]) fun (r24 : KTs [.l .ptr, .l (.int .i64)]) =>
            nw 3 [.int .i64 64] fun b25 =>
            call Tryz.prog 40 [.pointer none, .slice (some ⟨b25, 0, none⟩) 1 1] (.many []) fun (r26 : KTs []) =>
            call Tryz.prog 44 [.pointer r12.1, .int .i64 r8.1] (.one (.l .bool)) fun (r27 : Bool) =>
            br r27
             (call Tryz.prog 41 [.pointer r12.1] (.one (.l .slice)) fun (r28 : Slc) =>
             br (((r28.n : Nat) : Int) == (IntKind.wrap .i64 ((IntKind.wrap .i64 ((IntKind.wrap .i64 (2 + (Int.tmod (IntKind.wrap .i64 p0) 40))) - (Int.tmod (IntKind.wrap .i64 p1) (IntKind.wrap .i64 (2 + (Int.tmod (IntKind.wrap .i64 p0) 40)))))) + 1)))
              (call Tryz.prog 52 [.pointer r12.1] (.one (.l (.int .i64))) fun (r29 : Int) =>
              need ((4 : Int) ≠ 0) <|
              br (decide ((r29 : Int) ≤ (IntKind.wrap .i64 (1 + (Int.tmod (IntKind.wrap .i64 p3) 4)))))
               (call Tryz.prog 39 [.int .i64 r23.2.1] (.one (.l (.int .i64))) fun (r30 : Int) =>
               br ((r30 : Int) == 2)
                (call Tryz.prog 39 [.int .i64 r24.2.1] (.one (.l (.int .i64))) fun (r31 : Int) =>
                br ((r31 : Int) == 1)
                 (call Tryz.prog 44 [.pointer none, .int .i64 64] (.one (.l .bool)) fun (r32 : Bool) =>
                 br (!r32)
                  (call Tryz.prog 41 [.pointer none] (.one (.l .slice)) fun (r33 : Slc) =>
                  call Tryz.prog 52 [.pointer none] (.one (.l (.int .i64))) fun (r34 : Int) =>
                  br ((IntKind.wrap .i64 ((r33.n : Nat) + r34) : Int) == 0)
                   (call Tryz.prog 43 [] (.one (.l .bool)) fun (r35 : Bool) =>
                   ret (.bool r35))
                   (ret (.bool false)))
                  (ret (.bool false)))
                 (ret (.bool false)))
                (ret (.bool false)))
               (ret (.bool false)))
              (ret (.bool false)))
             (ret (.bool false)))) (0, ())))))) (0, ()))) (⟨none, 0, 0⟩, 0, ())))
theorem F.gloaminglaw17.MarkRows.den (p0 : Int) (p1 : Int) (p2 : Int) (p3 : Int) : denF Tryz.prog F.gloaminglaw17.MarkRows.T Tryz.f9 [.va (.int .u8 p0), .va (.int .u8 p1), .va (.int .u8 p2), .va (.int .u8 p3)] = F.gloaminglaw17.MarkRows p0 p1 p2 p3 := by kernel_rfl
theorem F.gloaminglaw17.MarkRows.ok : (Tryz.f9.body.map (codeB F.gloaminglaw17.MarkRows.T)).getD false = true := by kernel_rfl
theorem F.gloaminglaw17.MarkRows.calls (p0 : Int) (p1 : Int) (p2 : Int) (p3 : Int) {Q : Value → World → Prop} {w : World} (h : F.gloaminglaw17.MarkRows p0 p1 p2 p3 Q w) : Calls Tryz.prog 9 #[.int .u8 p0, .int .u8 p1, .int .u8 p2, .int .u8 p3] w fun e w' => ∃ v, e = .returned v ∧ Q v w' :=
  calls_of_den Tryz.pnames Tryz.mixed F.gloaminglaw17.MarkRows.T Tryz.func9 F.gloaminglaw17.MarkRows.ok (es := [.va (.int .u8 p0), .va (.int .u8 p1), .va (.int .u8 p2), .va (.int .u8 p3)]) rfl (by rw [F.gloaminglaw17.MarkRows.den]; exact h)
end Go.Proofs.YtapchggmifbfoaaGreat
