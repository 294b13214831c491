import Derived.Test.YtapchggmifbfoaaGreatGlT
namespace Go.Proofs.YtapchggmifbfoaaGreat
open Go Go.Gl
set_option maxRecDepth 100000
set_option linter.unusedVariables false
-- gloaming/gloaminglaw17.MarkTwice
def F.gloaminglaw17.MarkTwice.T : Tabs := ⟨fun _ => [],
  fun _ => none,
  fun _ => .quiet⟩
def F.gloaminglaw17.MarkTwice (p0 : Slc) (p1 : Slc) (p2 : Slc) (p3 : Int) (p4 : Int) : Tree :=
 call Tryz.prog 21 [.slice p0.a p0.n p0.c] (.many [.l .ptr, .l .slice]) fun (r1 : KTs [.l .ptr, .l .slice]) =>
 need ((5 : Int) ≠ 0) <|
 call Tryz.prog 38 [.pointer r1.1, .int .i64 (IntKind.wrap .i64 (1 + (Int.tmod (IntKind.wrap .i64 p3) 5)))] (.many [.l .ptr, .l (.int .i64)]) fun (r2 : KTs [.l .ptr, .l (.int .i64)]) =>
 call Tryz.prog 38 [.pointer r1.1, .int .i64 (IntKind.wrap .i64 (1 + (IntKind.wrap .i64 ((IntKind.wrap .i64 p4) * 16))))] (.many [.l .ptr, .l (.int .i64)]) fun (r3 : KTs [.l .ptr, .l (.int .i64)]) =>
 br (Option.isNone r1.1)
  (ret (.bool false))
  (br (Option.isNone r2.1)
   (ret (.bool false))
   (br (Option.isNone r3.1)
    (ret (.bool false))
    (nn r2.1 fun a4 =>
    ld (.l .ptr) (fa a4 0) fun (x5 : Option Addr) =>
    br (Option.isNone x5)
     (ret (.bool false))
     (nn r3.1 fun a6 =>
     ld (.l .ptr) (fa a6 0) fun (x7 : Option Addr) =>
     br (Option.isNone x7)
      (ret (.bool false))
      (call Tryz.prog 39 [.int .i64 r2.2.1] (.one (.l (.int .i64))) fun (r8 : Int) =>
      call Tryz.prog 39 [.int .i64 r3.2.1] (.one (.l (.int .i64))) fun (r9 : Int) =>
      br ((IntKind.wrap .i64 (r8 + r9) : Int) != 0)
       (ret (.bool false))
       (call Tryz.prog 23 [.slice r1.2.1.a r1.2.1.n r1.2.1.c, .slice p1.a p1.n p1.c, .int .i64 5] (.one (.l .slice)) fun (r10 : Slc) =>
       call Tryz.prog 23 [.slice r1.2.1.a r1.2.1.n r1.2.1.c, .slice p2.a p2.n p2.c, .int .i64 5] (.one (.l .slice)) fun (r11 : Slc) =>
       call Tryz.prog 40 [.pointer r2.1, .slice r10.a r10.n r10.c] (.many []) fun (r12 : KTs []) =>
       call Tryz.prog 40 [.pointer r2.1, .slice r11.a r11.n r11.c] (.many []) fun (r13 : KTs []) =>
       nw 3 [] fun b14 =>
       opr Tryz.prog (Builtin.append_ #[24, 24] 24 #[.slice (some ⟨b14, 0, none⟩) 0 0, .slice r11.a r11.n r11.c]) (.one (.l .slice)) fun (r15 : Slc) =>
       opr Tryz.prog (Builtin.append_ #[24, 24] 24 #[.slice r15.a r15.n r15.c, .slice r10.a r10.n r10.c]) (.one (.l .slice)) fun (r16 : Slc) =>
       call Tryz.prog 40 [.pointer r3.1, .slice r16.a r16.n r16.c] (.many []) fun (r17 : KTs []) =>
       call Tryz.prog 41 [.pointer r2.1] (.one (.l .slice)) fun (r18 : Slc) =>
       call Tryz.prog 40 [.pointer r2.1, .slice r10.a r10.n r10.c] (.many []) fun (r19 : KTs []) =>
       call Tryz.prog 40 [.pointer r2.1, .slice none 0 0] (.many []) fun (r20 : KTs []) =>
       call Tryz.prog 41 [.pointer r3.1] (.one (.l .slice)) fun (r21 : Slc) =>
       call Tryz.prog 28 [.slice r18.a r18.n r18.c, .slice r21.a r21.n r21.c] (.one (.l .bool)) fun (r22 : Bool) =>
       br r22
        (call Tryz.prog 41 [.pointer r2.1] (.one (.l .slice)) fun (r23 : Slc) =>
        call Tryz.prog 28 [.slice r23.a r23.n r23.c, .slice r18.a r18.n r18.c] (.one (.l .bool)) fun (r24 : Bool) =>
        br r24
         (nn r2.1 fun a25 =>
         ld (.l .ptr) (fa a25 0) fun (x26 : Option Addr) =>
         call Tryz.prog 42 [.pointer x26] (.one (.l (.int .i64))) fun (r27 : Int) =>
         br ((r27 : Int) == (r18.n : Nat))
          (call Tryz.prog 43 [] (.one (.l .bool)) fun (r28 : Bool) =>
          ret (.bool r28))
          (ret (.bool false)))
         (ret (.bool false)))
        (ret (.bool false))))))))
theorem F.gloaminglaw17.MarkTwice.den (p0 : Slc) (p1 : Slc) (p2 : Slc) (p3 : Int) (p4 : Int) : denF Tryz.prog F.gloaminglaw17.MarkTwice.T Tryz.f6 [.va (.slice p0.a p0.n p0.c), .va (.slice p1.a p1.n p1.c), .va (.slice p2.a p2.n p2.c), .va (.int .u8 p3), .va (.int .u8 p4)] = F.gloaminglaw17.MarkTwice p0 p1 p2 p3 p4 := by kernel_rfl
theorem F.gloaminglaw17.MarkTwice.ok : (Tryz.f6.body.map (codeB F.gloaminglaw17.MarkTwice.T)).getD false = true := by kernel_rfl
theorem F.gloaminglaw17.MarkTwice.calls (p0 : Slc) (p1 : Slc) (p2 : Slc) (p3 : Int) (p4 : Int) {Q : Value → World → Prop} {w : World} (h : F.gloaminglaw17.MarkTwice p0 p1 p2 p3 p4 Q w) : Calls Tryz.prog 6 #[.slice p0.a p0.n p0.c, .slice p1.a p1.n p1.c, .slice p2.a p2.n p2.c, .int .u8 p3, .int .u8 p4] w fun e w' => ∃ v, e = .returned v ∧ Q v w' :=
  calls_of_den Tryz.pnames Tryz.mixed F.gloaminglaw17.MarkTwice.T Tryz.func6 F.gloaminglaw17.MarkTwice.ok (es := [.va (.slice p0.a p0.n p0.c), .va (.slice p1.a p1.n p1.c), .va (.slice p2.a p2.n p2.c), .va (.int .u8 p3), .va (.int .u8 p4)]) rfl (by rw [F.gloaminglaw17.MarkTwice.den]; exact h)
end Go.Proofs.YtapchggmifbfoaaGreat
