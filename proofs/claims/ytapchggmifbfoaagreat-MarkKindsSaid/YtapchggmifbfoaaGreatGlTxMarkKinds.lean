import Derived.Test.YtapchggmifbfoaaGreatGlT
namespace Go.Proofs.YtapchggmifbfoaaGreat
open Go Go.Gl
set_option maxRecDepth 100000
set_option linter.unusedVariables false
-- gloaming/gloaminglaw17.MarkKinds
def F.gloaminglaw17.MarkKinds.T : Tabs := ⟨fun _ => [],
  (fun
    | 15 => some [(17, .bool)]
    | _ => none),
  fun _ => .quiet⟩
def F.gloaminglaw17.MarkKinds (p0 : Int) (p1 : Int) : Tree :=
 call Tryz.prog 21 [.slice none 0 0] (.many [.l .ptr, .l .slice]) fun (r1 : KTs [.l .ptr, .l .slice]) =>
 br (Option.isNone r1.1)
  (ret (.bool false))
  (call Tryz.prog 48 [.pointer r1.1, .agg #[.int .i64 3, .int .i64 0, .int .i64 1, .bool false]] (.many [.l (.int .i64), .l (.int .i64)]) fun (r2 : KTs [.l (.int .i64), .l (.int .i64)]) =>
  need ((3 : Int) ≠ 0) <|
  nw 54 [.int .i64 2, .int .i64 0, .int .i64 5, .bool false, .int .i64 1, .int .i64 1, .int .i64 3, .bool false, .int .i64 3, .int .i64 0, .int .i64 5, .bool false, .int .i64 4, .int .i64 (IntKind.wrap .i64 (1 + (Int.tmod (IntKind.wrap .i64 p1) 3))), .int .i64 5, .bool false] fun b3 =>
  need ((4 : Int) ≠ 0) <|
  ix (some ⟨b3, 0, none⟩) 4 (Int.tmod (IntKind.wrap .i64 p0) 4) 4 fun a4 =>
  ld (.g [.int .i64, .int .i64, .int .i64, .bool]) a4 fun (x5 : LTs [.int .i64, .int .i64, .int .i64, .bool]) =>
  call Tryz.prog 48 [.pointer r1.1, .agg #[.int .i64 x5.1, .int .i64 x5.2.1, .int .i64 x5.2.2.1, .bool x5.2.2.2.1]] (.many [.l (.int .i64), .l (.int .i64)]) fun (r6 : KTs [.l (.int .i64), .l (.int .i64)]) =>
  ix (some ⟨b3, 0, none⟩) 4 (Int.tmod (IntKind.wrap .i64 p0) 4) 4 fun a7 =>
  ld (.l (.int .i64)) (fa a7 2) fun (x8 : Int) =>
  need ((x8 : Int) ≠ 0) <|
  call Tryz.prog 49 [.pointer r1.1, .int .i64 r6.1, .int .i64 (Int.tmod (IntKind.wrap .i64 p1) x8), .int .i64 r2.1] (.one (.l (.int .i64))) fun (r9 : Int) =>
  call Tryz.prog 38 [.pointer r1.1, .int .i64 2] (.many [.l .ptr, .l (.int .i64)]) fun (r10 : KTs [.l .ptr, .l (.int .i64)]) =>
  br (Option.isNone r10.1)
   (ret (.bool false))
   (nn r10.1 fun a11 =>
   ld (.l .ptr) (fa a11 0) fun (x12 : Option Addr) =>
   br (Option.isNone x12)
    (ret (.bool false))
    (call Tryz.prog 39 [.int .i64 r2.2.1] (.one (.l (.int .i64))) fun (r13 : Int) =>
    call Tryz.prog 39 [.int .i64 r6.2.1] (.one (.l (.int .i64))) fun (r14 : Int) =>
    call Tryz.prog 39 [.int .i64 r9] (.one (.l (.int .i64))) fun (r15 : Int) =>
    call Tryz.prog 39 [.int .i64 r10.2.1] (.one (.l (.int .i64))) fun (r16 : Int) =>
    br ((IntKind.wrap .i64 ((IntKind.wrap .i64 ((IntKind.wrap .i64 (r13 + r14)) + r15)) + r16) : Int) != 0)
     (ret (.bool false))
     (nw 3 [.int .i64 r6.1] fun b17 =>
     call Tryz.prog 40 [.pointer r10.1, .slice (some ⟨b17, 0, none⟩) 1 1] (.many []) fun (r18 : KTs []) =>
     jn (fun (j20 : LTs [.bool]) => -- want:t17
      call Tryz.prog 44 [.pointer r10.1, .int .i64 r6.1] (.one (.l .bool)) fun (r21 : Bool) =>
      br r21
       (call Tryz.prog 44 [.pointer r10.1, .int .i64 r2.1] (.one (.l .bool)) fun (r22 : Bool) =>
       br (r22 == j20.1)
        (call Tryz.prog 43 [] (.one (.l .bool)) fun (r23 : Bool) =>
        ret (.bool r23))
        (ret (.bool false)))
       (ret (.bool false))) fun J19 =>
     br ((Int.tmod (IntKind.wrap .i64 p0) 4 : Int) == 0)
      (J19 (true, ()))
      (br ((Int.tmod (IntKind.wrap .i64 p0) 4 : Int) == 1)
       (br ((Int.tmod (IntKind.wrap .i64 p1) x8 : Int) != 1)
        (J19 (true, ()))
        (br ((Int.tmod (IntKind.wrap .i64 p0) 4 : Int) == 3)
         (J19 ((Int.tmod (IntKind.wrap .i64 p1) x8 : Int) == 2, ()))
         (J19 (false, ()))))
       (br ((Int.tmod (IntKind.wrap .i64 p0) 4 : Int) == 3)
        (J19 ((Int.tmod (IntKind.wrap .i64 p1) x8 : Int) == 2, ()))
        (J19 (false, ()))))))))
theorem F.gloaminglaw17.MarkKinds.den (p0 : Int) (p1 : Int) : denF Tryz.prog F.gloaminglaw17.MarkKinds.T Tryz.f8 [.va (.int .u8 p0), .va (.int .u8 p1)] = F.gloaminglaw17.MarkKinds p0 p1 := by kernel_rfl
theorem F.gloaminglaw17.MarkKinds.ok : (Tryz.f8.body.map (codeB F.gloaminglaw17.MarkKinds.T)).getD false = true := by kernel_rfl
theorem F.gloaminglaw17.MarkKinds.calls (p0 : Int) (p1 : Int) {Q : Value → World → Prop} {w : World} (h : F.gloaminglaw17.MarkKinds p0 p1 Q w) : Calls Tryz.prog 8 #[.int .u8 p0, .int .u8 p1] w fun e w' => ∃ v, e = .returned v ∧ Q v w' :=
  calls_of_den Tryz.pnames Tryz.mixed F.gloaminglaw17.MarkKinds.T Tryz.func8 F.gloaminglaw17.MarkKinds.ok (es := [.va (.int .u8 p0), .va (.int .u8 p1)]) rfl (by rw [F.gloaminglaw17.MarkKinds.den]; exact h)
end Go.Proofs.YtapchggmifbfoaaGreat
