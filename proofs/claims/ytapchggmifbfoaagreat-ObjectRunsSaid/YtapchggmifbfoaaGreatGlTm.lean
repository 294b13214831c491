import Derived.Test.YtapchggmifbfoaaGreatGlT
namespace Go.Proofs.YtapchggmifbfoaaGreat
open Go Go.Gl
set_option maxRecDepth 100000
set_option linter.unusedVariables false
-- gloaming/mark.New
def F.mark.New.T : Tabs := ⟨fun _ => [],
  fun _ => none,
  fun _ => .quiet⟩
def F.mark.New (p0 : Option Addr) (p1 : Int) : Tree :=
 br (Option.isNone p0)
  (ret (.tuple #[.pointer none, .int .i64 2]))
  (call Tryz.prog 85 [.int .i64 p1] (.many [.l .ptr, .l (.int .i64)]) fun (r1 : KTs [.l .ptr, .l (.int .i64)]) =>
  br ((r1.2.1 : Int) != 0)
   (ret (.tuple #[.pointer none, .int .i64 r1.2.1]))
   (nn p0 fun a2 =>
   ld (.l .ptr) (fa a2 0) fun (x3 : Option Addr) =>
   nn x3 fun a4 =>
   ld (.l .ptr) (fa a4 0) fun (x5 : Option Addr) =>
   call Tryz.prog 87 [.pointer x5] (.one (.l (.int .i64))) fun (r6 : Int) =>
   call Tryz.prog 86 [.int .i64 r6] (.many [.l .ptr, .l (.int .i64)]) fun (r7 : KTs [.l .ptr, .l (.int .i64)]) =>
   br ((r7.2.1 : Int) != 0)
    (ret (.tuple #[.pointer none, .int .i64 r7.2.1]))
    (nw 68 [.pointer r7.1, .pointer p0, .pointer r1.1, .int .i64 0] fun b8 =>
    ret (.tuple #[.pointer (some (⟨b8, 0, none⟩)), .int .i64 0]))))
theorem F.mark.New.den (p0 : Option Addr) (p1 : Int) : denF Tryz.prog F.mark.New.T Tryz.f38 [.va (.pointer p0), .va (.int .i64 p1)] = F.mark.New p0 p1 := by kernel_rfl
theorem F.mark.New.ok : (Tryz.f38.body.map (codeB F.mark.New.T)).getD false = true := by kernel_rfl
theorem F.mark.New.calls (p0 : Option Addr) (p1 : Int) {Q : Value → World → Prop} {w : World} (h : F.mark.New p0 p1 Q w) : Calls Tryz.prog 38 #[.pointer p0, .int .i64 p1] w fun e w' => ∃ v, e = .returned v ∧ Q v w' :=
  calls_of_den Tryz.pnames Tryz.mixed F.mark.New.T Tryz.func38 F.mark.New.ok (es := [.va (.pointer p0), .va (.int .i64 p1)]) rfl (by rw [F.mark.New.den]; exact h)

-- (*gloaming/mark.Tracer).Mark
def F.mark.Tracer.Mark.T : Tabs := ⟨(fun
    | 2 => [(12, .int .i64)]
    | 7 => []
    | 10 => [(35, .int .i64)]
    | _ => []),
  fun _ => none,
  fun _ => .quiet⟩
def F.mark.Tracer.Mark (p0 : Option Addr) (p1 : Slc) : Tree :=
 br (Option.isNone p0)
  (ret (.tuple #[]))
  (lp [.int .i64] (fun X1 u2 => -- :t12
   br (decide ((u2.1 : Int) < (p1.n : Nat)))
    (ix p1.a p1.n u2.1 1 fun a3 =>
    ld (.l (.int .i64)) a3 fun (x4 : Int) =>
    call Tryz.prog 88 [.pointer p0, .int .i64 x4] (.many []) fun (r5 : KTs []) =>
    call Tryz.prog 89 [.pointer p0] (.many []) fun (r6 : KTs []) =>
    X1 (IntKind.wrap .i64 (u2.1 + 1), ()))
    (lp [] (fun X3 u4 => -- 
     nn p0 fun a5 =>
     ld (.l .ptr) (fa a5 2) fun (x6 : Option Addr) =>
     call Tryz.prog 90 [.pointer x6] (.one (.l .bool)) fun (r7 : Bool) =>
     br r7
      (nn p0 fun a8 =>
      ld (.l .ptr) (fa a8 2) fun (x9 : Option Addr) =>
      call Tryz.prog 91 [.pointer x9] (.many []) fun (r10 : KTs []) =>
      call Tryz.prog 41 [.pointer p0] (.one (.l .slice)) fun (r11 : Slc) =>
      lp [.int .i64] (fun X12 u13 => -- :t35
       br (decide ((u13.1 : Int) < (r11.n : Nat)))
        (ix r11.a r11.n u13.1 1 fun a14 =>
        ld (.l (.int .i64)) a14 fun (x15 : Int) =>
        call Tryz.prog 92 [.pointer p0, .int .i64 x15] (.many []) fun (r16 : KTs []) =>
        call Tryz.prog 89 [.pointer p0] (.many []) fun (r17 : KTs []) =>
        X12 (IntKind.wrap .i64 (u13.1 + 1), ()))
        (X3 (()))) (0, ()))
      (ret (.tuple #[]))) (()))) (0, ()))
theorem F.mark.Tracer.Mark.den (p0 : Option Addr) (p1 : Slc) : denF Tryz.prog F.mark.Tracer.Mark.T Tryz.f40 [.va (.pointer p0), .va (.slice p1.a p1.n p1.c)] = F.mark.Tracer.Mark p0 p1 := by kernel_rfl
theorem F.mark.Tracer.Mark.ok : (Tryz.f40.body.map (codeB F.mark.Tracer.Mark.T)).getD false = true := by kernel_rfl
theorem F.mark.Tracer.Mark.calls (p0 : Option Addr) (p1 : Slc) {Q : Value → World → Prop} {w : World} (h : F.mark.Tracer.Mark p0 p1 Q w) : Calls Tryz.prog 40 #[.pointer p0, .slice p1.a p1.n p1.c] w fun e w' => ∃ v, e = .returned v ∧ Q v w' :=
  calls_of_den Tryz.pnames Tryz.mixed F.mark.Tracer.Mark.T Tryz.func40 F.mark.Tracer.Mark.ok (es := [.va (.pointer p0), .va (.slice p1.a p1.n p1.c)]) rfl (by rw [F.mark.Tracer.Mark.den]; exact h)

-- (*gloaming/mark.Tracer).All
def F.mark.Tracer.All.T : Tabs := ⟨(fun
    | 5 => [(3, .slice), (4, .int .i64)]
    | _ => []),
  fun _ => none,
  fun _ => .quiet⟩
def F.mark.Tracer.All (p0 : Option Addr) : Tree :=
 br (Option.isNone p0)
  (ret (.slice none 0 0))
  (nn p0 fun a1 =>
  ld (.l .ptr) (fa a1 0) fun (x2 : Option Addr) =>
  call Tryz.prog 93 [.pointer x2, .int .i64 0, .bool true] (.one (.l (.int .i64))) fun (r3 : Int) =>
  lp [.slice, .int .i64] (fun X4 u5 => -- out:t3,at:t4
   br (decide ((u5.2.1 : Int) ≥ 0))
    (nw 3 [.int .i64 u5.2.1] fun b6 =>
    opr Tryz.prog (Builtin.append_ #[24, 24] 24 #[.slice u5.1.a u5.1.n u5.1.c, .slice (some ⟨b6, 0, none⟩) 1 1]) (.one (.l .slice)) fun (r7 : Slc) =>
    nn p0 fun a8 =>
    ld (.l .ptr) (fa a8 0) fun (x9 : Option Addr) =>
    call Tryz.prog 93 [.pointer x9, .int .i64 (IntKind.wrap .i64 (u5.2.1 + 1)), .bool true] (.one (.l (.int .i64))) fun (r10 : Int) =>
    X4 (⟨r7.a, r7.n, r7.c⟩, r10, ()))
    (ret (.slice u5.1.a u5.1.n u5.1.c))) (⟨none, 0, 0⟩, r3, ()))
theorem F.mark.Tracer.All.den (p0 : Option Addr) : denF Tryz.prog F.mark.Tracer.All.T Tryz.f41 [.va (.pointer p0)] = F.mark.Tracer.All p0 := by kernel_rfl
theorem F.mark.Tracer.All.ok : (Tryz.f41.body.map (codeB F.mark.Tracer.All.T)).getD false = true := by kernel_rfl
theorem F.mark.Tracer.All.calls (p0 : Option Addr) {Q : Value → World → Prop} {w : World} (h : F.mark.Tracer.All p0 Q w) : Calls Tryz.prog 41 #[.pointer p0] w fun e w' => ∃ v, e = .returned v ∧ Q v w' :=
  calls_of_den Tryz.pnames Tryz.mixed F.mark.Tracer.All.T Tryz.func41 F.mark.Tracer.All.ok (es := [.va (.pointer p0)]) rfl (by rw [F.mark.Tracer.All.den]; exact h)

-- (*gloaming/mark.Tracer).Marked
def F.mark.Tracer.Marked.T : Tabs := ⟨fun _ => [],
  fun _ => none,
  fun _ => .quiet⟩
def F.mark.Tracer.Marked (p0 : Option Addr) (p1 : Int) : Tree :=
 br (!(Option.isNone p0))
  (nn p0 fun a1 =>
  ld (.l .ptr) (fa a1 0) fun (x2 : Option Addr) =>
  call Tryz.prog 94 [.pointer x2, .int .i64 p1] (.one (.l .bool)) fun (r3 : Bool) =>
  ret (.bool r3))
  (ret (.bool false))
theorem F.mark.Tracer.Marked.den (p0 : Option Addr) (p1 : Int) : denF Tryz.prog F.mark.Tracer.Marked.T Tryz.f44 [.va (.pointer p0), .va (.int .i64 p1)] = F.mark.Tracer.Marked p0 p1 := by kernel_rfl
theorem F.mark.Tracer.Marked.ok : (Tryz.f44.body.map (codeB F.mark.Tracer.Marked.T)).getD false = true := by kernel_rfl
theorem F.mark.Tracer.Marked.calls (p0 : Option Addr) (p1 : Int) {Q : Value → World → Prop} {w : World} (h : F.mark.Tracer.Marked p0 p1 Q w) : Calls Tryz.prog 44 #[.pointer p0, .int .i64 p1] w fun e w' => ∃ v, e = .returned v ∧ Q v w' :=
  calls_of_den Tryz.pnames Tryz.mixed F.mark.Tracer.Marked.T Tryz.func44 F.mark.Tracer.Marked.ok (es := [.va (.pointer p0), .va (.int .i64 p1)]) rfl (by rw [F.mark.Tracer.Marked.den]; exact h)

-- (*gloaming/mark.Tracer).Deep
def F.mark.Tracer.Deep.T : Tabs := ⟨fun _ => [],
  fun _ => none,
  fun _ => .quiet⟩
def F.mark.Tracer.Deep (p0 : Option Addr) : Tree :=
 br (Option.isNone p0)
  (ret (.int .i64 0))
  (nn p0 fun a1 =>
  ld (.l (.int .i64)) (fa a1 3) fun (x2 : Int) =>
  ret (.int .i64 x2))
theorem F.mark.Tracer.Deep.den (p0 : Option Addr) : denF Tryz.prog F.mark.Tracer.Deep.T Tryz.f52 [.va (.pointer p0)] = F.mark.Tracer.Deep p0 := by kernel_rfl
theorem F.mark.Tracer.Deep.ok : (Tryz.f52.body.map (codeB F.mark.Tracer.Deep.T)).getD false = true := by kernel_rfl
theorem F.mark.Tracer.Deep.calls (p0 : Option Addr) {Q : Value → World → Prop} {w : World} (h : F.mark.Tracer.Deep p0 Q w) : Calls Tryz.prog 52 #[.pointer p0] w fun e w' => ∃ v, e = .returned v ∧ Q v w' :=
  calls_of_den Tryz.pnames Tryz.mixed F.mark.Tracer.Deep.T Tryz.func52 F.mark.Tracer.Deep.ok (es := [.va (.pointer p0)]) rfl (by rw [F.mark.Tracer.Deep.den]; exact h)

-- gloaming/stack.New
def F.stack.New.T : Tabs := ⟨fun _ => [],
  fun _ => none,
  fun _ => .quiet⟩
def F.stack.New (p0 : Int) : Tree :=
 br (decide ((p0 : Int) < 1))
  (ret (.tuple #[.pointer none, .int .i64 1]))
  (br (decide ((p0 : Int) > 4096))
   (ret (.tuple #[.pointer none, .int .i64 1]))
   (nw 194 [.slice none 0 0, .int .i64 p0, .bool false] fun b1 =>
   ret (.tuple #[.pointer (some (⟨b1, 0, none⟩)), .int .i64 0])))
theorem F.stack.New.den (p0 : Int) : denF Tryz.prog F.stack.New.T Tryz.f85 [.va (.int .i64 p0)] = F.stack.New p0 := by kernel_rfl
theorem F.stack.New.ok : (Tryz.f85.body.map (codeB F.stack.New.T)).getD false = true := by kernel_rfl
theorem F.stack.New.calls (p0 : Int) {Q : Value → World → Prop} {w : World} (h : F.stack.New p0 Q w) : Calls Tryz.prog 85 #[.int .i64 p0] w fun e w' => ∃ v, e = .returned v ∧ Q v w' :=
  calls_of_den Tryz.pnames Tryz.mixed F.stack.New.T Tryz.func85 F.stack.New.ok (es := [.va (.int .i64 p0)]) rfl (by rw [F.stack.New.den]; exact h)

-- (*gloaming/mark.Tracer).one
def F.mark.Tracer.one.T : Tabs := ⟨fun _ => [],
  fun _ => none,
  (fun
    | 5 => .held (some 13) (.go 0 false (.go 1 false (.go 2 false (.go 3 false (.go 4 false (.go 5 false (.go 6 false (.go 7 false (.go 8 false (.go 9 false (.go 10 false (.go 11 false (.go 12 false (.go 13 true .nil))))))))))))))
    | _ => .quiet)⟩
def F.mark.Tracer.one (p0 : Option Addr) (p1 : Int) : Tree :=
 nn p0 fun a1 =>
 ld (.l .ptr) (fa a1 0) fun (x2 : Option Addr) =>
 call Tryz.prog 94 [.pointer x2, .int .i64 p1] (.one (.l .bool)) fun (r3 : Bool) =>
 br r3
  (ret (.tuple #[]))
  (nn p0 fun a4 =>
  ld (.l .ptr) (fa a4 1) fun (x5 : Option Addr) =>
  call Tryz.prog 62 [.pointer x5, .int .i64 p1] (.many [.g [.int .i64, .int .i64, .int .i64, .bool], .l (.int .i64)]) fun (r6 : KTs [.g [.int .i64, .int .i64, .int .i64, .bool], .l (.int .i64)]) =>
  nw 54 (zc Tryz.prog 54) fun b7 =>
  st (⟨b7, 0, none⟩) [.int .i64 r6.1.1, .int .i64 r6.1.2.1, .int .i64 r6.1.2.2.1, .bool r6.1.2.2.2.1] <|
  br ((r6.2.1 : Int) != 0)
   (ret (.tuple #[]))
   (nn p0 fun a8 =>
   ld (.l .ptr) (fa a8 0) fun (x9 : Option Addr) =>
   nw 3 [.int .i64 p1] fun b10 =>
   call Tryz.prog 129 [.pointer x9, .bool true, .slice (some ⟨b10, 0, none⟩) 1 1] (.one (.l (.int .i64))) fun (r11 : Int) =>
   nn p0 fun a12 =>
   ld (.l .ptr) (fa a12 2) fun (x13 : Option Addr) =>
   nw 3 [.int .i64 p1] fun b14 =>
   call Tryz.prog 130 [.pointer x13, .slice (some ⟨b14, 0, none⟩) 1 1] (.one (.l (.int .i64))) fun (r15 : Int) =>
   drw <| held fun S16 =>
   nn p0 fun a17 =>
   ldS S16 (.l (.int .i64)) (fa a17 3) fun (x18 : Int) =>
   nn p0 fun a19 =>
   ldS S16 (.l .ptr) (fa a19 2) fun (x20 : Option Addr) =>
   call Tryz.prog 131 [.pointer x20] (.one (.l (.int .i64))) fun (r21 : Int) =>
   chk S16 <|
   nn p0 fun a22 =>
   st (fa a22 3) [.int .i64 (if (r21 : Int) > x18 then (r21 : Int) else x18)] <|
   ret (.tuple #[])))
theorem F.mark.Tracer.one.den (p0 : Option Addr) (p1 : Int) : denF Tryz.prog F.mark.Tracer.one.T Tryz.f88 [.va (.pointer p0), .va (.int .i64 p1)] = F.mark.Tracer.one p0 p1 := by kernel_rfl
theorem F.mark.Tracer.one.ok : (Tryz.f88.body.map (codeB F.mark.Tracer.one.T)).getD false = true := by kernel_rfl
theorem F.mark.Tracer.one.calls (p0 : Option Addr) (p1 : Int) {Q : Value → World → Prop} {w : World} (h : F.mark.Tracer.one p0 p1 Q w) : Calls Tryz.prog 88 #[.pointer p0, .int .i64 p1] w fun e w' => ∃ v, e = .returned v ∧ Q v w' :=
  calls_of_den Tryz.pnames Tryz.mixed F.mark.Tracer.one.T Tryz.func88 F.mark.Tracer.one.ok (es := [.va (.pointer p0), .va (.int .i64 p1)]) rfl (by rw [F.mark.Tracer.one.den]; exact h)

-- (*gloaming/mark.Tracer).drain
def F.mark.Tracer.drain.T : Tabs := ⟨(fun
    | 1 => [(2, .int .i64), (3, .bool)]
    | _ => []),
  fun _ => none,
  fun _ => .quiet⟩
def F.mark.Tracer.drain (p0 : Option Addr) : Tree :=
 nn p0 fun a1 =>
 ld (.l .ptr) (fa a1 2) fun (x2 : Option Addr) =>
 call Tryz.prog 132 [.pointer x2] (.many [.l (.int .i64), .l .bool]) fun (r3 : KTs [.l (.int .i64), .l .bool]) =>
 lp [.int .i64, .bool] (fun X4 u5 => -- at:t2,ok:t3
  br u5.2.1
   (call Tryz.prog 92 [.pointer p0, .int .i64 u5.1] (.many []) fun (r6 : KTs []) =>
   nn p0 fun a7 =>
   ld (.l .ptr) (fa a7 2) fun (x8 : Option Addr) =>
   call Tryz.prog 132 [.pointer x8] (.many [.l (.int .i64), .l .bool]) fun (r9 : KTs [.l (.int .i64), .l .bool]) =>
   X4 (r9.1, r9.2.1, ()))
   (ret (.tuple #[]))) (r3.1, r3.2.1, ())
theorem F.mark.Tracer.drain.den (p0 : Option Addr) : denF Tryz.prog F.mark.Tracer.drain.T Tryz.f89 [.va (.pointer p0)] = F.mark.Tracer.drain p0 := by kernel_rfl
theorem F.mark.Tracer.drain.ok : (Tryz.f89.body.map (codeB F.mark.Tracer.drain.T)).getD false = true := by kernel_rfl
theorem F.mark.Tracer.drain.calls (p0 : Option Addr) {Q : Value → World → Prop} {w : World} (h : F.mark.Tracer.drain p0 Q w) : Calls Tryz.prog 89 #[.pointer p0] w fun e w' => ∃ v, e = .returned v ∧ Q v w' :=
  calls_of_den Tryz.pnames Tryz.mixed F.mark.Tracer.drain.T Tryz.func89 F.mark.Tracer.drain.ok (es := [.va (.pointer p0)]) rfl (by rw [F.mark.Tracer.drain.den]; exact h)

-- (*gloaming/stack.Stack).Over
def F.stack.Stack.Over.T : Tabs := ⟨fun _ => [],
  fun _ => none,
  fun _ => .quiet⟩
def F.stack.Stack.Over (p0 : Option Addr) : Tree :=
 br (!(Option.isNone p0))
  (nn p0 fun a1 =>
  ld (.l .bool) (fa a1 2) fun (x2 : Bool) =>
  ret (.bool x2))
  (ret (.bool false))
theorem F.stack.Stack.Over.den (p0 : Option Addr) : denF Tryz.prog F.stack.Stack.Over.T Tryz.f90 [.va (.pointer p0)] = F.stack.Stack.Over p0 := by kernel_rfl
theorem F.stack.Stack.Over.ok : (Tryz.f90.body.map (codeB F.stack.Stack.Over.T)).getD false = true := by kernel_rfl
theorem F.stack.Stack.Over.calls (p0 : Option Addr) {Q : Value → World → Prop} {w : World} (h : F.stack.Stack.Over p0 Q w) : Calls Tryz.prog 90 #[.pointer p0] w fun e w' => ∃ v, e = .returned v ∧ Q v w' :=
  calls_of_den Tryz.pnames Tryz.mixed F.stack.Stack.Over.T Tryz.func90 F.stack.Stack.Over.ok (es := [.va (.pointer p0)]) rfl (by rw [F.stack.Stack.Over.den]; exact h)

-- (*gloaming/stack.Stack).Reset
def F.stack.Stack.Reset.T : Tabs := ⟨fun _ => [],
  fun _ => none,
  fun _ => .quiet⟩
def F.stack.Stack.Reset (p0 : Option Addr) : Tree :=
 br (!(Option.isNone p0))
  (nn p0 fun a1 =>
  st (fa a1 2) [.bool false] <|
  ret (.tuple #[]))
  (ret (.tuple #[]))
theorem F.stack.Stack.Reset.den (p0 : Option Addr) : denF Tryz.prog F.stack.Stack.Reset.T Tryz.f91 [.va (.pointer p0)] = F.stack.Stack.Reset p0 := by kernel_rfl
theorem F.stack.Stack.Reset.ok : (Tryz.f91.body.map (codeB F.stack.Stack.Reset.T)).getD false = true := by kernel_rfl
theorem F.stack.Stack.Reset.calls (p0 : Option Addr) {Q : Value → World → Prop} {w : World} (h : F.stack.Stack.Reset p0 Q w) : Calls Tryz.prog 91 #[.pointer p0] w fun e w' => ∃ v, e = .returned v ∧ Q v w' :=
  calls_of_den Tryz.pnames Tryz.mixed F.stack.Stack.Reset.T Tryz.func91 F.stack.Stack.Reset.ok (es := [.va (.pointer p0)]) rfl (by rw [F.stack.Stack.Reset.den]; exact h)

-- (*gloaming/mark.Tracer).fields
def F.mark.Tracer.fields.T : Tabs := ⟨(fun
    | 1 => [(15, .int .i64)]
    | _ => []),
  fun _ => none,
  fun _ => .quiet⟩
def F.mark.Tracer.fields (p0 : Option Addr) (p1 : Int) : Tree :=
 nn p0 fun a1 =>
 ld (.l .ptr) (fa a1 1) fun (x2 : Option Addr) =>
 call Tryz.prog 45 [.pointer x2, .int .i64 p1] (.one (.l .slice)) fun (r3 : Slc) =>
 lp [.int .i64] (fun X4 u5 => -- :t15
  br (decide ((u5.1 : Int) < (r3.n : Nat)))
   (ix r3.a r3.n u5.1 1 fun a6 =>
   ld (.l (.int .i64)) a6 fun (x7 : Int) =>
   nn p0 fun a8 =>
   ld (.l .ptr) (fa a8 1) fun (x9 : Option Addr) =>
   call Tryz.prog 46 [.pointer x9, .int .i64 p1, .int .i64 x7] (.many [.l (.int .i64), .l (.int .i64)]) fun (r10 : KTs [.l (.int .i64), .l (.int .i64)]) =>
   br ((r10.2.1 : Int) == 0)
    (call Tryz.prog 88 [.pointer p0, .int .i64 r10.1] (.many []) fun (r11 : KTs []) =>
    X4 (IntKind.wrap .i64 (u5.1 + 1), ()))
    (X4 (IntKind.wrap .i64 (u5.1 + 1), ())))
   (ret (.tuple #[]))) (0, ())
theorem F.mark.Tracer.fields.den (p0 : Option Addr) (p1 : Int) : denF Tryz.prog F.mark.Tracer.fields.T Tryz.f92 [.va (.pointer p0), .va (.int .i64 p1)] = F.mark.Tracer.fields p0 p1 := by kernel_rfl
theorem F.mark.Tracer.fields.ok : (Tryz.f92.body.map (codeB F.mark.Tracer.fields.T)).getD false = true := by kernel_rfl
theorem F.mark.Tracer.fields.calls (p0 : Option Addr) (p1 : Int) {Q : Value → World → Prop} {w : World} (h : F.mark.Tracer.fields p0 p1 Q w) : Calls Tryz.prog 92 #[.pointer p0, .int .i64 p1] w fun e w' => ∃ v, e = .returned v ∧ Q v w' :=
  calls_of_den Tryz.pnames Tryz.mixed F.mark.Tracer.fields.T Tryz.func92 F.mark.Tracer.fields.ok (es := [.va (.pointer p0), .va (.int .i64 p1)]) rfl (by rw [F.mark.Tracer.fields.den]; exact h)

-- (*gloaming/stack.Stack).Push
def F.stack.Stack.Push.T : Tabs := ⟨fun _ => [],
  fun _ => none,
  (fun
    | 3 => .quiet
    | 4 => .held (some 8) (.go 0 false (.go 1 false (.go 2 false (.go 3 false (.go 4 false (.go 5 false (.go 6 false (.go 7 false (.go 8 true (.go 9 false (.go 10 false (.go 11 false .nil))))))))))))
    | _ => .quiet)⟩
def F.stack.Stack.Push (p0 : Option Addr) (p1 : Slc) : Tree :=
 br (Option.isNone p0)
  (ret (.int .i64 0))
  (drw <|
  nn p0 fun a1 =>
  ld (.l (.int .i64)) (fa a1 1) fun (x2 : Int) =>
  nn p0 fun a3 =>
  ld (.l .slice) (fa a3 0) fun (x4 : Slc) =>
  drw <| held fun S5 =>
  nn p0 fun a6 =>
  ldS S5 (.l .slice) (fa a6 0) fun (x7 : Slc) =>
  slc p1.a p1.c 0 (if (IntKind.wrap .i64 (x2 - (x4.n : Nat)) : Int) < (p1.n : Nat) then (IntKind.wrap .i64 (x2 - (x4.n : Nat)) : Int) else (p1.n : Nat)) 1 fun s8 =>
  opr Tryz.prog (Builtin.append_ #[24, 24] 24 #[.slice x7.a x7.n x7.c, .slice s8.a s8.n s8.c]) (.one (.l .slice)) fun (r9 : Slc) =>
  nn p0 fun a10 =>
  st (fa a10 0) [.slice r9.a r9.n r9.c] <|
  nn p0 fun a11 =>
  ld (.l .bool) (fa a11 2) fun (x12 : Bool) =>
  br x12
   (nn p0 fun a13 =>
   st (fa a13 2) [.bool true] <|
   ret (.int .i64 (if (IntKind.wrap .i64 (x2 - (x4.n : Nat)) : Int) < (p1.n : Nat) then (IntKind.wrap .i64 (x2 - (x4.n : Nat)) : Int) else (p1.n : Nat))))
   (nn p0 fun a13 =>
   st (fa a13 2) [.bool (decide (((if (IntKind.wrap .i64 (x2 - (x4.n : Nat)) : Int) < (p1.n : Nat) then (IntKind.wrap .i64 (x2 - (x4.n : Nat)) : Int) else (p1.n : Nat)) : Int) < (p1.n : Nat)))] <|
   ret (.int .i64 (if (IntKind.wrap .i64 (x2 - (x4.n : Nat)) : Int) < (p1.n : Nat) then (IntKind.wrap .i64 (x2 - (x4.n : Nat)) : Int) else (p1.n : Nat)))))
theorem F.stack.Stack.Push.den (p0 : Option Addr) (p1 : Slc) : denF Tryz.prog F.stack.Stack.Push.T Tryz.f130 [.va (.pointer p0), .va (.slice p1.a p1.n p1.c)] = F.stack.Stack.Push p0 p1 := by kernel_rfl
theorem F.stack.Stack.Push.ok : (Tryz.f130.body.map (codeB F.stack.Stack.Push.T)).getD false = true := by kernel_rfl
theorem F.stack.Stack.Push.calls (p0 : Option Addr) (p1 : Slc) {Q : Value → World → Prop} {w : World} (h : F.stack.Stack.Push p0 p1 Q w) : Calls Tryz.prog 130 #[.pointer p0, .slice p1.a p1.n p1.c] w fun e w' => ∃ v, e = .returned v ∧ Q v w' :=
  calls_of_den Tryz.pnames Tryz.mixed F.stack.Stack.Push.T Tryz.func130 F.stack.Stack.Push.ok (es := [.va (.pointer p0), .va (.slice p1.a p1.n p1.c)]) rfl (by rw [F.stack.Stack.Push.den]; exact h)

-- (*gloaming/stack.Stack).Depth
def F.stack.Stack.Depth.T : Tabs := ⟨fun _ => [],
  fun _ => none,
  fun _ => .quiet⟩
def F.stack.Stack.Depth (p0 : Option Addr) : Tree :=
 br (Option.isNone p0)
  (ret (.int .i64 0))
  (nn p0 fun a1 =>
  ld (.l .slice) (fa a1 0) fun (x2 : Slc) =>
  ret (.int .i64 (x2.n : Nat)))
theorem F.stack.Stack.Depth.den (p0 : Option Addr) : denF Tryz.prog F.stack.Stack.Depth.T Tryz.f131 [.va (.pointer p0)] = F.stack.Stack.Depth p0 := by kernel_rfl
theorem F.stack.Stack.Depth.ok : (Tryz.f131.body.map (codeB F.stack.Stack.Depth.T)).getD false = true := by kernel_rfl
theorem F.stack.Stack.Depth.calls (p0 : Option Addr) {Q : Value → World → Prop} {w : World} (h : F.stack.Stack.Depth p0 Q w) : Calls Tryz.prog 131 #[.pointer p0] w fun e w' => ∃ v, e = .returned v ∧ Q v w' :=
  calls_of_den Tryz.pnames Tryz.mixed F.stack.Stack.Depth.T Tryz.func131 F.stack.Stack.Depth.ok (es := [.va (.pointer p0)]) rfl (by rw [F.stack.Stack.Depth.den]; exact h)

-- (*gloaming/stack.Stack).Pop
def F.stack.Stack.Pop.T : Tabs := ⟨fun _ => [],
  fun _ => none,
  (fun
    | 3 => .quiet
    | 4 => .tail 14
    | _ => .quiet)⟩
def F.stack.Stack.Pop (p0 : Option Addr) : Tree :=
 call Tryz.prog 131 [.pointer p0] (.one (.l (.int .i64))) fun (r1 : Int) =>
 br ((r1 : Int) == 0)
  (ret (.tuple #[.int .i64 0, .bool false]))
  (drw <|
  nn p0 fun a2 =>
  ld (.l .slice) (fa a2 0) fun (x3 : Slc) =>
  nn p0 fun a4 =>
  ld (.l .slice) (fa a4 0) fun (x5 : Slc) =>
  ix x3.a x3.n (IntKind.wrap .i64 ((x5.n : Nat) - 1)) 1 fun a6 =>
  ld (.l (.int .i64)) a6 fun (x7 : Int) =>
  drw <|
  nn p0 fun a8 =>
  ld (.l .slice) (fa a8 0) fun (x9 : Slc) =>
  nn p0 fun a10 =>
  ld (.l .slice) (fa a10 0) fun (x11 : Slc) =>
  slc x9.a x9.c 0 (IntKind.wrap .i64 ((x11.n : Nat) - 1)) 1 fun s12 =>
  nn p0 fun a13 =>
  st (fa a13 0) [.slice s12.a s12.n s12.c] <|
  ret (.tuple #[.int .i64 x7, .bool true]))
theorem F.stack.Stack.Pop.den (p0 : Option Addr) : denF Tryz.prog F.stack.Stack.Pop.T Tryz.f132 [.va (.pointer p0)] = F.stack.Stack.Pop p0 := by kernel_rfl
theorem F.stack.Stack.Pop.ok : (Tryz.f132.body.map (codeB F.stack.Stack.Pop.T)).getD false = true := by kernel_rfl
theorem F.stack.Stack.Pop.calls (p0 : Option Addr) {Q : Value → World → Prop} {w : World} (h : F.stack.Stack.Pop p0 Q w) : Calls Tryz.prog 132 #[.pointer p0] w fun e w' => ∃ v, e = .returned v ∧ Q v w' :=
  calls_of_den Tryz.pnames Tryz.mixed F.stack.Stack.Pop.T Tryz.func132 F.stack.Stack.Pop.ok (es := [.va (.pointer p0)]) rfl (by rw [F.stack.Stack.Pop.den]; exact h)
end Go.Proofs.YtapchggmifbfoaaGreat
