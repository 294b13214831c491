import Derived.Test.YtapchggmifbfoaaGreatProg
import Derived.Test.YtapchggmifbfoaaGreatGlSnd6
import Derived.KernelRfl
namespace Go.Proofs.YtapchggmifbfoaaGreat
open Go Go.Gl
theorem Tryz.pnames : plainNames Tryz.prog = true := by kernel_rfl
theorem Tryz.mixed : Tryz.prog.follows .mixedOrders = true := by kernel_rfl
set_option maxRecDepth 100000
set_option linter.unusedVariables false
-- gloaming/sweep.Dead
def F.sweep.Dead.T : Tabs := ⟨(fun
    | 5 => [(16, .int .i64)]
    | 11 => [(8, .slice), (29, .int .i64)]
    | _ => []),
  fun _ => none,
  fun _ => .quiet⟩
def F.sweep.Dead (p0 : Option Addr) (p1 : Slc) : Tree :=
 br (Option.isNone p0)
  (ret (.slice none 0 0))
  (nwM fun b1 =>
  lp [.int .i64] (fun X2 u3 => -- :t16
   br (decide ((u3.1 : Int) < (p1.n : Nat)))
    (ix p1.a p1.n u3.1 1 fun a4 =>
    ld (.l (.int .i64)) a4 fun (x5 : Int) =>
    oprU Tryz.prog (Instr.mapUpdate 124 (.map (some b1)) (.int .i64 x5) (.bool true)) <|
    X2 (IntKind.wrap .i64 (u3.1 + 1), ()))
    (nn p0 fun a4 =>
    ld (.l .ptr) (fa a4 0) fun (x5 : Option Addr) =>
    call Tryz.prog 72 [.pointer x5] (.one (.l .slice)) fun (r6 : Slc) =>
    lp [.slice, .int .i64] (fun X7 u8 => -- out:t8,:t29
     br (decide ((u8.2.1 : Int) < (r6.n : Nat)))
      (ix r6.a r6.n u8.2.1 1 fun a9 =>
      ld (.l (.int .i64)) a9 fun (x10 : Int) =>
      opr Tryz.prog (Instr.lookup 124 (.map (some b1)) (.int .i64 x10) false) (.one (.l .bool)) fun (r11 : Bool) =>
      br (!r11)
       (nw 3 [.int .i64 x10] fun b12 =>
       opr Tryz.prog (Builtin.append_ #[24, 24] 24 #[.slice u8.1.a u8.1.n u8.1.c, .slice (some ⟨b12, 0, none⟩) 1 1]) (.one (.l .slice)) fun (r13 : Slc) =>
       X7 (⟨r13.a, r13.n, r13.c⟩, IntKind.wrap .i64 (u8.2.1 + 1), ()))
       (X7 (⟨u8.1.a, u8.1.n, u8.1.c⟩, IntKind.wrap .i64 (u8.2.1 + 1), ())))
      (ret (.slice u8.1.a u8.1.n u8.1.c))) (⟨none, 0, 0⟩, 0, ()))) (0, ()))
theorem F.sweep.Dead.den (p0 : Option Addr) (p1 : Slc) : denF Tryz.prog F.sweep.Dead.T Tryz.f24 [.va (.pointer p0), .va (.slice p1.a p1.n p1.c)] = F.sweep.Dead p0 p1 := by kernel_rfl
theorem F.sweep.Dead.ok : (Tryz.f24.body.map (codeB F.sweep.Dead.T)).getD false = true := by kernel_rfl
theorem F.sweep.Dead.calls (p0 : Option Addr) (p1 : Slc) {Q : Value → World → Prop} {w : World} (h : F.sweep.Dead p0 p1 Q w) : Calls Tryz.prog 24 #[.pointer p0, .slice p1.a p1.n p1.c] w fun e w' => ∃ v, e = .returned v ∧ Q v w' :=
  calls_of_den Tryz.pnames Tryz.mixed F.sweep.Dead.T Tryz.func24 F.sweep.Dead.ok (es := [.va (.pointer p0), .va (.slice p1.a p1.n p1.c)]) rfl (by rw [F.sweep.Dead.den]; exact h)

-- gloaming/sweep.Sweep
def F.sweep.Sweep.T : Tabs := ⟨(fun
    | 3 => [(5, .int .i64), (12, .int .i64)]
    | _ => []),
  fun _ => none,
  fun _ => .quiet⟩
def F.sweep.Sweep (p0 : Option Addr) (p1 : Slc) : Tree :=
 call Tryz.prog 24 [.pointer p0, .slice p1.a p1.n p1.c] (.one (.l .slice)) fun (r1 : Slc) =>
 lp [.int .i64, .int .i64] (fun X2 u3 => -- n:t5,:t12
  br (decide ((u3.2.1 : Int) < (r1.n : Nat)))
   (ix r1.a r1.n u3.2.1 1 fun a4 =>
   ld (.l (.int .i64)) a4 fun (x5 : Int) =>
   nn p0 fun a6 =>
   ld (.l .ptr) (fa a6 0) fun (x7 : Option Addr) =>
   call Tryz.prog 74 [.pointer x7, .int .i64 x5] (.one (.l (.int .i64))) fun (r8 : Int) =>
   br ((r8 : Int) == 0)
    (X2 (IntKind.wrap .i64 (u3.1 + 1), IntKind.wrap .i64 (u3.2.1 + 1), ()))
    (X2 (u3.1, IntKind.wrap .i64 (u3.2.1 + 1), ())))
   (ret (.int .i64 u3.1))) (0, 0, ())
theorem F.sweep.Sweep.den (p0 : Option Addr) (p1 : Slc) : denF Tryz.prog F.sweep.Sweep.T Tryz.f26 [.va (.pointer p0), .va (.slice p1.a p1.n p1.c)] = F.sweep.Sweep p0 p1 := by kernel_rfl
theorem F.sweep.Sweep.ok : (Tryz.f26.body.map (codeB F.sweep.Sweep.T)).getD false = true := by kernel_rfl
theorem F.sweep.Sweep.calls (p0 : Option Addr) (p1 : Slc) {Q : Value → World → Prop} {w : World} (h : F.sweep.Sweep p0 p1 Q w) : Calls Tryz.prog 26 #[.pointer p0, .slice p1.a p1.n p1.c] w fun e w' => ∃ v, e = .returned v ∧ Q v w' :=
  calls_of_den Tryz.pnames Tryz.mixed F.sweep.Sweep.T Tryz.func26 F.sweep.Sweep.ok (es := [.va (.pointer p0), .va (.slice p1.a p1.n p1.c)]) rfl (by rw [F.sweep.Sweep.den]; exact h)

-- (*gloaming/object.Heap).Objects
def F.object.Heap.Objects.T : Tabs := ⟨(fun
    | 5 => [(3, .slice), (18, .int .i64)]
    | 10 => [(34, .int .i64)]
    | _ => []),
  fun _ => none,
  fun _ => .quiet⟩
def F.object.Heap.Objects (p0 : Option Addr) : Tree :=
 br (Option.isNone p0)
  (ret (.slice none 0 0))
  (nn p0 fun a1 =>
  ld (.l .ptr) (fa a1 0) fun (x2 : Option Addr) =>
  call Tryz.prog 72 [.pointer x2] (.one (.l .slice)) fun (r3 : Slc) =>
  lp [.slice, .int .i64] (fun X4 u5 => -- out:t3,:t18
   br (decide ((u5.2.1 : Int) < (r3.n : Nat)))
    (ix r3.a r3.n u5.2.1 1 fun a6 =>
    ld (.l (.int .i64)) a6 fun (x7 : Int) =>
    nw 128 (zc Tryz.prog 128) fun b8 =>
    st (⟨b8, 0, none⟩) [.int .i64 x7, .int .i64 0, .int .i64 0, .int .i64 0, .bool false, .slice none 0 0] <|
    call Tryz.prog 62 [.pointer p0, .int .i64 x7] (.many [.g [.int .i64, .int .i64, .int .i64, .bool], .l (.int .i64)]) fun (r9 : KTs [.g [.int .i64, .int .i64, .int .i64, .bool], .l (.int .i64)]) =>
    st (fa (⟨b8, 0, none⟩) 1) [.int .i64 r9.1.1, .int .i64 r9.1.2.1, .int .i64 r9.1.2.2.1, .bool r9.1.2.2.2.1] <|
    ld (.l (.int .i64)) (fa (fa (⟨b8, 0, none⟩) 1) 2) fun (x10 : Int) =>
    lp [.int .i64] (fun X11 u12 => -- :t34
     br (decide ((u12.1 : Int) < x10))
      (call Tryz.prog 46 [.pointer p0, .int .i64 x7, .int .i64 u12.1] (.many [.l (.int .i64), .l (.int .i64)]) fun (r13 : KTs [.l (.int .i64), .l (.int .i64)]) =>
      ld (.l .slice) (fa (⟨b8, 0, none⟩) 5) fun (x14 : Slc) =>
      nw 3 [.int .i64 r13.1] fun b15 =>
      opr Tryz.prog (Builtin.append_ #[24, 24] 24 #[.slice x14.a x14.n x14.c, .slice (some ⟨b15, 0, none⟩) 1 1]) (.one (.l .slice)) fun (r16 : Slc) =>
      st (fa (⟨b8, 0, none⟩) 5) [.slice r16.a r16.n r16.c] <|
      X11 (IntKind.wrap .i64 (u12.1 + 1), ()))
      (ld (.g [.int .i64, .int .i64, .int .i64, .int .i64, .bool, .slice]) (⟨b8, 0, none⟩) fun (x13 : LTs [.int .i64, .int .i64, .int .i64, .int .i64, .bool, .slice]) =>
      nw 128 [.int .i64 x13.1, .int .i64 x13.2.1, .int .i64 x13.2.2.1, .int .i64 x13.2.2.2.1, .bool x13.2.2.2.2.1, .slice x13.2.2.2.2.2.1.a x13.2.2.2.2.2.1.n x13.2.2.2.2.2.1.c] fun b14 =>
      opr Tryz.prog (Builtin.append_ #[37, 37] 37 #[.slice u5.1.a u5.1.n u5.1.c, .slice (some ⟨b14, 0, none⟩) 1 1]) (.one (.l .slice)) fun (r15 : Slc) =>
      X4 (⟨r15.a, r15.n, r15.c⟩, IntKind.wrap .i64 (u5.2.1 + 1), ()))) (0, ()))
    (ret (.slice u5.1.a u5.1.n u5.1.c))) (⟨none, 0, 0⟩, 0, ()))
theorem F.object.Heap.Objects.den (p0 : Option Addr) : denF Tryz.prog F.object.Heap.Objects.T Tryz.f30 [.va (.pointer p0)] = F.object.Heap.Objects p0 := by kernel_rfl
theorem F.object.Heap.Objects.ok : (Tryz.f30.body.map (codeB F.object.Heap.Objects.T)).getD false = true := by kernel_rfl
theorem F.object.Heap.Objects.calls (p0 : Option Addr) {Q : Value → World → Prop} {w : World} (h : F.object.Heap.Objects p0 Q w) : Calls Tryz.prog 30 #[.pointer p0] w fun e w' => ∃ v, e = .returned v ∧ Q v w' :=
  calls_of_den Tryz.pnames Tryz.mixed F.object.Heap.Objects.T Tryz.func30 F.object.Heap.Objects.ok (es := [.va (.pointer p0)]) rfl (by rw [F.object.Heap.Objects.den]; exact h)

-- (*gloaming/space.Space).Used
def F.space.Space.Used.T : Tabs := ⟨(fun
    | 3 => [(3, .int .i64), (12, .int .i64)]
    | _ => []),
  fun _ => none,
  fun _ => .quiet⟩
def F.space.Space.Used (p0 : Option Addr) : Tree :=
 call Tryz.prog 72 [.pointer p0] (.one (.l .slice)) fun (r1 : Slc) =>
 lp [.int .i64, .int .i64] (fun X2 u3 => -- n:t3,:t12
  br (decide ((u3.2.1 : Int) < (r1.n : Nat)))
   (ix r1.a r1.n u3.2.1 1 fun a4 =>
   ld (.l (.int .i64)) a4 fun (x5 : Int) =>
   call Tryz.prog 77 [.pointer p0, .int .i64 x5] (.many [.l (.int .i64), .l (.int .i64), .l .bool]) fun (r6 : KTs [.l (.int .i64), .l (.int .i64), .l .bool]) =>
   X2 (IntKind.wrap .i64 (u3.1 + r6.2.1), IntKind.wrap .i64 (u3.2.1 + 1), ()))
   (ret (.int .i64 u3.1))) (0, 0, ())
theorem F.space.Space.Used.den (p0 : Option Addr) : denF Tryz.prog F.space.Space.Used.T Tryz.f32 [.va (.pointer p0)] = F.space.Space.Used p0 := by kernel_rfl
theorem F.space.Space.Used.ok : (Tryz.f32.body.map (codeB F.space.Space.Used.T)).getD false = true := by kernel_rfl
theorem F.space.Space.Used.calls (p0 : Option Addr) {Q : Value → World → Prop} {w : World} (h : F.space.Space.Used p0 Q w) : Calls Tryz.prog 32 #[.pointer p0] w fun e w' => ∃ v, e = .returned v ∧ Q v w' :=
  calls_of_den Tryz.pnames Tryz.mixed F.space.Space.Used.T Tryz.func32 F.space.Space.Used.ok (es := [.va (.pointer p0)]) rfl (by rw [F.space.Space.Used.den]; exact h)

-- (*gloaming/bits.Bits).Count
def F.bits.Bits.Count.T : Tabs := ⟨(fun
    | 3 => [(3, .int .i64), (4, .int .i64)]
    | _ => []),
  fun _ => none,
  fun _ => .quiet⟩
def F.bits.Bits.Count (p0 : Option Addr) : Tree :=
 call Tryz.prog 93 [.pointer p0, .int .i64 0, .bool true] (.one (.l (.int .i64))) fun (r1 : Int) =>
 lp [.int .i64, .int .i64] (fun X2 u3 => -- n:t3,i:t4
  br (decide ((u3.2.1 : Int) ≥ 0))
   (call Tryz.prog 93 [.pointer p0, .int .i64 (IntKind.wrap .i64 (u3.2.1 + 1)), .bool true] (.one (.l (.int .i64))) fun (r4 : Int) =>
   X2 (IntKind.wrap .i64 (u3.1 + 1), r4, ()))
   (ret (.int .i64 u3.1))) (0, r1, ())
theorem F.bits.Bits.Count.den (p0 : Option Addr) : denF Tryz.prog F.bits.Bits.Count.T Tryz.f42 [.va (.pointer p0)] = F.bits.Bits.Count p0 := by kernel_rfl
theorem F.bits.Bits.Count.ok : (Tryz.f42.body.map (codeB F.bits.Bits.Count.T)).getD false = true := by kernel_rfl
theorem F.bits.Bits.Count.calls (p0 : Option Addr) {Q : Value → World → Prop} {w : World} (h : F.bits.Bits.Count p0 Q w) : Calls Tryz.prog 42 #[.pointer p0] w fun e w' => ∃ v, e = .returned v ∧ Q v w' :=
  calls_of_den Tryz.pnames Tryz.mixed F.bits.Bits.Count.T Tryz.func42 F.bits.Bits.Count.ok (es := [.va (.pointer p0)]) rfl (by rw [F.bits.Bits.Count.den]; exact h)

-- (*gloaming/object.Heap).Refs
def F.object.Heap.Refs.T : Tabs := ⟨fun _ => [],
  fun _ => none,
  (fun
    | 6 => .held (some 6) (.go 0 false (.go 1 false (.go 2 false (.go 3 false (.go 4 false (.go 5 false (.two (.go 6 true (.go 7 false (.go 8 false (.go 9 false (.go 10 false (.go 11 false (.go 12 false .nil))))))) (.go 10 false (.go 6 true (.go 7 false (.go 8 false (.go 9 false (.go 11 false (.go 12 false .nil))))))))))))))
    | _ => .quiet)⟩
def F.object.Heap.Refs (p0 : Option Addr) (p1 : Int) : Tree :=
 call Tryz.prog 62 [.pointer p0, .int .i64 p1] (.many [.g [.int .i64, .int .i64, .int .i64, .bool], .l (.int .i64)]) fun (r1 : KTs [.g [.int .i64, .int .i64, .int .i64, .bool], .l (.int .i64)]) =>
 nw 54 (zc Tryz.prog 54) fun b2 =>
 st (⟨b2, 0, none⟩) [.int .i64 r1.1.1, .int .i64 r1.1.2.1, .int .i64 r1.1.2.2.1, .bool r1.1.2.2.2.1] <|
 br ((r1.2.1 : Int) != 0)
  (ret (.slice none 0 0))
  (ld (.l (.int .i64)) (fa (⟨b2, 0, none⟩) 0) fun (x3 : Int) =>
  br ((x3 : Int) == 1)
   (drw <| held fun S4 =>
   nn p0 fun a5 =>
   ldS S4 (.l .ptr) (fa a5 1) fun (x6 : Option Addr) =>
   ldS S4 (.l (.int .i64)) (fa (⟨b2, 0, none⟩) 1) fun (x7 : Int) =>
   both
    (call Tryz.prog 95 [.pointer x6, .int .i64 x7] (.many [.g [.int .i64, .slice], .l (.int .i64)]) fun (r8 : KTs [.g [.int .i64, .slice], .l (.int .i64)]) =>
    nw 52 (zc Tryz.prog 52) fun b9 =>
    st (⟨b9, 0, none⟩) [.int .i64 r8.1.1, .slice r8.1.2.1.a r8.1.2.1.n r8.1.2.1.c] <|
    ld (.l .slice) (fa (⟨b9, 0, none⟩) 1) fun (x10 : Slc) =>
    ret (.slice x10.a x10.n x10.c))
    (nw 52 (zc Tryz.prog 52) fun b11 =>
    chk S4 <|
    call Tryz.prog 95 [.pointer x6, .int .i64 x7] (.many [.g [.int .i64, .slice], .l (.int .i64)]) fun (r12 : KTs [.g [.int .i64, .slice], .l (.int .i64)]) =>
    st (⟨b11, 0, none⟩) [.int .i64 r12.1.1, .slice r12.1.2.1.a r12.1.2.1.n r12.1.2.1.c] <|
    ld (.l .slice) (fa (⟨b11, 0, none⟩) 1) fun (x13 : Slc) =>
    ret (.slice x13.a x13.n x13.c)))
   (br ((x3 : Int) == 2)
    (ld (.l (.int .i64)) (fa (⟨b2, 0, none⟩) 2) fun (x4 : Int) =>
    call Tryz.prog 96 [.int .i64 x4] (.one (.l .slice)) fun (r5 : Slc) =>
    ret (.slice r5.a r5.n r5.c))
    (br ((x3 : Int) == 4)
     (nw 3 [.int .i64 2] fun b4 =>
     ret (.slice (some ⟨b4, 0, none⟩) 1 1))
     (ret (.slice none 0 0)))))
theorem F.object.Heap.Refs.den (p0 : Option Addr) (p1 : Int) : denF Tryz.prog F.object.Heap.Refs.T Tryz.f45 [.va (.pointer p0), .va (.int .i64 p1)] = F.object.Heap.Refs p0 p1 := by kernel_rfl
theorem F.object.Heap.Refs.ok : (Tryz.f45.body.map (codeB F.object.Heap.Refs.T)).getD false = true := by kernel_rfl
theorem F.object.Heap.Refs.calls (p0 : Option Addr) (p1 : Int) {Q : Value → World → Prop} {w : World} (h : F.object.Heap.Refs p0 p1 Q w) : Calls Tryz.prog 45 #[.pointer p0, .int .i64 p1] w fun e w' => ∃ v, e = .returned v ∧ Q v w' :=
  calls_of_den Tryz.pnames Tryz.mixed F.object.Heap.Refs.T Tryz.func45 F.object.Heap.Refs.ok (es := [.va (.pointer p0), .va (.int .i64 p1)]) rfl (by rw [F.object.Heap.Refs.den]; exact h)

-- (*gloaming/object.Heap).Field
def F.object.Heap.Field.T : Tabs := ⟨fun _ => [],
  fun _ => none,
  fun _ => .quiet⟩
def F.object.Heap.Field (p0 : Option Addr) (p1 : Int) (p2 : Int) : Tree :=
 call Tryz.prog 97 [.pointer p0, .int .i64 p1, .int .i64 p2] (.many [.l (.int .i64), .l (.int .i64)]) fun (r1 : KTs [.l (.int .i64), .l (.int .i64)]) =>
 br ((r1.2.1 : Int) != 0)
  (ret (.tuple #[.int .i64 0, .int .i64 r1.2.1]))
  (nn p0 fun a2 =>
  ld (.l .ptr) (fa a2 0) fun (x3 : Option Addr) =>
  nn x3 fun a4 =>
  ld (.l .ptr) (fa a4 0) fun (x5 : Option Addr) =>
  call Tryz.prog 98 [.pointer x5, .int .i64 r1.1] (.many [.l (.int .i64), .l (.int .i64)]) fun (r6 : KTs [.l (.int .i64), .l (.int .i64)]) =>
  ret (.tuple #[.int .i64 r6.1, .int .i64 r6.2.1]))
theorem F.object.Heap.Field.den (p0 : Option Addr) (p1 : Int) (p2 : Int) : denF Tryz.prog F.object.Heap.Field.T Tryz.f46 [.va (.pointer p0), .va (.int .i64 p1), .va (.int .i64 p2)] = F.object.Heap.Field p0 p1 p2 := by kernel_rfl
theorem F.object.Heap.Field.ok : (Tryz.f46.body.map (codeB F.object.Heap.Field.T)).getD false = true := by kernel_rfl
theorem F.object.Heap.Field.calls (p0 : Option Addr) (p1 : Int) (p2 : Int) {Q : Value → World → Prop} {w : World} (h : F.object.Heap.Field p0 p1 p2 Q w) : Calls Tryz.prog 46 #[.pointer p0, .int .i64 p1, .int .i64 p2] w fun e w' => ∃ v, e = .returned v ∧ Q v w' :=
  calls_of_den Tryz.pnames Tryz.mixed F.object.Heap.Field.T Tryz.func46 F.object.Heap.Field.ok (es := [.va (.pointer p0), .va (.int .i64 p1), .va (.int .i64 p2)]) rfl (by rw [F.object.Heap.Field.den]; exact h)

-- (*gloaming/object.Heap).Make
def F.object.Heap.Make.T : Tabs := ⟨fun _ => [],
  fun _ => none,
  (fun
    | 6 => .held (some 7) (.go 0 false (.go 1 false (.go 2 false (.go 3 false (.go 4 false (.go 5 false (.go 6 false (.go 7 true (.go 8 false (.go 9 false (.go 10 false (.go 11 false (.go 12 false .nil)))))))))))))
    | _ => .quiet)⟩
def F.object.Heap.Make (p0 : Option Addr) (p1 : LTs [.int .i64, .int .i64, .int .i64, .bool]) : Tree :=
 nw 54 [.int .i64 p1.1, .int .i64 p1.2.1, .int .i64 p1.2.2.1, .bool p1.2.2.2.1] fun b1 =>
 br (Option.isNone p0)
  (ret (.tuple #[.int .i64 0, .int .i64 2]))
  (ld (.g [.int .i64, .int .i64, .int .i64, .bool]) (⟨b1, 0, none⟩) fun (x2 : LTs [.int .i64, .int .i64, .int .i64, .bool]) =>
  call Tryz.prog 99 [.pointer p0, .agg #[.int .i64 x2.1, .int .i64 x2.2.1, .int .i64 x2.2.2.1, .bool x2.2.2.2.1]] (.one (.l (.int .i64))) fun (r3 : Int) =>
  br ((r3 : Int) != 0)
   (ret (.tuple #[.int .i64 0, .int .i64 r3]))
   (drw <| held fun S4 =>
   nn p0 fun a5 =>
   ldS S4 (.l .ptr) (fa a5 0) fun (x6 : Option Addr) =>
   ldS S4 (.l (.int .i64)) (fa (⟨b1, 0, none⟩) 2) fun (x7 : Int) =>
   call Tryz.prog 100 [.pointer x6, .int .i64 (IntKind.wrap .i64 (x7 + 1))] (.many [.l (.int .i64), .l (.int .i64)]) fun (r8 : KTs [.l (.int .i64), .l (.int .i64)]) =>
   br ((r8.2.1 : Int) != 0)
    (ret (.tuple #[.int .i64 0, .int .i64 r8.2.1]))
    (ld (.g [.int .i64, .int .i64, .int .i64, .bool]) (⟨b1, 0, none⟩) fun (x9 : LTs [.int .i64, .int .i64, .int .i64, .bool]) =>
    call Tryz.prog 101 [.agg #[.int .i64 x9.1, .int .i64 x9.2.1, .int .i64 x9.2.2.1, .bool x9.2.2.2.1]] (.many [.l (.int .i64), .l .bool]) fun (r10 : KTs [.l (.int .i64), .l .bool]) =>
    nn p0 fun a11 =>
    ld (.l .ptr) (fa a11 0) fun (x12 : Option Addr) =>
    nn x12 fun a13 =>
    ld (.l .ptr) (fa a13 0) fun (x14 : Option Addr) =>
    call Tryz.prog 102 [.pointer x14, .int .i64 r8.1, .int .i64 r10.1] (.one (.l (.int .i64))) fun (r15 : Int) =>
    ret (.tuple #[.int .i64 r8.1, .int .i64 r15]))))
theorem F.object.Heap.Make.den (p0 : Option Addr) (p1 : LTs [.int .i64, .int .i64, .int .i64, .bool]) : denF Tryz.prog F.object.Heap.Make.T Tryz.f48 [.va (.pointer p0), .va (.agg #[.int .i64 p1.1, .int .i64 p1.2.1, .int .i64 p1.2.2.1, .bool p1.2.2.2.1])] = F.object.Heap.Make p0 p1 := by kernel_rfl
theorem F.object.Heap.Make.ok : (Tryz.f48.body.map (codeB F.object.Heap.Make.T)).getD false = true := by kernel_rfl
theorem F.object.Heap.Make.calls (p0 : Option Addr) (p1 : LTs [.int .i64, .int .i64, .int .i64, .bool]) {Q : Value → World → Prop} {w : World} (h : F.object.Heap.Make p0 p1 Q w) : Calls Tryz.prog 48 #[.pointer p0, .agg #[.int .i64 p1.1, .int .i64 p1.2.1, .int .i64 p1.2.2.1, .bool p1.2.2.2.1]] w fun e w' => ∃ v, e = .returned v ∧ Q v w' :=
  calls_of_den Tryz.pnames Tryz.mixed F.object.Heap.Make.T Tryz.func48 F.object.Heap.Make.ok (es := [.va (.pointer p0), .va (.agg #[.int .i64 p1.1, .int .i64 p1.2.1, .int .i64 p1.2.2.1, .bool p1.2.2.2.1])]) rfl (by rw [F.object.Heap.Make.den]; exact h)

-- (*gloaming/object.Heap).Put
def F.object.Heap.Put.T : Tabs := ⟨fun _ => [],
  fun _ => none,
  fun _ => .quiet⟩
def F.object.Heap.Put (p0 : Option Addr) (p1 : Int) (p2 : Int) (p3 : Int) : Tree :=
 call Tryz.prog 97 [.pointer p0, .int .i64 p1, .int .i64 p2] (.many [.l (.int .i64), .l (.int .i64)]) fun (r1 : KTs [.l (.int .i64), .l (.int .i64)]) =>
 br ((r1.2.1 : Int) != 0)
  (ret (.int .i64 r1.2.1))
  (nn p0 fun a2 =>
  ld (.l .ptr) (fa a2 0) fun (x3 : Option Addr) =>
  nn x3 fun a4 =>
  ld (.l .ptr) (fa a4 0) fun (x5 : Option Addr) =>
  call Tryz.prog 102 [.pointer x5, .int .i64 r1.1, .int .i64 p3] (.one (.l (.int .i64))) fun (r6 : Int) =>
  ret (.int .i64 r6))
theorem F.object.Heap.Put.den (p0 : Option Addr) (p1 : Int) (p2 : Int) (p3 : Int) : denF Tryz.prog F.object.Heap.Put.T Tryz.f49 [.va (.pointer p0), .va (.int .i64 p1), .va (.int .i64 p2), .va (.int .i64 p3)] = F.object.Heap.Put p0 p1 p2 p3 := by kernel_rfl
theorem F.object.Heap.Put.ok : (Tryz.f49.body.map (codeB F.object.Heap.Put.T)).getD false = true := by kernel_rfl
theorem F.object.Heap.Put.calls (p0 : Option Addr) (p1 : Int) (p2 : Int) (p3 : Int) {Q : Value → World → Prop} {w : World} (h : F.object.Heap.Put p0 p1 p2 p3 Q w) : Calls Tryz.prog 49 #[.pointer p0, .int .i64 p1, .int .i64 p2, .int .i64 p3] w fun e w' => ∃ v, e = .returned v ∧ Q v w' :=
  calls_of_den Tryz.pnames Tryz.mixed F.object.Heap.Put.T Tryz.func49 F.object.Heap.Put.ok (es := [.va (.pointer p0), .va (.int .i64 p1), .va (.int .i64 p2), .va (.int .i64 p3)]) rfl (by rw [F.object.Heap.Put.den]; exact h)

-- gloaming/object.New
def F.object.New.T : Tabs := ⟨fun _ => [],
  fun _ => none,
  fun _ => .quiet⟩
def F.object.New (p0 : Int) : Tree :=
 call Tryz.prog 103 [.int .i64 p0] (.many [.l .ptr, .l (.int .i64)]) fun (r1 : KTs [.l .ptr, .l (.int .i64)]) =>
 br ((r1.2.1 : Int) != 0)
  (ret (.tuple #[.pointer none, .int .i64 r1.2.1]))
  (call Tryz.prog 104 [] (.one (.l .ptr)) fun (r2 : Option Addr) =>
  nw 43 [.pointer r1.1, .pointer r2] fun b3 =>
  ret (.tuple #[.pointer (some (⟨b3, 0, none⟩)), .int .i64 0]))
theorem F.object.New.den (p0 : Int) : denF Tryz.prog F.object.New.T Tryz.f50 [.va (.int .i64 p0)] = F.object.New p0 := by kernel_rfl
theorem F.object.New.ok : (Tryz.f50.body.map (codeB F.object.New.T)).getD false = true := by kernel_rfl
theorem F.object.New.calls (p0 : Int) {Q : Value → World → Prop} {w : World} (h : F.object.New p0 Q w) : Calls Tryz.prog 50 #[.int .i64 p0] w fun e w' => ∃ v, e = .returned v ∧ Q v w' :=
  calls_of_den Tryz.pnames Tryz.mixed F.object.New.T Tryz.func50 F.object.New.ok (es := [.va (.int .i64 p0)]) rfl (by rw [F.object.New.den]; exact h)

-- (*gloaming/object.Heap).Head
def F.object.Heap.Head.T : Tabs := ⟨fun _ => [],
  fun _ => none,
  fun _ => .quiet⟩
def F.object.Heap.Head (p0 : Option Addr) (p1 : Int) : Tree :=
 nw 54 (zc Tryz.prog 54) fun b1 =>
 br (Option.isNone p0)
  (st (⟨b1, 0, none⟩) [.int .i64 0, .int .i64 0, .int .i64 0, .bool false] <|
  ld (.g [.int .i64, .int .i64, .int .i64, .bool]) (⟨b1, 0, none⟩) fun (x2 : LTs [.int .i64, .int .i64, .int .i64, .bool]) =>
  ret (.tuple #[.agg #[.int .i64 x2.1, .int .i64 x2.2.1, .int .i64 x2.2.2.1, .bool x2.2.2.2.1], .int .i64 2]))
  (nn p0 fun a2 =>
  ld (.l .ptr) (fa a2 0) fun (x3 : Option Addr) =>
  call Tryz.prog 77 [.pointer x3, .int .i64 p1] (.many [.l (.int .i64), .l (.int .i64), .l .bool]) fun (r4 : KTs [.l (.int .i64), .l (.int .i64), .l .bool]) =>
  br (!r4.2.2.1)
   (st (⟨b1, 0, none⟩) [.int .i64 0, .int .i64 0, .int .i64 0, .bool false] <|
   ld (.g [.int .i64, .int .i64, .int .i64, .bool]) (⟨b1, 0, none⟩) fun (x5 : LTs [.int .i64, .int .i64, .int .i64, .bool]) =>
   ret (.tuple #[.agg #[.int .i64 x5.1, .int .i64 x5.2.1, .int .i64 x5.2.2.1, .bool x5.2.2.2.1], .int .i64 2]))
   (br ((r4.1 : Int) != p1)
    (st (⟨b1, 0, none⟩) [.int .i64 0, .int .i64 0, .int .i64 0, .bool false] <|
    ld (.g [.int .i64, .int .i64, .int .i64, .bool]) (⟨b1, 0, none⟩) fun (x5 : LTs [.int .i64, .int .i64, .int .i64, .bool]) =>
    ret (.tuple #[.agg #[.int .i64 x5.1, .int .i64 x5.2.1, .int .i64 x5.2.2.1, .bool x5.2.2.2.1], .int .i64 2]))
    (nn p0 fun a5 =>
    ld (.l .ptr) (fa a5 0) fun (x6 : Option Addr) =>
    nn x6 fun a7 =>
    ld (.l .ptr) (fa a7 0) fun (x8 : Option Addr) =>
    call Tryz.prog 98 [.pointer x8, .int .i64 p1] (.many [.l (.int .i64), .l (.int .i64)]) fun (r9 : KTs [.l (.int .i64), .l (.int .i64)]) =>
    br ((r9.2.1 : Int) != 0)
     (st (⟨b1, 0, none⟩) [.int .i64 0, .int .i64 0, .int .i64 0, .bool false] <|
     ld (.g [.int .i64, .int .i64, .int .i64, .bool]) (⟨b1, 0, none⟩) fun (x10 : LTs [.int .i64, .int .i64, .int .i64, .bool]) =>
     ret (.tuple #[.agg #[.int .i64 x10.1, .int .i64 x10.2.1, .int .i64 x10.2.2.1, .bool x10.2.2.2.1], .int .i64 r9.2.1]))
     (call Tryz.prog 112 [.int .i64 r9.1] (.many [.g [.int .i64, .int .i64, .int .i64, .bool], .l .bool]) fun (r10 : KTs [.g [.int .i64, .int .i64, .int .i64, .bool], .l .bool]) =>
     nw 54 (zc Tryz.prog 54) fun b11 =>
     st (⟨b11, 0, none⟩) [.int .i64 r10.1.1, .int .i64 r10.1.2.1, .int .i64 r10.1.2.2.1, .bool r10.1.2.2.2.1] <|
     br (!r10.2.1)
      (st (⟨b1, 0, none⟩) [.int .i64 0, .int .i64 0, .int .i64 0, .bool false] <|
      ld (.g [.int .i64, .int .i64, .int .i64, .bool]) (⟨b1, 0, none⟩) fun (x12 : LTs [.int .i64, .int .i64, .int .i64, .bool]) =>
      ret (.tuple #[.agg #[.int .i64 x12.1, .int .i64 x12.2.1, .int .i64 x12.2.2.1, .bool x12.2.2.2.1], .int .i64 2]))
      (ld (.g [.int .i64, .int .i64, .int .i64, .bool]) (⟨b11, 0, none⟩) fun (x12 : LTs [.int .i64, .int .i64, .int .i64, .bool]) =>
      st (⟨b1, 0, none⟩) [.int .i64 x12.1, .int .i64 x12.2.1, .int .i64 x12.2.2.1, .bool x12.2.2.2.1] <|
      ld (.g [.int .i64, .int .i64, .int .i64, .bool]) (⟨b1, 0, none⟩) fun (x13 : LTs [.int .i64, .int .i64, .int .i64, .bool]) =>
      ret (.tuple #[.agg #[.int .i64 x13.1, .int .i64 x13.2.1, .int .i64 x13.2.2.1, .bool x13.2.2.2.1], .int .i64 0]))))))
theorem F.object.Heap.Head.den (p0 : Option Addr) (p1 : Int) : denF Tryz.prog F.object.Heap.Head.T Tryz.f62 [.va (.pointer p0), .va (.int .i64 p1)] = F.object.Heap.Head p0 p1 := by kernel_rfl
theorem F.object.Heap.Head.ok : (Tryz.f62.body.map (codeB F.object.Heap.Head.T)).getD false = true := by kernel_rfl
theorem F.object.Heap.Head.calls (p0 : Option Addr) (p1 : Int) {Q : Value → World → Prop} {w : World} (h : F.object.Heap.Head p0 p1 Q w) : Calls Tryz.prog 62 #[.pointer p0, .int .i64 p1] w fun e w' => ∃ v, e = .returned v ∧ Q v w' :=
  calls_of_den Tryz.pnames Tryz.mixed F.object.Heap.Head.T Tryz.func62 F.object.Heap.Head.ok (es := [.va (.pointer p0), .va (.int .i64 p1)]) rfl (by rw [F.object.Heap.Head.den]; exact h)

-- (*gloaming/class.Table).Of
def F.class.Table.Of.T : Tabs := ⟨fun _ => [],
  fun _ => none,
  fun _ => .quiet⟩
def F.class.Table.Of (p0 : Option Addr) (p1 : Int) (p2 : Slc) : Tree :=
 call Tryz.prog 80 [.pointer p0, .agg #[.int .i64 p1, .slice p2.a p2.n p2.c]] (.many [.l (.int .i64), .l (.int .i64)]) fun (r1 : KTs [.l (.int .i64), .l (.int .i64)]) =>
 ret (.tuple #[.int .i64 r1.1, .int .i64 r1.2.1])
theorem F.class.Table.Of.den (p0 : Option Addr) (p1 : Int) (p2 : Slc) : denF Tryz.prog F.class.Table.Of.T Tryz.f65 [.va (.pointer p0), .va (.int .i64 p1), .va (.slice p2.a p2.n p2.c)] = F.class.Table.Of p0 p1 p2 := by kernel_rfl
theorem F.class.Table.Of.ok : (Tryz.f65.body.map (codeB F.class.Table.Of.T)).getD false = true := by kernel_rfl
theorem F.class.Table.Of.calls (p0 : Option Addr) (p1 : Int) (p2 : Slc) {Q : Value → World → Prop} {w : World} (h : F.class.Table.Of p0 p1 p2 Q w) : Calls Tryz.prog 65 #[.pointer p0, .int .i64 p1, .slice p2.a p2.n p2.c] w fun e w' => ∃ v, e = .returned v ∧ Q v w' :=
  calls_of_den Tryz.pnames Tryz.mixed F.class.Table.Of.T Tryz.func65 F.class.Table.Of.ok (es := [.va (.pointer p0), .va (.int .i64 p1), .va (.slice p2.a p2.n p2.c)]) rfl (by rw [F.class.Table.Of.den]; exact h)

-- (*gloaming/space.Space).Each
def F.space.Space.Each.T : Tabs := ⟨(fun
    | 5 => [(3, .slice)]
    | 8 => [(3, .slice), (6, .int .i64)]
    | 12 => [(3, .slice)]
    | _ => []),
  fun _ => none,
  fun _ => .quiet⟩
def F.space.Space.Each (p0 : Option Addr) : Tree :=
 br (Option.isNone p0)
  (ret (.slice none 0 0))
  (nn p0 fun a1 =>
  ld (.l .map) (fa a1 2) fun (x2 : Option Nat) =>
  opr Tryz.prog (Instr.range 149 (.map x2)) (.one (.l .ptr)) fun (r3 : Option Addr) =>
  lp [.slice] (fun X4 u5 => -- out:t3
   nxt Tryz.prog (Instr.next (.pointer r3) false 0) (.l (.int .i64)) (.l .ptr)
    (nn p0 fun a8 =>
    ld (.l .map) (fa a8 3) fun (x9 : Option Nat) =>
    opr Tryz.prog (Instr.range 150 (.map x9)) (.one (.l .ptr)) fun (r10 : Option Addr) =>
    lp [.slice] (fun X11 u12 => -- out:t3
     nxt Tryz.prog (Instr.next (.pointer r10) false 0) (.l (.int .i64)) (.l (.int .i64))
      (call Tryz.prog 120 [.slice u12.1.a u12.1.n u12.1.c] (.many []) fun (r15 : KTs []) =>
      ret (.slice u12.1.a u12.1.n u12.1.c))
      (fun (k13 : Int) (v14 : Int) =>
      opr Tryz.prog (Instr.entry (.pointer r10)) (.many [.l (.int .i64), .l (.int .i64)]) fun (r16 : KTs [.l (.int .i64), .l (.int .i64)]) =>
      nw 3 [.int .i64 (IntKind.wrap .i64 (r16.1 * 64))] fun b17 =>
      opr Tryz.prog (Builtin.append_ #[24, 24] 24 #[.slice u12.1.a u12.1.n u12.1.c, .slice (some ⟨b17, 0, none⟩) 1 1]) (.one (.l .slice)) fun (r18 : Slc) =>
      X11 (⟨r18.a, r18.n, r18.c⟩, ()))) (⟨u5.1.a, u5.1.n, u5.1.c⟩, ()))
    (fun (k6 : Int) (v7 : Option Addr) =>
    opr Tryz.prog (Instr.entry (.pointer r3)) (.many [.l (.int .i64), .l .ptr]) fun (r19 : KTs [.l (.int .i64), .l .ptr]) =>
    nn r19.2.1 fun a20 =>
    ld (.l .ptr) (fa a20 0) fun (x21 : Option Addr) =>
    call Tryz.prog 93 [.pointer x21, .int .i64 0, .bool true] (.one (.l (.int .i64))) fun (r22 : Int) =>
    lp [.slice, .int .i64] (fun X23 u24 => -- out:t3,i:t6
     br (decide ((u24.2.1 : Int) ≥ 0))
      (call Tryz.prog 119 [.pointer r19.2.1] (.one (.l (.int .i64))) fun (r25 : Int) =>
      nw 3 [.int .i64 (IntKind.wrap .i64 ((IntKind.wrap .i64 (r19.1 * 64)) + (IntKind.wrap .i64 (u24.2.1 * r25))))] fun b26 =>
      opr Tryz.prog (Builtin.append_ #[24, 24] 24 #[.slice u24.1.a u24.1.n u24.1.c, .slice (some ⟨b26, 0, none⟩) 1 1]) (.one (.l .slice)) fun (r27 : Slc) =>
      nn r19.2.1 fun a28 =>
      ld (.l .ptr) (fa a28 0) fun (x29 : Option Addr) =>
      call Tryz.prog 93 [.pointer x29, .int .i64 (IntKind.wrap .i64 (u24.2.1 + 1)), .bool true] (.one (.l (.int .i64))) fun (r30 : Int) =>
      X23 (⟨r27.a, r27.n, r27.c⟩, r30, ()))
      (X4 (⟨u24.1.a, u24.1.n, u24.1.c⟩, ()))) (⟨u5.1.a, u5.1.n, u5.1.c⟩, r22, ()))) (⟨none, 0, 0⟩, ()))
theorem F.space.Space.Each.den (p0 : Option Addr) : denF Tryz.prog F.space.Space.Each.T Tryz.f72 [.va (.pointer p0)] = F.space.Space.Each p0 := by kernel_rfl
theorem F.space.Space.Each.ok : (Tryz.f72.body.map (codeB F.space.Space.Each.T)).getD false = true := by kernel_rfl
theorem F.space.Space.Each.calls (p0 : Option Addr) {Q : Value → World → Prop} {w : World} (h : F.space.Space.Each p0 Q w) : Calls Tryz.prog 72 #[.pointer p0] w fun e w' => ∃ v, e = .returned v ∧ Q v w' :=
  calls_of_den Tryz.pnames Tryz.mixed F.space.Space.Each.T Tryz.func72 F.space.Space.Each.ok (es := [.va (.pointer p0)]) rfl (by rw [F.space.Space.Each.den]; exact h)

-- (*gloaming/space.Space).Free
def F.space.Space.Free.T : Tabs := ⟨fun _ => [],
  fun _ => none,
  fun _ => .quiet⟩
def F.space.Space.Free (p0 : Option Addr) (p1 : Int) : Tree :=
 call Tryz.prog 77 [.pointer p0, .int .i64 p1] (.many [.l (.int .i64), .l (.int .i64), .l .bool]) fun (r1 : KTs [.l (.int .i64), .l (.int .i64), .l .bool]) =>
 br (!r1.2.2.1)
  (ret (.int .i64 2))
  (br ((r1.1 : Int) != p1)
   (ret (.int .i64 2))
   (need ((64 : Int) ≠ 0) <|
   nn p0 fun a2 =>
   ld (.l .map) (fa a2 2) fun (x3 : Option Nat) =>
   opr Tryz.prog (Instr.lookup 149 (.map x3) (.int .i64 (IntKind.wrap .i64 (Int.tdiv p1 64))) true) (.many [.l .ptr, .l .bool]) fun (r4 : KTs [.l .ptr, .l .bool]) =>
   br (!r4.2.1)
    (nn p0 fun a5 =>
    ld (.l .map) (fa a5 3) fun (x6 : Option Nat) =>
    opr Tryz.prog (Instr.lookup 150 (.map x6) (.int .i64 (IntKind.wrap .i64 (Int.tdiv p1 64))) false) (.one (.l (.int .i64))) fun (r7 : Int) =>
    nn p0 fun a8 =>
    ld (.l .map) (fa a8 3) fun (x9 : Option Nat) =>
    opr Tryz.prog (Builtin.delete_ #[150, 3] 0 #[.map x9, .int .i64 (IntKind.wrap .i64 (Int.tdiv p1 64))]) (.many []) fun (r10 : KTs []) =>
    nn p0 fun a11 =>
    ld (.l .ptr) (fa a11 1) fun (x12 : Option Addr) =>
    call Tryz.prog 122 [.pointer x12, .int .i64 (IntKind.wrap .i64 (Int.tdiv p1 64)), .int .i64 r7] (.one (.l (.int .i64))) fun (r13 : Int) =>
    ret (.int .i64 r13))
    (need ((64 : Int) ≠ 0) <|
    call Tryz.prog 119 [.pointer r4.1] (.one (.l (.int .i64))) fun (r5 : Int) =>
    need ((r5 : Int) ≠ 0) <|
    call Tryz.prog 123 [.pointer r4.1, .int .i64 (IntKind.wrap .i64 (Int.tdiv (Int.tmod p1 64) r5))] (.one (.l (.int .i64))) fun (r6 : Int) =>
    br ((r6 : Int) != 0)
     (ret (.int .i64 r6))
     (call Tryz.prog 124 [.pointer r4.1] (.one (.l .bool)) fun (r7 : Bool) =>
     br (!r7)
      (ret (.int .i64 r6))
      (nn p0 fun a8 =>
      ld (.l .map) (fa a8 2) fun (x9 : Option Nat) =>
      opr Tryz.prog (Builtin.delete_ #[149, 3] 0 #[.map x9, .int .i64 (IntKind.wrap .i64 (Int.tdiv p1 64))]) (.many []) fun (r10 : KTs []) =>
      nn p0 fun a11 =>
      ld (.l .ptr) (fa a11 1) fun (x12 : Option Addr) =>
      call Tryz.prog 122 [.pointer x12, .int .i64 (IntKind.wrap .i64 (Int.tdiv p1 64)), .int .i64 1] (.one (.l (.int .i64))) fun (r13 : Int) =>
      ret (.int .i64 r13))))))
theorem F.space.Space.Free.den (p0 : Option Addr) (p1 : Int) : denF Tryz.prog F.space.Space.Free.T Tryz.f74 [.va (.pointer p0), .va (.int .i64 p1)] = F.space.Space.Free p0 p1 := by kernel_rfl
theorem F.space.Space.Free.ok : (Tryz.f74.body.map (codeB F.space.Space.Free.T)).getD false = true := by kernel_rfl
theorem F.space.Space.Free.calls (p0 : Option Addr) (p1 : Int) {Q : Value → World → Prop} {w : World} (h : F.space.Space.Free p0 p1 Q w) : Calls Tryz.prog 74 #[.pointer p0, .int .i64 p1] w fun e w' => ∃ v, e = .returned v ∧ Q v w' :=
  calls_of_den Tryz.pnames Tryz.mixed F.space.Space.Free.T Tryz.func74 F.space.Space.Free.ok (es := [.va (.pointer p0), .va (.int .i64 p1)]) rfl (by rw [F.space.Space.Free.den]; exact h)

-- (*gloaming/space.Space).Find
def F.space.Space.Find.T : Tabs := ⟨(fun
    | 11 => []
    | _ => []),
  fun _ => none,
  fun _ => .quiet⟩
def F.space.Space.Find (p0 : Option Addr) (p1 : Int) : Tree :=
 br (Option.isNone p0)
  (ret (.tuple #[.int .i64 0, .int .i64 0, .bool false]))
  (br (decide ((p1 : Int) < 0))
   (ret (.tuple #[.int .i64 0, .int .i64 0, .bool false]))
   (nn p0 fun a1 =>
   ld (.l .ptr) (fa a1 0) fun (x2 : Option Addr) =>
   call Tryz.prog 87 [.pointer x2] (.one (.l (.int .i64))) fun (r3 : Int) =>
   br (decide ((p1 : Int) ≥ r3))
    (ret (.tuple #[.int .i64 0, .int .i64 0, .bool false]))
    (need ((64 : Int) ≠ 0) <|
    nn p0 fun a4 =>
    ld (.l .map) (fa a4 2) fun (x5 : Option Nat) =>
    opr Tryz.prog (Instr.lookup 149 (.map x5) (.int .i64 (IntKind.wrap .i64 (Int.tdiv p1 64))) true) (.many [.l .ptr, .l .bool]) fun (r6 : KTs [.l .ptr, .l .bool]) =>
    br r6.2.1
     (need ((64 : Int) ≠ 0) <|
     call Tryz.prog 119 [.pointer r6.1] (.one (.l (.int .i64))) fun (r7 : Int) =>
     need ((r7 : Int) ≠ 0) <|
     nn r6.1 fun a8 =>
     ld (.l .ptr) (fa a8 0) fun (x9 : Option Addr) =>
     call Tryz.prog 94 [.pointer x9, .int .i64 (IntKind.wrap .i64 (Int.tdiv (Int.tmod p1 64) r7))] (.one (.l .bool)) fun (r10 : Bool) =>
     br (!r10)
      (ret (.tuple #[.int .i64 0, .int .i64 0, .bool false]))
      (call Tryz.prog 119 [.pointer r6.1] (.one (.l (.int .i64))) fun (r11 : Int) =>
      call Tryz.prog 119 [.pointer r6.1] (.one (.l (.int .i64))) fun (r12 : Int) =>
      ret (.tuple #[.int .i64 (IntKind.wrap .i64 ((IntKind.wrap .i64 ((IntKind.wrap .i64 (Int.tdiv p1 64)) * 64)) + (IntKind.wrap .i64 ((IntKind.wrap .i64 (Int.tdiv (Int.tmod p1 64) r7)) * r11)))), .int .i64 r12, .bool true])))
     (nn p0 fun a7 =>
     ld (.l .map) (fa a7 3) fun (x8 : Option Nat) =>
     opr Tryz.prog (Instr.range 150 (.map x8)) (.one (.l .ptr)) fun (r9 : Option Addr) =>
     lp [] (fun X10 u11 => -- 
      nxt Tryz.prog (Instr.next (.pointer r9) false 0) (.l (.int .i64)) (.l (.int .i64))
       (ret (.tuple #[.int .i64 0, .int .i64 0, .bool false]))
       (fun (k12 : Int) (v13 : Int) =>
       opr Tryz.prog (Instr.entry (.pointer r9)) (.many [.l (.int .i64), .l (.int .i64)]) fun (r14 : KTs [.l (.int .i64), .l (.int .i64)]) =>
       br (decide ((IntKind.wrap .i64 (Int.tdiv p1 64) : Int) ≥ r14.1))
        (br (decide ((IntKind.wrap .i64 (Int.tdiv p1 64) : Int) < (IntKind.wrap .i64 (r14.1 + r14.2.1))))
         (ret (.tuple #[.int .i64 (IntKind.wrap .i64 (r14.1 * 64)), .int .i64 (IntKind.wrap .i64 (r14.2.1 * 64)), .bool true]))
         (X10 (())))
        (X10 (())))) (())))))
theorem F.space.Space.Find.den (p0 : Option Addr) (p1 : Int) : denF Tryz.prog F.space.Space.Find.T Tryz.f77 [.va (.pointer p0), .va (.int .i64 p1)] = F.space.Space.Find p0 p1 := by kernel_rfl
theorem F.space.Space.Find.ok : (Tryz.f77.body.map (codeB F.space.Space.Find.T)).getD false = true := by kernel_rfl
theorem F.space.Space.Find.calls (p0 : Option Addr) (p1 : Int) {Q : Value → World → Prop} {w : World} (h : F.space.Space.Find p0 p1 Q w) : Calls Tryz.prog 77 #[.pointer p0, .int .i64 p1] w fun e w' => ∃ v, e = .returned v ∧ Q v w' :=
  calls_of_den Tryz.pnames Tryz.mixed F.space.Space.Find.T Tryz.func77 F.space.Space.Find.ok (es := [.va (.pointer p0), .va (.int .i64 p1)]) rfl (by rw [F.space.Space.Find.den]; exact h)

-- (*gloaming/class.Table).Add
def F.class.Table.Add.T : Tabs := ⟨fun _ => [],
  fun _ => none,
  (fun
    | 7 => .held (some 8) (.go 0 false (.go 1 false (.go 2 false (.go 3 false (.go 4 false (.go 5 false (.go 6 false (.go 7 false (.go 8 true (.go 9 false (.go 10 false (.go 11 false .nil))))))))))))
    | _ => .quiet)⟩
def F.class.Table.Add (p0 : Option Addr) (p1 : LTs [.int .i64, .slice]) : Tree :=
 nw 52 [.int .i64 p1.1, .slice p1.2.1.a p1.2.1.n p1.2.1.c] fun b1 =>
 br (Option.isNone p0)
  (ret (.tuple #[.int .i64 0, .int .i64 2]))
  (ld (.g [.int .i64, .slice]) (⟨b1, 0, none⟩) fun (x2 : LTs [.int .i64, .slice]) =>
  call Tryz.prog 127 [.agg #[.int .i64 x2.1, .slice x2.2.1.a x2.2.1.n x2.2.1.c]] (.one (.l .bool)) fun (r3 : Bool) =>
  br (!r3)
   (ret (.tuple #[.int .i64 0, .int .i64 1]))
   (nn p0 fun a4 =>
   ld (.l .slice) (fa a4 0) fun (x5 : Slc) =>
   br (decide (((x5.n : Nat) : Int) ≥ 256))
    (ret (.tuple #[.int .i64 0, .int .i64 3]))
    (drw <| held fun S6 =>
    nn p0 fun a7 =>
    ldS S6 (.l .slice) (fa a7 0) fun (x8 : Slc) =>
    ldS S6 (.g [.int .i64, .slice]) (⟨b1, 0, none⟩) fun (x9 : LTs [.int .i64, .slice]) =>
    call Tryz.prog 128 [.agg #[.int .i64 x9.1, .slice x9.2.1.a x9.2.1.n x9.2.1.c]] (.one (.g [.int .i64, .slice])) fun (r10 : LTs [.int .i64, .slice]) =>
    chk S6 <|
    nw 52 [.int .i64 r10.1, .slice r10.2.1.a r10.2.1.n r10.2.1.c] fun b11 =>
    chk S6 <|
    opr Tryz.prog (Builtin.append_ #[45, 45] 45 #[.slice x8.a x8.n x8.c, .slice (some ⟨b11, 0, none⟩) 1 1]) (.one (.l .slice)) fun (r12 : Slc) =>
    nn p0 fun a13 =>
    st (fa a13 0) [.slice r12.a r12.n r12.c] <|
    nn p0 fun a14 =>
    ld (.l .slice) (fa a14 0) fun (x15 : Slc) =>
    ret (.tuple #[.int .i64 (x15.n : Nat), .int .i64 0]))))
theorem F.class.Table.Add.den (p0 : Option Addr) (p1 : LTs [.int .i64, .slice]) : denF Tryz.prog F.class.Table.Add.T Tryz.f80 [.va (.pointer p0), .va (.agg #[.int .i64 p1.1, .slice p1.2.1.a p1.2.1.n p1.2.1.c])] = F.class.Table.Add p0 p1 := by kernel_rfl
theorem F.class.Table.Add.ok : (Tryz.f80.body.map (codeB F.class.Table.Add.T)).getD false = true := by kernel_rfl
theorem F.class.Table.Add.calls (p0 : Option Addr) (p1 : LTs [.int .i64, .slice]) {Q : Value → World → Prop} {w : World} (h : F.class.Table.Add p0 p1 Q w) : Calls Tryz.prog 80 #[.pointer p0, .agg #[.int .i64 p1.1, .slice p1.2.1.a p1.2.1.n p1.2.1.c]] w fun e w' => ∃ v, e = .returned v ∧ Q v w' :=
  calls_of_den Tryz.pnames Tryz.mixed F.class.Table.Add.T Tryz.func80 F.class.Table.Add.ok (es := [.va (.pointer p0), .va (.agg #[.int .i64 p1.1, .slice p1.2.1.a p1.2.1.n p1.2.1.c])]) rfl (by rw [F.class.Table.Add.den]; exact h)

-- (*gloaming/object.Heap).Final
def F.object.Heap.Final.T : Tabs := ⟨fun _ => [],
  fun _ => none,
  fun _ => .quiet⟩
def F.object.Heap.Final (p0 : Option Addr) (p1 : Int) : Tree :=
 call Tryz.prog 62 [.pointer p0, .int .i64 p1] (.many [.g [.int .i64, .int .i64, .int .i64, .bool], .l (.int .i64)]) fun (r1 : KTs [.g [.int .i64, .int .i64, .int .i64, .bool], .l (.int .i64)]) =>
 nw 54 (zc Tryz.prog 54) fun b2 =>
 st (⟨b2, 0, none⟩) [.int .i64 r1.1.1, .int .i64 r1.1.2.1, .int .i64 r1.1.2.2.1, .bool r1.1.2.2.2.1] <|
 br ((r1.2.1 : Int) != 0)
  (ret (.int .i64 r1.2.1))
  (ld (.l (.int .i64)) (fa (⟨b2, 0, none⟩) 0) fun (x3 : Int) =>
  br ((x3 : Int) == 4)
   (ret (.int .i64 5))
   (ld (.l .bool) (fa (⟨b2, 0, none⟩) 3) fun (x4 : Bool) =>
   br x4
    (ret (.int .i64 4))
    (st (fa (⟨b2, 0, none⟩) 3) [.bool true] <|
    ld (.g [.int .i64, .int .i64, .int .i64, .bool]) (⟨b2, 0, none⟩) fun (x5 : LTs [.int .i64, .int .i64, .int .i64, .bool]) =>
    call Tryz.prog 101 [.agg #[.int .i64 x5.1, .int .i64 x5.2.1, .int .i64 x5.2.2.1, .bool x5.2.2.2.1]] (.many [.l (.int .i64), .l .bool]) fun (r6 : KTs [.l (.int .i64), .l .bool]) =>
    nn p0 fun a7 =>
    ld (.l .ptr) (fa a7 0) fun (x8 : Option Addr) =>
    nn x8 fun a9 =>
    ld (.l .ptr) (fa a9 0) fun (x10 : Option Addr) =>
    call Tryz.prog 102 [.pointer x10, .int .i64 p1, .int .i64 r6.1] (.one (.l (.int .i64))) fun (r11 : Int) =>
    ret (.int .i64 r11))))
theorem F.object.Heap.Final.den (p0 : Option Addr) (p1 : Int) : denF Tryz.prog F.object.Heap.Final.T Tryz.f81 [.va (.pointer p0), .va (.int .i64 p1)] = F.object.Heap.Final p0 p1 := by kernel_rfl
theorem F.object.Heap.Final.ok : (Tryz.f81.body.map (codeB F.object.Heap.Final.T)).getD false = true := by kernel_rfl
theorem F.object.Heap.Final.calls (p0 : Option Addr) (p1 : Int) {Q : Value → World → Prop} {w : World} (h : F.object.Heap.Final p0 p1 Q w) : Calls Tryz.prog 81 #[.pointer p0, .int .i64 p1] w fun e w' => ∃ v, e = .returned v ∧ Q v w' :=
  calls_of_den Tryz.pnames Tryz.mixed F.object.Heap.Final.T Tryz.func81 F.object.Heap.Final.ok (es := [.va (.pointer p0), .va (.int .i64 p1)]) rfl (by rw [F.object.Heap.Final.den]; exact h)

-- gloaming/bits.New
def F.bits.New.T : Tabs := ⟨fun _ => [],
  fun _ => none,
  fun _ => .quiet⟩
def F.bits.New (p0 : Int) : Tree :=
 br (decide ((p0 : Int) < 0))
  (ret (.tuple #[.pointer none, .int .i64 1]))
  (br (decide ((p0 : Int) > 16384))
   (ret (.tuple #[.pointer none, .int .i64 1]))
   (opr Tryz.prog (Instr.makeSlice 88 (.int .i64 p0) (.int .i64 p0)) (.one (.l .slice)) fun (r1 : Slc) =>
   nw 196 [.slice r1.a r1.n r1.c] fun b2 =>
   ret (.tuple #[.pointer (some (⟨b2, 0, none⟩)), .int .i64 0])))
theorem F.bits.New.den (p0 : Int) : denF Tryz.prog F.bits.New.T Tryz.f86 [.va (.int .i64 p0)] = F.bits.New p0 := by kernel_rfl
theorem F.bits.New.ok : (Tryz.f86.body.map (codeB F.bits.New.T)).getD false = true := by kernel_rfl
theorem F.bits.New.calls (p0 : Int) {Q : Value → World → Prop} {w : World} (h : F.bits.New p0 Q w) : Calls Tryz.prog 86 #[.int .i64 p0] w fun e w' => ∃ v, e = .returned v ∧ Q v w' :=
  calls_of_den Tryz.pnames Tryz.mixed F.bits.New.T Tryz.func86 F.bits.New.ok (es := [.va (.int .i64 p0)]) rfl (by rw [F.bits.New.den]; exact h)

-- (*gloaming/arena.Arena).Len
def F.arena.Arena.Len.T : Tabs := ⟨fun _ => [],
  fun _ => none,
  fun _ => .quiet⟩
def F.arena.Arena.Len (p0 : Option Addr) : Tree :=
 br (Option.isNone p0)
  (ret (.int .i64 0))
  (nn p0 fun a1 =>
  ld (.l .slice) (fa (fa a1 0) 0) fun (x2 : Slc) =>
  ret (.int .i64 (x2.n : Nat)))
theorem F.arena.Arena.Len.den (p0 : Option Addr) : denF Tryz.prog F.arena.Arena.Len.T Tryz.f87 [.va (.pointer p0)] = F.arena.Arena.Len p0 := by kernel_rfl
theorem F.arena.Arena.Len.ok : (Tryz.f87.body.map (codeB F.arena.Arena.Len.T)).getD false = true := by kernel_rfl
theorem F.arena.Arena.Len.calls (p0 : Option Addr) {Q : Value → World → Prop} {w : World} (h : F.arena.Arena.Len p0 Q w) : Calls Tryz.prog 87 #[.pointer p0] w fun e w' => ∃ v, e = .returned v ∧ Q v w' :=
  calls_of_den Tryz.pnames Tryz.mixed F.arena.Arena.Len.T Tryz.func87 F.arena.Arena.Len.ok (es := [.va (.pointer p0)]) rfl (by rw [F.arena.Arena.Len.den]; exact h)

-- (*gloaming/bits.Bits).Next
def F.bits.Bits.Next.T : Tabs := ⟨(fun
    | 2 => [(7, .int .i64)]
    | _ => []),
  fun _ => none,
  fun _ => .quiet⟩
def F.bits.Bits.Next (p0 : Option Addr) (p1 : Int) (p2 : Bool) : Tree :=
 lp [.int .i64] (fun X1 u2 => -- i:t7
  call Tryz.prog 133 [.pointer p0] (.one (.l (.int .i64))) fun (r3 : Int) =>
  br (decide ((u2.1 : Int) < r3))
   (nn p0 fun a4 =>
   ld (.l .slice) (fa a4 0) fun (x5 : Slc) =>
   ix x5.a x5.n u2.1 1 fun a6 =>
   ld (.l .bool) a6 fun (x7 : Bool) =>
   br (x7 == p2)
    (ret (.int .i64 u2.1))
    (X1 (IntKind.wrap .i64 (u2.1 + 1), ())))
   (ret (.int .i64 (-1)))) ((if (p1 : Int) > 0 then (p1 : Int) else 0), ())
theorem F.bits.Bits.Next.den (p0 : Option Addr) (p1 : Int) (p2 : Bool) : denF Tryz.prog F.bits.Bits.Next.T Tryz.f93 [.va (.pointer p0), .va (.int .i64 p1), .va (.bool p2)] = F.bits.Bits.Next p0 p1 p2 := by kernel_rfl
theorem F.bits.Bits.Next.ok : (Tryz.f93.body.map (codeB F.bits.Bits.Next.T)).getD false = true := by kernel_rfl
theorem F.bits.Bits.Next.calls (p0 : Option Addr) (p1 : Int) (p2 : Bool) {Q : Value → World → Prop} {w : World} (h : F.bits.Bits.Next p0 p1 p2 Q w) : Calls Tryz.prog 93 #[.pointer p0, .int .i64 p1, .bool p2] w fun e w' => ∃ v, e = .returned v ∧ Q v w' :=
  calls_of_den Tryz.pnames Tryz.mixed F.bits.Bits.Next.T Tryz.func93 F.bits.Bits.Next.ok (es := [.va (.pointer p0), .va (.int .i64 p1), .va (.bool p2)]) rfl (by rw [F.bits.Bits.Next.den]; exact h)

-- (*gloaming/bits.Bits).Has
def F.bits.Bits.Has.T : Tabs := ⟨fun _ => [],
  fun _ => none,
  fun _ => .quiet⟩
def F.bits.Bits.Has (p0 : Option Addr) (p1 : Int) : Tree :=
 call Tryz.prog 134 [.pointer p0, .int .i64 p1] (.one (.l .bool)) fun (r1 : Bool) =>
 br r1
  (nn p0 fun a2 =>
  ld (.l .slice) (fa a2 0) fun (x3 : Slc) =>
  ix x3.a x3.n p1 1 fun a4 =>
  ld (.l .bool) a4 fun (x5 : Bool) =>
  ret (.bool x5))
  (ret (.bool false))
theorem F.bits.Bits.Has.den (p0 : Option Addr) (p1 : Int) : denF Tryz.prog F.bits.Bits.Has.T Tryz.f94 [.va (.pointer p0), .va (.int .i64 p1)] = F.bits.Bits.Has p0 p1 := by kernel_rfl
theorem F.bits.Bits.Has.ok : (Tryz.f94.body.map (codeB F.bits.Bits.Has.T)).getD false = true := by kernel_rfl
theorem F.bits.Bits.Has.calls (p0 : Option Addr) (p1 : Int) {Q : Value → World → Prop} {w : World} (h : F.bits.Bits.Has p0 p1 Q w) : Calls Tryz.prog 94 #[.pointer p0, .int .i64 p1] w fun e w' => ∃ v, e = .returned v ∧ Q v w' :=
  calls_of_den Tryz.pnames Tryz.mixed F.bits.Bits.Has.T Tryz.func94 F.bits.Bits.Has.ok (es := [.va (.pointer p0), .va (.int .i64 p1)]) rfl (by rw [F.bits.Bits.Has.den]; exact h)

-- (*gloaming/class.Table).Class
def F.class.Table.Class.T : Tabs := ⟨fun _ => [],
  fun _ => none,
  fun _ => .quiet⟩
def F.class.Table.Class (p0 : Option Addr) (p1 : Int) : Tree :=
 nw 52 (zc Tryz.prog 52) fun b1 =>
 br (decide ((p1 : Int) < 1))
  (st (⟨b1, 0, none⟩) [.int .i64 0, .slice none 0 0] <|
  ld (.g [.int .i64, .slice]) (⟨b1, 0, none⟩) fun (x2 : LTs [.int .i64, .slice]) =>
  ret (.tuple #[.agg #[.int .i64 x2.1, .slice x2.2.1.a x2.2.1.n x2.2.1.c], .int .i64 2]))
  (call Tryz.prog 135 [.pointer p0] (.one (.l (.int .i64))) fun (r2 : Int) =>
  br (decide ((p1 : Int) > r2))
   (st (⟨b1, 0, none⟩) [.int .i64 0, .slice none 0 0] <|
   ld (.g [.int .i64, .slice]) (⟨b1, 0, none⟩) fun (x3 : LTs [.int .i64, .slice]) =>
   ret (.tuple #[.agg #[.int .i64 x3.1, .slice x3.2.1.a x3.2.1.n x3.2.1.c], .int .i64 2]))
   (nn p0 fun a3 =>
   ld (.l .slice) (fa a3 0) fun (x4 : Slc) =>
   ix x4.a x4.n (IntKind.wrap .i64 (p1 - 1)) 2 fun a5 =>
   ld (.g [.int .i64, .slice]) a5 fun (x6 : LTs [.int .i64, .slice]) =>
   call Tryz.prog 128 [.agg #[.int .i64 x6.1, .slice x6.2.1.a x6.2.1.n x6.2.1.c]] (.one (.g [.int .i64, .slice])) fun (r7 : LTs [.int .i64, .slice]) =>
   st (⟨b1, 0, none⟩) [.int .i64 r7.1, .slice r7.2.1.a r7.2.1.n r7.2.1.c] <|
   ld (.g [.int .i64, .slice]) (⟨b1, 0, none⟩) fun (x8 : LTs [.int .i64, .slice]) =>
   ret (.tuple #[.agg #[.int .i64 x8.1, .slice x8.2.1.a x8.2.1.n x8.2.1.c], .int .i64 0])))
theorem F.class.Table.Class.den (p0 : Option Addr) (p1 : Int) : denF Tryz.prog F.class.Table.Class.T Tryz.f95 [.va (.pointer p0), .va (.int .i64 p1)] = F.class.Table.Class p0 p1 := by kernel_rfl
theorem F.class.Table.Class.ok : (Tryz.f95.body.map (codeB F.class.Table.Class.T)).getD false = true := by kernel_rfl
theorem F.class.Table.Class.calls (p0 : Option Addr) (p1 : Int) {Q : Value → World → Prop} {w : World} (h : F.class.Table.Class p0 p1 Q w) : Calls Tryz.prog 95 #[.pointer p0, .int .i64 p1] w fun e w' => ∃ v, e = .returned v ∧ Q v w' :=
  calls_of_den Tryz.pnames Tryz.mixed F.class.Table.Class.T Tryz.func95 F.class.Table.Class.ok (es := [.va (.pointer p0), .va (.int .i64 p1)]) rfl (by rw [F.class.Table.Class.den]; exact h)

-- gloaming/object.all
def F.object.all.T : Tabs := ⟨(fun
    | 3 => [(3, .slice), (6, .int .i64)]
    | _ => []),
  fun _ => none,
  fun _ => .quiet⟩
def F.object.all (p0 : Int) : Tree :=
 lp [.slice, .int .i64] (fun X1 u2 => -- out:t3,:t6
  br (decide ((u2.2.1 : Int) < p0))
   (nw 3 [.int .i64 u2.2.1] fun b3 =>
   opr Tryz.prog (Builtin.append_ #[24, 24] 24 #[.slice u2.1.a u2.1.n u2.1.c, .slice (some ⟨b3, 0, none⟩) 1 1]) (.one (.l .slice)) fun (r4 : Slc) =>
   X1 (⟨r4.a, r4.n, r4.c⟩, IntKind.wrap .i64 (u2.2.1 + 1), ()))
   (ret (.slice u2.1.a u2.1.n u2.1.c))) (⟨none, 0, 0⟩, 0, ())
theorem F.object.all.den (p0 : Int) : denF Tryz.prog F.object.all.T Tryz.f96 [.va (.int .i64 p0)] = F.object.all p0 := by kernel_rfl
theorem F.object.all.ok : (Tryz.f96.body.map (codeB F.object.all.T)).getD false = true := by kernel_rfl
theorem F.object.all.calls (p0 : Int) {Q : Value → World → Prop} {w : World} (h : F.object.all p0 Q w) : Calls Tryz.prog 96 #[.int .i64 p0] w fun e w' => ∃ v, e = .returned v ∧ Q v w' :=
  calls_of_den Tryz.pnames Tryz.mixed F.object.all.T Tryz.func96 F.object.all.ok (es := [.va (.int .i64 p0)]) rfl (by rw [F.object.all.den]; exact h)

-- (*gloaming/object.Heap).field
def F.object.Heap.field.T : Tabs := ⟨fun _ => [],
  fun _ => none,
  fun _ => .quiet⟩
def F.object.Heap.field (p0 : Option Addr) (p1 : Int) (p2 : Int) : Tree :=
 call Tryz.prog 62 [.pointer p0, .int .i64 p1] (.many [.g [.int .i64, .int .i64, .int .i64, .bool], .l (.int .i64)]) fun (r1 : KTs [.g [.int .i64, .int .i64, .int .i64, .bool], .l (.int .i64)]) =>
 nw 54 (zc Tryz.prog 54) fun b2 =>
 st (⟨b2, 0, none⟩) [.int .i64 r1.1.1, .int .i64 r1.1.2.1, .int .i64 r1.1.2.2.1, .bool r1.1.2.2.2.1] <|
 br ((r1.2.1 : Int) != 0)
  (ret (.tuple #[.int .i64 0, .int .i64 r1.2.1]))
  (br (decide ((p2 : Int) < 0))
   (ret (.tuple #[.int .i64 0, .int .i64 1]))
   (ld (.l (.int .i64)) (fa (⟨b2, 0, none⟩) 2) fun (x3 : Int) =>
   br (decide ((p2 : Int) ≥ x3))
    (ret (.tuple #[.int .i64 0, .int .i64 1]))
    (ret (.tuple #[.int .i64 (IntKind.wrap .i64 ((IntKind.wrap .i64 (p1 + 1)) + p2)), .int .i64 0]))))
theorem F.object.Heap.field.den (p0 : Option Addr) (p1 : Int) (p2 : Int) : denF Tryz.prog F.object.Heap.field.T Tryz.f97 [.va (.pointer p0), .va (.int .i64 p1), .va (.int .i64 p2)] = F.object.Heap.field p0 p1 p2 := by kernel_rfl
theorem F.object.Heap.field.ok : (Tryz.f97.body.map (codeB F.object.Heap.field.T)).getD false = true := by kernel_rfl
theorem F.object.Heap.field.calls (p0 : Option Addr) (p1 : Int) (p2 : Int) {Q : Value → World → Prop} {w : World} (h : F.object.Heap.field p0 p1 p2 Q w) : Calls Tryz.prog 97 #[.pointer p0, .int .i64 p1, .int .i64 p2] w fun e w' => ∃ v, e = .returned v ∧ Q v w' :=
  calls_of_den Tryz.pnames Tryz.mixed F.object.Heap.field.T Tryz.func97 F.object.Heap.field.ok (es := [.va (.pointer p0), .va (.int .i64 p1), .va (.int .i64 p2)]) rfl (by rw [F.object.Heap.field.den]; exact h)

-- (*gloaming/arena.Arena).Load
def F.arena.Arena.Load.T : Tabs := ⟨fun _ => [],
  fun _ => none,
  fun _ => .quiet⟩
def F.arena.Arena.Load (p0 : Option Addr) (p1 : Int) : Tree :=
 br (Option.isNone p0)
  (ret (.tuple #[.int .i64 0, .int .i64 2]))
  (nn p0 fun a1 =>
  call Tryz.prog 136 [.pointer (some (fa a1 0)), .int .i64 p1] (.one (.l .bool)) fun (r2 : Bool) =>
  br (!r2)
   (ret (.tuple #[.int .i64 0, .int .i64 2]))
   (nn p0 fun a3 =>
   ld (.l .slice) (fa (fa a3 0) 0) fun (x4 : Slc) =>
   ix x4.a x4.n p1 1 fun a5 =>
   ld (.l (.int .i64)) a5 fun (x6 : Int) =>
   ret (.tuple #[.int .i64 x6, .int .i64 0])))
theorem F.arena.Arena.Load.den (p0 : Option Addr) (p1 : Int) : denF Tryz.prog F.arena.Arena.Load.T Tryz.f98 [.va (.pointer p0), .va (.int .i64 p1)] = F.arena.Arena.Load p0 p1 := by kernel_rfl
theorem F.arena.Arena.Load.ok : (Tryz.f98.body.map (codeB F.arena.Arena.Load.T)).getD false = true := by kernel_rfl
theorem F.arena.Arena.Load.calls (p0 : Option Addr) (p1 : Int) {Q : Value → World → Prop} {w : World} (h : F.arena.Arena.Load p0 p1 Q w) : Calls Tryz.prog 98 #[.pointer p0, .int .i64 p1] w fun e w' => ∃ v, e = .returned v ∧ Q v w' :=
  calls_of_den Tryz.pnames Tryz.mixed F.arena.Arena.Load.T Tryz.func98 F.arena.Arena.Load.ok (es := [.va (.pointer p0), .va (.int .i64 p1)]) rfl (by rw [F.arena.Arena.Load.den]; exact h)

-- (*gloaming/object.Heap).may
def F.object.Heap.may.T : Tabs := ⟨fun _ => [],
  fun _ => none,
  (fun
    | 5 => .held (some 6) (.go 0 false (.go 1 false (.go 2 false (.go 3 false (.go 4 false (.go 5 false (.two (.go 6 true (.go 7 false (.go 8 false (.go 9 false (.go 10 false (.go 11 false (.go 12 false .nil))))))) (.go 10 false (.go 6 true (.go 7 false (.go 8 false (.go 9 false (.go 11 false (.go 12 false .nil))))))))))))))
    | _ => .quiet)⟩
def F.object.Heap.may (p0 : Option Addr) (p1 : LTs [.int .i64, .int .i64, .int .i64, .bool]) : Tree :=
 nw 54 [.int .i64 p1.1, .int .i64 p1.2.1, .int .i64 p1.2.2.1, .bool p1.2.2.2.1] fun b1 =>
 ld (.g [.int .i64, .int .i64, .int .i64, .bool]) (⟨b1, 0, none⟩) fun (x2 : LTs [.int .i64, .int .i64, .int .i64, .bool]) =>
 call Tryz.prog 137 [.agg #[.int .i64 x2.1, .int .i64 x2.2.1, .int .i64 x2.2.2.1, .bool x2.2.2.2.1]] (.one (.l .bool)) fun (r3 : Bool) =>
 br (!r3)
  (ret (.int .i64 1))
  (ld (.l .bool) (fa (⟨b1, 0, none⟩) 3) fun (x4 : Bool) =>
  br x4
   (ret (.int .i64 1))
   (ld (.l (.int .i64)) (fa (⟨b1, 0, none⟩) 0) fun (x5 : Int) =>
   br ((x5 : Int) != 1)
    (ret (.int .i64 0))
    (drw <| held fun S6 =>
    nn p0 fun a7 =>
    ldS S6 (.l .ptr) (fa a7 1) fun (x8 : Option Addr) =>
    ldS S6 (.l (.int .i64)) (fa (⟨b1, 0, none⟩) 1) fun (x9 : Int) =>
    both
     (call Tryz.prog 95 [.pointer x8, .int .i64 x9] (.many [.g [.int .i64, .slice], .l (.int .i64)]) fun (r10 : KTs [.g [.int .i64, .slice], .l (.int .i64)]) =>
     nw 52 (zc Tryz.prog 52) fun b11 =>
     st (⟨b11, 0, none⟩) [.int .i64 r10.1.1, .slice r10.1.2.1.a r10.1.2.1.n r10.1.2.1.c] <|
     br ((r10.2.1 : Int) != 0)
      (ret (.int .i64 2))
      (ld (.l (.int .i64)) (fa (⟨b11, 0, none⟩) 0) fun (x12 : Int) =>
      ld (.l (.int .i64)) (fa (⟨b1, 0, none⟩) 2) fun (x13 : Int) =>
      br ((x12 : Int) != x13)
       (ret (.int .i64 1))
       (ret (.int .i64 0))))
     (nw 52 (zc Tryz.prog 52) fun b14 =>
     chk S6 <|
     call Tryz.prog 95 [.pointer x8, .int .i64 x9] (.many [.g [.int .i64, .slice], .l (.int .i64)]) fun (r15 : KTs [.g [.int .i64, .slice], .l (.int .i64)]) =>
     st (⟨b14, 0, none⟩) [.int .i64 r15.1.1, .slice r15.1.2.1.a r15.1.2.1.n r15.1.2.1.c] <|
     br ((r15.2.1 : Int) != 0)
      (ret (.int .i64 2))
      (ld (.l (.int .i64)) (fa (⟨b14, 0, none⟩) 0) fun (x16 : Int) =>
      ld (.l (.int .i64)) (fa (⟨b1, 0, none⟩) 2) fun (x17 : Int) =>
      br ((x16 : Int) != x17)
       (ret (.int .i64 1))
       (ret (.int .i64 0)))))))
theorem F.object.Heap.may.den (p0 : Option Addr) (p1 : LTs [.int .i64, .int .i64, .int .i64, .bool]) : denF Tryz.prog F.object.Heap.may.T Tryz.f99 [.va (.pointer p0), .va (.agg #[.int .i64 p1.1, .int .i64 p1.2.1, .int .i64 p1.2.2.1, .bool p1.2.2.2.1])] = F.object.Heap.may p0 p1 := by kernel_rfl
theorem F.object.Heap.may.ok : (Tryz.f99.body.map (codeB F.object.Heap.may.T)).getD false = true := by kernel_rfl
theorem F.object.Heap.may.calls (p0 : Option Addr) (p1 : LTs [.int .i64, .int .i64, .int .i64, .bool]) {Q : Value → World → Prop} {w : World} (h : F.object.Heap.may p0 p1 Q w) : Calls Tryz.prog 99 #[.pointer p0, .agg #[.int .i64 p1.1, .int .i64 p1.2.1, .int .i64 p1.2.2.1, .bool p1.2.2.2.1]] w fun e w' => ∃ v, e = .returned v ∧ Q v w' :=
  calls_of_den Tryz.pnames Tryz.mixed F.object.Heap.may.T Tryz.func99 F.object.Heap.may.ok (es := [.va (.pointer p0), .va (.agg #[.int .i64 p1.1, .int .i64 p1.2.1, .int .i64 p1.2.2.1, .bool p1.2.2.2.1])]) rfl (by rw [F.object.Heap.may.den]; exact h)

-- (*gloaming/space.Space).Alloc
def F.space.Space.Alloc.T : Tabs := ⟨fun _ => [],
  fun _ => none,
  fun _ => .quiet⟩
def F.space.Space.Alloc (p0 : Option Addr) (p1 : Int) : Tree :=
 call Tryz.prog 138 [.int .i64 p1] (.one (.l (.int .i64))) fun (r1 : Int) =>
 br (Option.isNone p0)
  (ret (.tuple #[.int .i64 0, .int .i64 2]))
  (br ((r1 : Int) == 0)
   (ret (.tuple #[.int .i64 0, .int .i64 1]))
   (call Tryz.prog 139 [.pointer p0, .int .i64 p1] (.many [.l (.int .i64), .l (.int .i64)]) fun (r2 : KTs [.l (.int .i64), .l (.int .i64)]) =>
   br ((r2.2.1 : Int) != 0)
    (ret (.tuple #[.int .i64 0, .int .i64 r2.2.1]))
    (nn p0 fun a3 =>
    ld (.l .ptr) (fa a3 0) fun (x4 : Option Addr) =>
    call Tryz.prog 140 [.pointer x4, .int .i64 r2.1, .int .i64 r1] (.one (.l (.int .i64))) fun (r5 : Int) =>
    ret (.tuple #[.int .i64 r2.1, .int .i64 r5]))))
theorem F.space.Space.Alloc.den (p0 : Option Addr) (p1 : Int) : denF Tryz.prog F.space.Space.Alloc.T Tryz.f100 [.va (.pointer p0), .va (.int .i64 p1)] = F.space.Space.Alloc p0 p1 := by kernel_rfl
theorem F.space.Space.Alloc.ok : (Tryz.f100.body.map (codeB F.space.Space.Alloc.T)).getD false = true := by kernel_rfl
theorem F.space.Space.Alloc.calls (p0 : Option Addr) (p1 : Int) {Q : Value → World → Prop} {w : World} (h : F.space.Space.Alloc p0 p1 Q w) : Calls Tryz.prog 100 #[.pointer p0, .int .i64 p1] w fun e w' => ∃ v, e = .returned v ∧ Q v w' :=
  calls_of_den Tryz.pnames Tryz.mixed F.space.Space.Alloc.T Tryz.func100 F.space.Space.Alloc.ok (es := [.va (.pointer p0), .va (.int .i64 p1)]) rfl (by rw [F.space.Space.Alloc.den]; exact h)

-- gloaming/head.Put
def F.head.Put.T : Tabs := ⟨fun _ => [],
  fun _ => none,
  fun _ => .quiet⟩
def F.head.Put (p0 : LTs [.int .i64, .int .i64, .int .i64, .bool]) : Tree :=
 nw 54 [.int .i64 p0.1, .int .i64 p0.2.1, .int .i64 p0.2.2.1, .bool p0.2.2.2.1] fun b1 =>
 ld (.g [.int .i64, .int .i64, .int .i64, .bool]) (⟨b1, 0, none⟩) fun (x2 : LTs [.int .i64, .int .i64, .int .i64, .bool]) =>
 call Tryz.prog 137 [.agg #[.int .i64 x2.1, .int .i64 x2.2.1, .int .i64 x2.2.2.1, .bool x2.2.2.2.1]] (.one (.l .bool)) fun (r3 : Bool) =>
 br (!r3)
  (ret (.tuple #[.int .i64 0, .bool false]))
  (ld (.l (.int .i64)) (fa (⟨b1, 0, none⟩) 0) fun (x4 : Int) =>
  ld (.l (.int .i64)) (fa (⟨b1, 0, none⟩) 1) fun (x5 : Int) =>
  ld (.l (.int .i64)) (fa (⟨b1, 0, none⟩) 2) fun (x6 : Int) =>
  ld (.l .bool) (fa (⟨b1, 0, none⟩) 3) fun (x7 : Bool) =>
  br x7
   (ret (.tuple #[.int .i64 (IntKind.wrap .i64 ((IntKind.wrap .i64 ((IntKind.wrap .i64 (x4 + (IntKind.wrap .i64 (16 * x5)))) + (IntKind.wrap .i64 (65536 * x6)))) + 8)), .bool true]))
   (ret (.tuple #[.int .i64 (IntKind.wrap .i64 ((IntKind.wrap .i64 (x4 + (IntKind.wrap .i64 (16 * x5)))) + (IntKind.wrap .i64 (65536 * x6)))), .bool true])))
theorem F.head.Put.den (p0 : LTs [.int .i64, .int .i64, .int .i64, .bool]) : denF Tryz.prog F.head.Put.T Tryz.f101 [.va (.agg #[.int .i64 p0.1, .int .i64 p0.2.1, .int .i64 p0.2.2.1, .bool p0.2.2.2.1])] = F.head.Put p0 := by kernel_rfl
theorem F.head.Put.ok : (Tryz.f101.body.map (codeB F.head.Put.T)).getD false = true := by kernel_rfl
theorem F.head.Put.calls (p0 : LTs [.int .i64, .int .i64, .int .i64, .bool]) {Q : Value → World → Prop} {w : World} (h : F.head.Put p0 Q w) : Calls Tryz.prog 101 #[.agg #[.int .i64 p0.1, .int .i64 p0.2.1, .int .i64 p0.2.2.1, .bool p0.2.2.2.1]] w fun e w' => ∃ v, e = .returned v ∧ Q v w' :=
  calls_of_den Tryz.pnames Tryz.mixed F.head.Put.T Tryz.func101 F.head.Put.ok (es := [.va (.agg #[.int .i64 p0.1, .int .i64 p0.2.1, .int .i64 p0.2.2.1, .bool p0.2.2.2.1])]) rfl (by rw [F.head.Put.den]; exact h)

-- (*gloaming/arena.Arena).Store
def F.arena.Arena.Store.T : Tabs := ⟨fun _ => [],
  fun _ => none,
  fun _ => .quiet⟩
def F.arena.Arena.Store (p0 : Option Addr) (p1 : Int) (p2 : Int) : Tree :=
 br (Option.isNone p0)
  (ret (.int .i64 2))
  (nn p0 fun a1 =>
  call Tryz.prog 136 [.pointer (some (fa a1 0)), .int .i64 p1] (.one (.l .bool)) fun (r2 : Bool) =>
  br (!r2)
   (ret (.int .i64 2))
   (nn p0 fun a3 =>
   ld (.l .slice) (fa (fa a3 0) 0) fun (x4 : Slc) =>
   ix x4.a x4.n p1 1 fun a5 =>
   st a5 [.int .i64 p2] <|
   ret (.int .i64 0)))
theorem F.arena.Arena.Store.den (p0 : Option Addr) (p1 : Int) (p2 : Int) : denF Tryz.prog F.arena.Arena.Store.T Tryz.f102 [.va (.pointer p0), .va (.int .i64 p1), .va (.int .i64 p2)] = F.arena.Arena.Store p0 p1 p2 := by kernel_rfl
theorem F.arena.Arena.Store.ok : (Tryz.f102.body.map (codeB F.arena.Arena.Store.T)).getD false = true := by kernel_rfl
theorem F.arena.Arena.Store.calls (p0 : Option Addr) (p1 : Int) (p2 : Int) {Q : Value → World → Prop} {w : World} (h : F.arena.Arena.Store p0 p1 p2 Q w) : Calls Tryz.prog 102 #[.pointer p0, .int .i64 p1, .int .i64 p2] w fun e w' => ∃ v, e = .returned v ∧ Q v w' :=
  calls_of_den Tryz.pnames Tryz.mixed F.arena.Arena.Store.T Tryz.func102 F.arena.Arena.Store.ok (es := [.va (.pointer p0), .va (.int .i64 p1), .va (.int .i64 p2)]) rfl (by rw [F.arena.Arena.Store.den]; exact h)

-- gloaming/space.New
def F.space.New.T : Tabs := ⟨fun _ => [],
  fun _ => none,
  fun _ => .quiet⟩
def F.space.New (p0 : Int) : Tree :=
 call Tryz.prog 141 [.int .i64 p0] (.many [.l .ptr, .l (.int .i64)]) fun (r1 : KTs [.l .ptr, .l (.int .i64)]) =>
 br ((r1.2.1 : Int) != 0)
  (ret (.tuple #[.pointer none, .int .i64 r1.2.1]))
  (call Tryz.prog 142 [.int .i64 p0] (.many [.l .ptr, .l (.int .i64)]) fun (r2 : KTs [.l .ptr, .l (.int .i64)]) =>
  br ((r2.2.1 : Int) != 0)
   (ret (.tuple #[.pointer none, .int .i64 r2.2.1]))
   (nwM fun b3 =>
   nwM fun b4 =>
   nw 152 [.pointer r1.1, .pointer r2.1, .map (some b3), .map (some b4)] fun b5 =>
   ret (.tuple #[.pointer (some (⟨b5, 0, none⟩)), .int .i64 0])))
theorem F.space.New.den (p0 : Int) : denF Tryz.prog F.space.New.T Tryz.f103 [.va (.int .i64 p0)] = F.space.New p0 := by kernel_rfl
theorem F.space.New.ok : (Tryz.f103.body.map (codeB F.space.New.T)).getD false = true := by kernel_rfl
theorem F.space.New.calls (p0 : Int) {Q : Value → World → Prop} {w : World} (h : F.space.New p0 Q w) : Calls Tryz.prog 103 #[.int .i64 p0] w fun e w' => ∃ v, e = .returned v ∧ Q v w' :=
  calls_of_den Tryz.pnames Tryz.mixed F.space.New.T Tryz.func103 F.space.New.ok (es := [.va (.int .i64 p0)]) rfl (by rw [F.space.New.den]; exact h)

-- gloaming/class.New
def F.class.New.T : Tabs := ⟨fun _ => [],
  fun _ => none,
  fun _ => .quiet⟩
def F.class.New  : Tree :=
 nw 191 [.slice none 0 0] fun b1 =>
 ret (.pointer (some (⟨b1, 0, none⟩)))
theorem F.class.New.den  : denF Tryz.prog F.class.New.T Tryz.f104 [] = F.class.New := by kernel_rfl
theorem F.class.New.ok : (Tryz.f104.body.map (codeB F.class.New.T)).getD false = true := by kernel_rfl
theorem F.class.New.calls  {Q : Value → World → Prop} {w : World} (h : F.class.New Q w) : Calls Tryz.prog 104 #[] w fun e w' => ∃ v, e = .returned v ∧ Q v w' :=
  calls_of_den Tryz.pnames Tryz.mixed F.class.New.T Tryz.func104 F.class.New.ok (es := []) rfl (by rw [F.class.New.den]; exact h)

-- gloaming/head.Get
def F.head.Get.T : Tabs := ⟨fun _ => [],
  fun _ => none,
  fun _ => .quiet⟩
def F.head.Get (p0 : Int) : Tree :=
 nw 54 (zc Tryz.prog 54) fun b1 =>
 br (decide ((p0 : Int) < 0))
  (st (⟨b1, 0, none⟩) [.int .i64 0, .int .i64 0, .int .i64 0, .bool false] <|
  ld (.g [.int .i64, .int .i64, .int .i64, .bool]) (⟨b1, 0, none⟩) fun (x2 : LTs [.int .i64, .int .i64, .int .i64, .bool]) =>
  ret (.tuple #[.agg #[.int .i64 x2.1, .int .i64 x2.2.1, .int .i64 x2.2.2.1, .bool x2.2.2.2.1], .bool false]))
  (need ((8 : Int) ≠ 0) <|
  need ((8 : Int) ≠ 0) <|
  need ((2 : Int) ≠ 0) <|
  need ((65536 : Int) ≠ 0) <|
  need ((16 : Int) ≠ 0) <|
  need ((65536 : Int) ≠ 0) <|
  nw 54 (zc Tryz.prog 54) fun b2 =>
  st (⟨b2, 0, none⟩) [.int .i64 (Int.tmod p0 8), .int .i64 (IntKind.wrap .i64 (Int.tdiv (Int.tmod p0 65536) 16)), .int .i64 (IntKind.wrap .i64 (Int.tdiv p0 65536)), .bool ((Int.tmod (IntKind.wrap .i64 (Int.tdiv p0 8)) 2 : Int) == 1)] <|
  ld (.g [.int .i64, .int .i64, .int .i64, .bool]) (⟨b2, 0, none⟩) fun (x3 : LTs [.int .i64, .int .i64, .int .i64, .bool]) =>
  call Tryz.prog 101 [.agg #[.int .i64 x3.1, .int .i64 x3.2.1, .int .i64 x3.2.2.1, .bool x3.2.2.2.1]] (.many [.l (.int .i64), .l .bool]) fun (r4 : KTs [.l (.int .i64), .l .bool]) =>
  br (!r4.2.1)
   (st (⟨b1, 0, none⟩) [.int .i64 0, .int .i64 0, .int .i64 0, .bool false] <|
   ld (.g [.int .i64, .int .i64, .int .i64, .bool]) (⟨b1, 0, none⟩) fun (x5 : LTs [.int .i64, .int .i64, .int .i64, .bool]) =>
   ret (.tuple #[.agg #[.int .i64 x5.1, .int .i64 x5.2.1, .int .i64 x5.2.2.1, .bool x5.2.2.2.1], .bool false]))
   (br ((r4.1 : Int) != p0)
    (st (⟨b1, 0, none⟩) [.int .i64 0, .int .i64 0, .int .i64 0, .bool false] <|
    ld (.g [.int .i64, .int .i64, .int .i64, .bool]) (⟨b1, 0, none⟩) fun (x5 : LTs [.int .i64, .int .i64, .int .i64, .bool]) =>
    ret (.tuple #[.agg #[.int .i64 x5.1, .int .i64 x5.2.1, .int .i64 x5.2.2.1, .bool x5.2.2.2.1], .bool false]))
    (ld (.g [.int .i64, .int .i64, .int .i64, .bool]) (⟨b2, 0, none⟩) fun (x5 : LTs [.int .i64, .int .i64, .int .i64, .bool]) =>
    st (⟨b1, 0, none⟩) [.int .i64 x5.1, .int .i64 x5.2.1, .int .i64 x5.2.2.1, .bool x5.2.2.2.1] <|
    ld (.g [.int .i64, .int .i64, .int .i64, .bool]) (⟨b1, 0, none⟩) fun (x6 : LTs [.int .i64, .int .i64, .int .i64, .bool]) =>
    ret (.tuple #[.agg #[.int .i64 x6.1, .int .i64 x6.2.1, .int .i64 x6.2.2.1, .bool x6.2.2.2.1], .bool true]))))
theorem F.head.Get.den (p0 : Int) : denF Tryz.prog F.head.Get.T Tryz.f112 [.va (.int .i64 p0)] = F.head.Get p0 := by kernel_rfl
theorem F.head.Get.ok : (Tryz.f112.body.map (codeB F.head.Get.T)).getD false = true := by kernel_rfl
theorem F.head.Get.calls (p0 : Int) {Q : Value → World → Prop} {w : World} (h : F.head.Get p0 Q w) : Calls Tryz.prog 112 #[.int .i64 p0] w fun e w' => ∃ v, e = .returned v ∧ Q v w' :=
  calls_of_den Tryz.pnames Tryz.mixed F.head.Get.T Tryz.func112 F.head.Get.ok (es := [.va (.int .i64 p0)]) rfl (by rw [F.head.Get.den]; exact h)

-- (*gloaming/block.Page).Words
def F.block.Page.Words.T : Tabs := ⟨fun _ => [],
  fun _ => none,
  fun _ => .quiet⟩
def F.block.Page.Words (p0 : Option Addr) : Tree :=
 br (Option.isNone p0)
  (ret (.int .i64 0))
  (nn p0 fun a1 =>
  ld (.l (.int .i64)) (fa a1 1) fun (x2 : Int) =>
  ret (.int .i64 x2))
theorem F.block.Page.Words.den (p0 : Option Addr) : denF Tryz.prog F.block.Page.Words.T Tryz.f119 [.va (.pointer p0)] = F.block.Page.Words p0 := by kernel_rfl
theorem F.block.Page.Words.ok : (Tryz.f119.body.map (codeB F.block.Page.Words.T)).getD false = true := by kernel_rfl
theorem F.block.Page.Words.calls (p0 : Option Addr) {Q : Value → World → Prop} {w : World} (h : F.block.Page.Words p0 Q w) : Calls Tryz.prog 119 #[.pointer p0] w fun e w' => ∃ v, e = .returned v ∧ Q v w' :=
  calls_of_den Tryz.pnames Tryz.mixed F.block.Page.Words.T Tryz.func119 F.block.Page.Words.ok (es := [.va (.pointer p0)]) rfl (by rw [F.block.Page.Words.den]; exact h)

-- (*gloaming/pages.Pages).Give
def F.pages.Pages.Give.T : Tabs := ⟨fun _ => [],
  fun _ => none,
  (fun
    | 10 => .held (some 7) (.go 0 false (.go 1 false (.go 2 false (.go 3 false (.go 4 false (.go 5 false (.go 6 false (.go 7 true (.go 8 false .nil)))))))))
    | _ => .quiet)⟩
def F.pages.Pages.Give (p0 : Option Addr) (p1 : Int) (p2 : Int) : Tree :=
 br (Option.isNone p0)
  (ret (.int .i64 2))
  (br (decide ((p2 : Int) < 1))
   (ret (.int .i64 1))
   (br (decide ((p1 : Int) < 1))
    (ret (.int .i64 1))
    (nn p0 fun a1 =>
    ld (.l .ptr) (fa a1 0) fun (x2 : Option Addr) =>
    call Tryz.prog 133 [.pointer x2] (.one (.l (.int .i64))) fun (r3 : Int) =>
    br (decide ((p1 : Int) > r3))
     (ret (.int .i64 2))
     (nn p0 fun a4 =>
     ld (.l .ptr) (fa a4 0) fun (x5 : Option Addr) =>
     call Tryz.prog 133 [.pointer x5] (.one (.l (.int .i64))) fun (r6 : Int) =>
     br (decide ((p2 : Int) > (IntKind.wrap .i64 (r6 - p1))))
      (ret (.int .i64 2))
      (nn p0 fun a7 =>
      ld (.l .ptr) (fa a7 0) fun (x8 : Option Addr) =>
      call Tryz.prog 93 [.pointer x8, .int .i64 p1, .bool false] (.one (.l (.int .i64))) fun (r9 : Int) =>
      br (decide ((r9 : Int) ≥ 0))
       (br (decide ((r9 : Int) < (IntKind.wrap .i64 (p1 + p2))))
        (ret (.int .i64 2))
        (drw <| held fun S10 =>
        nn p0 fun a11 =>
        ldS S10 (.l .ptr) (fa a11 0) fun (x12 : Option Addr) =>
        call Tryz.prog 161 [.int .i64 p1, .int .i64 p2] (.one (.l .slice)) fun (r13 : Slc) =>
        chk S10 <|
        call Tryz.prog 129 [.pointer x12, .bool false, .slice r13.a r13.n r13.c] (.one (.l (.int .i64))) fun (r14 : Int) =>
        ret (.int .i64 r14)))
       (drw <| held fun S10 =>
       nn p0 fun a11 =>
       ldS S10 (.l .ptr) (fa a11 0) fun (x12 : Option Addr) =>
       call Tryz.prog 161 [.int .i64 p1, .int .i64 p2] (.one (.l .slice)) fun (r13 : Slc) =>
       chk S10 <|
       call Tryz.prog 129 [.pointer x12, .bool false, .slice r13.a r13.n r13.c] (.one (.l (.int .i64))) fun (r14 : Int) =>
       ret (.int .i64 r14)))))))
theorem F.pages.Pages.Give.den (p0 : Option Addr) (p1 : Int) (p2 : Int) : denF Tryz.prog F.pages.Pages.Give.T Tryz.f122 [.va (.pointer p0), .va (.int .i64 p1), .va (.int .i64 p2)] = F.pages.Pages.Give p0 p1 p2 := by kernel_rfl
theorem F.pages.Pages.Give.ok : (Tryz.f122.body.map (codeB F.pages.Pages.Give.T)).getD false = true := by kernel_rfl
theorem F.pages.Pages.Give.calls (p0 : Option Addr) (p1 : Int) (p2 : Int) {Q : Value → World → Prop} {w : World} (h : F.pages.Pages.Give p0 p1 p2 Q w) : Calls Tryz.prog 122 #[.pointer p0, .int .i64 p1, .int .i64 p2] w fun e w' => ∃ v, e = .returned v ∧ Q v w' :=
  calls_of_den Tryz.pnames Tryz.mixed F.pages.Pages.Give.T Tryz.func122 F.pages.Pages.Give.ok (es := [.va (.pointer p0), .va (.int .i64 p1), .va (.int .i64 p2)]) rfl (by rw [F.pages.Pages.Give.den]; exact h)

-- (*gloaming/block.Page).Give
def F.block.Page.Give.T : Tabs := ⟨fun _ => [],
  fun _ => none,
  fun _ => .quiet⟩
def F.block.Page.Give (p0 : Option Addr) (p1 : Int) : Tree :=
 br (Option.isNone p0)
  (ret (.int .i64 2))
  (nn p0 fun a1 =>
  ld (.l .ptr) (fa a1 0) fun (x2 : Option Addr) =>
  call Tryz.prog 94 [.pointer x2, .int .i64 p1] (.one (.l .bool)) fun (r3 : Bool) =>
  br (!r3)
   (ret (.int .i64 2))
   (nn p0 fun a4 =>
   ld (.l .ptr) (fa a4 0) fun (x5 : Option Addr) =>
   nw 3 [.int .i64 p1] fun b6 =>
   call Tryz.prog 129 [.pointer x5, .bool false, .slice (some ⟨b6, 0, none⟩) 1 1] (.one (.l (.int .i64))) fun (r7 : Int) =>
   ret (.int .i64 r7)))
theorem F.block.Page.Give.den (p0 : Option Addr) (p1 : Int) : denF Tryz.prog F.block.Page.Give.T Tryz.f123 [.va (.pointer p0), .va (.int .i64 p1)] = F.block.Page.Give p0 p1 := by kernel_rfl
theorem F.block.Page.Give.ok : (Tryz.f123.body.map (codeB F.block.Page.Give.T)).getD false = true := by kernel_rfl
theorem F.block.Page.Give.calls (p0 : Option Addr) (p1 : Int) {Q : Value → World → Prop} {w : World} (h : F.block.Page.Give p0 p1 Q w) : Calls Tryz.prog 123 #[.pointer p0, .int .i64 p1] w fun e w' => ∃ v, e = .returned v ∧ Q v w' :=
  calls_of_den Tryz.pnames Tryz.mixed F.block.Page.Give.T Tryz.func123 F.block.Page.Give.ok (es := [.va (.pointer p0), .va (.int .i64 p1)]) rfl (by rw [F.block.Page.Give.den]; exact h)

-- (*gloaming/block.Page).Empty
def F.block.Page.Empty.T : Tabs := ⟨fun _ => [],
  fun _ => none,
  fun _ => .quiet⟩
def F.block.Page.Empty (p0 : Option Addr) : Tree :=
 br (!(Option.isNone p0))
  (nn p0 fun a1 =>
  ld (.l .ptr) (fa a1 0) fun (x2 : Option Addr) =>
  call Tryz.prog 42 [.pointer x2] (.one (.l (.int .i64))) fun (r3 : Int) =>
  ret (.bool ((r3 : Int) == 0)))
  (ret (.bool false))
theorem F.block.Page.Empty.den (p0 : Option Addr) : denF Tryz.prog F.block.Page.Empty.T Tryz.f124 [.va (.pointer p0)] = F.block.Page.Empty p0 := by kernel_rfl
theorem F.block.Page.Empty.ok : (Tryz.f124.body.map (codeB F.block.Page.Empty.T)).getD false = true := by kernel_rfl
theorem F.block.Page.Empty.calls (p0 : Option Addr) {Q : Value → World → Prop} {w : World} (h : F.block.Page.Empty p0 Q w) : Calls Tryz.prog 124 #[.pointer p0] w fun e w' => ∃ v, e = .returned v ∧ Q v w' :=
  calls_of_den Tryz.pnames Tryz.mixed F.block.Page.Empty.T Tryz.func124 F.block.Page.Empty.ok (es := [.va (.pointer p0)]) rfl (by rw [F.block.Page.Empty.den]; exact h)

-- gloaming/class.may
def F.class.may.T : Tabs := ⟨(fun
    | 5 => [(3, .int .i64), (17, .int .i64)]
    | _ => []),
  fun _ => none,
  fun _ => .quiet⟩
def F.class.may (p0 : LTs [.int .i64, .slice]) : Tree :=
 nw 52 [.int .i64 p0.1, .slice p0.2.1.a p0.2.1.n p0.2.1.c] fun b1 =>
 ld (.l (.int .i64)) (fa (⟨b1, 0, none⟩) 0) fun (x2 : Int) =>
 br (decide ((x2 : Int) < 0))
  (ret (.bool false))
  (ld (.l (.int .i64)) (fa (⟨b1, 0, none⟩) 0) fun (x3 : Int) =>
  br (decide ((x3 : Int) > 1023))
   (ret (.bool false))
   (ld (.l .slice) (fa (⟨b1, 0, none⟩) 1) fun (x4 : Slc) =>
   lp [.int .i64, .int .i64] (fun X5 u6 => -- last:t3,:t17
    br (decide ((u6.2.1 : Int) < (x4.n : Nat)))
     (ix x4.a x4.n u6.2.1 1 fun a7 =>
     ld (.l (.int .i64)) a7 fun (x8 : Int) =>
     br (decide ((x8 : Int) ≤ u6.1))
      (ret (.bool false))
      (ld (.l (.int .i64)) (fa (⟨b1, 0, none⟩) 0) fun (x9 : Int) =>
      br (decide ((x8 : Int) ≥ x9))
       (ret (.bool false))
       (X5 (x8, IntKind.wrap .i64 (u6.2.1 + 1), ()))))
     (ret (.bool true))) ((-1), 0, ())))
theorem F.class.may.den (p0 : LTs [.int .i64, .slice]) : denF Tryz.prog F.class.may.T Tryz.f127 [.va (.agg #[.int .i64 p0.1, .slice p0.2.1.a p0.2.1.n p0.2.1.c])] = F.class.may p0 := by kernel_rfl
theorem F.class.may.ok : (Tryz.f127.body.map (codeB F.class.may.T)).getD false = true := by kernel_rfl
theorem F.class.may.calls (p0 : LTs [.int .i64, .slice]) {Q : Value → World → Prop} {w : World} (h : F.class.may p0 Q w) : Calls Tryz.prog 127 #[.agg #[.int .i64 p0.1, .slice p0.2.1.a p0.2.1.n p0.2.1.c]] w fun e w' => ∃ v, e = .returned v ∧ Q v w' :=
  calls_of_den Tryz.pnames Tryz.mixed F.class.may.T Tryz.func127 F.class.may.ok (es := [.va (.agg #[.int .i64 p0.1, .slice p0.2.1.a p0.2.1.n p0.2.1.c])]) rfl (by rw [F.class.may.den]; exact h)

-- gloaming/class.own
def F.class.own.T : Tabs := ⟨fun _ => [],
  fun _ => none,
  (fun
    | 1 => .held (some 6) (.go 0 false (.go 1 false (.go 2 false (.go 3 false (.go 4 false (.go 5 false (.go 6 true .nil)))))))
    | _ => .quiet)⟩
def F.class.own (p0 : LTs [.int .i64, .slice]) : Tree :=
 nw 52 [.int .i64 p0.1, .slice p0.2.1.a p0.2.1.n p0.2.1.c] fun b1 =>
 nw 52 (zc Tryz.prog 52) fun b2 =>
 drw <| held fun S3 =>
 ldS S3 (.l (.int .i64)) (fa (⟨b1, 0, none⟩) 0) fun (x4 : Int) =>
 ldS S3 (.l .slice) (fa (⟨b1, 0, none⟩) 1) fun (x5 : Slc) =>
 call Tryz.prog 162 [.slice x5.a x5.n x5.c] (.one (.l .slice)) fun (r6 : Slc) =>
 chk S3 <|
 st (⟨b2, 0, none⟩) [.int .i64 x4, .slice r6.a r6.n r6.c] <|
 ld (.g [.int .i64, .slice]) (⟨b2, 0, none⟩) fun (x7 : LTs [.int .i64, .slice]) =>
 ret (.agg #[.int .i64 x7.1, .slice x7.2.1.a x7.2.1.n x7.2.1.c])
theorem F.class.own.den (p0 : LTs [.int .i64, .slice]) : denF Tryz.prog F.class.own.T Tryz.f128 [.va (.agg #[.int .i64 p0.1, .slice p0.2.1.a p0.2.1.n p0.2.1.c])] = F.class.own p0 := by kernel_rfl
theorem F.class.own.ok : (Tryz.f128.body.map (codeB F.class.own.T)).getD false = true := by kernel_rfl
theorem F.class.own.calls (p0 : LTs [.int .i64, .slice]) {Q : Value → World → Prop} {w : World} (h : F.class.own p0 Q w) : Calls Tryz.prog 128 #[.agg #[.int .i64 p0.1, .slice p0.2.1.a p0.2.1.n p0.2.1.c]] w fun e w' => ∃ v, e = .returned v ∧ Q v w' :=
  calls_of_den Tryz.pnames Tryz.mixed F.class.own.T Tryz.func128 F.class.own.ok (es := [.va (.agg #[.int .i64 p0.1, .slice p0.2.1.a p0.2.1.n p0.2.1.c])]) rfl (by rw [F.class.own.den]; exact h)

-- (*gloaming/bits.Bits).Set
def F.bits.Bits.Set.T : Tabs := ⟨(fun
    | 4 => [(18, .int .i64)]
    | _ => []),
  fun _ => none,
  fun _ => .quiet⟩
def F.bits.Bits.Set (p0 : Option Addr) (p1 : Bool) (p2 : Slc) : Tree :=
 nw 65 [.pointer p0] fun b1 =>
 ld (.l .ptr) (⟨b1, 0, none⟩) fun (x2 : Option Addr) =>
 br (Option.isNone x2)
  (ret (.int .i64 2))
  (call Tryz.prog 163 [.slice p2.a p2.n p2.c, .func (.func 164) #[] #[.pointer (some (⟨b1, 0, none⟩))]] (.one (.l .bool)) fun (r3 : Bool) =>
  br r3
   (ret (.int .i64 2))
   (lp [.int .i64] (fun X4 u5 => -- :t18
    br (decide ((u5.1 : Int) < (p2.n : Nat)))
     (ix p2.a p2.n u5.1 1 fun a6 =>
     ld (.l (.int .i64)) a6 fun (x7 : Int) =>
     ld (.l .ptr) (⟨b1, 0, none⟩) fun (x8 : Option Addr) =>
     nn x8 fun a9 =>
     ld (.l .slice) (fa a9 0) fun (x10 : Slc) =>
     ix x10.a x10.n x7 1 fun a11 =>
     st a11 [.bool p1] <|
     X4 (IntKind.wrap .i64 (u5.1 + 1), ()))
     (ret (.int .i64 0))) (0, ())))
theorem F.bits.Bits.Set.den (p0 : Option Addr) (p1 : Bool) (p2 : Slc) : denF Tryz.prog F.bits.Bits.Set.T Tryz.f129 [.va (.pointer p0), .va (.bool p1), .va (.slice p2.a p2.n p2.c)] = F.bits.Bits.Set p0 p1 p2 := by kernel_rfl
theorem F.bits.Bits.Set.ok : (Tryz.f129.body.map (codeB F.bits.Bits.Set.T)).getD false = true := by kernel_rfl
theorem F.bits.Bits.Set.calls (p0 : Option Addr) (p1 : Bool) (p2 : Slc) {Q : Value → World → Prop} {w : World} (h : F.bits.Bits.Set p0 p1 p2 Q w) : Calls Tryz.prog 129 #[.pointer p0, .bool p1, .slice p2.a p2.n p2.c] w fun e w' => ∃ v, e = .returned v ∧ Q v w' :=
  calls_of_den Tryz.pnames Tryz.mixed F.bits.Bits.Set.T Tryz.func129 F.bits.Bits.Set.ok (es := [.va (.pointer p0), .va (.bool p1), .va (.slice p2.a p2.n p2.c)]) rfl (by rw [F.bits.Bits.Set.den]; exact h)

-- (*gloaming/bits.Bits).Size
def F.bits.Bits.Size.T : Tabs := ⟨fun _ => [],
  fun _ => none,
  fun _ => .quiet⟩
def F.bits.Bits.Size (p0 : Option Addr) : Tree :=
 br (Option.isNone p0)
  (ret (.int .i64 0))
  (nn p0 fun a1 =>
  ld (.l .slice) (fa a1 0) fun (x2 : Slc) =>
  ret (.int .i64 (x2.n : Nat)))
theorem F.bits.Bits.Size.den (p0 : Option Addr) : denF Tryz.prog F.bits.Bits.Size.T Tryz.f133 [.va (.pointer p0)] = F.bits.Bits.Size p0 := by kernel_rfl
theorem F.bits.Bits.Size.ok : (Tryz.f133.body.map (codeB F.bits.Bits.Size.T)).getD false = true := by kernel_rfl
theorem F.bits.Bits.Size.calls (p0 : Option Addr) {Q : Value → World → Prop} {w : World} (h : F.bits.Bits.Size p0 Q w) : Calls Tryz.prog 133 #[.pointer p0] w fun e w' => ∃ v, e = .returned v ∧ Q v w' :=
  calls_of_den Tryz.pnames Tryz.mixed F.bits.Bits.Size.T Tryz.func133 F.bits.Bits.Size.ok (es := [.va (.pointer p0)]) rfl (by rw [F.bits.Bits.Size.den]; exact h)

-- (*gloaming/bits.Bits).place
def F.bits.Bits.place.T : Tabs := ⟨fun _ => [],
  fun _ => none,
  fun _ => .quiet⟩
def F.bits.Bits.place (p0 : Option Addr) (p1 : Int) : Tree :=
 br (decide ((p1 : Int) ≥ 0))
  (call Tryz.prog 133 [.pointer p0] (.one (.l (.int .i64))) fun (r1 : Int) =>
  ret (.bool (decide ((p1 : Int) < r1))))
  (ret (.bool false))
theorem F.bits.Bits.place.den (p0 : Option Addr) (p1 : Int) : denF Tryz.prog F.bits.Bits.place.T Tryz.f134 [.va (.pointer p0), .va (.int .i64 p1)] = F.bits.Bits.place p0 p1 := by kernel_rfl
theorem F.bits.Bits.place.ok : (Tryz.f134.body.map (codeB F.bits.Bits.place.T)).getD false = true := by kernel_rfl
theorem F.bits.Bits.place.calls (p0 : Option Addr) (p1 : Int) {Q : Value → World → Prop} {w : World} (h : F.bits.Bits.place p0 p1 Q w) : Calls Tryz.prog 134 #[.pointer p0, .int .i64 p1] w fun e w' => ∃ v, e = .returned v ∧ Q v w' :=
  calls_of_den Tryz.pnames Tryz.mixed F.bits.Bits.place.T Tryz.func134 F.bits.Bits.place.ok (es := [.va (.pointer p0), .va (.int .i64 p1)]) rfl (by rw [F.bits.Bits.place.den]; exact h)

-- (*gloaming/class.Table).Classes
def F.class.Table.Classes.T : Tabs := ⟨fun _ => [],
  fun _ => none,
  fun _ => .quiet⟩
def F.class.Table.Classes (p0 : Option Addr) : Tree :=
 br (Option.isNone p0)
  (ret (.int .i64 0))
  (nn p0 fun a1 =>
  ld (.l .slice) (fa a1 0) fun (x2 : Slc) =>
  ret (.int .i64 (x2.n : Nat)))
theorem F.class.Table.Classes.den (p0 : Option Addr) : denF Tryz.prog F.class.Table.Classes.T Tryz.f135 [.va (.pointer p0)] = F.class.Table.Classes p0 := by kernel_rfl
theorem F.class.Table.Classes.ok : (Tryz.f135.body.map (codeB F.class.Table.Classes.T)).getD false = true := by kernel_rfl
theorem F.class.Table.Classes.calls (p0 : Option Addr) {Q : Value → World → Prop} {w : World} (h : F.class.Table.Classes p0 Q w) : Calls Tryz.prog 135 #[.pointer p0] w fun e w' => ∃ v, e = .returned v ∧ Q v w' :=
  calls_of_den Tryz.pnames Tryz.mixed F.class.Table.Classes.T Tryz.func135 F.class.Table.Classes.ok (es := [.va (.pointer p0)]) rfl (by rw [F.class.Table.Classes.den]; exact h)

-- (*gloaming/arena.words).has
def F.arena.words.has.T : Tabs := ⟨fun _ => [],
  fun _ => none,
  fun _ => .quiet⟩
def F.arena.words.has (p0 : Option Addr) (p1 : Int) : Tree :=
 br (decide ((p1 : Int) ≥ 0))
  (nn p0 fun a1 =>
  ld (.l .slice) (fa a1 0) fun (x2 : Slc) =>
  ret (.bool (decide ((p1 : Int) < (x2.n : Nat)))))
  (ret (.bool false))
theorem F.arena.words.has.den (p0 : Option Addr) (p1 : Int) : denF Tryz.prog F.arena.words.has.T Tryz.f136 [.va (.pointer p0), .va (.int .i64 p1)] = F.arena.words.has p0 p1 := by kernel_rfl
theorem F.arena.words.has.ok : (Tryz.f136.body.map (codeB F.arena.words.has.T)).getD false = true := by kernel_rfl
theorem F.arena.words.has.calls (p0 : Option Addr) (p1 : Int) {Q : Value → World → Prop} {w : World} (h : F.arena.words.has p0 p1 Q w) : Calls Tryz.prog 136 #[.pointer p0, .int .i64 p1] w fun e w' => ∃ v, e = .returned v ∧ Q v w' :=
  calls_of_den Tryz.pnames Tryz.mixed F.arena.words.has.T Tryz.func136 F.arena.words.has.ok (es := [.va (.pointer p0), .va (.int .i64 p1)]) rfl (by rw [F.arena.words.has.den]; exact h)

-- gloaming/head.May
def F.head.May.T : Tabs := ⟨fun _ => [],
  fun _ => none,
  fun _ => .quiet⟩
def F.head.May (p0 : LTs [.int .i64, .int .i64, .int .i64, .bool]) : Tree :=
 nw 54 [.int .i64 p0.1, .int .i64 p0.2.1, .int .i64 p0.2.2.1, .bool p0.2.2.2.1] fun b1 =>
 ld (.l (.int .i64)) (fa (⟨b1, 0, none⟩) 2) fun (x2 : Int) =>
 nw 3 [.int .i64 0, .int .i64 1023] fun b3 =>
 call Tryz.prog 165 [.int .i64 x2, .slice (some ⟨b3, 0, none⟩) 2 2] (.one (.l .bool)) fun (r4 : Bool) =>
 br (!r4)
  (ret (.bool false))
  (ld (.l (.int .i64)) (fa (⟨b1, 0, none⟩) 0) fun (x5 : Int) =>
  br ((x5 : Int) == 1)
   (ld (.l (.int .i64)) (fa (⟨b1, 0, none⟩) 1) fun (x6 : Int) =>
   nw 3 [.int .i64 1, .int .i64 256] fun b7 =>
   call Tryz.prog 165 [.int .i64 x6, .slice (some ⟨b7, 0, none⟩) 2 2] (.one (.l .bool)) fun (r8 : Bool) =>
   ret (.bool r8))
   (br ((x5 : Int) == 2)
    (br ((x5 : Int) == 2)
     (ld (.l (.int .i64)) (fa (⟨b1, 0, none⟩) 1) fun (x6 : Int) =>
     nw 3 [.int .i64 0, .int .i64 0] fun b7 =>
     call Tryz.prog 165 [.int .i64 x6, .slice (some ⟨b7, 0, none⟩) 2 2] (.one (.l .bool)) fun (r8 : Bool) =>
     ret (.bool r8))
     (br ((x5 : Int) == 4)
      (ld (.l (.int .i64)) (fa (⟨b1, 0, none⟩) 1) fun (x6 : Int) =>
      nw 3 [.int .i64 1, .int .i64 3] fun b7 =>
      call Tryz.prog 165 [.int .i64 x6, .slice (some ⟨b7, 0, none⟩) 2 2] (.one (.l .bool)) fun (r8 : Bool) =>
      br r8
       (ld (.l (.int .i64)) (fa (⟨b1, 0, none⟩) 2) fun (x9 : Int) =>
       br ((x9 : Int) == 5)
        (ld (.l .bool) (fa (⟨b1, 0, none⟩) 3) fun (x10 : Bool) =>
        ret (.bool (!x10)))
        (ret (.bool false)))
       (ret (.bool false)))
      (ret (.bool false))))
    (br ((x5 : Int) == 3)
     (ld (.l (.int .i64)) (fa (⟨b1, 0, none⟩) 1) fun (x6 : Int) =>
     nw 3 [.int .i64 0, .int .i64 0] fun b7 =>
     call Tryz.prog 165 [.int .i64 x6, .slice (some ⟨b7, 0, none⟩) 2 2] (.one (.l .bool)) fun (r8 : Bool) =>
     ret (.bool r8))
     (br ((x5 : Int) == 4)
      (ld (.l (.int .i64)) (fa (⟨b1, 0, none⟩) 1) fun (x6 : Int) =>
      nw 3 [.int .i64 1, .int .i64 3] fun b7 =>
      call Tryz.prog 165 [.int .i64 x6, .slice (some ⟨b7, 0, none⟩) 2 2] (.one (.l .bool)) fun (r8 : Bool) =>
      br r8
       (ld (.l (.int .i64)) (fa (⟨b1, 0, none⟩) 2) fun (x9 : Int) =>
       br ((x9 : Int) == 5)
        (ld (.l .bool) (fa (⟨b1, 0, none⟩) 3) fun (x10 : Bool) =>
        ret (.bool (!x10)))
        (ret (.bool false)))
       (ret (.bool false)))
      (ret (.bool false))))))
theorem F.head.May.den (p0 : LTs [.int .i64, .int .i64, .int .i64, .bool]) : denF Tryz.prog F.head.May.T Tryz.f137 [.va (.agg #[.int .i64 p0.1, .int .i64 p0.2.1, .int .i64 p0.2.2.1, .bool p0.2.2.2.1])] = F.head.May p0 := by kernel_rfl
theorem F.head.May.ok : (Tryz.f137.body.map (codeB F.head.May.T)).getD false = true := by kernel_rfl
theorem F.head.May.calls (p0 : LTs [.int .i64, .int .i64, .int .i64, .bool]) {Q : Value → World → Prop} {w : World} (h : F.head.May p0 Q w) : Calls Tryz.prog 137 #[.agg #[.int .i64 p0.1, .int .i64 p0.2.1, .int .i64 p0.2.2.1, .bool p0.2.2.2.1]] w fun e w' => ∃ v, e = .returned v ∧ Q v w' :=
  calls_of_den Tryz.pnames Tryz.mixed F.head.May.T Tryz.func137 F.head.May.ok (es := [.va (.agg #[.int .i64 p0.1, .int .i64 p0.2.1, .int .i64 p0.2.2.1, .bool p0.2.2.2.1])]) rfl (by rw [F.head.May.den]; exact h)

-- gloaming/size.Block
def F.size.Block.T : Tabs := ⟨fun _ => [],
  fun _ => none,
  fun _ => .quiet⟩
def F.size.Block (p0 : Int) : Tree :=
 call Tryz.prog 166 [.int .i64 p0] (.one (.l (.int .i64))) fun (r1 : Int) =>
 br (decide ((r1 : Int) ≥ 0))
  (call Tryz.prog 167 [] (.one (.l .slice)) fun (r2 : Slc) =>
  ix r2.a r2.n r1 1 fun a3 =>
  ld (.l (.int .i64)) a3 fun (x4 : Int) =>
  ret (.int .i64 x4))
  (call Tryz.prog 168 [.int .i64 p0] (.one (.l (.int .i64))) fun (r2 : Int) =>
  ret (.int .i64 (IntKind.wrap .i64 (r2 * 64))))
theorem F.size.Block.den (p0 : Int) : denF Tryz.prog F.size.Block.T Tryz.f138 [.va (.int .i64 p0)] = F.size.Block p0 := by kernel_rfl
theorem F.size.Block.ok : (Tryz.f138.body.map (codeB F.size.Block.T)).getD false = true := by kernel_rfl
theorem F.size.Block.calls (p0 : Int) {Q : Value → World → Prop} {w : World} (h : F.size.Block p0 Q w) : Calls Tryz.prog 138 #[.int .i64 p0] w fun e w' => ∃ v, e = .returned v ∧ Q v w' :=
  calls_of_den Tryz.pnames Tryz.mixed F.size.Block.T Tryz.func138 F.size.Block.ok (es := [.va (.int .i64 p0)]) rfl (by rw [F.size.Block.den]; exact h)

-- (*gloaming/space.Space).place
def F.space.Space.place.T : Tabs := ⟨fun _ => [],
  fun _ => none,
  fun _ => .quiet⟩
def F.space.Space.place (p0 : Option Addr) (p1 : Int) : Tree :=
 call Tryz.prog 166 [.int .i64 p1] (.one (.l (.int .i64))) fun (r1 : Int) =>
 br (decide ((r1 : Int) < 0))
  (call Tryz.prog 168 [.int .i64 p1] (.one (.l (.int .i64))) fun (r2 : Int) =>
  nn p0 fun a3 =>
  ld (.l .ptr) (fa a3 1) fun (x4 : Option Addr) =>
  call Tryz.prog 169 [.pointer x4, .int .i64 r2] (.many [.l (.int .i64), .l (.int .i64)]) fun (r5 : KTs [.l (.int .i64), .l (.int .i64)]) =>
  br ((r5.2.1 : Int) != 0)
   (ret (.tuple #[.int .i64 0, .int .i64 r5.2.1]))
   (nn p0 fun a6 =>
   ld (.l .map) (fa a6 3) fun (x7 : Option Nat) =>
   oprU Tryz.prog (Instr.mapUpdate 150 (.map x7) (.int .i64 r5.1) (.int .i64 r2)) <|
   ret (.tuple #[.int .i64 (IntKind.wrap .i64 (r5.1 * 64)), .int .i64 0])))
  (call Tryz.prog 170 [.pointer p0, .int .i64 r1] (.many [.l (.int .i64), .l (.int .i64)]) fun (r2 : KTs [.l (.int .i64), .l (.int .i64)]) =>
  br ((r2.2.1 : Int) != 0)
   (ret (.tuple #[.int .i64 0, .int .i64 r2.2.1]))
   (nn p0 fun a3 =>
   ld (.l .map) (fa a3 2) fun (x4 : Option Nat) =>
   opr Tryz.prog (Instr.lookup 149 (.map x4) (.int .i64 r2.1) false) (.one (.l .ptr)) fun (r5 : Option Addr) =>
   call Tryz.prog 171 [.pointer r5] (.many [.l (.int .i64), .l (.int .i64)]) fun (r6 : KTs [.l (.int .i64), .l (.int .i64)]) =>
   br ((r6.2.1 : Int) != 0)
    (ret (.tuple #[.int .i64 0, .int .i64 r6.2.1]))
    (nn p0 fun a7 =>
    ld (.l .map) (fa a7 2) fun (x8 : Option Nat) =>
    opr Tryz.prog (Instr.lookup 149 (.map x8) (.int .i64 r2.1) false) (.one (.l .ptr)) fun (r9 : Option Addr) =>
    call Tryz.prog 119 [.pointer r9] (.one (.l (.int .i64))) fun (r10 : Int) =>
    ret (.tuple #[.int .i64 (IntKind.wrap .i64 ((IntKind.wrap .i64 (r2.1 * 64)) + (IntKind.wrap .i64 (r6.1 * r10)))), .int .i64 0]))))
theorem F.space.Space.place.den (p0 : Option Addr) (p1 : Int) : denF Tryz.prog F.space.Space.place.T Tryz.f139 [.va (.pointer p0), .va (.int .i64 p1)] = F.space.Space.place p0 p1 := by kernel_rfl
theorem F.space.Space.place.ok : (Tryz.f139.body.map (codeB F.space.Space.place.T)).getD false = true := by kernel_rfl
theorem F.space.Space.place.calls (p0 : Option Addr) (p1 : Int) {Q : Value → World → Prop} {w : World} (h : F.space.Space.place p0 p1 Q w) : Calls Tryz.prog 139 #[.pointer p0, .int .i64 p1] w fun e w' => ∃ v, e = .returned v ∧ Q v w' :=
  calls_of_den Tryz.pnames Tryz.mixed F.space.Space.place.T Tryz.func139 F.space.Space.place.ok (es := [.va (.pointer p0), .va (.int .i64 p1)]) rfl (by rw [F.space.Space.place.den]; exact h)

-- (*gloaming/arena.Arena).Fill
def F.arena.Arena.Fill.T : Tabs := ⟨fun _ => [],
  fun _ => none,
  fun _ => .quiet⟩
def F.arena.Arena.Fill (p0 : Option Addr) (p1 : Int) (p2 : Int) : Tree :=
 br (Option.isNone p0)
  (ret (.int .i64 2))
  (br (decide ((p2 : Int) < 0))
   (ret (.int .i64 1))
   (br (decide ((p1 : Int) < 0))
    (ret (.int .i64 2))
    (nn p0 fun a1 =>
    ld (.l .slice) (fa (fa a1 0) 0) fun (x2 : Slc) =>
    br (decide ((p2 : Int) > (if (IntKind.wrap .i64 ((x2.n : Nat) - p1) : Int) > 0 then (IntKind.wrap .i64 ((x2.n : Nat) - p1) : Int) else 0)))
     (ret (.int .i64 2))
     (br (decide ((p2 : Int) > 0))
      (nn p0 fun a3 =>
      ld (.l .slice) (fa (fa a3 0) 0) fun (x4 : Slc) =>
      slc x4.a x4.c p1 (IntKind.wrap .i64 (p1 + p2)) 1 fun s5 =>
      opr Tryz.prog (Builtin.clear_ #[24] 0 #[.slice s5.a s5.n s5.c]) (.many []) fun (r6 : KTs []) =>
      ret (.int .i64 0))
      (ret (.int .i64 0))))))
theorem F.arena.Arena.Fill.den (p0 : Option Addr) (p1 : Int) (p2 : Int) : denF Tryz.prog F.arena.Arena.Fill.T Tryz.f140 [.va (.pointer p0), .va (.int .i64 p1), .va (.int .i64 p2)] = F.arena.Arena.Fill p0 p1 p2 := by kernel_rfl
theorem F.arena.Arena.Fill.ok : (Tryz.f140.body.map (codeB F.arena.Arena.Fill.T)).getD false = true := by kernel_rfl
theorem F.arena.Arena.Fill.calls (p0 : Option Addr) (p1 : Int) (p2 : Int) {Q : Value → World → Prop} {w : World} (h : F.arena.Arena.Fill p0 p1 p2 Q w) : Calls Tryz.prog 140 #[.pointer p0, .int .i64 p1, .int .i64 p2] w fun e w' => ∃ v, e = .returned v ∧ Q v w' :=
  calls_of_den Tryz.pnames Tryz.mixed F.arena.Arena.Fill.T Tryz.func140 F.arena.Arena.Fill.ok (es := [.va (.pointer p0), .va (.int .i64 p1), .va (.int .i64 p2)]) rfl (by rw [F.arena.Arena.Fill.den]; exact h)

-- gloaming/arena.New
def F.arena.New.T : Tabs := ⟨fun _ => [],
  fun _ => none,
  fun _ => .quiet⟩
def F.arena.New (p0 : Int) : Tree :=
 br (decide ((p0 : Int) < 1))
  (ret (.tuple #[.pointer none, .int .i64 1]))
  (br (decide ((p0 : Int) > 256))
   (ret (.tuple #[.pointer none, .int .i64 1]))
   (opr Tryz.prog (Instr.makeSlice 24 (.int .i64 (IntKind.wrap .i64 (p0 * 64))) (.int .i64 (IntKind.wrap .i64 (p0 * 64)))) (.one (.l .slice)) fun (r1 : Slc) =>
   nw 200 [.slice r1.a r1.n r1.c] fun b2 =>
   ret (.tuple #[.pointer (some (⟨b2, 0, none⟩)), .int .i64 0])))
theorem F.arena.New.den (p0 : Int) : denF Tryz.prog F.arena.New.T Tryz.f141 [.va (.int .i64 p0)] = F.arena.New p0 := by kernel_rfl
theorem F.arena.New.ok : (Tryz.f141.body.map (codeB F.arena.New.T)).getD false = true := by kernel_rfl
theorem F.arena.New.calls (p0 : Int) {Q : Value → World → Prop} {w : World} (h : F.arena.New p0 Q w) : Calls Tryz.prog 141 #[.int .i64 p0] w fun e w' => ∃ v, e = .returned v ∧ Q v w' :=
  calls_of_den Tryz.pnames Tryz.mixed F.arena.New.T Tryz.func141 F.arena.New.ok (es := [.va (.int .i64 p0)]) rfl (by rw [F.arena.New.den]; exact h)

-- gloaming/pages.New
def F.pages.New.T : Tabs := ⟨fun _ => [],
  fun _ => none,
  fun _ => .quiet⟩
def F.pages.New (p0 : Int) : Tree :=
 br (decide ((p0 : Int) < 1))
  (ret (.tuple #[.pointer none, .int .i64 1]))
  (br (decide ((p0 : Int) > 256))
   (ret (.tuple #[.pointer none, .int .i64 1]))
   (call Tryz.prog 86 [.int .i64 p0] (.many [.l .ptr, .l (.int .i64)]) fun (r1 : KTs [.l .ptr, .l (.int .i64)]) =>
   br ((r1.2.1 : Int) != 0)
    (ret (.tuple #[.pointer none, .int .i64 r1.2.1]))
    (nw 3 [.int .i64 0] fun b2 =>
    call Tryz.prog 129 [.pointer r1.1, .bool true, .slice (some ⟨b2, 0, none⟩) 1 1] (.one (.l (.int .i64))) fun (r3 : Int) =>
    nw 223 [.pointer r1.1] fun b4 =>
    ret (.tuple #[.pointer (some (⟨b4, 0, none⟩)), .int .i64 0]))))
theorem F.pages.New.den (p0 : Int) : denF Tryz.prog F.pages.New.T Tryz.f142 [.va (.int .i64 p0)] = F.pages.New p0 := by kernel_rfl
theorem F.pages.New.ok : (Tryz.f142.body.map (codeB F.pages.New.T)).getD false = true := by kernel_rfl
theorem F.pages.New.calls (p0 : Int) {Q : Value → World → Prop} {w : World} (h : F.pages.New p0 Q w) : Calls Tryz.prog 142 #[.int .i64 p0] w fun e w' => ∃ v, e = .returned v ∧ Q v w' :=
  calls_of_den Tryz.pnames Tryz.mixed F.pages.New.T Tryz.func142 F.pages.New.ok (es := [.va (.int .i64 p0)]) rfl (by rw [F.pages.New.den]; exact h)

-- gloaming/pages.row
def F.pages.row.T : Tabs := ⟨(fun
    | 3 => [(5, .slice), (8, .int .i64)]
    | _ => []),
  fun _ => none,
  fun _ => .quiet⟩
def F.pages.row (p0 : Int) (p1 : Int) : Tree :=
 lp [.slice, .int .i64] (fun X1 u2 => -- out:t5,:t8
  br (decide ((u2.2.1 : Int) < p1))
   (nw 3 [.int .i64 (IntKind.wrap .i64 (p0 + u2.2.1))] fun b3 =>
   opr Tryz.prog (Builtin.append_ #[24, 24] 24 #[.slice u2.1.a u2.1.n u2.1.c, .slice (some ⟨b3, 0, none⟩) 1 1]) (.one (.l .slice)) fun (r4 : Slc) =>
   X1 (⟨r4.a, r4.n, r4.c⟩, IntKind.wrap .i64 (u2.2.1 + 1), ()))
   (ret (.slice u2.1.a u2.1.n u2.1.c))) (⟨none, 0, 0⟩, 0, ())
theorem F.pages.row.den (p0 : Int) (p1 : Int) : denF Tryz.prog F.pages.row.T Tryz.f161 [.va (.int .i64 p0), .va (.int .i64 p1)] = F.pages.row p0 p1 := by kernel_rfl
theorem F.pages.row.ok : (Tryz.f161.body.map (codeB F.pages.row.T)).getD false = true := by kernel_rfl
theorem F.pages.row.calls (p0 : Int) (p1 : Int) {Q : Value → World → Prop} {w : World} (h : F.pages.row p0 p1 Q w) : Calls Tryz.prog 161 #[.int .i64 p0, .int .i64 p1] w fun e w' => ∃ v, e = .returned v ∧ Q v w' :=
  calls_of_den Tryz.pnames Tryz.mixed F.pages.row.T Tryz.func161 F.pages.row.ok (es := [.va (.int .i64 p0), .va (.int .i64 p1)]) rfl (by rw [F.pages.row.den]; exact h)

-- slices.Clone[[]int,int]
def F.slices.Clone.T : Tabs := ⟨fun _ => [],
  fun _ => none,
  fun _ => .quiet⟩
def F.slices.Clone (p0 : Slc) : Tree :=
 br (Option.isNone p0.a)
  (ret (.slice none 0 0))
  (nw 3 [] fun b1 =>
  opr Tryz.prog (Builtin.append_ #[24, 24] 24 #[.slice (some ⟨b1, 0, none⟩) 0 0, .slice p0.a p0.n p0.c]) (.one (.l .slice)) fun (r2 : Slc) =>
  ret (.slice r2.a r2.n r2.c))
theorem F.slices.Clone.den (p0 : Slc) : denF Tryz.prog F.slices.Clone.T Tryz.f162 [.va (.slice p0.a p0.n p0.c)] = F.slices.Clone p0 := by kernel_rfl
theorem F.slices.Clone.ok : (Tryz.f162.body.map (codeB F.slices.Clone.T)).getD false = true := by kernel_rfl
theorem F.slices.Clone.calls (p0 : Slc) {Q : Value → World → Prop} {w : World} (h : F.slices.Clone p0 Q w) : Calls Tryz.prog 162 #[.slice p0.a p0.n p0.c] w fun e w' => ∃ v, e = .returned v ∧ Q v w' :=
  calls_of_den Tryz.pnames Tryz.mixed F.slices.Clone.T Tryz.func162 F.slices.Clone.ok (es := [.va (.slice p0.a p0.n p0.c)]) rfl (by rw [F.slices.Clone.den]; exact h)

-- slices.ContainsFunc[[]int,int]
def F.slices.ContainsFunc.T : Tabs := ⟨fun _ => [],
  fun _ => none,
  fun _ => .quiet⟩
def F.slices.ContainsFunc (p0 : Slc) (p1 : Value) : Tree :=
 call Tryz.prog 190 [.slice p0.a p0.n p0.c, p1] (.one (.l (.int .i64))) fun (r1 : Int) =>
 ret (.bool (decide ((r1 : Int) ≥ 0)))
theorem F.slices.ContainsFunc.den (p0 : Slc) (p1 : Value) : denF Tryz.prog F.slices.ContainsFunc.T Tryz.f163 [.va (.slice p0.a p0.n p0.c), .op p1] = F.slices.ContainsFunc p0 p1 := by kernel_rfl
theorem F.slices.ContainsFunc.ok : (Tryz.f163.body.map (codeB F.slices.ContainsFunc.T)).getD false = true := by kernel_rfl
theorem F.slices.ContainsFunc.calls (p0 : Slc) (p1 : Value) {Q : Value → World → Prop} {w : World} (h : F.slices.ContainsFunc p0 p1 Q w) : Calls Tryz.prog 163 #[.slice p0.a p0.n p0.c, p1] w fun e w' => ∃ v, e = .returned v ∧ Q v w' :=
  calls_of_den Tryz.pnames Tryz.mixed F.slices.ContainsFunc.T Tryz.func163 F.slices.ContainsFunc.ok (es := [.va (.slice p0.a p0.n p0.c), .op p1]) rfl (by rw [F.slices.ContainsFunc.den]; exact h)

-- (*gloaming/bits.Bits).Set$1
def F.bits.Bits.Set_1.T : Tabs := ⟨fun _ => [],
  fun _ => none,
  fun _ => .quiet⟩
def F.bits.Bits.Set_1 (p0 : Int) (c0 : Option Addr) : Tree :=
 nn c0 fun a1 =>
 ld (.l .ptr) a1 fun (x2 : Option Addr) =>
 call Tryz.prog 134 [.pointer x2, .int .i64 p0] (.one (.l .bool)) fun (r3 : Bool) =>
 ret (.bool (!r3))
theorem F.bits.Bits.Set_1.den (p0 : Int) (c0 : Option Addr) : denF Tryz.prog F.bits.Bits.Set_1.T Tryz.f164 [.va (.int .i64 p0), .va (.pointer c0)] = F.bits.Bits.Set_1 p0 c0 := by kernel_rfl
theorem F.bits.Bits.Set_1.ok : (Tryz.f164.body.map (codeB F.bits.Bits.Set_1.T)).getD false = true := by kernel_rfl
theorem F.bits.Bits.Set_1.calls (p0 : Int) (c0 : Option Addr) {Q : Value → World → Prop} {w : World} (h : F.bits.Bits.Set_1 p0 c0 Q w) : Calls Tryz.prog 164 #[.int .i64 p0, .pointer c0] w fun e w' => ∃ v, e = .returned v ∧ Q v w' :=
  calls_of_den Tryz.pnames Tryz.mixed F.bits.Bits.Set_1.T Tryz.func164 F.bits.Bits.Set_1.ok (es := [.va (.int .i64 p0), .va (.pointer c0)]) rfl (by rw [F.bits.Bits.Set_1.den]; exact h)

-- gloaming/head.in
def F.head.in.T : Tabs := ⟨(fun
    | 2 => [(5, .int .i64)]
    | _ => []),
  fun _ => none,
  fun _ => .quiet⟩
def F.head.in (p0 : Int) (p1 : Slc) : Tree :=
 lp [.int .i64] (fun X1 u2 => -- i:t5
  br (decide ((IntKind.wrap .i64 (u2.1 + 1) : Int) < (p1.n : Nat)))
   (ix p1.a p1.n u2.1 1 fun a3 =>
   ld (.l (.int .i64)) a3 fun (x4 : Int) =>
   br (decide ((p0 : Int) ≥ x4))
    (ix p1.a p1.n (IntKind.wrap .i64 (u2.1 + 1)) 1 fun a5 =>
    ld (.l (.int .i64)) a5 fun (x6 : Int) =>
    br (decide ((p0 : Int) ≤ x6))
     (ret (.bool true))
     (X1 (IntKind.wrap .i64 (u2.1 + 2), ())))
    (X1 (IntKind.wrap .i64 (u2.1 + 2), ())))
   (ret (.bool false))) (0, ())
theorem F.head.in.den (p0 : Int) (p1 : Slc) : denF Tryz.prog F.head.in.T Tryz.f165 [.va (.int .i64 p0), .va (.slice p1.a p1.n p1.c)] = F.head.in p0 p1 := by kernel_rfl
theorem F.head.in.ok : (Tryz.f165.body.map (codeB F.head.in.T)).getD false = true := by kernel_rfl
theorem F.head.in.calls (p0 : Int) (p1 : Slc) {Q : Value → World → Prop} {w : World} (h : F.head.in p0 p1 Q w) : Calls Tryz.prog 165 #[.int .i64 p0, .slice p1.a p1.n p1.c] w fun e w' => ∃ v, e = .returned v ∧ Q v w' :=
  calls_of_den Tryz.pnames Tryz.mixed F.head.in.T Tryz.func165 F.head.in.ok (es := [.va (.int .i64 p0), .va (.slice p1.a p1.n p1.c)]) rfl (by rw [F.head.in.den]; exact h)

-- gloaming/size.Class
def F.size.Class.T : Tabs := ⟨(fun
    | 4 => [(9, .int .i64)]
    | _ => []),
  fun _ => none,
  fun _ => .quiet⟩
def F.size.Class (p0 : Int) : Tree :=
 br (decide ((p0 : Int) < 1))
  (ret (.int .i64 (-1)))
  (call Tryz.prog 167 [] (.one (.l .slice)) fun (r1 : Slc) =>
  lp [.int .i64] (fun X2 u3 => -- :t9
   br (decide ((u3.1 : Int) < (r1.n : Nat)))
    (ix r1.a r1.n u3.1 1 fun a4 =>
    ld (.l (.int .i64)) a4 fun (x5 : Int) =>
    br (decide ((x5 : Int) ≥ p0))
     (ret (.int .i64 u3.1))
     (X2 (IntKind.wrap .i64 (u3.1 + 1), ())))
    (ret (.int .i64 (-1)))) (0, ()))
theorem F.size.Class.den (p0 : Int) : denF Tryz.prog F.size.Class.T Tryz.f166 [.va (.int .i64 p0)] = F.size.Class p0 := by kernel_rfl
theorem F.size.Class.ok : (Tryz.f166.body.map (codeB F.size.Class.T)).getD false = true := by kernel_rfl
theorem F.size.Class.calls (p0 : Int) {Q : Value → World → Prop} {w : World} (h : F.size.Class p0 Q w) : Calls Tryz.prog 166 #[.int .i64 p0] w fun e w' => ∃ v, e = .returned v ∧ Q v w' :=
  calls_of_den Tryz.pnames Tryz.mixed F.size.Class.T Tryz.func166 F.size.Class.ok (es := [.va (.int .i64 p0)]) rfl (by rw [F.size.Class.den]; exact h)

-- gloaming/size.Sizes
def F.size.Sizes.T : Tabs := ⟨fun _ => [],
  fun _ => none,
  fun _ => .quiet⟩
def F.size.Sizes  : Tree :=
 nw 3 [.int .i64 2, .int .i64 4, .int .i64 8, .int .i64 16, .int .i64 32] fun b1 =>
 ret (.slice (some ⟨b1, 0, none⟩) 5 5)
theorem F.size.Sizes.den  : denF Tryz.prog F.size.Sizes.T Tryz.f167 [] = F.size.Sizes := by kernel_rfl
theorem F.size.Sizes.ok : (Tryz.f167.body.map (codeB F.size.Sizes.T)).getD false = true := by kernel_rfl
theorem F.size.Sizes.calls  {Q : Value → World → Prop} {w : World} (h : F.size.Sizes Q w) : Calls Tryz.prog 167 #[] w fun e w' => ∃ v, e = .returned v ∧ Q v w' :=
  calls_of_den Tryz.pnames Tryz.mixed F.size.Sizes.T Tryz.func167 F.size.Sizes.ok (es := []) rfl (by rw [F.size.Sizes.den]; exact h)

-- gloaming/size.Pages
def F.size.Pages.T : Tabs := ⟨fun _ => [],
  fun _ => none,
  fun _ => .quiet⟩
def F.size.Pages (p0 : Int) : Tree :=
 br (decide ((p0 : Int) < 1))
  (ret (.int .i64 0))
  (br (decide ((p0 : Int) > 1024))
   (ret (.int .i64 0))
   (call Tryz.prog 166 [.int .i64 p0] (.one (.l (.int .i64))) fun (r1 : Int) =>
   br (decide ((r1 : Int) ≥ 0))
    (ret (.int .i64 0))
    (need ((64 : Int) ≠ 0) <|
    ret (.int .i64 (IntKind.wrap .i64 (Int.tdiv (IntKind.wrap .i64 ((IntKind.wrap .i64 (p0 + 64)) - 1)) 64))))))
theorem F.size.Pages.den (p0 : Int) : denF Tryz.prog F.size.Pages.T Tryz.f168 [.va (.int .i64 p0)] = F.size.Pages p0 := by kernel_rfl
theorem F.size.Pages.ok : (Tryz.f168.body.map (codeB F.size.Pages.T)).getD false = true := by kernel_rfl
theorem F.size.Pages.calls (p0 : Int) {Q : Value → World → Prop} {w : World} (h : F.size.Pages p0 Q w) : Calls Tryz.prog 168 #[.int .i64 p0] w fun e w' => ∃ v, e = .returned v ∧ Q v w' :=
  calls_of_den Tryz.pnames Tryz.mixed F.size.Pages.T Tryz.func168 F.size.Pages.ok (es := [.va (.int .i64 p0)]) rfl (by rw [F.size.Pages.den]; exact h)

-- (*gloaming/pages.Pages).Take
def F.pages.Pages.Take.T : Tabs := ⟨fun _ => [],
  fun _ => none,
  (fun
    | 8 => .held (some 7) (.go 0 false (.go 1 false (.go 2 false (.go 3 false (.go 4 false (.go 5 false (.go 6 false (.go 7 true .nil))))))))
    | _ => .quiet)⟩
def F.pages.Pages.Take (p0 : Option Addr) (p1 : Int) : Tree :=
 br (Option.isNone p0)
  (ret (.tuple #[.int .i64 0, .int .i64 2]))
  (br (decide ((p1 : Int) < 1))
   (ret (.tuple #[.int .i64 0, .int .i64 1]))
   (nn p0 fun a1 =>
   ld (.l .ptr) (fa a1 0) fun (x2 : Option Addr) =>
   call Tryz.prog 191 [.pointer x2, .int .i64 0, .int .i64 p1] (.one (.l (.int .i64))) fun (r3 : Int) =>
   br (decide ((r3 : Int) < 0))
    (ret (.tuple #[.int .i64 0, .int .i64 3]))
    (drw <| held fun S4 =>
    nn p0 fun a5 =>
    ldS S4 (.l .ptr) (fa a5 0) fun (x6 : Option Addr) =>
    call Tryz.prog 161 [.int .i64 r3, .int .i64 p1] (.one (.l .slice)) fun (r7 : Slc) =>
    chk S4 <|
    call Tryz.prog 129 [.pointer x6, .bool true, .slice r7.a r7.n r7.c] (.one (.l (.int .i64))) fun (r8 : Int) =>
    ret (.tuple #[.int .i64 r3, .int .i64 0]))))
theorem F.pages.Pages.Take.den (p0 : Option Addr) (p1 : Int) : denF Tryz.prog F.pages.Pages.Take.T Tryz.f169 [.va (.pointer p0), .va (.int .i64 p1)] = F.pages.Pages.Take p0 p1 := by kernel_rfl
theorem F.pages.Pages.Take.ok : (Tryz.f169.body.map (codeB F.pages.Pages.Take.T)).getD false = true := by kernel_rfl
theorem F.pages.Pages.Take.calls (p0 : Option Addr) (p1 : Int) {Q : Value → World → Prop} {w : World} (h : F.pages.Pages.Take p0 p1 Q w) : Calls Tryz.prog 169 #[.pointer p0, .int .i64 p1] w fun e w' => ∃ v, e = .returned v ∧ Q v w' :=
  calls_of_den Tryz.pnames Tryz.mixed F.pages.Pages.Take.T Tryz.func169 F.pages.Pages.Take.ok (es := [.va (.pointer p0), .va (.int .i64 p1)]) rfl (by rw [F.pages.Pages.Take.den]; exact h)

-- (*gloaming/space.Space).first
def F.space.Space.first.T : Tabs := ⟨fun _ => [],
  fun _ => none,
  fun _ => .quiet⟩
def F.space.Space.first (p0 : Option Addr) (p1 : Int) : Tree :=
 call Tryz.prog 192 [.pointer p0, .int .i64 p1] (.many [.l (.int .i64), .l .bool]) fun (r1 : KTs [.l (.int .i64), .l .bool]) =>
 br r1.2.1
  (ret (.tuple #[.int .i64 r1.1, .int .i64 0]))
  (nn p0 fun a2 =>
  ld (.l .ptr) (fa a2 1) fun (x3 : Option Addr) =>
  call Tryz.prog 169 [.pointer x3, .int .i64 1] (.many [.l (.int .i64), .l (.int .i64)]) fun (r4 : KTs [.l (.int .i64), .l (.int .i64)]) =>
  br ((r4.2.1 : Int) != 0)
   (ret (.tuple #[.int .i64 0, .int .i64 r4.2.1]))
   (call Tryz.prog 193 [.int .i64 p1] (.many [.l .ptr, .l (.int .i64)]) fun (r5 : KTs [.l .ptr, .l (.int .i64)]) =>
   br ((r5.2.1 : Int) != 0)
    (ret (.tuple #[.int .i64 0, .int .i64 r5.2.1]))
    (nn p0 fun a6 =>
    ld (.l .map) (fa a6 2) fun (x7 : Option Nat) =>
    oprU Tryz.prog (Instr.mapUpdate 149 (.map x7) (.int .i64 r4.1) (.pointer r5.1)) <|
    ret (.tuple #[.int .i64 r4.1, .int .i64 0]))))
theorem F.space.Space.first.den (p0 : Option Addr) (p1 : Int) : denF Tryz.prog F.space.Space.first.T Tryz.f170 [.va (.pointer p0), .va (.int .i64 p1)] = F.space.Space.first p0 p1 := by kernel_rfl
theorem F.space.Space.first.ok : (Tryz.f170.body.map (codeB F.space.Space.first.T)).getD false = true := by kernel_rfl
theorem F.space.Space.first.calls (p0 : Option Addr) (p1 : Int) {Q : Value → World → Prop} {w : World} (h : F.space.Space.first p0 p1 Q w) : Calls Tryz.prog 170 #[.pointer p0, .int .i64 p1] w fun e w' => ∃ v, e = .returned v ∧ Q v w' :=
  calls_of_den Tryz.pnames Tryz.mixed F.space.Space.first.T Tryz.func170 F.space.Space.first.ok (es := [.va (.pointer p0), .va (.int .i64 p1)]) rfl (by rw [F.space.Space.first.den]; exact h)

-- (*gloaming/block.Page).Take
def F.block.Page.Take.T : Tabs := ⟨fun _ => [],
  fun _ => none,
  fun _ => .quiet⟩
def F.block.Page.Take (p0 : Option Addr) : Tree :=
 br (Option.isNone p0)
  (ret (.tuple #[.int .i64 0, .int .i64 2]))
  (nn p0 fun a1 =>
  ld (.l .ptr) (fa a1 0) fun (x2 : Option Addr) =>
  call Tryz.prog 93 [.pointer x2, .int .i64 0, .bool false] (.one (.l (.int .i64))) fun (r3 : Int) =>
  br (decide ((r3 : Int) < 0))
   (ret (.tuple #[.int .i64 0, .int .i64 3]))
   (nn p0 fun a4 =>
   ld (.l .ptr) (fa a4 0) fun (x5 : Option Addr) =>
   nw 3 [.int .i64 r3] fun b6 =>
   call Tryz.prog 129 [.pointer x5, .bool true, .slice (some ⟨b6, 0, none⟩) 1 1] (.one (.l (.int .i64))) fun (r7 : Int) =>
   ret (.tuple #[.int .i64 r3, .int .i64 r7])))
theorem F.block.Page.Take.den (p0 : Option Addr) : denF Tryz.prog F.block.Page.Take.T Tryz.f171 [.va (.pointer p0)] = F.block.Page.Take p0 := by kernel_rfl
theorem F.block.Page.Take.ok : (Tryz.f171.body.map (codeB F.block.Page.Take.T)).getD false = true := by kernel_rfl
theorem F.block.Page.Take.calls (p0 : Option Addr) {Q : Value → World → Prop} {w : World} (h : F.block.Page.Take p0 Q w) : Calls Tryz.prog 171 #[.pointer p0] w fun e w' => ∃ v, e = .returned v ∧ Q v w' :=
  calls_of_den Tryz.pnames Tryz.mixed F.block.Page.Take.T Tryz.func171 F.block.Page.Take.ok (es := [.va (.pointer p0)]) rfl (by rw [F.block.Page.Take.den]; exact h)

-- slices.IndexFunc[[]int,int]
def F.slices.IndexFunc.T : Tabs := ⟨(fun
    | 2 => [(8, .int .i64)]
    | _ => []),
  fun _ => none,
  fun _ => .quiet⟩
def F.slices.IndexFunc (p0 : Slc) (p1 : Value) : Tree :=
 lp [.int .i64] (fun X1 u2 => -- :t8
  br (decide ((u2.1 : Int) < (p0.n : Nat)))
   (ix p0.a p0.n u2.1 1 fun a3 =>
   ld (.l (.int .i64)) a3 fun (x4 : Int) =>
   callV Tryz.prog p1 [.int .i64 x4] (.one (.l .bool)) fun (r5 : Bool) =>
   br r5
    (ret (.int .i64 u2.1))
    (X1 (IntKind.wrap .i64 (u2.1 + 1), ())))
   (ret (.int .i64 (-1)))) (0, ())
theorem F.slices.IndexFunc.den (p0 : Slc) (p1 : Value) : denF Tryz.prog F.slices.IndexFunc.T Tryz.f190 [.va (.slice p0.a p0.n p0.c), .op p1] = F.slices.IndexFunc p0 p1 := by kernel_rfl
theorem F.slices.IndexFunc.ok : (Tryz.f190.body.map (codeB F.slices.IndexFunc.T)).getD false = true := by kernel_rfl
theorem F.slices.IndexFunc.calls (p0 : Slc) (p1 : Value) {Q : Value → World → Prop} {w : World} (h : F.slices.IndexFunc p0 p1 Q w) : Calls Tryz.prog 190 #[.slice p0.a p0.n p0.c, p1] w fun e w' => ∃ v, e = .returned v ∧ Q v w' :=
  calls_of_den Tryz.pnames Tryz.mixed F.slices.IndexFunc.T Tryz.func190 F.slices.IndexFunc.ok (es := [.va (.slice p0.a p0.n p0.c), .op p1]) rfl (by rw [F.slices.IndexFunc.den]; exact h)

-- (*gloaming/bits.Bits).Run
def F.bits.Bits.Run.T : Tabs := ⟨(fun
    | 5 => [(7, .int .i64), (8, .int .i64)]
    | _ => []),
  fun _ => none,
  fun _ => .quiet⟩
def F.bits.Bits.Run (p0 : Option Addr) (p1 : Int) (p2 : Int) : Tree :=
 br (decide ((p2 : Int) < 1))
  (ret (.int .i64 (-1)))
  (lp [.int .i64, .int .i64] (fun X1 u2 => -- free:t7,i:t8
   call Tryz.prog 133 [.pointer p0] (.one (.l (.int .i64))) fun (r3 : Int) =>
   br (decide ((u2.2.1 : Int) < r3))
    (nn p0 fun a4 =>
    ld (.l .slice) (fa a4 0) fun (x5 : Slc) =>
    ix x5.a x5.n u2.2.1 1 fun a6 =>
    ld (.l .bool) a6 fun (x7 : Bool) =>
    br x7
     (br ((0 : Int) == p2)
      (ret (.int .i64 (IntKind.wrap .i64 ((IntKind.wrap .i64 (u2.2.1 + 1)) - p2))))
      (X1 (0, IntKind.wrap .i64 (u2.2.1 + 1), ())))
     (br ((IntKind.wrap .i64 (u2.1 + 1) : Int) == p2)
      (ret (.int .i64 (IntKind.wrap .i64 ((IntKind.wrap .i64 (u2.2.1 + 1)) - p2))))
      (X1 (IntKind.wrap .i64 (u2.1 + 1), IntKind.wrap .i64 (u2.2.1 + 1), ()))))
    (ret (.int .i64 (-1)))) (0, (if (p1 : Int) > 0 then (p1 : Int) else 0), ()))
theorem F.bits.Bits.Run.den (p0 : Option Addr) (p1 : Int) (p2 : Int) : denF Tryz.prog F.bits.Bits.Run.T Tryz.f191 [.va (.pointer p0), .va (.int .i64 p1), .va (.int .i64 p2)] = F.bits.Bits.Run p0 p1 p2 := by kernel_rfl
theorem F.bits.Bits.Run.ok : (Tryz.f191.body.map (codeB F.bits.Bits.Run.T)).getD false = true := by kernel_rfl
theorem F.bits.Bits.Run.calls (p0 : Option Addr) (p1 : Int) (p2 : Int) {Q : Value → World → Prop} {w : World} (h : F.bits.Bits.Run p0 p1 p2 Q w) : Calls Tryz.prog 191 #[.pointer p0, .int .i64 p1, .int .i64 p2] w fun e w' => ∃ v, e = .returned v ∧ Q v w' :=
  calls_of_den Tryz.pnames Tryz.mixed F.bits.Bits.Run.T Tryz.func191 F.bits.Bits.Run.ok (es := [.va (.pointer p0), .va (.int .i64 p1), .va (.int .i64 p2)]) rfl (by rw [F.bits.Bits.Run.den]; exact h)

-- (*gloaming/space.Space).open
def F.space.Space.open.T : Tabs := ⟨(fun
    | 3 => [(21, .int .i64)]
    | _ => []),
  fun _ => none,
  fun _ => .quiet⟩
def F.space.Space.open (p0 : Option Addr) (p1 : Int) : Tree :=
 call Tryz.prog 167 [] (.one (.l .slice)) fun (r1 : Slc) =>
 ix r1.a r1.n p1 1 fun a2 =>
 ld (.l (.int .i64)) a2 fun (x3 : Int) =>
 nn p0 fun a4 =>
 ld (.l .map) (fa a4 2) fun (x5 : Option Nat) =>
 call Tryz.prog 204 [.map x5] (.one (.l .any)) fun (r6 : Value) =>
 call Tryz.prog 203 [r6] (.one (.l .slice)) fun (r7 : Slc) =>
 lp [.int .i64] (fun X8 u9 => -- :t21
  br (decide ((u9.1 : Int) < (r7.n : Nat)))
   (ix r7.a r7.n u9.1 1 fun a10 =>
   ld (.l (.int .i64)) a10 fun (x11 : Int) =>
   nn p0 fun a12 =>
   ld (.l .map) (fa a12 2) fun (x13 : Option Nat) =>
   opr Tryz.prog (Instr.lookup 149 (.map x13) (.int .i64 x11) false) (.one (.l .ptr)) fun (r14 : Option Addr) =>
   call Tryz.prog 119 [.pointer r14] (.one (.l (.int .i64))) fun (r15 : Int) =>
   br ((r15 : Int) == x3)
    (call Tryz.prog 205 [.pointer r14] (.one (.l .bool)) fun (r16 : Bool) =>
    br (!r16)
     (ret (.tuple #[.int .i64 x11, .bool true]))
     (X8 (IntKind.wrap .i64 (u9.1 + 1), ())))
    (X8 (IntKind.wrap .i64 (u9.1 + 1), ())))
   (ret (.tuple #[.int .i64 0, .bool false]))) (0, ())
theorem F.space.Space.open.den (p0 : Option Addr) (p1 : Int) : denF Tryz.prog F.space.Space.open.T Tryz.f192 [.va (.pointer p0), .va (.int .i64 p1)] = F.space.Space.open p0 p1 := by kernel_rfl
theorem F.space.Space.open.ok : (Tryz.f192.body.map (codeB F.space.Space.open.T)).getD false = true := by kernel_rfl
theorem F.space.Space.open.calls (p0 : Option Addr) (p1 : Int) {Q : Value → World → Prop} {w : World} (h : F.space.Space.open p0 p1 Q w) : Calls Tryz.prog 192 #[.pointer p0, .int .i64 p1] w fun e w' => ∃ v, e = .returned v ∧ Q v w' :=
  calls_of_den Tryz.pnames Tryz.mixed F.space.Space.open.T Tryz.func192 F.space.Space.open.ok (es := [.va (.pointer p0), .va (.int .i64 p1)]) rfl (by rw [F.space.Space.open.den]; exact h)

-- gloaming/block.New
def F.block.New.T : Tabs := ⟨fun _ => [],
  fun _ => none,
  fun _ => .quiet⟩
def F.block.New (p0 : Int) : Tree :=
 call Tryz.prog 167 [] (.one (.l .slice)) fun (r1 : Slc) =>
 br (decide ((p0 : Int) < 0))
  (ret (.tuple #[.pointer none, .int .i64 1]))
  (br (decide ((p0 : Int) ≥ (r1.n : Nat)))
   (ret (.tuple #[.pointer none, .int .i64 1]))
   (ix r1.a r1.n p0 1 fun a2 =>
   ld (.l (.int .i64)) a2 fun (x3 : Int) =>
   need ((x3 : Int) ≠ 0) <|
   call Tryz.prog 86 [.int .i64 (IntKind.wrap .i64 (Int.tdiv 64 x3))] (.many [.l .ptr, .l (.int .i64)]) fun (r4 : KTs [.l .ptr, .l (.int .i64)]) =>
   br ((r4.2.1 : Int) != 0)
    (ret (.tuple #[.pointer none, .int .i64 r4.2.1]))
    (ix r1.a r1.n p0 1 fun a5 =>
    ld (.l (.int .i64)) a5 fun (x6 : Int) =>
    nw 186 [.pointer r4.1, .int .i64 x6] fun b7 =>
    ret (.tuple #[.pointer (some (⟨b7, 0, none⟩)), .int .i64 0]))))
theorem F.block.New.den (p0 : Int) : denF Tryz.prog F.block.New.T Tryz.f193 [.va (.int .i64 p0)] = F.block.New p0 := by kernel_rfl
theorem F.block.New.ok : (Tryz.f193.body.map (codeB F.block.New.T)).getD false = true := by kernel_rfl
theorem F.block.New.calls (p0 : Int) {Q : Value → World → Prop} {w : World} (h : F.block.New p0 Q w) : Calls Tryz.prog 193 #[.int .i64 p0] w fun e w' => ∃ v, e = .returned v ∧ Q v w' :=
  calls_of_den Tryz.pnames Tryz.mixed F.block.New.T Tryz.func193 F.block.New.ok (es := [.va (.int .i64 p0)]) rfl (by rw [F.block.New.den]; exact h)

-- (*gloaming/block.Page).Full
def F.block.Page.Full.T : Tabs := ⟨fun _ => [],
  fun _ => none,
  (fun
    | 1 => .held (some 12) (.go 0 false (.go 1 false (.go 2 false (.go 3 false (.go 4 false (.go 5 false (.go 6 false (.go 8 false (.go 9 false (.go 10 false (.go 11 false (.go 7 false (.go 12 true (.go 13 false (.go 14 false (.go 15 false .nil))))))))))))))))
    | _ => .quiet)⟩
def F.block.Page.Full (p0 : Option Addr) : Tree :=
 drw <| held fun S1 =>
 br (!(Option.isNone p0))
  (nn p0 fun a2 =>
  ldS S1 (.l .ptr) (fa a2 0) fun (x3 : Option Addr) =>
  nn p0 fun a4 =>
  ldS S1 (.l .ptr) (fa a4 0) fun (x5 : Option Addr) =>
  call Tryz.prog 42 [.pointer x3] (.one (.l (.int .i64))) fun (r6 : Int) =>
  chk S1 <|
  call Tryz.prog 133 [.pointer x5] (.one (.l (.int .i64))) fun (r7 : Int) =>
  ret (.bool ((r6 : Int) == r7)))
  (ret (.bool false))
theorem F.block.Page.Full.den (p0 : Option Addr) : denF Tryz.prog F.block.Page.Full.T Tryz.f205 [.va (.pointer p0)] = F.block.Page.Full p0 := by kernel_rfl
theorem F.block.Page.Full.ok : (Tryz.f205.body.map (codeB F.block.Page.Full.T)).getD false = true := by kernel_rfl
theorem F.block.Page.Full.calls (p0 : Option Addr) {Q : Value → World → Prop} {w : World} (h : F.block.Page.Full p0 Q w) : Calls Tryz.prog 205 #[.pointer p0] w fun e w' => ∃ v, e = .returned v ∧ Q v w' :=
  calls_of_den Tryz.pnames Tryz.mixed F.block.Page.Full.T Tryz.func205 F.block.Page.Full.ok (es := [.va (.pointer p0)]) rfl (by rw [F.block.Page.Full.den]; exact h)
end Go.Proofs.YtapchggmifbfoaaGreat
