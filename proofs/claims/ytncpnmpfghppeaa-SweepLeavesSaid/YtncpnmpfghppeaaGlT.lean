import Derived.Test.YtncpnmpfghppeaaProg
import Derived.Test.YtncpnmpfghppeaaGlSnd6
import Derived.KernelRfl
namespace Go.Proofs.Ytncpnmpfghppeaa
open Go Go.Gl
theorem Try.pnames : plainNames Try.prog = true := by kernel_rfl
theorem Try.mixed : Try.prog.follows .mixedOrders = true := by kernel_rfl
set_option maxRecDepth 100000
set_option linter.unusedVariables false
-- gloaming/gloaminglaw9.ObjectMakes
def F.gloaminglaw9.ObjectMakes.T : Tabs := ⟨(fun
    | 6 => [(5, .int .i64), (6, .int .i64)]
    | 20 => [(14, .int .i64)]
    | _ => []),
  (fun
    | 16 => some [(5, .int .i64)]
    | _ => none),
  (fun
    | 22 => .quiet
    | _ => .quiet)⟩
def F.gloaminglaw9.ObjectMakes (p0 : Slc) : Tree :=
 call Try.prog 11 [.int .i64 100] (.many [.l .ptr, .l (.int .i64)]) fun (r1 : KTs [.l .ptr, .l (.int .i64)]) =>
 call Try.prog 12 [.pointer r1.1] (.one (.l .bool)) fun (r2 : Bool) =>
 br (!r2)
  (ret (.bool false))
  (call Try.prog 13 [.int .i64 r1.2.1] (.one (.l (.int .i64))) fun (r3 : Int) =>
  br ((r3 : Int) != 0)
   (ret (.bool false))
   (jn (fun (j5 : LTs [.int .i64]) => -- used:t5
    call Try.prog 18 [.pointer r1.1] (.one (.l .slice)) fun (r6 : Slc) =>
    br (((r6.n : Nat) : Int) != (if (30 : Int) < (p0.n : Nat) then (30 : Int) else (p0.n : Nat)))
     (ret (.bool false))
     (nn r1.1 fun a7 =>
     ld (.l .ptr) (fa a7 0) fun (x8 : Option Addr) =>
     call Try.prog 19 [.pointer x8] (.one (.l (.int .i64))) fun (r9 : Int) =>
     br ((r9 : Int) != j5.1)
      (ret (.bool false))
      (lp [.int .i64] (fun X10 u11 => -- i:t14
       br (decide ((u11.1 : Int) < (r6.n : Nat)))
        (drw <|
        br (decide ((u11.1 : Int) > 0))
         (ix r6.a r6.n u11.1 6 fun a12 =>
         ld (.l (.int .i64)) (fa a12 0) fun (x13 : Int) =>
         ix r6.a r6.n (IntKind.wrap .i64 (u11.1 - 1)) 6 fun a14 =>
         ld (.l (.int .i64)) (fa a14 0) fun (x15 : Int) =>
         br (decide ((x13 : Int) ≤ x15))
          (ret (.bool false))
          (ix r6.a r6.n u11.1 6 fun a16 =>
          ld (.l (.int .i64)) (fa (fa a16 1) 0) fun (x17 : Int) =>
          br ((x17 : Int) != 3)
           (ret (.bool false))
           (ix r6.a r6.n u11.1 6 fun a18 =>
           ld (.l .slice) (fa a18 5) fun (x19 : Slc) =>
           ix r6.a r6.n u11.1 6 fun a20 =>
           ld (.l (.int .i64)) (fa (fa a20 1) 2) fun (x21 : Int) =>
           br (((x19.n : Nat) : Int) != x21)
            (ret (.bool false))
            (ix r6.a r6.n u11.1 6 fun a22 =>
            ld (.l .slice) (fa a22 5) fun (x23 : Slc) =>
            br (decide (((x23.n : Nat) : Int) > 0))
             (ix r6.a r6.n u11.1 6 fun a24 =>
             ld (.l .slice) (fa a24 5) fun (x25 : Slc) =>
             ix x25.a x25.n (IntKind.wrap .i64 ((x23.n : Nat) - 1)) 1 fun a26 =>
             ld (.l (.int .i64)) a26 fun (x27 : Int) =>
             br (decide ((x27 : Int) < 100))
              (ret (.bool false))
              (X10 (IntKind.wrap .i64 (u11.1 + 1), ())))
             (X10 (IntKind.wrap .i64 (u11.1 + 1), ()))))))
         (ix r6.a r6.n u11.1 6 fun a12 =>
         ld (.l (.int .i64)) (fa (fa a12 1) 0) fun (x13 : Int) =>
         br ((x13 : Int) != 3)
          (ret (.bool false))
          (ix r6.a r6.n u11.1 6 fun a14 =>
          ld (.l .slice) (fa a14 5) fun (x15 : Slc) =>
          ix r6.a r6.n u11.1 6 fun a16 =>
          ld (.l (.int .i64)) (fa (fa a16 1) 2) fun (x17 : Int) =>
          br (((x15.n : Nat) : Int) != x17)
           (ret (.bool false))
           (ix r6.a r6.n u11.1 6 fun a18 =>
           ld (.l .slice) (fa a18 5) fun (x19 : Slc) =>
           br (decide (((x19.n : Nat) : Int) > 0))
            (ix r6.a r6.n u11.1 6 fun a20 =>
            ld (.l .slice) (fa a20 5) fun (x21 : Slc) =>
            ix x21.a x21.n (IntKind.wrap .i64 ((x19.n : Nat) - 1)) 1 fun a22 =>
            ld (.l (.int .i64)) a22 fun (x23 : Int) =>
            br (decide ((x23 : Int) < 100))
             (ret (.bool false))
             (X10 (IntKind.wrap .i64 (u11.1 + 1), ())))
            (X10 (IntKind.wrap .i64 (u11.1 + 1), ()))))))
        (call Try.prog 20 [] (.one (.l .bool)) fun (r12 : Bool) =>
        ret (.bool r12))) (0, ())))) fun J4 =>
   lp [.int .i64, .int .i64] (fun X13 u14 => -- used:t5,i:t6
    br (decide ((u14.2.1 : Int) < (p0.n : Nat)))
     (br (decide ((u14.2.1 : Int) < 30))
      (ix p0.a p0.n u14.2.1 1 fun a15 =>
      ld (.l (.int .u8)) a15 fun (x16 : Int) =>
      need ((100 : Int) ≠ 0) <|
      call Try.prog 14 [.pointer r1.1, .agg #[.int .i64 3, .int .i64 0, .int .i64 (Int.tmod (IntKind.wrap .i64 x16) 100), .bool false]] (.many [.l (.int .i64), .l (.int .i64)]) fun (r17 : KTs [.l (.int .i64), .l (.int .i64)]) =>
      nn r1.1 fun a18 =>
      ld (.l .ptr) (fa a18 0) fun (x19 : Option Addr) =>
      call Try.prog 15 [.pointer x19, .int .i64 r17.1] (.many [.l (.int .i64), .l (.int .i64), .l .bool]) fun (r20 : KTs [.l (.int .i64), .l (.int .i64), .l .bool]) =>
      call Try.prog 13 [.int .i64 r17.2.1] (.one (.l (.int .i64))) fun (r21 : Int) =>
      br ((r21 : Int) != 0)
       (ret (.bool false))
       (br (!r20.2.2.1)
        (ret (.bool false))
        (br ((r20.1 : Int) != r17.1)
         (ret (.bool false))
         (call Try.prog 16 [.int .i64 (IntKind.wrap .i64 ((Int.tmod (IntKind.wrap .i64 x16) 100) + 1))] (.one (.l (.int .i64))) fun (r22 : Int) =>
         br ((r20.2.1 : Int) != r22)
          (ret (.bool false))
          (br (decide ((Int.tmod (IntKind.wrap .i64 x16) 100 : Int) > 0))
           (call Try.prog 17 [.pointer r1.1, .int .i64 r17.1, .int .i64 (IntKind.wrap .i64 ((Int.tmod (IntKind.wrap .i64 x16) 100) - 1)), .int .i64 (IntKind.wrap .i64 (100 + u14.2.1))] (.one (.l (.int .i64))) fun (r23 : Int) =>
           X13 (IntKind.wrap .i64 (u14.1 + r20.2.1), IntKind.wrap .i64 (u14.2.1 + 1), ()))
           (X13 (IntKind.wrap .i64 (u14.1 + r20.2.1), IntKind.wrap .i64 (u14.2.1 + 1), ())))))))
      (J4 (u14.1, ())))
     (J4 (u14.1, ()))) (0, 0, ())))
theorem F.gloaminglaw9.ObjectMakes.den (p0 : Slc) : denF Try.prog F.gloaminglaw9.ObjectMakes.T Try.f3 [.va (.slice p0.a p0.n p0.c)] = F.gloaminglaw9.ObjectMakes p0 := by kernel_rfl
theorem F.gloaminglaw9.ObjectMakes.ok : (Try.f3.body.map (codeB F.gloaminglaw9.ObjectMakes.T)).getD false = true := by kernel_rfl
theorem F.gloaminglaw9.ObjectMakes.calls (p0 : Slc) {Q : Value → World → Prop} {w : World} (h : F.gloaminglaw9.ObjectMakes p0 Q w) : Calls Try.prog 3 #[.slice p0.a p0.n p0.c] w fun e w' => ∃ v, e = .returned v ∧ Q v w' :=
  calls_of_den Try.pnames Try.mixed F.gloaminglaw9.ObjectMakes.T Try.func3 F.gloaminglaw9.ObjectMakes.ok (es := [.va (.slice p0.a p0.n p0.c)]) rfl (by rw [F.gloaminglaw9.ObjectMakes.den]; exact h)

-- gloaming/gloaminglaw9.ObjectFields
def F.gloaminglaw9.ObjectFields.T : Tabs := ⟨(fun
    | 13 => [(20, .int .i64)]
    | _ => []),
  fun _ => none,
  (fun
    | 9 => .quiet
    | _ => .quiet)⟩
def F.gloaminglaw9.ObjectFields (p0 : Int) (p1 : Int) (p2 : Int) (p3 : Int) (p4 : Int) : Tree :=
 call Try.prog 11 [.int .i64 20] (.many [.l .ptr, .l (.int .i64)]) fun (r1 : KTs [.l .ptr, .l (.int .i64)]) =>
 call Try.prog 12 [.pointer r1.1] (.one (.l .bool)) fun (r2 : Bool) =>
 br (!r2)
  (ret (.bool false))
  (call Try.prog 13 [.int .i64 r1.2.1] (.one (.l (.int .i64))) fun (r3 : Int) =>
  br ((r3 : Int) != 0)
   (ret (.bool false))
   (need ((200 : Int) ≠ 0) <|
   call Try.prog 14 [.pointer r1.1, .agg #[.int .i64 3, .int .i64 0, .int .i64 (IntKind.wrap .i64 (1 + (Int.tmod (IntKind.wrap .i64 p0) 200))), .bool false]] (.many [.l (.int .i64), .l (.int .i64)]) fun (r4 : KTs [.l (.int .i64), .l (.int .i64)]) =>
   call Try.prog 14 [.pointer r1.1, .agg #[.int .i64 3, .int .i64 0, .int .i64 (IntKind.wrap .i64 (1 + (Int.tmod (IntKind.wrap .i64 p0) 200))), .bool false]] (.many [.l (.int .i64), .l (.int .i64)]) fun (r5 : KTs [.l (.int .i64), .l (.int .i64)]) =>
   call Try.prog 13 [.int .i64 r4.2.1] (.one (.l (.int .i64))) fun (r6 : Int) =>
   call Try.prog 13 [.int .i64 r5.2.1] (.one (.l (.int .i64))) fun (r7 : Int) =>
   br ((IntKind.wrap .i64 (r6 + r7) : Int) != 0)
    (ret (.bool false))
    (br ((r4.1 : Int) == r5.1)
     (ret (.bool false))
     (drw <|
     need ((IntKind.wrap .i64 (1 + (Int.tmod (IntKind.wrap .i64 p0) 200)) : Int) ≠ 0) <|
     need ((IntKind.wrap .i64 (1 + (Int.tmod (IntKind.wrap .i64 p0) 200)) : Int) ≠ 0) <|
     call Try.prog 17 [.pointer r1.1, .int .i64 r4.1, .int .i64 (Int.tmod (IntKind.wrap .i64 p1) (IntKind.wrap .i64 (1 + (Int.tmod (IntKind.wrap .i64 p0) 200)))), .int .i64 p3] (.one (.l (.int .i64))) fun (r8 : Int) =>
     call Try.prog 17 [.pointer r1.1, .int .i64 r5.1, .int .i64 (Int.tmod (IntKind.wrap .i64 p2) (IntKind.wrap .i64 (1 + (Int.tmod (IntKind.wrap .i64 p0) 200)))), .int .i64 p4] (.one (.l (.int .i64))) fun (r9 : Int) =>
     lp [.int .i64] (fun X10 u11 => -- m:t20
      br (decide ((u11.1 : Int) < (IntKind.wrap .i64 (1 + (Int.tmod (IntKind.wrap .i64 p0) 200)))))
       (call Try.prog 21 [.pointer r1.1, .int .i64 r4.1, .int .i64 u11.1] (.many [.l (.int .i64), .l (.int .i64)]) fun (r12 : KTs [.l (.int .i64), .l (.int .i64)]) =>
       call Try.prog 21 [.pointer r1.1, .int .i64 r5.1, .int .i64 u11.1] (.many [.l (.int .i64), .l (.int .i64)]) fun (r13 : KTs [.l (.int .i64), .l (.int .i64)]) =>
       call Try.prog 13 [.int .i64 r12.2.1] (.one (.l (.int .i64))) fun (r14 : Int) =>
       call Try.prog 13 [.int .i64 r13.2.1] (.one (.l (.int .i64))) fun (r15 : Int) =>
       br ((IntKind.wrap .i64 (r14 + r15) : Int) != 0)
        (ret (.bool false))
        (br ((u11.1 : Int) == (Int.tmod (IntKind.wrap .i64 p1) (IntKind.wrap .i64 (1 + (Int.tmod (IntKind.wrap .i64 p0) 200)))))
         (br ((r12.1 : Int) != p3)
          (ret (.bool false))
          (br ((u11.1 : Int) != (Int.tmod (IntKind.wrap .i64 p1) (IntKind.wrap .i64 (1 + (Int.tmod (IntKind.wrap .i64 p0) 200)))))
           (br ((r12.1 : Int) != 0)
            (ret (.bool false))
            (br ((u11.1 : Int) == (Int.tmod (IntKind.wrap .i64 p2) (IntKind.wrap .i64 (1 + (Int.tmod (IntKind.wrap .i64 p0) 200)))))
             (br ((r13.1 : Int) != p4)
              (ret (.bool false))
              (br ((u11.1 : Int) != (Int.tmod (IntKind.wrap .i64 p2) (IntKind.wrap .i64 (1 + (Int.tmod (IntKind.wrap .i64 p0) 200)))))
               (br ((r13.1 : Int) != 0)
                (ret (.bool false))
                (X10 (IntKind.wrap .i64 (u11.1 + 1), ())))
               (X10 (IntKind.wrap .i64 (u11.1 + 1), ()))))
             (br ((u11.1 : Int) != (Int.tmod (IntKind.wrap .i64 p2) (IntKind.wrap .i64 (1 + (Int.tmod (IntKind.wrap .i64 p0) 200)))))
              (br ((r13.1 : Int) != 0)
               (ret (.bool false))
               (X10 (IntKind.wrap .i64 (u11.1 + 1), ())))
              (X10 (IntKind.wrap .i64 (u11.1 + 1), ())))))
           (br ((u11.1 : Int) == (Int.tmod (IntKind.wrap .i64 p2) (IntKind.wrap .i64 (1 + (Int.tmod (IntKind.wrap .i64 p0) 200)))))
            (br ((r13.1 : Int) != p4)
             (ret (.bool false))
             (br ((u11.1 : Int) != (Int.tmod (IntKind.wrap .i64 p2) (IntKind.wrap .i64 (1 + (Int.tmod (IntKind.wrap .i64 p0) 200)))))
              (br ((r13.1 : Int) != 0)
               (ret (.bool false))
               (X10 (IntKind.wrap .i64 (u11.1 + 1), ())))
              (X10 (IntKind.wrap .i64 (u11.1 + 1), ()))))
            (br ((u11.1 : Int) != (Int.tmod (IntKind.wrap .i64 p2) (IntKind.wrap .i64 (1 + (Int.tmod (IntKind.wrap .i64 p0) 200)))))
             (br ((r13.1 : Int) != 0)
              (ret (.bool false))
              (X10 (IntKind.wrap .i64 (u11.1 + 1), ())))
             (X10 (IntKind.wrap .i64 (u11.1 + 1), ()))))))
         (br ((u11.1 : Int) != (Int.tmod (IntKind.wrap .i64 p1) (IntKind.wrap .i64 (1 + (Int.tmod (IntKind.wrap .i64 p0) 200)))))
          (br ((r12.1 : Int) != 0)
           (ret (.bool false))
           (br ((u11.1 : Int) == (Int.tmod (IntKind.wrap .i64 p2) (IntKind.wrap .i64 (1 + (Int.tmod (IntKind.wrap .i64 p0) 200)))))
            (br ((r13.1 : Int) != p4)
             (ret (.bool false))
             (br ((u11.1 : Int) != (Int.tmod (IntKind.wrap .i64 p2) (IntKind.wrap .i64 (1 + (Int.tmod (IntKind.wrap .i64 p0) 200)))))
              (br ((r13.1 : Int) != 0)
               (ret (.bool false))
               (X10 (IntKind.wrap .i64 (u11.1 + 1), ())))
              (X10 (IntKind.wrap .i64 (u11.1 + 1), ()))))
            (br ((u11.1 : Int) != (Int.tmod (IntKind.wrap .i64 p2) (IntKind.wrap .i64 (1 + (Int.tmod (IntKind.wrap .i64 p0) 200)))))
             (br ((r13.1 : Int) != 0)
              (ret (.bool false))
              (X10 (IntKind.wrap .i64 (u11.1 + 1), ())))
             (X10 (IntKind.wrap .i64 (u11.1 + 1), ())))))
          (br ((u11.1 : Int) == (Int.tmod (IntKind.wrap .i64 p2) (IntKind.wrap .i64 (1 + (Int.tmod (IntKind.wrap .i64 p0) 200)))))
           (br ((r13.1 : Int) != p4)
            (ret (.bool false))
            (br ((u11.1 : Int) != (Int.tmod (IntKind.wrap .i64 p2) (IntKind.wrap .i64 (1 + (Int.tmod (IntKind.wrap .i64 p0) 200)))))
             (br ((r13.1 : Int) != 0)
              (ret (.bool false))
              (X10 (IntKind.wrap .i64 (u11.1 + 1), ())))
             (X10 (IntKind.wrap .i64 (u11.1 + 1), ()))))
           (br ((u11.1 : Int) != (Int.tmod (IntKind.wrap .i64 p2) (IntKind.wrap .i64 (1 + (Int.tmod (IntKind.wrap .i64 p0) 200)))))
            (br ((r13.1 : Int) != 0)
             (ret (.bool false))
             (X10 (IntKind.wrap .i64 (u11.1 + 1), ())))
            (X10 (IntKind.wrap .i64 (u11.1 + 1), ())))))))
       (call Try.prog 21 [.pointer r1.1, .int .i64 r4.1, .int .i64 (IntKind.wrap .i64 (1 + (Int.tmod (IntKind.wrap .i64 p0) 200)))] (.many [.l (.int .i64), .l (.int .i64)]) fun (r12 : KTs [.l (.int .i64), .l (.int .i64)]) =>
       call Try.prog 17 [.pointer r1.1, .int .i64 r4.1, .int .i64 (-1), .int .i64 5] (.one (.l (.int .i64))) fun (r13 : Int) =>
       call Try.prog 22 [.pointer none, .int .i64 64] (.many [.g [.int .i64, .int .i64, .int .i64, .bool], .l (.int .i64)]) fun (r14 : KTs [.g [.int .i64, .int .i64, .int .i64, .bool], .l (.int .i64)]) =>
       nw 32 (zc Try.prog 32) fun b15 =>
       st (⟨b15, 0, none⟩) [.int .i64 r14.1.1, .int .i64 r14.1.2.1, .int .i64 r14.1.2.2.1, .bool r14.1.2.2.2.1] <|
       call Try.prog 14 [.pointer none, .agg #[.int .i64 3, .int .i64 0, .int .i64 0, .bool false]] (.many [.l (.int .i64), .l (.int .i64)]) fun (r16 : KTs [.l (.int .i64), .l (.int .i64)]) =>
       call Try.prog 13 [.int .i64 r12.2.1] (.one (.l (.int .i64))) fun (r17 : Int) =>
       br ((r17 : Int) == 1)
        (call Try.prog 13 [.int .i64 r13] (.one (.l (.int .i64))) fun (r18 : Int) =>
        br ((r18 : Int) == 1)
         (call Try.prog 13 [.int .i64 r14.2.1] (.one (.l (.int .i64))) fun (r19 : Int) =>
         br ((r19 : Int) == 2)
          (call Try.prog 13 [.int .i64 r16.2.1] (.one (.l (.int .i64))) fun (r20 : Int) =>
          br ((r20 : Int) == 2)
           (call Try.prog 18 [.pointer none] (.one (.l .slice)) fun (r21 : Slc) =>
           br (((r21.n : Nat) : Int) == 0)
            (call Try.prog 23 [.pointer none, .int .i64 64] (.one (.l .slice)) fun (r22 : Slc) =>
            br (((r22.n : Nat) : Int) == 0)
             (call Try.prog 20 [] (.one (.l .bool)) fun (r23 : Bool) =>
             ret (.bool r23))
             (ret (.bool false)))
            (ret (.bool false)))
           (ret (.bool false)))
          (ret (.bool false)))
         (ret (.bool false)))
        (ret (.bool false)))) (0, ())))))
theorem F.gloaminglaw9.ObjectFields.den (p0 : Int) (p1 : Int) (p2 : Int) (p3 : Int) (p4 : Int) : denF Try.prog F.gloaminglaw9.ObjectFields.T Try.f4 [.va (.int .u8 p0), .va (.int .u8 p1), .va (.int .u8 p2), .va (.int .i64 p3), .va (.int .i64 p4)] = F.gloaminglaw9.ObjectFields p0 p1 p2 p3 p4 := by kernel_rfl
theorem F.gloaminglaw9.ObjectFields.ok : (Try.f4.body.map (codeB F.gloaminglaw9.ObjectFields.T)).getD false = true := by kernel_rfl
theorem F.gloaminglaw9.ObjectFields.calls (p0 : Int) (p1 : Int) (p2 : Int) (p3 : Int) (p4 : Int) {Q : Value → World → Prop} {w : World} (h : F.gloaminglaw9.ObjectFields p0 p1 p2 p3 p4 Q w) : Calls Try.prog 4 #[.int .u8 p0, .int .u8 p1, .int .u8 p2, .int .i64 p3, .int .i64 p4] w fun e w' => ∃ v, e = .returned v ∧ Q v w' :=
  calls_of_den Try.pnames Try.mixed F.gloaminglaw9.ObjectFields.T Try.func4 F.gloaminglaw9.ObjectFields.ok (es := [.va (.int .u8 p0), .va (.int .u8 p1), .va (.int .u8 p2), .va (.int .i64 p3), .va (.int .i64 p4)]) rfl (by rw [F.gloaminglaw9.ObjectFields.den]; exact h)

-- gloaming/gloaminglaw9.ObjectGone
def F.gloaminglaw9.ObjectGone.T : Tabs := ⟨(fun
    | 9 => [(14, .int .i64)]
    | 17 => [(21, .int .i64)]
    | _ => []),
  fun _ => none,
  fun _ => .quiet⟩
def F.gloaminglaw9.ObjectGone (p0 : Int) (p1 : Int) : Tree :=
 call Try.prog 11 [.int .i64 20] (.many [.l .ptr, .l (.int .i64)]) fun (r1 : KTs [.l .ptr, .l (.int .i64)]) =>
 call Try.prog 11 [.int .i64 20] (.many [.l .ptr, .l (.int .i64)]) fun (r2 : KTs [.l .ptr, .l (.int .i64)]) =>
 call Try.prog 12 [.pointer r1.1] (.one (.l .bool)) fun (r3 : Bool) =>
 br (!r3)
  (ret (.bool false))
  (call Try.prog 12 [.pointer r2.1] (.one (.l .bool)) fun (r4 : Bool) =>
  br (!r4)
   (ret (.bool false))
   (call Try.prog 13 [.int .i64 r1.2.1] (.one (.l (.int .i64))) fun (r5 : Int) =>
   call Try.prog 13 [.int .i64 r2.2.1] (.one (.l (.int .i64))) fun (r6 : Int) =>
   br ((IntKind.wrap .i64 (r5 + r6) : Int) != 0)
    (ret (.bool false))
    (need ((100 : Int) ≠ 0) <|
    call Try.prog 14 [.pointer r1.1, .agg #[.int .i64 3, .int .i64 0, .int .i64 (IntKind.wrap .i64 (1 + (Int.tmod (IntKind.wrap .i64 p0) 100))), .bool false]] (.many [.l (.int .i64), .l (.int .i64)]) fun (r7 : KTs [.l (.int .i64), .l (.int .i64)]) =>
    call Try.prog 14 [.pointer r2.1, .agg #[.int .i64 2, .int .i64 0, .int .i64 (IntKind.wrap .i64 (1 + (Int.tmod (IntKind.wrap .i64 p0) 100))), .bool false]] (.many [.l (.int .i64), .l (.int .i64)]) fun (r8 : KTs [.l (.int .i64), .l (.int .i64)]) =>
    lp [.int .i64] (fun X9 u10 => -- m:t14
     br (decide ((u10.1 : Int) < (IntKind.wrap .i64 (1 + (Int.tmod (IntKind.wrap .i64 p0) 100)))))
      (call Try.prog 17 [.pointer r1.1, .int .i64 r7.1, .int .i64 u10.1, .int .i64 p1] (.one (.l (.int .i64))) fun (r11 : Int) =>
      X9 (IntKind.wrap .i64 (u10.1 + 1), ()))
      (nn r1.1 fun a11 =>
      ld (.l .ptr) (fa a11 0) fun (x12 : Option Addr) =>
      call Try.prog 24 [.pointer x12, .int .i64 r7.1] (.one (.l (.int .i64))) fun (r13 : Int) =>
      call Try.prog 22 [.pointer r1.1, .int .i64 r7.1] (.many [.g [.int .i64, .int .i64, .int .i64, .bool], .l (.int .i64)]) fun (r14 : KTs [.g [.int .i64, .int .i64, .int .i64, .bool], .l (.int .i64)]) =>
      nw 32 (zc Try.prog 32) fun b15 =>
      st (⟨b15, 0, none⟩) [.int .i64 r14.1.1, .int .i64 r14.1.2.1, .int .i64 r14.1.2.2.1, .bool r14.1.2.2.2.1] <|
      call Try.prog 18 [.pointer r1.1] (.one (.l .slice)) fun (r16 : Slc) =>
      call Try.prog 14 [.pointer r1.1, .agg #[.int .i64 2, .int .i64 0, .int .i64 (IntKind.wrap .i64 (1 + (Int.tmod (IntKind.wrap .i64 p0) 100))), .bool false]] (.many [.l (.int .i64), .l (.int .i64)]) fun (r17 : KTs [.l (.int .i64), .l (.int .i64)]) =>
      lp [.int .i64] (fun X18 u19 => -- m:t21
       br (decide ((u19.1 : Int) < (IntKind.wrap .i64 (1 + (Int.tmod (IntKind.wrap .i64 p0) 100)))))
        (call Try.prog 21 [.pointer r1.1, .int .i64 r17.1, .int .i64 u19.1] (.many [.l (.int .i64), .l (.int .i64)]) fun (r20 : KTs [.l (.int .i64), .l (.int .i64)]) =>
        br ((r20.1 : Int) != 0)
         (ret (.bool false))
         (call Try.prog 13 [.int .i64 r20.2.1] (.one (.l (.int .i64))) fun (r21 : Int) =>
         br ((r21 : Int) != 0)
          (ret (.bool false))
          (X18 (IntKind.wrap .i64 (u19.1 + 1), ()))))
        (call Try.prog 22 [.pointer r2.1, .int .i64 r8.1] (.many [.g [.int .i64, .int .i64, .int .i64, .bool], .l (.int .i64)]) fun (r20 : KTs [.g [.int .i64, .int .i64, .int .i64, .bool], .l (.int .i64)]) =>
        nw 32 (zc Try.prog 32) fun b21 =>
        st (⟨b21, 0, none⟩) [.int .i64 r20.1.1, .int .i64 r20.1.2.1, .int .i64 r20.1.2.2.1, .bool r20.1.2.2.2.1] <|
        br ((r7.1 : Int) == 64)
         (br ((r8.1 : Int) == 64)
          (br ((r17.1 : Int) == 64)
           (call Try.prog 13 [.int .i64 r7.2.1] (.one (.l (.int .i64))) fun (r22 : Int) =>
           call Try.prog 13 [.int .i64 r8.2.1] (.one (.l (.int .i64))) fun (r23 : Int) =>
           call Try.prog 13 [.int .i64 r13] (.one (.l (.int .i64))) fun (r24 : Int) =>
           call Try.prog 13 [.int .i64 r17.2.1] (.one (.l (.int .i64))) fun (r25 : Int) =>
           call Try.prog 13 [.int .i64 r20.2.1] (.one (.l (.int .i64))) fun (r26 : Int) =>
           br ((IntKind.wrap .i64 ((IntKind.wrap .i64 ((IntKind.wrap .i64 ((IntKind.wrap .i64 (r22 + r23)) + r24)) + r25)) + r26) : Int) == 0)
            (call Try.prog 13 [.int .i64 r14.2.1] (.one (.l (.int .i64))) fun (r27 : Int) =>
            br ((r27 : Int) == 2)
             (br (((r16.n : Nat) : Int) == 0)
              (ld (.l (.int .i64)) (fa (⟨b21, 0, none⟩) 0) fun (x28 : Int) =>
              br ((x28 : Int) == 2)
               (call Try.prog 18 [.pointer r2.1] (.one (.l .slice)) fun (r29 : Slc) =>
               br (((r29.n : Nat) : Int) == 1)
                (call Try.prog 20 [] (.one (.l .bool)) fun (r30 : Bool) =>
                ret (.bool r30))
                (ret (.bool false)))
               (ret (.bool false)))
              (ret (.bool false)))
             (ret (.bool false)))
            (ret (.bool false)))
           (ret (.bool false)))
          (ret (.bool false)))
         (ret (.bool false)))) (0, ()))) (0, ()))))
theorem F.gloaminglaw9.ObjectGone.den (p0 : Int) (p1 : Int) : denF Try.prog F.gloaminglaw9.ObjectGone.T Try.f5 [.va (.int .u8 p0), .va (.int .i64 p1)] = F.gloaminglaw9.ObjectGone p0 p1 := by kernel_rfl
theorem F.gloaminglaw9.ObjectGone.ok : (Try.f5.body.map (codeB F.gloaminglaw9.ObjectGone.T)).getD false = true := by kernel_rfl
theorem F.gloaminglaw9.ObjectGone.calls (p0 : Int) (p1 : Int) {Q : Value → World → Prop} {w : World} (h : F.gloaminglaw9.ObjectGone p0 p1 Q w) : Calls Try.prog 5 #[.int .u8 p0, .int .i64 p1] w fun e w' => ∃ v, e = .returned v ∧ Q v w' :=
  calls_of_den Try.pnames Try.mixed F.gloaminglaw9.ObjectGone.T Try.func5 F.gloaminglaw9.ObjectGone.ok (es := [.va (.int .u8 p0), .va (.int .i64 p1)]) rfl (by rw [F.gloaminglaw9.ObjectGone.den]; exact h)

-- gloaming/gloaminglaw9.ObjectRefuses
def F.gloaminglaw9.ObjectRefuses.T : Tabs := ⟨fun _ => [],
  (fun
    | 15 => some [(1, .int .i64)]
    | _ => none),
  fun _ => .quiet⟩
def F.gloaminglaw9.ObjectRefuses (p0 : Int) (p1 : Int) : Tree :=
 call Try.prog 11 [.int .i64 40] (.many [.l .ptr, .l (.int .i64)]) fun (r1 : KTs [.l .ptr, .l (.int .i64)]) =>
 call Try.prog 12 [.pointer r1.1] (.one (.l .bool)) fun (r2 : Bool) =>
 br (!r2)
  (ret (.bool false))
  (call Try.prog 13 [.int .i64 r1.2.1] (.one (.l (.int .i64))) fun (r3 : Int) =>
  br ((r3 : Int) != 0)
   (ret (.bool false))
   (nn r1.1 fun a4 =>
   ld (.l .ptr) (fa a4 1) fun (x5 : Option Addr) =>
   nw 3 [.int .i64 1] fun b6 =>
   call Try.prog 25 [.pointer x5, .int .i64 3, .slice (some ⟨b6, 0, none⟩) 1 1] (.many [.l (.int .i64), .l (.int .i64)]) fun (r7 : KTs [.l (.int .i64), .l (.int .i64)]) =>
   call Try.prog 14 [.pointer r1.1, .agg #[.int .i64 0, .int .i64 0, .int .i64 0, .bool false]] (.many [.l (.int .i64), .l (.int .i64)]) fun (r8 : KTs [.l (.int .i64), .l (.int .i64)]) =>
   call Try.prog 14 [.pointer r1.1, .agg #[.int .i64 3, .int .i64 0, .int .i64 1, .bool true]] (.many [.l (.int .i64), .l (.int .i64)]) fun (r9 : KTs [.l (.int .i64), .l (.int .i64)]) =>
   call Try.prog 14 [.pointer r1.1, .agg #[.int .i64 1, .int .i64 (IntKind.wrap .i64 (r7.1 + 1)), .int .i64 3, .bool false]] (.many [.l (.int .i64), .l (.int .i64)]) fun (r10 : KTs [.l (.int .i64), .l (.int .i64)]) =>
   call Try.prog 14 [.pointer r1.1, .agg #[.int .i64 1, .int .i64 r7.1, .int .i64 2, .bool false]] (.many [.l (.int .i64), .l (.int .i64)]) fun (r11 : KTs [.l (.int .i64), .l (.int .i64)]) =>
   call Try.prog 18 [.pointer r1.1] (.one (.l .slice)) fun (r12 : Slc) =>
   br (((r12.n : Nat) : Int) != 0)
    (ret (.bool false))
    (call Try.prog 14 [.pointer r1.1, .agg #[.int .i64 1, .int .i64 r7.1, .int .i64 3, .bool false]] (.many [.l (.int .i64), .l (.int .i64)]) fun (r13 : KTs [.l (.int .i64), .l (.int .i64)]) =>
    need ((3 : Int) ≠ 0) <|
    call Try.prog 22 [.pointer r1.1, .int .i64 (IntKind.wrap .i64 ((IntKind.wrap .i64 (r13.1 + 1)) + (Int.tmod (IntKind.wrap .i64 p0) 3)))] (.many [.g [.int .i64, .int .i64, .int .i64, .bool], .l (.int .i64)]) fun (r14 : KTs [.g [.int .i64, .int .i64, .int .i64, .bool], .l (.int .i64)]) =>
    nw 32 (zc Try.prog 32) fun b15 =>
    st (⟨b15, 0, none⟩) [.int .i64 r14.1.1, .int .i64 r14.1.2.1, .int .i64 r14.1.2.2.1, .bool r14.1.2.2.2.1] <|
    jn (fun (j17 : LTs [.int .i64]) => -- odd:t1
     call Try.prog 21 [.pointer r1.1, .int .i64 j17.1, .int .i64 0] (.many [.l (.int .i64), .l (.int .i64)]) fun (r18 : KTs [.l (.int .i64), .l (.int .i64)]) =>
     call Try.prog 17 [.pointer r1.1, .int .i64 j17.1, .int .i64 0, .int .i64 1] (.one (.l (.int .i64))) fun (r19 : Int) =>
     call Try.prog 26 [.pointer r1.1, .int .i64 j17.1] (.one (.l (.int .i64))) fun (r20 : Int) =>
     call Try.prog 11 [.int .i64 0] (.many [.l .ptr, .l (.int .i64)]) fun (r21 : KTs [.l .ptr, .l (.int .i64)]) =>
     call Try.prog 13 [.int .i64 r7.2.1] (.one (.l (.int .i64))) fun (r22 : Int) =>
     br ((r22 : Int) == 0)
      (call Try.prog 13 [.int .i64 r8.2.1] (.one (.l (.int .i64))) fun (r23 : Int) =>
      br ((r23 : Int) == 1)
       (call Try.prog 13 [.int .i64 r9.2.1] (.one (.l (.int .i64))) fun (r24 : Int) =>
       br ((r24 : Int) == 1)
        (call Try.prog 13 [.int .i64 r10.2.1] (.one (.l (.int .i64))) fun (r25 : Int) =>
        br ((r25 : Int) == 2)
         (call Try.prog 13 [.int .i64 r11.2.1] (.one (.l (.int .i64))) fun (r26 : Int) =>
         br ((r26 : Int) == 1)
          (call Try.prog 13 [.int .i64 r13.2.1] (.one (.l (.int .i64))) fun (r27 : Int) =>
          br ((r27 : Int) == 0)
           (call Try.prog 13 [.int .i64 r14.2.1] (.one (.l (.int .i64))) fun (r28 : Int) =>
           br ((r28 : Int) == 2)
            (call Try.prog 13 [.int .i64 r18.2.1] (.one (.l (.int .i64))) fun (r29 : Int) =>
            br ((r29 : Int) == 2)
             (call Try.prog 13 [.int .i64 r19] (.one (.l (.int .i64))) fun (r30 : Int) =>
             br ((r30 : Int) == 2)
              (call Try.prog 13 [.int .i64 r20] (.one (.l (.int .i64))) fun (r31 : Int) =>
              br ((r31 : Int) == 2)
               (call Try.prog 13 [.int .i64 r21.2.1] (.one (.l (.int .i64))) fun (r32 : Int) =>
               br ((r32 : Int) == 1)
                (call Try.prog 20 [] (.one (.l .bool)) fun (r33 : Bool) =>
                ret (.bool r33))
                (ret (.bool false)))
               (ret (.bool false)))
              (ret (.bool false)))
             (ret (.bool false)))
            (ret (.bool false)))
           (ret (.bool false)))
          (ret (.bool false)))
         (ret (.bool false)))
        (ret (.bool false)))
       (ret (.bool false)))
      (ret (.bool false))) fun J16 =>
    br ((p1 : Int) == r13.1)
     (J16 (0, ()))
     (J16 (p1, ())))))
theorem F.gloaminglaw9.ObjectRefuses.den (p0 : Int) (p1 : Int) : denF Try.prog F.gloaminglaw9.ObjectRefuses.T Try.f6 [.va (.int .u8 p0), .va (.int .i64 p1)] = F.gloaminglaw9.ObjectRefuses p0 p1 := by kernel_rfl
theorem F.gloaminglaw9.ObjectRefuses.ok : (Try.f6.body.map (codeB F.gloaminglaw9.ObjectRefuses.T)).getD false = true := by kernel_rfl
theorem F.gloaminglaw9.ObjectRefuses.calls (p0 : Int) (p1 : Int) {Q : Value → World → Prop} {w : World} (h : F.gloaminglaw9.ObjectRefuses p0 p1 Q w) : Calls Try.prog 6 #[.int .u8 p0, .int .i64 p1] w fun e w' => ∃ v, e = .returned v ∧ Q v w' :=
  calls_of_den Try.pnames Try.mixed F.gloaminglaw9.ObjectRefuses.T Try.func6 F.gloaminglaw9.ObjectRefuses.ok (es := [.va (.int .u8 p0), .va (.int .i64 p1)]) rfl (by rw [F.gloaminglaw9.ObjectRefuses.den]; exact h)

-- gloaming/gloaminglaw9.ObjectClasses
def F.gloaminglaw9.ObjectClasses.T : Tabs := ⟨(fun
    | 7 => [(6, .slice), (7, .int .i64)]
    | 16 => [(13, .int .i64)]
    | _ => []),
  (fun
    | 21 => some [(17, .adr), (18, .int .i64)]
    | _ => none),
  (fun
    | 10 => .held (some 13) (.go 0 false (.go 1 false (.go 2 false (.go 3 false (.go 4 false (.go 5 false (.go 6 false (.go 7 false (.go 8 false (.go 9 false (.go 10 false (.go 11 false (.go 12 false (.go 13 true (.go 14 false (.go 15 false (.go 16 false (.go 17 false (.go 18 false .nil)))))))))))))))))))
    | 20 => .held (some 6) (.go 0 false (.go 1 false (.go 2 false (.go 3 false (.go 4 false (.go 5 false (.two (.go 6 true (.go 7 false (.go 8 false (.go 9 false (.go 10 false (.go 11 false (.go 12 false .nil))))))) (.go 10 false (.go 6 true (.go 7 false (.go 8 false (.go 9 false (.go 11 false (.go 12 false .nil))))))))))))))
    | 21 => .held (some 40) (.go 0 false (.go 2 false (.go 1 false (.go 3 false (.go 4 false (.go 5 false (.go 6 false (.go 7 false (.go 8 false (.go 9 false (.go 10 false (.go 11 false (.go 12 false (.go 13 false (.go 14 false (.go 15 false (.go 16 false (.go 17 false (.go 18 false (.go 19 false (.go 20 false (.go 21 false (.go 22 false (.go 23 false (.go 24 false (.go 25 false (.go 26 false (.go 27 false (.go 28 false (.go 29 false (.go 30 false (.go 32 false (.go 33 false (.go 34 false (.go 35 false (.go 36 false (.go 37 false (.go 38 false (.two (.go 31 false (.go 39 false (.go 40 true (.go 41 false (.go 42 false .nil))))) (.go 39 false (.go 31 false (.go 40 true (.go 41 false (.go 42 false .nil))))))))))))))))))))))))))))))))))))))))))))
    | _ => .quiet)⟩
def F.gloaminglaw9.ObjectClasses (p0 : Slc) : Tree :=
 call Try.prog 11 [.int .i64 60] (.many [.l .ptr, .l (.int .i64)]) fun (r1 : KTs [.l .ptr, .l (.int .i64)]) =>
 call Try.prog 12 [.pointer r1.1] (.one (.l .bool)) fun (r2 : Bool) =>
 br (!r2)
  (ret (.bool false))
  (call Try.prog 13 [.int .i64 r1.2.1] (.one (.l (.int .i64))) fun (r3 : Int) =>
  br ((r3 : Int) != 0)
   (ret (.bool false))
   (lp [.slice, .int .i64] (fun X4 u5 => -- ats:t6,i:t7
    br (decide ((u5.2.1 : Int) < (if (20 : Int) < (p0.n : Nat) then (20 : Int) else (p0.n : Nat))))
     (ix p0.a p0.n u5.2.1 1 fun a6 =>
     ld (.l (.int .u8)) a6 fun (x7 : Int) =>
     need ((20 : Int) ≠ 0) <|
     drw <| held fun S8 =>
     nn r1.1 fun a9 =>
     ldS S8 (.l .ptr) (fa a9 1) fun (x10 : Option Addr) =>
     ix p0.a p0.n u5.2.1 1 fun a11 =>
     ldS S8 (.l (.int .u8)) a11 fun (x12 : Int) =>
     need ((IntKind.wrap .i64 (2 + (Int.tmod (IntKind.wrap .i64 x7) 20)) : Int) ≠ 0) <|
     nw 3 [.int .i64 (Int.tmod (IntKind.wrap .i64 x12) (IntKind.wrap .i64 (2 + (Int.tmod (IntKind.wrap .i64 x7) 20))))] fun b13 =>
     chk S8 <|
     call Try.prog 25 [.pointer x10, .int .i64 (IntKind.wrap .i64 (2 + (Int.tmod (IntKind.wrap .i64 x7) 20))), .slice (some ⟨b13, 0, none⟩) 1 1] (.many [.l (.int .i64), .l (.int .i64)]) fun (r14 : KTs [.l (.int .i64), .l (.int .i64)]) =>
     call Try.prog 14 [.pointer r1.1, .agg #[.int .i64 1, .int .i64 r14.1, .int .i64 (IntKind.wrap .i64 (2 + (Int.tmod (IntKind.wrap .i64 x7) 20))), .bool false]] (.many [.l (.int .i64), .l (.int .i64)]) fun (r15 : KTs [.l (.int .i64), .l (.int .i64)]) =>
     br ((r14.1 : Int) != (IntKind.wrap .i64 (u5.2.1 + 1)))
      (ret (.bool false))
      (call Try.prog 13 [.int .i64 r14.2.1] (.one (.l (.int .i64))) fun (r16 : Int) =>
      call Try.prog 13 [.int .i64 r15.2.1] (.one (.l (.int .i64))) fun (r17 : Int) =>
      br ((IntKind.wrap .i64 (r16 + r17) : Int) != 0)
       (ret (.bool false))
       (nw 3 [.int .i64 r15.1] fun b18 =>
       opr Try.prog (Builtin.append_ #[44, 44] 44 #[.slice u5.1.a u5.1.n u5.1.c, .slice (some ⟨b18, 0, none⟩) 1 1]) (.one (.l .slice)) fun (r19 : Slc) =>
       X4 (⟨r19.a, r19.n, r19.c⟩, IntKind.wrap .i64 (u5.2.1 + 1), ()))))
     (lp [.int .i64] (fun X6 u7 => -- i:t13
      br (decide ((u7.1 : Int) < (if (20 : Int) < (p0.n : Nat) then (20 : Int) else (p0.n : Nat))))
       (ix p0.a p0.n u7.1 1 fun a8 =>
       ld (.l (.int .u8)) a8 fun (x9 : Int) =>
       need ((20 : Int) ≠ 0) <|
       ix u5.1.a u5.1.n u7.1 1 fun a10 =>
       ld (.l (.int .i64)) a10 fun (x11 : Int) =>
       call Try.prog 22 [.pointer r1.1, .int .i64 x11] (.many [.g [.int .i64, .int .i64, .int .i64, .bool], .l (.int .i64)]) fun (r12 : KTs [.g [.int .i64, .int .i64, .int .i64, .bool], .l (.int .i64)]) =>
       nw 32 (zc Try.prog 32) fun b13 =>
       st (⟨b13, 0, none⟩) [.int .i64 r12.1.1, .int .i64 r12.1.2.1, .int .i64 r12.1.2.2.1, .bool r12.1.2.2.2.1] <|
       jn (fun (j15 : LTs [.adr, .int .i64]) => -- c:t17,g:t18
        drw <| held fun S16 =>
        call Try.prog 13 [.int .i64 r12.2.1] (.one (.l (.int .i64))) fun (r17 : Int) =>
        chk S16 <|
        call Try.prog 13 [.int .i64 j15.2.1] (.one (.l (.int .i64))) fun (r18 : Int) =>
        chk S16 <|
        br ((IntKind.wrap .i64 (r17 + r18) : Int) != 0)
         (both
          (ret (.bool false))
          (ret (.bool false)))
         (ldS S16 (.l (.int .i64)) (fa (⟨b13, 0, none⟩) 1) fun (x19 : Int) =>
         br ((x19 : Int) != (IntKind.wrap .i64 (u7.1 + 1)))
          (both
           (ret (.bool false))
           (ret (.bool false)))
          (ldS S16 (.l (.int .i64)) (fa (⟨b13, 0, none⟩) 2) fun (x20 : Int) =>
          br ((x20 : Int) != (IntKind.wrap .i64 (2 + (Int.tmod (IntKind.wrap .i64 x9) 20))))
           (both
            (ret (.bool false))
            (ret (.bool false)))
           (ldS S16 (.l (.int .i64)) (fa j15.1 0) fun (x21 : Int) =>
           br ((x21 : Int) != (IntKind.wrap .i64 (2 + (Int.tmod (IntKind.wrap .i64 x9) 20))))
            (both
             (ret (.bool false))
             (ret (.bool false)))
            (ix u5.1.a u5.1.n u7.1 1 fun a22 =>
            ldS S16 (.l (.int .i64)) a22 fun (x23 : Int) =>
            ix p0.a p0.n u7.1 1 fun a24 =>
            ldS S16 (.l (.int .u8)) a24 fun (x25 : Int) =>
            need ((IntKind.wrap .i64 (2 + (Int.tmod (IntKind.wrap .i64 x9) 20)) : Int) ≠ 0) <|
            both
             (call Try.prog 23 [.pointer r1.1, .int .i64 x23] (.one (.l .slice)) fun (r26 : Slc) =>
             chk S16 <|
             nw 3 [.int .i64 (Int.tmod (IntKind.wrap .i64 x25) (IntKind.wrap .i64 (2 + (Int.tmod (IntKind.wrap .i64 x9) 20))))] fun b27 =>
             chk S16 <|
             call Try.prog 28 [.slice r26.a r26.n r26.c, .slice (some ⟨b27, 0, none⟩) 1 1] (.one (.l .bool)) fun (r28 : Bool) =>
             br (!r28)
              (ret (.bool false))
              (X6 (IntKind.wrap .i64 (u7.1 + 1), ())))
             (nw 3 [.int .i64 (Int.tmod (IntKind.wrap .i64 x25) (IntKind.wrap .i64 (2 + (Int.tmod (IntKind.wrap .i64 x9) 20))))] fun b29 =>
             chk S16 <|
             call Try.prog 23 [.pointer r1.1, .int .i64 x23] (.one (.l .slice)) fun (r30 : Slc) =>
             chk S16 <|
             call Try.prog 28 [.slice r30.a r30.n r30.c, .slice (some ⟨b29, 0, none⟩) 1 1] (.one (.l .bool)) fun (r31 : Bool) =>
             br (!r31)
              (ret (.bool false))
              (X6 (IntKind.wrap .i64 (u7.1 + 1), ())))))))) fun J14 =>
       drw <| held fun S32 =>
       nn r1.1 fun a33 =>
       ldS S32 (.l .ptr) (fa a33 1) fun (x34 : Option Addr) =>
       ldS S32 (.l (.int .i64)) (fa (⟨b13, 0, none⟩) 1) fun (x35 : Int) =>
       both
        (call Try.prog 27 [.pointer x34, .int .i64 x35] (.many [.g [.int .i64, .slice], .l (.int .i64)]) fun (r36 : KTs [.g [.int .i64, .slice], .l (.int .i64)]) =>
        nw 58 (zc Try.prog 58) fun b37 =>
        st (⟨b37, 0, none⟩) [.int .i64 r36.1.1, .slice r36.1.2.1.a r36.1.2.1.n r36.1.2.1.c] <|
        J14 (⟨b37, 0, none⟩, r36.2.1, ()))
        (nw 58 (zc Try.prog 58) fun b38 =>
        chk S32 <|
        call Try.prog 27 [.pointer x34, .int .i64 x35] (.many [.g [.int .i64, .slice], .l (.int .i64)]) fun (r39 : KTs [.g [.int .i64, .slice], .l (.int .i64)]) =>
        st (⟨b38, 0, none⟩) [.int .i64 r39.1.1, .slice r39.1.2.1.a r39.1.2.1.n r39.1.2.1.c] <|
        J14 (⟨b38, 0, none⟩, r39.2.1, ())))
       (nn r1.1 fun a8 =>
       ld (.l .ptr) (fa a8 1) fun (x9 : Option Addr) =>
       call Try.prog 29 [.pointer x9] (.one (.l (.int .i64))) fun (r10 : Int) =>
       br ((r10 : Int) == (if (20 : Int) < (p0.n : Nat) then (20 : Int) else (p0.n : Nat)))
        (call Try.prog 18 [.pointer r1.1] (.one (.l .slice)) fun (r11 : Slc) =>
        br (((r11.n : Nat) : Int) == (if (20 : Int) < (p0.n : Nat) then (20 : Int) else (p0.n : Nat)))
         (call Try.prog 20 [] (.one (.l .bool)) fun (r12 : Bool) =>
         ret (.bool r12))
         (ret (.bool false)))
        (ret (.bool false)))) (0, ()))) (⟨none, 0, 0⟩, 0, ())))
theorem F.gloaminglaw9.ObjectClasses.den (p0 : Slc) : denF Try.prog F.gloaminglaw9.ObjectClasses.T Try.f7 [.va (.slice p0.a p0.n p0.c)] = F.gloaminglaw9.ObjectClasses p0 := by kernel_rfl
theorem F.gloaminglaw9.ObjectClasses.ok : (Try.f7.body.map (codeB F.gloaminglaw9.ObjectClasses.T)).getD false = true := by kernel_rfl
theorem F.gloaminglaw9.ObjectClasses.calls (p0 : Slc) {Q : Value → World → Prop} {w : World} (h : F.gloaminglaw9.ObjectClasses p0 Q w) : Calls Try.prog 7 #[.slice p0.a p0.n p0.c] w fun e w' => ∃ v, e = .returned v ∧ Q v w' :=
  calls_of_den Try.pnames Try.mixed F.gloaminglaw9.ObjectClasses.T Try.func7 F.gloaminglaw9.ObjectClasses.ok (es := [.va (.slice p0.a p0.n p0.c)]) rfl (by rw [F.gloaminglaw9.ObjectClasses.den]; exact h)

-- gloaming/gloaminglaw9.ObjectKinds
def F.gloaminglaw9.ObjectKinds.T : Tabs := ⟨(fun
    | 7 => [(10, .slice), (11, .int .i64)]
    | 19 => [(23, .slice), (24, .int .i64)]
    | _ => []),
  (fun
    | 12 => some [(10, .slice)]
    | _ => none),
  fun _ => .quiet⟩
def F.gloaminglaw9.ObjectKinds (p0 : Int) (p1 : Slc) (p2 : Int) : Tree :=
 call Try.prog 11 [.int .i64 30] (.many [.l .ptr, .l (.int .i64)]) fun (r1 : KTs [.l .ptr, .l (.int .i64)]) =>
 call Try.prog 12 [.pointer r1.1] (.one (.l .bool)) fun (r2 : Bool) =>
 br (!r2)
  (ret (.bool false))
  (call Try.prog 13 [.int .i64 r1.2.1] (.one (.l (.int .i64))) fun (r3 : Int) =>
  br ((r3 : Int) != 0)
   (ret (.bool false))
   (need ((100 : Int) ≠ 0) <|
   jn (fun (j5 : LTs [.slice]) => -- at:t10
    nn r1.1 fun a6 =>
    ld (.l .ptr) (fa a6 1) fun (x7 : Option Addr) =>
    call Try.prog 25 [.pointer x7, .int .i64 (IntKind.wrap .i64 (1 + (Int.tmod (IntKind.wrap .i64 p0) 100))), .slice j5.1.a j5.1.n j5.1.c] (.many [.l (.int .i64), .l (.int .i64)]) fun (r8 : KTs [.l (.int .i64), .l (.int .i64)]) =>
    call Try.prog 14 [.pointer r1.1, .agg #[.int .i64 1, .int .i64 r8.1, .int .i64 (IntKind.wrap .i64 (1 + (Int.tmod (IntKind.wrap .i64 p0) 100))), .bool false]] (.many [.l (.int .i64), .l (.int .i64)]) fun (r9 : KTs [.l (.int .i64), .l (.int .i64)]) =>
    need ((50 : Int) ≠ 0) <|
    call Try.prog 14 [.pointer r1.1, .agg #[.int .i64 2, .int .i64 0, .int .i64 (Int.tmod (IntKind.wrap .i64 p2) 50), .bool false]] (.many [.l (.int .i64), .l (.int .i64)]) fun (r10 : KTs [.l (.int .i64), .l (.int .i64)]) =>
    need ((50 : Int) ≠ 0) <|
    call Try.prog 14 [.pointer r1.1, .agg #[.int .i64 3, .int .i64 0, .int .i64 (Int.tmod (IntKind.wrap .i64 p2) 50), .bool false]] (.many [.l (.int .i64), .l (.int .i64)]) fun (r11 : KTs [.l (.int .i64), .l (.int .i64)]) =>
    call Try.prog 14 [.pointer r1.1, .agg #[.int .i64 4, .int .i64 2, .int .i64 5, .bool false]] (.many [.l (.int .i64), .l (.int .i64)]) fun (r12 : KTs [.l (.int .i64), .l (.int .i64)]) =>
    lp [.slice, .int .i64] (fun X13 u14 => -- all:t23,i:t24
     need ((50 : Int) ≠ 0) <|
     br (decide ((u14.2.1 : Int) < (Int.tmod (IntKind.wrap .i64 p2) 50)))
      (nw 3 [.int .i64 u14.2.1] fun b15 =>
      opr Try.prog (Builtin.append_ #[44, 44] 44 #[.slice u14.1.a u14.1.n u14.1.c, .slice (some ⟨b15, 0, none⟩) 1 1]) (.one (.l .slice)) fun (r16 : Slc) =>
      X13 (⟨r16.a, r16.n, r16.c⟩, IntKind.wrap .i64 (u14.2.1 + 1), ()))
      (call Try.prog 26 [.pointer r1.1, .int .i64 r9.1] (.one (.l (.int .i64))) fun (r15 : Int) =>
      call Try.prog 26 [.pointer r1.1, .int .i64 r9.1] (.one (.l (.int .i64))) fun (r16 : Int) =>
      call Try.prog 26 [.pointer r1.1, .int .i64 r12.1] (.one (.l (.int .i64))) fun (r17 : Int) =>
      call Try.prog 22 [.pointer r1.1, .int .i64 r9.1] (.many [.g [.int .i64, .int .i64, .int .i64, .bool], .l (.int .i64)]) fun (r18 : KTs [.g [.int .i64, .int .i64, .int .i64, .bool], .l (.int .i64)]) =>
      nw 32 (zc Try.prog 32) fun b19 =>
      st (⟨b19, 0, none⟩) [.int .i64 r18.1.1, .int .i64 r18.1.2.1, .int .i64 r18.1.2.2.1, .bool r18.1.2.2.2.1] <|
      call Try.prog 13 [.int .i64 r8.2.1] (.one (.l (.int .i64))) fun (r20 : Int) =>
      br ((r20 : Int) == 0)
       (call Try.prog 23 [.pointer r1.1, .int .i64 r9.1] (.one (.l .slice)) fun (r21 : Slc) =>
       call Try.prog 28 [.slice r21.a r21.n r21.c, .slice j5.1.a j5.1.n j5.1.c] (.one (.l .bool)) fun (r22 : Bool) =>
       br r22
        (call Try.prog 23 [.pointer r1.1, .int .i64 r10.1] (.one (.l .slice)) fun (r23 : Slc) =>
        call Try.prog 28 [.slice r23.a r23.n r23.c, .slice u14.1.a u14.1.n u14.1.c] (.one (.l .bool)) fun (r24 : Bool) =>
        br r24
         (call Try.prog 23 [.pointer r1.1, .int .i64 r11.1] (.one (.l .slice)) fun (r25 : Slc) =>
         br (((r25.n : Nat) : Int) == 0)
          (call Try.prog 23 [.pointer r1.1, .int .i64 r12.1] (.one (.l .slice)) fun (r26 : Slc) =>
          nw 3 [.int .i64 2] fun b27 =>
          call Try.prog 28 [.slice r26.a r26.n r26.c, .slice (some ⟨b27, 0, none⟩) 1 1] (.one (.l .bool)) fun (r28 : Bool) =>
          br r28
           (call Try.prog 13 [.int .i64 r15] (.one (.l (.int .i64))) fun (r29 : Int) =>
           br ((r29 : Int) == 0)
            (call Try.prog 13 [.int .i64 r16] (.one (.l (.int .i64))) fun (r30 : Int) =>
            br ((r30 : Int) == 4)
             (call Try.prog 13 [.int .i64 r17] (.one (.l (.int .i64))) fun (r31 : Int) =>
             br ((r31 : Int) == 5)
              (ld (.l .bool) (fa (⟨b19, 0, none⟩) 3) fun (x32 : Bool) =>
              br x32
               (ld (.l (.int .i64)) (fa (⟨b19, 0, none⟩) 1) fun (x33 : Int) =>
               br ((x33 : Int) == r8.1)
                (call Try.prog 20 [] (.one (.l .bool)) fun (r34 : Bool) =>
                ret (.bool r34))
                (ret (.bool false)))
               (ret (.bool false)))
              (ret (.bool false)))
             (ret (.bool false)))
            (ret (.bool false)))
           (ret (.bool false)))
          (ret (.bool false)))
         (ret (.bool false)))
        (ret (.bool false)))
       (ret (.bool false)))) (⟨none, 0, 0⟩, 0, ())) fun J4 =>
   lp [.slice, .int .i64] (fun X21 u22 => -- at:t10,i:t11
    br (decide ((u22.2.1 : Int) < (p1.n : Nat)))
     (br (decide ((u22.2.1 : Int) < (IntKind.wrap .i64 (1 + (Int.tmod (IntKind.wrap .i64 p0) 100)))))
      (ix p1.a p1.n u22.2.1 1 fun a23 =>
      ld (.l (.int .u8)) a23 fun (x24 : Int) =>
      need ((IntKind.wrap .i64 (1 + (Int.tmod (IntKind.wrap .i64 p0) 100)) : Int) ≠ 0) <|
      br (((u22.1.n : Nat) : Int) == 0)
       (nw 3 [.int .i64 (Int.tmod (IntKind.wrap .i64 x24) (IntKind.wrap .i64 (1 + (Int.tmod (IntKind.wrap .i64 p0) 100))))] fun b25 =>
       opr Try.prog (Builtin.append_ #[44, 44] 44 #[.slice u22.1.a u22.1.n u22.1.c, .slice (some ⟨b25, 0, none⟩) 1 1]) (.one (.l .slice)) fun (r26 : Slc) =>
       X21 (⟨r26.a, r26.n, r26.c⟩, IntKind.wrap .i64 (u22.2.1 + 1), ()))
       (ix u22.1.a u22.1.n (IntKind.wrap .i64 ((u22.1.n : Nat) - 1)) 1 fun a25 =>
       ld (.l (.int .i64)) a25 fun (x26 : Int) =>
       br (decide ((Int.tmod (IntKind.wrap .i64 x24) (IntKind.wrap .i64 (1 + (Int.tmod (IntKind.wrap .i64 p0) 100))) : Int) > x26))
        (nw 3 [.int .i64 (Int.tmod (IntKind.wrap .i64 x24) (IntKind.wrap .i64 (1 + (Int.tmod (IntKind.wrap .i64 p0) 100))))] fun b27 =>
        opr Try.prog (Builtin.append_ #[44, 44] 44 #[.slice u22.1.a u22.1.n u22.1.c, .slice (some ⟨b27, 0, none⟩) 1 1]) (.one (.l .slice)) fun (r28 : Slc) =>
        X21 (⟨r28.a, r28.n, r28.c⟩, IntKind.wrap .i64 (u22.2.1 + 1), ()))
        (X21 (⟨u22.1.a, u22.1.n, u22.1.c⟩, IntKind.wrap .i64 (u22.2.1 + 1), ()))))
      (J4 (⟨u22.1.a, u22.1.n, u22.1.c⟩, ())))
     (J4 (⟨u22.1.a, u22.1.n, u22.1.c⟩, ()))) (⟨none, 0, 0⟩, 0, ())))
theorem F.gloaminglaw9.ObjectKinds.den (p0 : Int) (p1 : Slc) (p2 : Int) : denF Try.prog F.gloaminglaw9.ObjectKinds.T Try.f8 [.va (.int .u8 p0), .va (.slice p1.a p1.n p1.c), .va (.int .u8 p2)] = F.gloaminglaw9.ObjectKinds p0 p1 p2 := by kernel_rfl
theorem F.gloaminglaw9.ObjectKinds.ok : (Try.f8.body.map (codeB F.gloaminglaw9.ObjectKinds.T)).getD false = true := by kernel_rfl
theorem F.gloaminglaw9.ObjectKinds.calls (p0 : Int) (p1 : Slc) (p2 : Int) {Q : Value → World → Prop} {w : World} (h : F.gloaminglaw9.ObjectKinds p0 p1 p2 Q w) : Calls Try.prog 8 #[.int .u8 p0, .slice p1.a p1.n p1.c, .int .u8 p2] w fun e w' => ∃ v, e = .returned v ∧ Q v w' :=
  calls_of_den Try.pnames Try.mixed F.gloaminglaw9.ObjectKinds.T Try.func8 F.gloaminglaw9.ObjectKinds.ok (es := [.va (.int .u8 p0), .va (.slice p1.a p1.n p1.c), .va (.int .u8 p2)]) rfl (by rw [F.gloaminglaw9.ObjectKinds.den]; exact h)

-- gloaming/gloaminglaw19.SweepDead
def F.gloaminglaw19.SweepDead.T : Tabs := ⟨(fun
    | 8 => [(11, .int .i64)]
    | 13 => [(12, .int .i64)]
    | 18 => [(8, .slice), (13, .int .i64)]
    | 22 => [(14, .slice), (15, .int .i64)]
    | _ => []),
  fun _ => none,
  (fun
    | 10 => .held none (.go 0 false (.go 1 false (.go 2 false (.go 3 false (.go 4 false (.go 5 false (.go 6 false (.go 7 false (.go 8 false (.go 9 false (.go 10 false (.go 11 false (.go 12 false (.go 13 false (.go 14 false (.go 15 false (.go 16 false (.go 17 false (.go 18 false (.go 19 false (.go 20 false (.go 21 false (.go 22 false (.go 23 false (.go 24 false (.go 25 false (.go 26 false (.go 27 false (.go 28 false (.go 29 false (.go 30 false .nil)))))))))))))))))))))))))))))))
    | 24 => .quiet
    | 30 => .held (some 35) (.go 0 false (.go 1 false (.go 2 false (.go 3 false (.go 4 false (.go 5 false (.go 6 false (.go 7 false (.go 8 false (.go 10 false (.go 11 false (.go 12 false (.go 13 false (.go 9 false (.go 14 false (.go 15 false (.go 16 false (.go 17 false (.go 18 false (.go 19 false (.go 20 false (.go 21 false (.go 23 false (.go 24 false (.go 25 false (.go 26 false (.go 22 false (.go 27 false (.go 28 false (.go 29 false (.go 30 false (.go 31 false (.go 32 false (.go 33 false (.go 34 false (.go 35 true (.go 36 false (.go 37 false (.go 38 false (.go 39 false (.go 40 false (.go 41 false (.go 42 false .nil)))))))))))))))))))))))))))))))))))))))))))
    | _ => .quiet)⟩
def F.gloaminglaw19.SweepDead (p0 : Slc) (p1 : Slc) : Tree :=
 call Try.prog 30 [.slice p0.a p0.n p0.c] (.many [.l .ptr, .l .slice]) fun (r1 : KTs [.l .ptr, .l .slice]) =>
 call Try.prog 30 [.slice p0.a p0.n p0.c] (.many [.l .ptr, .l .slice]) fun (r2 : KTs [.l .ptr, .l .slice]) =>
 br (Option.isNone r1.1)
  (ret (.bool false))
  (br (Option.isNone r2.1)
   (ret (.bool false))
   (call Try.prog 31 [.slice r1.2.1.a r1.2.1.n r1.2.1.c, .slice p1.a p1.n p1.c, .int .i64 30] (.one (.l .slice)) fun (r3 : Slc) =>
   call Try.prog 32 [.pointer r1.1, .slice r3.a r3.n r3.c] (.one (.l .slice)) fun (r4 : Slc) =>
   lp [.int .i64] (fun X5 u6 => -- i:t11
    br (decide ((u6.1 : Int) < (r4.n : Nat)))
     (drw <| held fun S7 =>
     ix r4.a r4.n u6.1 1 fun a8 =>
     ldS S7 (.l (.int .i64)) a8 fun (x9 : Int) =>
     call Try.prog 33 [.slice r3.a r3.n r3.c, .int .i64 x9] (.one (.l .bool)) fun (r10 : Bool) =>
     chk S7 <|
     br r10
      (ret (.bool false))
      (ix r4.a r4.n u6.1 1 fun a11 =>
      ldS S7 (.l (.int .i64)) a11 fun (x12 : Int) =>
      call Try.prog 33 [.slice r1.2.1.a r1.2.1.n r1.2.1.c, .int .i64 x12] (.one (.l .bool)) fun (r13 : Bool) =>
      chk S7 <|
      br (!r13)
       (ret (.bool false))
       (br (decide ((u6.1 : Int) > 0))
        (ix r4.a r4.n u6.1 1 fun a14 =>
        ldS S7 (.l (.int .i64)) a14 fun (x15 : Int) =>
        ix r4.a r4.n (IntKind.wrap .i64 (u6.1 - 1)) 1 fun a16 =>
        ldS S7 (.l (.int .i64)) a16 fun (x17 : Int) =>
        br (decide ((x15 : Int) ≤ x17))
         (ret (.bool false))
         (X5 (IntKind.wrap .i64 (u6.1 + 1), ())))
        (X5 (IntKind.wrap .i64 (u6.1 + 1), ())))))
     (lp [.int .i64] (fun X7 u8 => -- i:t12
      br (decide ((u8.1 : Int) < (r1.2.1.n : Nat)))
       (ix r1.2.1.a r1.2.1.n u8.1 1 fun a9 =>
       ld (.l (.int .i64)) a9 fun (x10 : Int) =>
       call Try.prog 33 [.slice r3.a r3.n r3.c, .int .i64 x10] (.one (.l .bool)) fun (r11 : Bool) =>
       br (!r11)
        (ix r1.2.1.a r1.2.1.n u8.1 1 fun a12 =>
        ld (.l (.int .i64)) a12 fun (x13 : Int) =>
        call Try.prog 33 [.slice r4.a r4.n r4.c, .int .i64 x13] (.one (.l .bool)) fun (r14 : Bool) =>
        br (!r14)
         (ret (.bool false))
         (X7 (IntKind.wrap .i64 (u8.1 + 1), ())))
        (X7 (IntKind.wrap .i64 (u8.1 + 1), ())))
       (lp [.slice, .int .i64] (fun X9 u10 => -- m:t8,i:t13
        br (decide ((u10.2.1 : Int) ≥ 0))
         (lp [.slice, .int .i64] (fun X11 u12 => -- left:t14,k:t15
          br (decide ((u12.2.1 : Int) < (u10.1.n : Nat)))
           (drw <|
           ix u10.1.a u10.1.n u12.2.1 1 fun a13 =>
           ld (.l (.int .i64)) a13 fun (x14 : Int) =>
           ix r4.a r4.n u10.2.1 1 fun a15 =>
           ld (.l (.int .i64)) a15 fun (x16 : Int) =>
           br ((x14 : Int) != x16)
            (ix u10.1.a u10.1.n u12.2.1 1 fun a17 =>
            ld (.l (.int .i64)) a17 fun (x18 : Int) =>
            nw 3 [.int .i64 x18] fun b19 =>
            opr Try.prog (Builtin.append_ #[44, 44] 44 #[.slice u12.1.a u12.1.n u12.1.c, .slice (some ⟨b19, 0, none⟩) 1 1]) (.one (.l .slice)) fun (r20 : Slc) =>
            X11 (⟨r20.a, r20.n, r20.c⟩, IntKind.wrap .i64 (u12.2.1 + 1), ()))
            (X11 (⟨u12.1.a, u12.1.n, u12.1.c⟩, IntKind.wrap .i64 (u12.2.1 + 1), ())))
           (call Try.prog 34 [.pointer r2.1, .slice u12.1.a u12.1.n u12.1.c] (.one (.l (.int .i64))) fun (r13 : Int) =>
           br ((r13 : Int) != 1)
            (ret (.bool false))
            (X9 (⟨u12.1.a, u12.1.n, u12.1.c⟩, IntKind.wrap .i64 (u10.2.1 - 1), ())))) (⟨none, 0, 0⟩, 0, ()))
         (call Try.prog 34 [.pointer r1.1, .slice r3.a r3.n r3.c] (.one (.l (.int .i64))) fun (r11 : Int) =>
         drw <| held fun S12 =>
         br ((r11 : Int) == (r4.n : Nat))
          (nn r1.1 fun a13 =>
          ldS S12 (.l .ptr) (fa a13 0) fun (x14 : Option Addr) =>
          nn r2.1 fun a15 =>
          ldS S12 (.l .ptr) (fa a15 0) fun (x16 : Option Addr) =>
          call Try.prog 19 [.pointer x14] (.one (.l (.int .i64))) fun (r17 : Int) =>
          chk S12 <|
          call Try.prog 19 [.pointer x16] (.one (.l (.int .i64))) fun (r18 : Int) =>
          chk S12 <|
          br ((r17 : Int) == r18)
           (nn r1.1 fun a19 =>
           ldS S12 (.l .ptr) (fa a19 0) fun (x20 : Option Addr) =>
           nn r2.1 fun a21 =>
           ldS S12 (.l .ptr) (fa a21 0) fun (x22 : Option Addr) =>
           call Try.prog 35 [.pointer x20] (.one (.l .slice)) fun (r23 : Slc) =>
           chk S12 <|
           call Try.prog 35 [.pointer x22] (.one (.l .slice)) fun (r24 : Slc) =>
           chk S12 <|
           call Try.prog 28 [.slice r23.a r23.n r23.c, .slice r24.a r24.n r24.c] (.one (.l .bool)) fun (r25 : Bool) =>
           chk S12 <|
           br r25
            (nn r1.1 fun a26 =>
            ldS S12 (.l .ptr) (fa a26 0) fun (x27 : Option Addr) =>
            call Try.prog 24 [.pointer x27, .int .i64 0] (.one (.l (.int .i64))) fun (r28 : Int) =>
            call Try.prog 13 [.int .i64 r28] (.one (.l (.int .i64))) fun (r29 : Int) =>
            br ((r29 : Int) == 2)
             (call Try.prog 36 [] (.one (.l .bool)) fun (r30 : Bool) =>
             ret (.bool r30))
             (ret (.bool false)))
            (ret (.bool false)))
           (ret (.bool false)))
          (ret (.bool false)))) (⟨r2.2.1.a, r2.2.1.n, r2.2.1.c⟩, IntKind.wrap .i64 ((r4.n : Nat) - 1), ()))) (0, ()))) (0, ())))
theorem F.gloaminglaw19.SweepDead.den (p0 : Slc) (p1 : Slc) : denF Try.prog F.gloaminglaw19.SweepDead.T Try.f9 [.va (.slice p0.a p0.n p0.c), .va (.slice p1.a p1.n p1.c)] = F.gloaminglaw19.SweepDead p0 p1 := by kernel_rfl
theorem F.gloaminglaw19.SweepDead.ok : (Try.f9.body.map (codeB F.gloaminglaw19.SweepDead.T)).getD false = true := by kernel_rfl
theorem F.gloaminglaw19.SweepDead.calls (p0 : Slc) (p1 : Slc) {Q : Value → World → Prop} {w : World} (h : F.gloaminglaw19.SweepDead p0 p1 Q w) : Calls Try.prog 9 #[.slice p0.a p0.n p0.c, .slice p1.a p1.n p1.c] w fun e w' => ∃ v, e = .returned v ∧ Q v w' :=
  calls_of_den Try.pnames Try.mixed F.gloaminglaw19.SweepDead.T Try.func9 F.gloaminglaw19.SweepDead.ok (es := [.va (.slice p0.a p0.n p0.c), .va (.slice p1.a p1.n p1.c)]) rfl (by rw [F.gloaminglaw19.SweepDead.den]; exact h)

-- gloaming/gloaminglaw19.SweepLeaves
def F.gloaminglaw19.SweepLeaves.T : Tabs := ⟨(fun
    | 10 => [(11, .int .i64), (12, .int .i64)]
    | _ => []),
  fun _ => none,
  (fun
    | 16 => .tail 41
    | _ => .quiet)⟩
def F.gloaminglaw19.SweepLeaves (p0 : Slc) (p1 : Slc) : Tree :=
 call Try.prog 30 [.slice p0.a p0.n p0.c] (.many [.l .ptr, .l .slice]) fun (r1 : KTs [.l .ptr, .l .slice]) =>
 br (Option.isNone r1.1)
  (ret (.bool false))
  (call Try.prog 31 [.slice r1.2.1.a r1.2.1.n r1.2.1.c, .slice p1.a p1.n p1.c, .int .i64 30] (.one (.l .slice)) fun (r2 : Slc) =>
  call Try.prog 18 [.pointer r1.1] (.one (.l .slice)) fun (r3 : Slc) =>
  call Try.prog 34 [.pointer r1.1, .slice r2.a r2.n r2.c] (.one (.l (.int .i64))) fun (r4 : Int) =>
  call Try.prog 18 [.pointer r1.1] (.one (.l .slice)) fun (r5 : Slc) =>
  lp [.int .i64, .int .i64] (fun X6 u7 => -- left:t11,i:t12
   br (decide ((u7.2.1 : Int) < (r3.n : Nat)))
    (ix r3.a r3.n u7.2.1 6 fun a8 =>
    ld (.l (.int .i64)) (fa a8 0) fun (x9 : Int) =>
    call Try.prog 33 [.slice r2.a r2.n r2.c, .int .i64 x9] (.one (.l .bool)) fun (r10 : Bool) =>
    br (!r10)
     (ix r3.a r3.n u7.2.1 6 fun a11 =>
     ld (.l (.int .i64)) (fa a11 0) fun (x12 : Int) =>
     call Try.prog 22 [.pointer r1.1, .int .i64 x12] (.many [.g [.int .i64, .int .i64, .int .i64, .bool], .l (.int .i64)]) fun (r13 : KTs [.g [.int .i64, .int .i64, .int .i64, .bool], .l (.int .i64)]) =>
     nw 32 (zc Try.prog 32) fun b14 =>
     st (⟨b14, 0, none⟩) [.int .i64 r13.1.1, .int .i64 r13.1.2.1, .int .i64 r13.1.2.2.1, .bool r13.1.2.2.2.1] <|
     call Try.prog 13 [.int .i64 r13.2.1] (.one (.l (.int .i64))) fun (r15 : Int) =>
     br ((r15 : Int) != 2)
      (ret (.bool false))
      (X6 (u7.1, IntKind.wrap .i64 (u7.2.1 + 1), ())))
     (drw <|
     br (decide ((u7.1 : Int) ≥ (r5.n : Nat)))
      (ret (.bool false))
      (ix r5.a r5.n u7.1 6 fun a11 =>
      ld (.l (.int .i64)) (fa a11 0) fun (x12 : Int) =>
      ix r3.a r3.n u7.2.1 6 fun a13 =>
      ld (.l (.int .i64)) (fa a13 0) fun (x14 : Int) =>
      br ((x12 : Int) != x14)
       (ret (.bool false))
       (ix r5.a r5.n u7.1 6 fun a15 =>
       ld (.g [.int .i64, .int .i64, .int .i64, .bool]) (fa a15 1) fun (x16 : LTs [.int .i64, .int .i64, .int .i64, .bool]) =>
       ix r3.a r3.n u7.2.1 6 fun a17 =>
       ld (.g [.int .i64, .int .i64, .int .i64, .bool]) (fa a17 1) fun (x18 : LTs [.int .i64, .int .i64, .int .i64, .bool]) =>
       br (!(((x16.1 : Int) == x18.1) && (((x16.2.1 : Int) == x18.2.1) && (((x16.2.2.1 : Int) == x18.2.2.1) && ((x16.2.2.2.1 == x18.2.2.2.1) && true)))))
        (ret (.bool false))
        (ix r5.a r5.n u7.1 6 fun a19 =>
        ld (.l .slice) (fa a19 5) fun (x20 : Slc) =>
        ix r3.a r3.n u7.2.1 6 fun a21 =>
        ld (.l .slice) (fa a21 5) fun (x22 : Slc) =>
        call Try.prog 28 [.slice x20.a x20.n x20.c, .slice x22.a x22.n x22.c] (.one (.l .bool)) fun (r23 : Bool) =>
        br (!r23)
         (ret (.bool false))
         (X6 (IntKind.wrap .i64 (u7.1 + 1), IntKind.wrap .i64 (u7.2.1 + 1), ())))))))
    (br ((u7.1 : Int) != (r5.n : Nat))
     (ret (.bool false))
     (br ((r4 : Int) != (IntKind.wrap .i64 ((r3.n : Nat) - u7.1)))
      (ret (.bool false))
      (call Try.prog 34 [.pointer r1.1, .slice r2.a r2.n r2.c] (.one (.l (.int .i64))) fun (r8 : Int) =>
      br ((r8 : Int) != 0)
       (ret (.bool false))
       (call Try.prog 34 [.pointer r1.1, .slice none 0 0] (.one (.l (.int .i64))) fun (r9 : Int) =>
       nn r1.1 fun a10 =>
       ld (.l .ptr) (fa a10 0) fun (x11 : Option Addr) =>
       call Try.prog 37 [.pointer x11, .int .i64 1000] (.many [.l (.int .i64), .l (.int .i64)]) fun (r12 : KTs [.l (.int .i64), .l (.int .i64)]) =>
       br ((r9 : Int) == u7.1)
        (br ((r12.1 : Int) == 64)
         (call Try.prog 13 [.int .i64 r12.2.1] (.one (.l (.int .i64))) fun (r13 : Int) =>
         br ((r13 : Int) == 0)
          (nn r1.1 fun a14 =>
          ld (.l .ptr) (fa a14 0) fun (x15 : Option Addr) =>
          call Try.prog 19 [.pointer x15] (.one (.l (.int .i64))) fun (r16 : Int) =>
          br ((r16 : Int) == 1024)
           (call Try.prog 36 [] (.one (.l .bool)) fun (r17 : Bool) =>
           ret (.bool r17))
           (ret (.bool false)))
          (ret (.bool false)))
         (ret (.bool false)))
        (ret (.bool false))))))) (0, 0, ()))
theorem F.gloaminglaw19.SweepLeaves.den (p0 : Slc) (p1 : Slc) : denF Try.prog F.gloaminglaw19.SweepLeaves.T Try.f10 [.va (.slice p0.a p0.n p0.c), .va (.slice p1.a p1.n p1.c)] = F.gloaminglaw19.SweepLeaves p0 p1 := by kernel_rfl
theorem F.gloaminglaw19.SweepLeaves.ok : (Try.f10.body.map (codeB F.gloaminglaw19.SweepLeaves.T)).getD false = true := by kernel_rfl
theorem F.gloaminglaw19.SweepLeaves.calls (p0 : Slc) (p1 : Slc) {Q : Value → World → Prop} {w : World} (h : F.gloaminglaw19.SweepLeaves p0 p1 Q w) : Calls Try.prog 10 #[.slice p0.a p0.n p0.c, .slice p1.a p1.n p1.c] w fun e w' => ∃ v, e = .returned v ∧ Q v w' :=
  calls_of_den Try.pnames Try.mixed F.gloaminglaw19.SweepLeaves.T Try.func10 F.gloaminglaw19.SweepLeaves.ok (es := [.va (.slice p0.a p0.n p0.c), .va (.slice p1.a p1.n p1.c)]) rfl (by rw [F.gloaminglaw19.SweepLeaves.den]; exact h)

-- gloaming/object.New
def F.object.New.T : Tabs := ⟨fun _ => [],
  fun _ => none,
  fun _ => .quiet⟩
def F.object.New (p0 : Int) : Tree :=
 call Try.prog 38 [.int .i64 p0] (.many [.l .ptr, .l (.int .i64)]) fun (r1 : KTs [.l .ptr, .l (.int .i64)]) =>
 br ((r1.2.1 : Int) != 0)
  (ret (.tuple #[.pointer none, .int .i64 r1.2.1]))
  (call Try.prog 39 [] (.one (.l .ptr)) fun (r2 : Option Addr) =>
  nw 38 [.pointer r1.1, .pointer r2] fun b3 =>
  ret (.tuple #[.pointer (some (⟨b3, 0, none⟩)), .int .i64 0]))
theorem F.object.New.den (p0 : Int) : denF Try.prog F.object.New.T Try.f11 [.va (.int .i64 p0)] = F.object.New p0 := by kernel_rfl
theorem F.object.New.ok : (Try.f11.body.map (codeB F.object.New.T)).getD false = true := by kernel_rfl
theorem F.object.New.calls (p0 : Int) {Q : Value → World → Prop} {w : World} (h : F.object.New p0 Q w) : Calls Try.prog 11 #[.int .i64 p0] w fun e w' => ∃ v, e = .returned v ∧ Q v w' :=
  calls_of_den Try.pnames Try.mixed F.object.New.T Try.func11 F.object.New.ok (es := [.va (.int .i64 p0)]) rfl (by rw [F.object.New.den]; exact h)

-- gloaming/gloaminglaw9.Whole
def F.gloaminglaw9.Whole.T : Tabs := ⟨fun _ => [],
  fun _ => none,
  fun _ => .quiet⟩
def F.gloaminglaw9.Whole (p0 : Option Addr) : Tree :=
 br (!(Option.isNone p0))
  (nn p0 fun a1 =>
  ld (.l .ptr) (fa a1 0) fun (x2 : Option Addr) =>
  br (!(Option.isNone x2))
   (nn p0 fun a3 =>
   ld (.l .ptr) (fa a3 1) fun (x4 : Option Addr) =>
   br (!(Option.isNone x4))
    (nn p0 fun a5 =>
    ld (.l .ptr) (fa a5 0) fun (x6 : Option Addr) =>
    nn x6 fun a7 =>
    ld (.l .ptr) (fa a7 0) fun (x8 : Option Addr) =>
    br (!(Option.isNone x8))
     (nn p0 fun a9 =>
     ld (.l .ptr) (fa a9 0) fun (x10 : Option Addr) =>
     nn x10 fun a11 =>
     ld (.l .ptr) (fa a11 1) fun (x12 : Option Addr) =>
     ret (.bool (!(Option.isNone x12))))
     (ret (.bool false)))
    (ret (.bool false)))
   (ret (.bool false)))
  (ret (.bool false))
theorem F.gloaminglaw9.Whole.den (p0 : Option Addr) : denF Try.prog F.gloaminglaw9.Whole.T Try.f12 [.va (.pointer p0)] = F.gloaminglaw9.Whole p0 := by kernel_rfl
theorem F.gloaminglaw9.Whole.ok : (Try.f12.body.map (codeB F.gloaminglaw9.Whole.T)).getD false = true := by kernel_rfl
theorem F.gloaminglaw9.Whole.calls (p0 : Option Addr) {Q : Value → World → Prop} {w : World} (h : F.gloaminglaw9.Whole p0 Q w) : Calls Try.prog 12 #[.pointer p0] w fun e w' => ∃ v, e = .returned v ∧ Q v w' :=
  calls_of_den Try.pnames Try.mixed F.gloaminglaw9.Whole.T Try.func12 F.gloaminglaw9.Whole.ok (es := [.va (.pointer p0)]) rfl (by rw [F.gloaminglaw9.Whole.den]; exact h)

-- gloaming/gloaminglaw1.Err
def F.gloaminglaw1.Err.T : Tabs := ⟨fun _ => [],
  fun _ => none,
  fun _ => .quiet⟩
def F.gloaminglaw1.Err (p0 : Int) : Tree :=
 ret (.int .i64 p0)
theorem F.gloaminglaw1.Err.den (p0 : Int) : denF Try.prog F.gloaminglaw1.Err.T Try.f13 [.va (.int .i64 p0)] = F.gloaminglaw1.Err p0 := by kernel_rfl
theorem F.gloaminglaw1.Err.ok : (Try.f13.body.map (codeB F.gloaminglaw1.Err.T)).getD false = true := by kernel_rfl
theorem F.gloaminglaw1.Err.calls (p0 : Int) {Q : Value → World → Prop} {w : World} (h : F.gloaminglaw1.Err p0 Q w) : Calls Try.prog 13 #[.int .i64 p0] w fun e w' => ∃ v, e = .returned v ∧ Q v w' :=
  calls_of_den Try.pnames Try.mixed F.gloaminglaw1.Err.T Try.func13 F.gloaminglaw1.Err.ok (es := [.va (.int .i64 p0)]) rfl (by rw [F.gloaminglaw1.Err.den]; exact h)

-- (*gloaming/object.Heap).Make
def F.object.Heap.Make.T : Tabs := ⟨fun _ => [],
  fun _ => none,
  (fun
    | 6 => .held (some 7) (.go 0 false (.go 1 false (.go 2 false (.go 3 false (.go 4 false (.go 5 false (.go 6 false (.go 7 true (.go 8 false (.go 9 false (.go 10 false (.go 11 false (.go 12 false .nil)))))))))))))
    | _ => .quiet)⟩
def F.object.Heap.Make (p0 : Option Addr) (p1 : LTs [.int .i64, .int .i64, .int .i64, .bool]) : Tree :=
 nw 32 [.int .i64 p1.1, .int .i64 p1.2.1, .int .i64 p1.2.2.1, .bool p1.2.2.2.1] fun b1 =>
 br (Option.isNone p0)
  (ret (.tuple #[.int .i64 0, .int .i64 2]))
  (ld (.g [.int .i64, .int .i64, .int .i64, .bool]) (⟨b1, 0, none⟩) fun (x2 : LTs [.int .i64, .int .i64, .int .i64, .bool]) =>
  call Try.prog 40 [.pointer p0, .agg #[.int .i64 x2.1, .int .i64 x2.2.1, .int .i64 x2.2.2.1, .bool x2.2.2.2.1]] (.one (.l (.int .i64))) fun (r3 : Int) =>
  br ((r3 : Int) != 0)
   (ret (.tuple #[.int .i64 0, .int .i64 r3]))
   (drw <| held fun S4 =>
   nn p0 fun a5 =>
   ldS S4 (.l .ptr) (fa a5 0) fun (x6 : Option Addr) =>
   ldS S4 (.l (.int .i64)) (fa (⟨b1, 0, none⟩) 2) fun (x7 : Int) =>
   call Try.prog 37 [.pointer x6, .int .i64 (IntKind.wrap .i64 (x7 + 1))] (.many [.l (.int .i64), .l (.int .i64)]) fun (r8 : KTs [.l (.int .i64), .l (.int .i64)]) =>
   br ((r8.2.1 : Int) != 0)
    (ret (.tuple #[.int .i64 0, .int .i64 r8.2.1]))
    (ld (.g [.int .i64, .int .i64, .int .i64, .bool]) (⟨b1, 0, none⟩) fun (x9 : LTs [.int .i64, .int .i64, .int .i64, .bool]) =>
    call Try.prog 41 [.agg #[.int .i64 x9.1, .int .i64 x9.2.1, .int .i64 x9.2.2.1, .bool x9.2.2.2.1]] (.many [.l (.int .i64), .l .bool]) fun (r10 : KTs [.l (.int .i64), .l .bool]) =>
    nn p0 fun a11 =>
    ld (.l .ptr) (fa a11 0) fun (x12 : Option Addr) =>
    nn x12 fun a13 =>
    ld (.l .ptr) (fa a13 0) fun (x14 : Option Addr) =>
    call Try.prog 42 [.pointer x14, .int .i64 r8.1, .int .i64 r10.1] (.one (.l (.int .i64))) fun (r15 : Int) =>
    ret (.tuple #[.int .i64 r8.1, .int .i64 r15]))))
theorem F.object.Heap.Make.den (p0 : Option Addr) (p1 : LTs [.int .i64, .int .i64, .int .i64, .bool]) : denF Try.prog F.object.Heap.Make.T Try.f14 [.va (.pointer p0), .va (.agg #[.int .i64 p1.1, .int .i64 p1.2.1, .int .i64 p1.2.2.1, .bool p1.2.2.2.1])] = F.object.Heap.Make p0 p1 := by kernel_rfl
theorem F.object.Heap.Make.ok : (Try.f14.body.map (codeB F.object.Heap.Make.T)).getD false = true := by kernel_rfl
theorem F.object.Heap.Make.calls (p0 : Option Addr) (p1 : LTs [.int .i64, .int .i64, .int .i64, .bool]) {Q : Value → World → Prop} {w : World} (h : F.object.Heap.Make p0 p1 Q w) : Calls Try.prog 14 #[.pointer p0, .agg #[.int .i64 p1.1, .int .i64 p1.2.1, .int .i64 p1.2.2.1, .bool p1.2.2.2.1]] w fun e w' => ∃ v, e = .returned v ∧ Q v w' :=
  calls_of_den Try.pnames Try.mixed F.object.Heap.Make.T Try.func14 F.object.Heap.Make.ok (es := [.va (.pointer p0), .va (.agg #[.int .i64 p1.1, .int .i64 p1.2.1, .int .i64 p1.2.2.1, .bool p1.2.2.2.1])]) rfl (by rw [F.object.Heap.Make.den]; exact h)

-- (*gloaming/space.Space).Find
def F.space.Space.Find.T : Tabs := ⟨(fun
    | 11 => []
    | _ => []),
  fun _ => none,
  fun _ => .quiet⟩
def F.space.Space.Find (p0 : Option Addr) (p1 : Int) : Tree :=
 br (Option.isNone p0)
  (ret (.tuple #[.int .i64 0, .int .i64 0, .bool false]))
  (br (decide ((p1 : Int) < 0))
   (ret (.tuple #[.int .i64 0, .int .i64 0, .bool false]))
   (nn p0 fun a1 =>
   ld (.l .ptr) (fa a1 0) fun (x2 : Option Addr) =>
   call Try.prog 43 [.pointer x2] (.one (.l (.int .i64))) fun (r3 : Int) =>
   br (decide ((p1 : Int) ≥ r3))
    (ret (.tuple #[.int .i64 0, .int .i64 0, .bool false]))
    (need ((64 : Int) ≠ 0) <|
    nn p0 fun a4 =>
    ld (.l .map) (fa a4 2) fun (x5 : Option Nat) =>
    opr Try.prog (Instr.lookup 77 (.map x5) (.int .i64 (IntKind.wrap .i64 (Int.tdiv p1 64))) true) (.many [.l .ptr, .l .bool]) fun (r6 : KTs [.l .ptr, .l .bool]) =>
    br r6.2.1
     (need ((64 : Int) ≠ 0) <|
     call Try.prog 44 [.pointer r6.1] (.one (.l (.int .i64))) fun (r7 : Int) =>
     need ((r7 : Int) ≠ 0) <|
     nn r6.1 fun a8 =>
     ld (.l .ptr) (fa a8 0) fun (x9 : Option Addr) =>
     call Try.prog 45 [.pointer x9, .int .i64 (IntKind.wrap .i64 (Int.tdiv (Int.tmod p1 64) r7))] (.one (.l .bool)) fun (r10 : Bool) =>
     br (!r10)
      (ret (.tuple #[.int .i64 0, .int .i64 0, .bool false]))
      (call Try.prog 44 [.pointer r6.1] (.one (.l (.int .i64))) fun (r11 : Int) =>
      call Try.prog 44 [.pointer r6.1] (.one (.l (.int .i64))) fun (r12 : Int) =>
      ret (.tuple #[.int .i64 (IntKind.wrap .i64 ((IntKind.wrap .i64 ((IntKind.wrap .i64 (Int.tdiv p1 64)) * 64)) + (IntKind.wrap .i64 ((IntKind.wrap .i64 (Int.tdiv (Int.tmod p1 64) r7)) * r11)))), .int .i64 r12, .bool true])))
     (nn p0 fun a7 =>
     ld (.l .map) (fa a7 3) fun (x8 : Option Nat) =>
     opr Try.prog (Instr.range 78 (.map x8)) (.one (.l .ptr)) fun (r9 : Option Addr) =>
     lp [] (fun X10 u11 => -- 
      nxt Try.prog (Instr.next (.pointer r9) false 0) (.l (.int .i64)) (.l (.int .i64))
       (ret (.tuple #[.int .i64 0, .int .i64 0, .bool false]))
       (fun (k12 : Int) (v13 : Int) =>
       opr Try.prog (Instr.entry (.pointer r9)) (.many [.l (.int .i64), .l (.int .i64)]) fun (r14 : KTs [.l (.int .i64), .l (.int .i64)]) =>
       br (decide ((IntKind.wrap .i64 (Int.tdiv p1 64) : Int) ≥ r14.1))
        (br (decide ((IntKind.wrap .i64 (Int.tdiv p1 64) : Int) < (IntKind.wrap .i64 (r14.1 + r14.2.1))))
         (ret (.tuple #[.int .i64 (IntKind.wrap .i64 (r14.1 * 64)), .int .i64 (IntKind.wrap .i64 (r14.2.1 * 64)), .bool true]))
         (X10 (())))
        (X10 (())))) (())))))
theorem F.space.Space.Find.den (p0 : Option Addr) (p1 : Int) : denF Try.prog F.space.Space.Find.T Try.f15 [.va (.pointer p0), .va (.int .i64 p1)] = F.space.Space.Find p0 p1 := by kernel_rfl
theorem F.space.Space.Find.ok : (Try.f15.body.map (codeB F.space.Space.Find.T)).getD false = true := by kernel_rfl
theorem F.space.Space.Find.calls (p0 : Option Addr) (p1 : Int) {Q : Value → World → Prop} {w : World} (h : F.space.Space.Find p0 p1 Q w) : Calls Try.prog 15 #[.pointer p0, .int .i64 p1] w fun e w' => ∃ v, e = .returned v ∧ Q v w' :=
  calls_of_den Try.pnames Try.mixed F.space.Space.Find.T Try.func15 F.space.Space.Find.ok (es := [.va (.pointer p0), .va (.int .i64 p1)]) rfl (by rw [F.space.Space.Find.den]; exact h)

-- gloaming/gloamingref1.Block
def F.gloamingref1.Block.T : Tabs := ⟨fun _ => [],
  fun _ => none,
  fun _ => .quiet⟩
def F.gloamingref1.Block (p0 : Int) : Tree :=
 call Try.prog 46 [.int .i64 p0] (.one (.l (.int .i64))) fun (r1 : Int) =>
 br (decide ((r1 : Int) ≥ 0))
  (call Try.prog 47 [] (.one (.l .slice)) fun (r2 : Slc) =>
  ix r2.a r2.n r1 1 fun a3 =>
  ld (.l (.int .i64)) a3 fun (x4 : Int) =>
  ret (.int .i64 x4))
  (br (decide ((p0 : Int) < 1))
   (ret (.int .i64 0))
   (br (decide ((p0 : Int) > 1024))
    (ret (.int .i64 0))
    (need ((64 : Int) ≠ 0) <|
    ret (.int .i64 (IntKind.wrap .i64 ((IntKind.wrap .i64 (Int.tdiv (IntKind.wrap .i64 ((IntKind.wrap .i64 (p0 + 64)) - 1)) 64)) * 64))))))
theorem F.gloamingref1.Block.den (p0 : Int) : denF Try.prog F.gloamingref1.Block.T Try.f16 [.va (.int .i64 p0)] = F.gloamingref1.Block p0 := by kernel_rfl
theorem F.gloamingref1.Block.ok : (Try.f16.body.map (codeB F.gloamingref1.Block.T)).getD false = true := by kernel_rfl
theorem F.gloamingref1.Block.calls (p0 : Int) {Q : Value → World → Prop} {w : World} (h : F.gloamingref1.Block p0 Q w) : Calls Try.prog 16 #[.int .i64 p0] w fun e w' => ∃ v, e = .returned v ∧ Q v w' :=
  calls_of_den Try.pnames Try.mixed F.gloamingref1.Block.T Try.func16 F.gloamingref1.Block.ok (es := [.va (.int .i64 p0)]) rfl (by rw [F.gloamingref1.Block.den]; exact h)

-- (*gloaming/object.Heap).Put
def F.object.Heap.Put.T : Tabs := ⟨fun _ => [],
  fun _ => none,
  fun _ => .quiet⟩
def F.object.Heap.Put (p0 : Option Addr) (p1 : Int) (p2 : Int) (p3 : Int) : Tree :=
 call Try.prog 48 [.pointer p0, .int .i64 p1, .int .i64 p2] (.many [.l (.int .i64), .l (.int .i64)]) fun (r1 : KTs [.l (.int .i64), .l (.int .i64)]) =>
 br ((r1.2.1 : Int) != 0)
  (ret (.int .i64 r1.2.1))
  (nn p0 fun a2 =>
  ld (.l .ptr) (fa a2 0) fun (x3 : Option Addr) =>
  nn x3 fun a4 =>
  ld (.l .ptr) (fa a4 0) fun (x5 : Option Addr) =>
  call Try.prog 42 [.pointer x5, .int .i64 r1.1, .int .i64 p3] (.one (.l (.int .i64))) fun (r6 : Int) =>
  ret (.int .i64 r6))
theorem F.object.Heap.Put.den (p0 : Option Addr) (p1 : Int) (p2 : Int) (p3 : Int) : denF Try.prog F.object.Heap.Put.T Try.f17 [.va (.pointer p0), .va (.int .i64 p1), .va (.int .i64 p2), .va (.int .i64 p3)] = F.object.Heap.Put p0 p1 p2 p3 := by kernel_rfl
theorem F.object.Heap.Put.ok : (Try.f17.body.map (codeB F.object.Heap.Put.T)).getD false = true := by kernel_rfl
theorem F.object.Heap.Put.calls (p0 : Option Addr) (p1 : Int) (p2 : Int) (p3 : Int) {Q : Value → World → Prop} {w : World} (h : F.object.Heap.Put p0 p1 p2 p3 Q w) : Calls Try.prog 17 #[.pointer p0, .int .i64 p1, .int .i64 p2, .int .i64 p3] w fun e w' => ∃ v, e = .returned v ∧ Q v w' :=
  calls_of_den Try.pnames Try.mixed F.object.Heap.Put.T Try.func17 F.object.Heap.Put.ok (es := [.va (.pointer p0), .va (.int .i64 p1), .va (.int .i64 p2), .va (.int .i64 p3)]) rfl (by rw [F.object.Heap.Put.den]; exact h)

-- (*gloaming/object.Heap).Objects
def F.object.Heap.Objects.T : Tabs := ⟨(fun
    | 5 => [(3, .slice), (18, .int .i64)]
    | 10 => [(34, .int .i64)]
    | _ => []),
  fun _ => none,
  fun _ => .quiet⟩
def F.object.Heap.Objects (p0 : Option Addr) : Tree :=
 br (Option.isNone p0)
  (ret (.slice none 0 0))
  (nn p0 fun a1 =>
  ld (.l .ptr) (fa a1 0) fun (x2 : Option Addr) =>
  call Try.prog 35 [.pointer x2] (.one (.l .slice)) fun (r3 : Slc) =>
  lp [.slice, .int .i64] (fun X4 u5 => -- out:t3,:t18
   br (decide ((u5.2.1 : Int) < (r3.n : Nat)))
    (ix r3.a r3.n u5.2.1 1 fun a6 =>
    ld (.l (.int .i64)) a6 fun (x7 : Int) =>
    nw 46 (zc Try.prog 46) fun b8 =>
    st (⟨b8, 0, none⟩) [.int .i64 x7, .int .i64 0, .int .i64 0, .int .i64 0, .bool false, .slice none 0 0] <|
    call Try.prog 22 [.pointer p0, .int .i64 x7] (.many [.g [.int .i64, .int .i64, .int .i64, .bool], .l (.int .i64)]) fun (r9 : KTs [.g [.int .i64, .int .i64, .int .i64, .bool], .l (.int .i64)]) =>
    st (fa (⟨b8, 0, none⟩) 1) [.int .i64 r9.1.1, .int .i64 r9.1.2.1, .int .i64 r9.1.2.2.1, .bool r9.1.2.2.2.1] <|
    ld (.l (.int .i64)) (fa (fa (⟨b8, 0, none⟩) 1) 2) fun (x10 : Int) =>
    lp [.int .i64] (fun X11 u12 => -- :t34
     br (decide ((u12.1 : Int) < x10))
      (call Try.prog 21 [.pointer p0, .int .i64 x7, .int .i64 u12.1] (.many [.l (.int .i64), .l (.int .i64)]) fun (r13 : KTs [.l (.int .i64), .l (.int .i64)]) =>
      ld (.l .slice) (fa (⟨b8, 0, none⟩) 5) fun (x14 : Slc) =>
      nw 3 [.int .i64 r13.1] fun b15 =>
      opr Try.prog (Builtin.append_ #[44, 44] 44 #[.slice x14.a x14.n x14.c, .slice (some ⟨b15, 0, none⟩) 1 1]) (.one (.l .slice)) fun (r16 : Slc) =>
      st (fa (⟨b8, 0, none⟩) 5) [.slice r16.a r16.n r16.c] <|
      X11 (IntKind.wrap .i64 (u12.1 + 1), ()))
      (ld (.g [.int .i64, .int .i64, .int .i64, .int .i64, .bool, .slice]) (⟨b8, 0, none⟩) fun (x13 : LTs [.int .i64, .int .i64, .int .i64, .int .i64, .bool, .slice]) =>
      nw 46 [.int .i64 x13.1, .int .i64 x13.2.1, .int .i64 x13.2.2.1, .int .i64 x13.2.2.2.1, .bool x13.2.2.2.2.1, .slice x13.2.2.2.2.2.1.a x13.2.2.2.2.2.1.n x13.2.2.2.2.2.1.c] fun b14 =>
      opr Try.prog (Builtin.append_ #[41, 41] 41 #[.slice u5.1.a u5.1.n u5.1.c, .slice (some ⟨b14, 0, none⟩) 1 1]) (.one (.l .slice)) fun (r15 : Slc) =>
      X4 (⟨r15.a, r15.n, r15.c⟩, IntKind.wrap .i64 (u5.2.1 + 1), ()))) (0, ()))
    (ret (.slice u5.1.a u5.1.n u5.1.c))) (⟨none, 0, 0⟩, 0, ()))
theorem F.object.Heap.Objects.den (p0 : Option Addr) : denF Try.prog F.object.Heap.Objects.T Try.f18 [.va (.pointer p0)] = F.object.Heap.Objects p0 := by kernel_rfl
theorem F.object.Heap.Objects.ok : (Try.f18.body.map (codeB F.object.Heap.Objects.T)).getD false = true := by kernel_rfl
theorem F.object.Heap.Objects.calls (p0 : Option Addr) {Q : Value → World → Prop} {w : World} (h : F.object.Heap.Objects p0 Q w) : Calls Try.prog 18 #[.pointer p0] w fun e w' => ∃ v, e = .returned v ∧ Q v w' :=
  calls_of_den Try.pnames Try.mixed F.object.Heap.Objects.T Try.func18 F.object.Heap.Objects.ok (es := [.va (.pointer p0)]) rfl (by rw [F.object.Heap.Objects.den]; exact h)

-- (*gloaming/space.Space).Used
def F.space.Space.Used.T : Tabs := ⟨(fun
    | 3 => [(3, .int .i64), (12, .int .i64)]
    | _ => []),
  fun _ => none,
  fun _ => .quiet⟩
def F.space.Space.Used (p0 : Option Addr) : Tree :=
 call Try.prog 35 [.pointer p0] (.one (.l .slice)) fun (r1 : Slc) =>
 lp [.int .i64, .int .i64] (fun X2 u3 => -- n:t3,:t12
  br (decide ((u3.2.1 : Int) < (r1.n : Nat)))
   (ix r1.a r1.n u3.2.1 1 fun a4 =>
   ld (.l (.int .i64)) a4 fun (x5 : Int) =>
   call Try.prog 15 [.pointer p0, .int .i64 x5] (.many [.l (.int .i64), .l (.int .i64), .l .bool]) fun (r6 : KTs [.l (.int .i64), .l (.int .i64), .l .bool]) =>
   X2 (IntKind.wrap .i64 (u3.1 + r6.2.1), IntKind.wrap .i64 (u3.2.1 + 1), ()))
   (ret (.int .i64 u3.1))) (0, 0, ())
theorem F.space.Space.Used.den (p0 : Option Addr) : denF Try.prog F.space.Space.Used.T Try.f19 [.va (.pointer p0)] = F.space.Space.Used p0 := by kernel_rfl
theorem F.space.Space.Used.ok : (Try.f19.body.map (codeB F.space.Space.Used.T)).getD false = true := by kernel_rfl
theorem F.space.Space.Used.calls (p0 : Option Addr) {Q : Value → World → Prop} {w : World} (h : F.space.Space.Used p0 Q w) : Calls Try.prog 19 #[.pointer p0] w fun e w' => ∃ v, e = .returned v ∧ Q v w' :=
  calls_of_den Try.pnames Try.mixed F.space.Space.Used.T Try.func19 F.space.Space.Used.ok (es := [.va (.pointer p0)]) rfl (by rw [F.space.Space.Used.den]; exact h)

-- gloaming/gloaminglaw9.awake
def F.gloaminglaw9.awake.T : Tabs := ⟨fun _ => [],
  fun _ => none,
  fun _ => .quiet⟩
def F.gloaminglaw9.awake  : Tree :=
 call Try.prog 11 [.int .i64 2] (.many [.l .ptr, .l (.int .i64)]) fun (r1 : KTs [.l .ptr, .l (.int .i64)]) =>
 call Try.prog 12 [.pointer r1.1] (.one (.l .bool)) fun (r2 : Bool) =>
 br (!r2)
  (ret (.bool false))
  (call Try.prog 13 [.int .i64 r1.2.1] (.one (.l (.int .i64))) fun (r3 : Int) =>
  br ((r3 : Int) != 0)
   (ret (.bool false))
   (call Try.prog 14 [.pointer r1.1, .agg #[.int .i64 3, .int .i64 0, .int .i64 1, .bool false]] (.many [.l (.int .i64), .l (.int .i64)]) fun (r4 : KTs [.l (.int .i64), .l (.int .i64)]) =>
   br ((r4.1 : Int) == 64)
    (call Try.prog 13 [.int .i64 r4.2.1] (.one (.l (.int .i64))) fun (r5 : Int) =>
    br ((r5 : Int) == 0)
     (call Try.prog 18 [.pointer r1.1] (.one (.l .slice)) fun (r6 : Slc) =>
     ret (.bool (((r6.n : Nat) : Int) == 1)))
     (ret (.bool false)))
    (ret (.bool false))))
theorem F.gloaminglaw9.awake.den  : denF Try.prog F.gloaminglaw9.awake.T Try.f20 [] = F.gloaminglaw9.awake := by kernel_rfl
theorem F.gloaminglaw9.awake.ok : (Try.f20.body.map (codeB F.gloaminglaw9.awake.T)).getD false = true := by kernel_rfl
theorem F.gloaminglaw9.awake.calls  {Q : Value → World → Prop} {w : World} (h : F.gloaminglaw9.awake Q w) : Calls Try.prog 20 #[] w fun e w' => ∃ v, e = .returned v ∧ Q v w' :=
  calls_of_den Try.pnames Try.mixed F.gloaminglaw9.awake.T Try.func20 F.gloaminglaw9.awake.ok (es := []) rfl (by rw [F.gloaminglaw9.awake.den]; exact h)

-- (*gloaming/object.Heap).Field
def F.object.Heap.Field.T : Tabs := ⟨fun _ => [],
  fun _ => none,
  fun _ => .quiet⟩
def F.object.Heap.Field (p0 : Option Addr) (p1 : Int) (p2 : Int) : Tree :=
 call Try.prog 48 [.pointer p0, .int .i64 p1, .int .i64 p2] (.many [.l (.int .i64), .l (.int .i64)]) fun (r1 : KTs [.l (.int .i64), .l (.int .i64)]) =>
 br ((r1.2.1 : Int) != 0)
  (ret (.tuple #[.int .i64 0, .int .i64 r1.2.1]))
  (nn p0 fun a2 =>
  ld (.l .ptr) (fa a2 0) fun (x3 : Option Addr) =>
  nn x3 fun a4 =>
  ld (.l .ptr) (fa a4 0) fun (x5 : Option Addr) =>
  call Try.prog 49 [.pointer x5, .int .i64 r1.1] (.many [.l (.int .i64), .l (.int .i64)]) fun (r6 : KTs [.l (.int .i64), .l (.int .i64)]) =>
  ret (.tuple #[.int .i64 r6.1, .int .i64 r6.2.1]))
theorem F.object.Heap.Field.den (p0 : Option Addr) (p1 : Int) (p2 : Int) : denF Try.prog F.object.Heap.Field.T Try.f21 [.va (.pointer p0), .va (.int .i64 p1), .va (.int .i64 p2)] = F.object.Heap.Field p0 p1 p2 := by kernel_rfl
theorem F.object.Heap.Field.ok : (Try.f21.body.map (codeB F.object.Heap.Field.T)).getD false = true := by kernel_rfl
theorem F.object.Heap.Field.calls (p0 : Option Addr) (p1 : Int) (p2 : Int) {Q : Value → World → Prop} {w : World} (h : F.object.Heap.Field p0 p1 p2 Q w) : Calls Try.prog 21 #[.pointer p0, .int .i64 p1, .int .i64 p2] w fun e w' => ∃ v, e = .returned v ∧ Q v w' :=
  calls_of_den Try.pnames Try.mixed F.object.Heap.Field.T Try.func21 F.object.Heap.Field.ok (es := [.va (.pointer p0), .va (.int .i64 p1), .va (.int .i64 p2)]) rfl (by rw [F.object.Heap.Field.den]; exact h)

-- (*gloaming/object.Heap).Head
def F.object.Heap.Head.T : Tabs := ⟨fun _ => [],
  fun _ => none,
  fun _ => .quiet⟩
def F.object.Heap.Head (p0 : Option Addr) (p1 : Int) : Tree :=
 nw 32 (zc Try.prog 32) fun b1 =>
 br (Option.isNone p0)
  (st (⟨b1, 0, none⟩) [.int .i64 0, .int .i64 0, .int .i64 0, .bool false] <|
  ld (.g [.int .i64, .int .i64, .int .i64, .bool]) (⟨b1, 0, none⟩) fun (x2 : LTs [.int .i64, .int .i64, .int .i64, .bool]) =>
  ret (.tuple #[.agg #[.int .i64 x2.1, .int .i64 x2.2.1, .int .i64 x2.2.2.1, .bool x2.2.2.2.1], .int .i64 2]))
  (nn p0 fun a2 =>
  ld (.l .ptr) (fa a2 0) fun (x3 : Option Addr) =>
  call Try.prog 15 [.pointer x3, .int .i64 p1] (.many [.l (.int .i64), .l (.int .i64), .l .bool]) fun (r4 : KTs [.l (.int .i64), .l (.int .i64), .l .bool]) =>
  br (!r4.2.2.1)
   (st (⟨b1, 0, none⟩) [.int .i64 0, .int .i64 0, .int .i64 0, .bool false] <|
   ld (.g [.int .i64, .int .i64, .int .i64, .bool]) (⟨b1, 0, none⟩) fun (x5 : LTs [.int .i64, .int .i64, .int .i64, .bool]) =>
   ret (.tuple #[.agg #[.int .i64 x5.1, .int .i64 x5.2.1, .int .i64 x5.2.2.1, .bool x5.2.2.2.1], .int .i64 2]))
   (br ((r4.1 : Int) != p1)
    (st (⟨b1, 0, none⟩) [.int .i64 0, .int .i64 0, .int .i64 0, .bool false] <|
    ld (.g [.int .i64, .int .i64, .int .i64, .bool]) (⟨b1, 0, none⟩) fun (x5 : LTs [.int .i64, .int .i64, .int .i64, .bool]) =>
    ret (.tuple #[.agg #[.int .i64 x5.1, .int .i64 x5.2.1, .int .i64 x5.2.2.1, .bool x5.2.2.2.1], .int .i64 2]))
    (nn p0 fun a5 =>
    ld (.l .ptr) (fa a5 0) fun (x6 : Option Addr) =>
    nn x6 fun a7 =>
    ld (.l .ptr) (fa a7 0) fun (x8 : Option Addr) =>
    call Try.prog 49 [.pointer x8, .int .i64 p1] (.many [.l (.int .i64), .l (.int .i64)]) fun (r9 : KTs [.l (.int .i64), .l (.int .i64)]) =>
    br ((r9.2.1 : Int) != 0)
     (st (⟨b1, 0, none⟩) [.int .i64 0, .int .i64 0, .int .i64 0, .bool false] <|
     ld (.g [.int .i64, .int .i64, .int .i64, .bool]) (⟨b1, 0, none⟩) fun (x10 : LTs [.int .i64, .int .i64, .int .i64, .bool]) =>
     ret (.tuple #[.agg #[.int .i64 x10.1, .int .i64 x10.2.1, .int .i64 x10.2.2.1, .bool x10.2.2.2.1], .int .i64 r9.2.1]))
     (call Try.prog 50 [.int .i64 r9.1] (.many [.g [.int .i64, .int .i64, .int .i64, .bool], .l .bool]) fun (r10 : KTs [.g [.int .i64, .int .i64, .int .i64, .bool], .l .bool]) =>
     nw 32 (zc Try.prog 32) fun b11 =>
     st (⟨b11, 0, none⟩) [.int .i64 r10.1.1, .int .i64 r10.1.2.1, .int .i64 r10.1.2.2.1, .bool r10.1.2.2.2.1] <|
     br (!r10.2.1)
      (st (⟨b1, 0, none⟩) [.int .i64 0, .int .i64 0, .int .i64 0, .bool false] <|
      ld (.g [.int .i64, .int .i64, .int .i64, .bool]) (⟨b1, 0, none⟩) fun (x12 : LTs [.int .i64, .int .i64, .int .i64, .bool]) =>
      ret (.tuple #[.agg #[.int .i64 x12.1, .int .i64 x12.2.1, .int .i64 x12.2.2.1, .bool x12.2.2.2.1], .int .i64 2]))
      (ld (.g [.int .i64, .int .i64, .int .i64, .bool]) (⟨b11, 0, none⟩) fun (x12 : LTs [.int .i64, .int .i64, .int .i64, .bool]) =>
      st (⟨b1, 0, none⟩) [.int .i64 x12.1, .int .i64 x12.2.1, .int .i64 x12.2.2.1, .bool x12.2.2.2.1] <|
      ld (.g [.int .i64, .int .i64, .int .i64, .bool]) (⟨b1, 0, none⟩) fun (x13 : LTs [.int .i64, .int .i64, .int .i64, .bool]) =>
      ret (.tuple #[.agg #[.int .i64 x13.1, .int .i64 x13.2.1, .int .i64 x13.2.2.1, .bool x13.2.2.2.1], .int .i64 0]))))))
theorem F.object.Heap.Head.den (p0 : Option Addr) (p1 : Int) : denF Try.prog F.object.Heap.Head.T Try.f22 [.va (.pointer p0), .va (.int .i64 p1)] = F.object.Heap.Head p0 p1 := by kernel_rfl
theorem F.object.Heap.Head.ok : (Try.f22.body.map (codeB F.object.Heap.Head.T)).getD false = true := by kernel_rfl
theorem F.object.Heap.Head.calls (p0 : Option Addr) (p1 : Int) {Q : Value → World → Prop} {w : World} (h : F.object.Heap.Head p0 p1 Q w) : Calls Try.prog 22 #[.pointer p0, .int .i64 p1] w fun e w' => ∃ v, e = .returned v ∧ Q v w' :=
  calls_of_den Try.pnames Try.mixed F.object.Heap.Head.T Try.func22 F.object.Heap.Head.ok (es := [.va (.pointer p0), .va (.int .i64 p1)]) rfl (by rw [F.object.Heap.Head.den]; exact h)

-- (*gloaming/object.Heap).Refs
def F.object.Heap.Refs.T : Tabs := ⟨fun _ => [],
  fun _ => none,
  (fun
    | 6 => .held (some 6) (.go 0 false (.go 1 false (.go 2 false (.go 3 false (.go 4 false (.go 5 false (.two (.go 6 true (.go 7 false (.go 8 false (.go 9 false (.go 10 false (.go 11 false (.go 12 false .nil))))))) (.go 10 false (.go 6 true (.go 7 false (.go 8 false (.go 9 false (.go 11 false (.go 12 false .nil))))))))))))))
    | _ => .quiet)⟩
def F.object.Heap.Refs (p0 : Option Addr) (p1 : Int) : Tree :=
 call Try.prog 22 [.pointer p0, .int .i64 p1] (.many [.g [.int .i64, .int .i64, .int .i64, .bool], .l (.int .i64)]) fun (r1 : KTs [.g [.int .i64, .int .i64, .int .i64, .bool], .l (.int .i64)]) =>
 nw 32 (zc Try.prog 32) fun b2 =>
 st (⟨b2, 0, none⟩) [.int .i64 r1.1.1, .int .i64 r1.1.2.1, .int .i64 r1.1.2.2.1, .bool r1.1.2.2.2.1] <|
 br ((r1.2.1 : Int) != 0)
  (ret (.slice none 0 0))
  (ld (.l (.int .i64)) (fa (⟨b2, 0, none⟩) 0) fun (x3 : Int) =>
  br ((x3 : Int) == 1)
   (drw <| held fun S4 =>
   nn p0 fun a5 =>
   ldS S4 (.l .ptr) (fa a5 1) fun (x6 : Option Addr) =>
   ldS S4 (.l (.int .i64)) (fa (⟨b2, 0, none⟩) 1) fun (x7 : Int) =>
   both
    (call Try.prog 27 [.pointer x6, .int .i64 x7] (.many [.g [.int .i64, .slice], .l (.int .i64)]) fun (r8 : KTs [.g [.int .i64, .slice], .l (.int .i64)]) =>
    nw 58 (zc Try.prog 58) fun b9 =>
    st (⟨b9, 0, none⟩) [.int .i64 r8.1.1, .slice r8.1.2.1.a r8.1.2.1.n r8.1.2.1.c] <|
    ld (.l .slice) (fa (⟨b9, 0, none⟩) 1) fun (x10 : Slc) =>
    ret (.slice x10.a x10.n x10.c))
    (nw 58 (zc Try.prog 58) fun b11 =>
    chk S4 <|
    call Try.prog 27 [.pointer x6, .int .i64 x7] (.many [.g [.int .i64, .slice], .l (.int .i64)]) fun (r12 : KTs [.g [.int .i64, .slice], .l (.int .i64)]) =>
    st (⟨b11, 0, none⟩) [.int .i64 r12.1.1, .slice r12.1.2.1.a r12.1.2.1.n r12.1.2.1.c] <|
    ld (.l .slice) (fa (⟨b11, 0, none⟩) 1) fun (x13 : Slc) =>
    ret (.slice x13.a x13.n x13.c)))
   (br ((x3 : Int) == 2)
    (ld (.l (.int .i64)) (fa (⟨b2, 0, none⟩) 2) fun (x4 : Int) =>
    call Try.prog 51 [.int .i64 x4] (.one (.l .slice)) fun (r5 : Slc) =>
    ret (.slice r5.a r5.n r5.c))
    (br ((x3 : Int) == 4)
     (nw 3 [.int .i64 2] fun b4 =>
     ret (.slice (some ⟨b4, 0, none⟩) 1 1))
     (ret (.slice none 0 0)))))
theorem F.object.Heap.Refs.den (p0 : Option Addr) (p1 : Int) : denF Try.prog F.object.Heap.Refs.T Try.f23 [.va (.pointer p0), .va (.int .i64 p1)] = F.object.Heap.Refs p0 p1 := by kernel_rfl
theorem F.object.Heap.Refs.ok : (Try.f23.body.map (codeB F.object.Heap.Refs.T)).getD false = true := by kernel_rfl
theorem F.object.Heap.Refs.calls (p0 : Option Addr) (p1 : Int) {Q : Value → World → Prop} {w : World} (h : F.object.Heap.Refs p0 p1 Q w) : Calls Try.prog 23 #[.pointer p0, .int .i64 p1] w fun e w' => ∃ v, e = .returned v ∧ Q v w' :=
  calls_of_den Try.pnames Try.mixed F.object.Heap.Refs.T Try.func23 F.object.Heap.Refs.ok (es := [.va (.pointer p0), .va (.int .i64 p1)]) rfl (by rw [F.object.Heap.Refs.den]; exact h)

-- (*gloaming/space.Space).Free
def F.space.Space.Free.T : Tabs := ⟨fun _ => [],
  fun _ => none,
  fun _ => .quiet⟩
def F.space.Space.Free (p0 : Option Addr) (p1 : Int) : Tree :=
 call Try.prog 15 [.pointer p0, .int .i64 p1] (.many [.l (.int .i64), .l (.int .i64), .l .bool]) fun (r1 : KTs [.l (.int .i64), .l (.int .i64), .l .bool]) =>
 br (!r1.2.2.1)
  (ret (.int .i64 2))
  (br ((r1.1 : Int) != p1)
   (ret (.int .i64 2))
   (need ((64 : Int) ≠ 0) <|
   nn p0 fun a2 =>
   ld (.l .map) (fa a2 2) fun (x3 : Option Nat) =>
   opr Try.prog (Instr.lookup 77 (.map x3) (.int .i64 (IntKind.wrap .i64 (Int.tdiv p1 64))) true) (.many [.l .ptr, .l .bool]) fun (r4 : KTs [.l .ptr, .l .bool]) =>
   br (!r4.2.1)
    (nn p0 fun a5 =>
    ld (.l .map) (fa a5 3) fun (x6 : Option Nat) =>
    opr Try.prog (Instr.lookup 78 (.map x6) (.int .i64 (IntKind.wrap .i64 (Int.tdiv p1 64))) false) (.one (.l (.int .i64))) fun (r7 : Int) =>
    nn p0 fun a8 =>
    ld (.l .map) (fa a8 3) fun (x9 : Option Nat) =>
    opr Try.prog (Builtin.delete_ #[78, 3] 0 #[.map x9, .int .i64 (IntKind.wrap .i64 (Int.tdiv p1 64))]) (.many []) fun (r10 : KTs []) =>
    nn p0 fun a11 =>
    ld (.l .ptr) (fa a11 1) fun (x12 : Option Addr) =>
    call Try.prog 52 [.pointer x12, .int .i64 (IntKind.wrap .i64 (Int.tdiv p1 64)), .int .i64 r7] (.one (.l (.int .i64))) fun (r13 : Int) =>
    ret (.int .i64 r13))
    (need ((64 : Int) ≠ 0) <|
    call Try.prog 44 [.pointer r4.1] (.one (.l (.int .i64))) fun (r5 : Int) =>
    need ((r5 : Int) ≠ 0) <|
    call Try.prog 53 [.pointer r4.1, .int .i64 (IntKind.wrap .i64 (Int.tdiv (Int.tmod p1 64) r5))] (.one (.l (.int .i64))) fun (r6 : Int) =>
    br ((r6 : Int) != 0)
     (ret (.int .i64 r6))
     (call Try.prog 54 [.pointer r4.1] (.one (.l .bool)) fun (r7 : Bool) =>
     br (!r7)
      (ret (.int .i64 r6))
      (nn p0 fun a8 =>
      ld (.l .map) (fa a8 2) fun (x9 : Option Nat) =>
      opr Try.prog (Builtin.delete_ #[77, 3] 0 #[.map x9, .int .i64 (IntKind.wrap .i64 (Int.tdiv p1 64))]) (.many []) fun (r10 : KTs []) =>
      nn p0 fun a11 =>
      ld (.l .ptr) (fa a11 1) fun (x12 : Option Addr) =>
      call Try.prog 52 [.pointer x12, .int .i64 (IntKind.wrap .i64 (Int.tdiv p1 64)), .int .i64 1] (.one (.l (.int .i64))) fun (r13 : Int) =>
      ret (.int .i64 r13))))))
theorem F.space.Space.Free.den (p0 : Option Addr) (p1 : Int) : denF Try.prog F.space.Space.Free.T Try.f24 [.va (.pointer p0), .va (.int .i64 p1)] = F.space.Space.Free p0 p1 := by kernel_rfl
theorem F.space.Space.Free.ok : (Try.f24.body.map (codeB F.space.Space.Free.T)).getD false = true := by kernel_rfl
theorem F.space.Space.Free.calls (p0 : Option Addr) (p1 : Int) {Q : Value → World → Prop} {w : World} (h : F.space.Space.Free p0 p1 Q w) : Calls Try.prog 24 #[.pointer p0, .int .i64 p1] w fun e w' => ∃ v, e = .returned v ∧ Q v w' :=
  calls_of_den Try.pnames Try.mixed F.space.Space.Free.T Try.func24 F.space.Space.Free.ok (es := [.va (.pointer p0), .va (.int .i64 p1)]) rfl (by rw [F.space.Space.Free.den]; exact h)

-- (*gloaming/class.Table).Of
def F.class.Table.Of.T : Tabs := ⟨fun _ => [],
  fun _ => none,
  fun _ => .quiet⟩
def F.class.Table.Of (p0 : Option Addr) (p1 : Int) (p2 : Slc) : Tree :=
 call Try.prog 55 [.pointer p0, .agg #[.int .i64 p1, .slice p2.a p2.n p2.c]] (.many [.l (.int .i64), .l (.int .i64)]) fun (r1 : KTs [.l (.int .i64), .l (.int .i64)]) =>
 ret (.tuple #[.int .i64 r1.1, .int .i64 r1.2.1])
theorem F.class.Table.Of.den (p0 : Option Addr) (p1 : Int) (p2 : Slc) : denF Try.prog F.class.Table.Of.T Try.f25 [.va (.pointer p0), .va (.int .i64 p1), .va (.slice p2.a p2.n p2.c)] = F.class.Table.Of p0 p1 p2 := by kernel_rfl
theorem F.class.Table.Of.ok : (Try.f25.body.map (codeB F.class.Table.Of.T)).getD false = true := by kernel_rfl
theorem F.class.Table.Of.calls (p0 : Option Addr) (p1 : Int) (p2 : Slc) {Q : Value → World → Prop} {w : World} (h : F.class.Table.Of p0 p1 p2 Q w) : Calls Try.prog 25 #[.pointer p0, .int .i64 p1, .slice p2.a p2.n p2.c] w fun e w' => ∃ v, e = .returned v ∧ Q v w' :=
  calls_of_den Try.pnames Try.mixed F.class.Table.Of.T Try.func25 F.class.Table.Of.ok (es := [.va (.pointer p0), .va (.int .i64 p1), .va (.slice p2.a p2.n p2.c)]) rfl (by rw [F.class.Table.Of.den]; exact h)

-- (*gloaming/object.Heap).Final
def F.object.Heap.Final.T : Tabs := ⟨fun _ => [],
  fun _ => none,
  fun _ => .quiet⟩
def F.object.Heap.Final (p0 : Option Addr) (p1 : Int) : Tree :=
 call Try.prog 22 [.pointer p0, .int .i64 p1] (.many [.g [.int .i64, .int .i64, .int .i64, .bool], .l (.int .i64)]) fun (r1 : KTs [.g [.int .i64, .int .i64, .int .i64, .bool], .l (.int .i64)]) =>
 nw 32 (zc Try.prog 32) fun b2 =>
 st (⟨b2, 0, none⟩) [.int .i64 r1.1.1, .int .i64 r1.1.2.1, .int .i64 r1.1.2.2.1, .bool r1.1.2.2.2.1] <|
 br ((r1.2.1 : Int) != 0)
  (ret (.int .i64 r1.2.1))
  (ld (.l (.int .i64)) (fa (⟨b2, 0, none⟩) 0) fun (x3 : Int) =>
  br ((x3 : Int) == 4)
   (ret (.int .i64 5))
   (ld (.l .bool) (fa (⟨b2, 0, none⟩) 3) fun (x4 : Bool) =>
   br x4
    (ret (.int .i64 4))
    (st (fa (⟨b2, 0, none⟩) 3) [.bool true] <|
    ld (.g [.int .i64, .int .i64, .int .i64, .bool]) (⟨b2, 0, none⟩) fun (x5 : LTs [.int .i64, .int .i64, .int .i64, .bool]) =>
    call Try.prog 41 [.agg #[.int .i64 x5.1, .int .i64 x5.2.1, .int .i64 x5.2.2.1, .bool x5.2.2.2.1]] (.many [.l (.int .i64), .l .bool]) fun (r6 : KTs [.l (.int .i64), .l .bool]) =>
    nn p0 fun a7 =>
    ld (.l .ptr) (fa a7 0) fun (x8 : Option Addr) =>
    nn x8 fun a9 =>
    ld (.l .ptr) (fa a9 0) fun (x10 : Option Addr) =>
    call Try.prog 42 [.pointer x10, .int .i64 p1, .int .i64 r6.1] (.one (.l (.int .i64))) fun (r11 : Int) =>
    ret (.int .i64 r11))))
theorem F.object.Heap.Final.den (p0 : Option Addr) (p1 : Int) : denF Try.prog F.object.Heap.Final.T Try.f26 [.va (.pointer p0), .va (.int .i64 p1)] = F.object.Heap.Final p0 p1 := by kernel_rfl
theorem F.object.Heap.Final.ok : (Try.f26.body.map (codeB F.object.Heap.Final.T)).getD false = true := by kernel_rfl
theorem F.object.Heap.Final.calls (p0 : Option Addr) (p1 : Int) {Q : Value → World → Prop} {w : World} (h : F.object.Heap.Final p0 p1 Q w) : Calls Try.prog 26 #[.pointer p0, .int .i64 p1] w fun e w' => ∃ v, e = .returned v ∧ Q v w' :=
  calls_of_den Try.pnames Try.mixed F.object.Heap.Final.T Try.func26 F.object.Heap.Final.ok (es := [.va (.pointer p0), .va (.int .i64 p1)]) rfl (by rw [F.object.Heap.Final.den]; exact h)

-- (*gloaming/class.Table).Class
def F.class.Table.Class.T : Tabs := ⟨fun _ => [],
  fun _ => none,
  fun _ => .quiet⟩
def F.class.Table.Class (p0 : Option Addr) (p1 : Int) : Tree :=
 nw 58 (zc Try.prog 58) fun b1 =>
 br (decide ((p1 : Int) < 1))
  (st (⟨b1, 0, none⟩) [.int .i64 0, .slice none 0 0] <|
  ld (.g [.int .i64, .slice]) (⟨b1, 0, none⟩) fun (x2 : LTs [.int .i64, .slice]) =>
  ret (.tuple #[.agg #[.int .i64 x2.1, .slice x2.2.1.a x2.2.1.n x2.2.1.c], .int .i64 2]))
  (call Try.prog 29 [.pointer p0] (.one (.l (.int .i64))) fun (r2 : Int) =>
  br (decide ((p1 : Int) > r2))
   (st (⟨b1, 0, none⟩) [.int .i64 0, .slice none 0 0] <|
   ld (.g [.int .i64, .slice]) (⟨b1, 0, none⟩) fun (x3 : LTs [.int .i64, .slice]) =>
   ret (.tuple #[.agg #[.int .i64 x3.1, .slice x3.2.1.a x3.2.1.n x3.2.1.c], .int .i64 2]))
   (nn p0 fun a3 =>
   ld (.l .slice) (fa a3 0) fun (x4 : Slc) =>
   ix x4.a x4.n (IntKind.wrap .i64 (p1 - 1)) 2 fun a5 =>
   ld (.g [.int .i64, .slice]) a5 fun (x6 : LTs [.int .i64, .slice]) =>
   call Try.prog 56 [.agg #[.int .i64 x6.1, .slice x6.2.1.a x6.2.1.n x6.2.1.c]] (.one (.g [.int .i64, .slice])) fun (r7 : LTs [.int .i64, .slice]) =>
   st (⟨b1, 0, none⟩) [.int .i64 r7.1, .slice r7.2.1.a r7.2.1.n r7.2.1.c] <|
   ld (.g [.int .i64, .slice]) (⟨b1, 0, none⟩) fun (x8 : LTs [.int .i64, .slice]) =>
   ret (.tuple #[.agg #[.int .i64 x8.1, .slice x8.2.1.a x8.2.1.n x8.2.1.c], .int .i64 0])))
theorem F.class.Table.Class.den (p0 : Option Addr) (p1 : Int) : denF Try.prog F.class.Table.Class.T Try.f27 [.va (.pointer p0), .va (.int .i64 p1)] = F.class.Table.Class p0 p1 := by kernel_rfl
theorem F.class.Table.Class.ok : (Try.f27.body.map (codeB F.class.Table.Class.T)).getD false = true := by kernel_rfl
theorem F.class.Table.Class.calls (p0 : Option Addr) (p1 : Int) {Q : Value → World → Prop} {w : World} (h : F.class.Table.Class p0 p1 Q w) : Calls Try.prog 27 #[.pointer p0, .int .i64 p1] w fun e w' => ∃ v, e = .returned v ∧ Q v w' :=
  calls_of_den Try.pnames Try.mixed F.class.Table.Class.T Try.func27 F.class.Table.Class.ok (es := [.va (.pointer p0), .va (.int .i64 p1)]) rfl (by rw [F.class.Table.Class.den]; exact h)

-- gloaming/gloamingref1.SameInts
def F.gloamingref1.SameInts.T : Tabs := ⟨(fun
    | 4 => [(5, .int .i64)]
    | _ => []),
  fun _ => none,
  (fun
    | 6 => .quiet
    | _ => .quiet)⟩
def F.gloamingref1.SameInts (p0 : Slc) (p1 : Slc) : Tree :=
 br (((p0.n : Nat) : Int) != (p1.n : Nat))
  (ret (.bool false))
  (lp [.int .i64] (fun X1 u2 => -- i:t5
   br (decide ((u2.1 : Int) < (p0.n : Nat)))
    (drw <|
    ix p0.a p0.n u2.1 1 fun a3 =>
    ld (.l (.int .i64)) a3 fun (x4 : Int) =>
    ix p1.a p1.n u2.1 1 fun a5 =>
    ld (.l (.int .i64)) a5 fun (x6 : Int) =>
    br ((x4 : Int) != x6)
     (ret (.bool false))
     (X1 (IntKind.wrap .i64 (u2.1 + 1), ())))
    (ret (.bool true))) (0, ()))
theorem F.gloamingref1.SameInts.den (p0 : Slc) (p1 : Slc) : denF Try.prog F.gloamingref1.SameInts.T Try.f28 [.va (.slice p0.a p0.n p0.c), .va (.slice p1.a p1.n p1.c)] = F.gloamingref1.SameInts p0 p1 := by kernel_rfl
theorem F.gloamingref1.SameInts.ok : (Try.f28.body.map (codeB F.gloamingref1.SameInts.T)).getD false = true := by kernel_rfl
theorem F.gloamingref1.SameInts.calls (p0 : Slc) (p1 : Slc) {Q : Value → World → Prop} {w : World} (h : F.gloamingref1.SameInts p0 p1 Q w) : Calls Try.prog 28 #[.slice p0.a p0.n p0.c, .slice p1.a p1.n p1.c] w fun e w' => ∃ v, e = .returned v ∧ Q v w' :=
  calls_of_den Try.pnames Try.mixed F.gloamingref1.SameInts.T Try.func28 F.gloamingref1.SameInts.ok (es := [.va (.slice p0.a p0.n p0.c), .va (.slice p1.a p1.n p1.c)]) rfl (by rw [F.gloamingref1.SameInts.den]; exact h)

-- (*gloaming/class.Table).Classes
def F.class.Table.Classes.T : Tabs := ⟨fun _ => [],
  fun _ => none,
  fun _ => .quiet⟩
def F.class.Table.Classes (p0 : Option Addr) : Tree :=
 br (Option.isNone p0)
  (ret (.int .i64 0))
  (nn p0 fun a1 =>
  ld (.l .slice) (fa a1 0) fun (x2 : Slc) =>
  ret (.int .i64 (x2.n : Nat)))
theorem F.class.Table.Classes.den (p0 : Option Addr) : denF Try.prog F.class.Table.Classes.T Try.f29 [.va (.pointer p0)] = F.class.Table.Classes p0 := by kernel_rfl
theorem F.class.Table.Classes.ok : (Try.f29.body.map (codeB F.class.Table.Classes.T)).getD false = true := by kernel_rfl
theorem F.class.Table.Classes.calls (p0 : Option Addr) {Q : Value → World → Prop} {w : World} (h : F.class.Table.Classes p0 Q w) : Calls Try.prog 29 #[.pointer p0] w fun e w' => ∃ v, e = .returned v ∧ Q v w' :=
  calls_of_den Try.pnames Try.mixed F.class.Table.Classes.T Try.func29 F.class.Table.Classes.ok (es := [.va (.pointer p0)]) rfl (by rw [F.class.Table.Classes.den]; exact h)

-- gloaming/gloaminglaw17.Graph
def F.gloaminglaw17.Graph.T : Tabs := ⟨(fun
    | 8 => [(7, .slice), (8, .int .i64)]
    | 15 => [(11, .int .i64)]
    | 19 => [(13, .int .i64)]
    | _ => []),
  fun _ => none,
  (fun
    | 21 => .tail 10
    | _ => .quiet)⟩
def F.gloaminglaw17.Graph (p0 : Slc) : Tree :=
 call Try.prog 11 [.int .i64 60] (.many [.l .ptr, .l (.int .i64)]) fun (r1 : KTs [.l .ptr, .l (.int .i64)]) =>
 call Try.prog 12 [.pointer r1.1] (.one (.l .bool)) fun (r2 : Bool) =>
 br (!r2)
  (ret (.tuple #[.pointer none, .slice none 0 0]))
  (call Try.prog 13 [.int .i64 r1.2.1] (.one (.l (.int .i64))) fun (r3 : Int) =>
  br ((r3 : Int) != 0)
   (ret (.tuple #[.pointer none, .slice none 0 0]))
   (nn r1.1 fun a4 =>
   ld (.l .ptr) (fa a4 1) fun (x5 : Option Addr) =>
   nw 3 [.int .i64 0, .int .i64 2] fun b6 =>
   call Try.prog 25 [.pointer x5, .int .i64 3, .slice (some ⟨b6, 0, none⟩) 2 2] (.many [.l (.int .i64), .l (.int .i64)]) fun (r7 : KTs [.l (.int .i64), .l (.int .i64)]) =>
   call Try.prog 57 [.slice p0.a p0.n p0.c] (.one (.l .slice)) fun (r8 : Slc) =>
   lp [.slice, .int .i64] (fun X9 u10 => -- l:t7,i:t8
    br (decide ((u10.2.1 : Int) < (r8.n : Nat)))
     (ix r8.a r8.n u10.2.1 4 fun a11 =>
     ld (.g [.int .i64, .int .i64, .int .i64, .bool]) a11 fun (x12 : LTs [.int .i64, .int .i64, .int .i64, .bool]) =>
     call Try.prog 14 [.pointer r1.1, .agg #[.int .i64 x12.1, .int .i64 x12.2.1, .int .i64 x12.2.2.1, .bool x12.2.2.2.1]] (.many [.l (.int .i64), .l (.int .i64)]) fun (r13 : KTs [.l (.int .i64), .l (.int .i64)]) =>
     call Try.prog 13 [.int .i64 r13.2.1] (.one (.l (.int .i64))) fun (r14 : Int) =>
     br ((r14 : Int) != 0)
      (ret (.tuple #[.pointer none, .slice none 0 0]))
      (nw 3 [.int .i64 r13.1] fun b15 =>
      opr Try.prog (Builtin.append_ #[44, 44] 44 #[.slice u10.1.a u10.1.n u10.1.c, .slice (some ⟨b15, 0, none⟩) 1 1]) (.one (.l .slice)) fun (r16 : Slc) =>
      X9 (⟨r16.a, r16.n, r16.c⟩, IntKind.wrap .i64 (u10.2.1 + 1), ())))
     (lp [.int .i64] (fun X11 u12 => -- i:t11
      br (decide ((u12.1 : Int) < (r8.n : Nat)))
       (ix r8.a r8.n u12.1 4 fun a13 =>
       ld (.g [.int .i64, .int .i64, .int .i64, .bool]) a13 fun (x14 : LTs [.int .i64, .int .i64, .int .i64, .bool]) =>
       call Try.prog 58 [.agg #[.int .i64 x14.1, .int .i64 x14.2.1, .int .i64 x14.2.2.1, .bool x14.2.2.2.1], .slice u10.1.a u10.1.n u10.1.c, .slice p0.a p0.n p0.c, .int .i64 u12.1] (.one (.l .slice)) fun (r15 : Slc) =>
       lp [.int .i64] (fun X16 u17 => -- k:t13
        br (decide ((u17.1 : Int) < (r15.n : Nat)))
         (drw <|
         ix u10.1.a u10.1.n u12.1 1 fun a18 =>
         ld (.l (.int .i64)) a18 fun (x19 : Int) =>
         ix r15.a r15.n u17.1 1 fun a20 =>
         ld (.l (.int .i64)) a20 fun (x21 : Int) =>
         call Try.prog 17 [.pointer r1.1, .int .i64 x19, .int .i64 u17.1, .int .i64 x21] (.one (.l (.int .i64))) fun (r22 : Int) =>
         call Try.prog 13 [.int .i64 r22] (.one (.l (.int .i64))) fun (r23 : Int) =>
         br ((r23 : Int) != 0)
          (ret (.tuple #[.pointer none, .slice none 0 0]))
          (X16 (IntKind.wrap .i64 (u17.1 + 1), ())))
         (X11 (IntKind.wrap .i64 (u12.1 + 1), ()))) (0, ()))
       (ret (.tuple #[.pointer r1.1, .slice u10.1.a u10.1.n u10.1.c]))) (0, ()))) (⟨none, 0, 0⟩, 0, ())))
theorem F.gloaminglaw17.Graph.den (p0 : Slc) : denF Try.prog F.gloaminglaw17.Graph.T Try.f30 [.va (.slice p0.a p0.n p0.c)] = F.gloaminglaw17.Graph p0 := by kernel_rfl
theorem F.gloaminglaw17.Graph.ok : (Try.f30.body.map (codeB F.gloaminglaw17.Graph.T)).getD false = true := by kernel_rfl
theorem F.gloaminglaw17.Graph.calls (p0 : Slc) {Q : Value → World → Prop} {w : World} (h : F.gloaminglaw17.Graph p0 Q w) : Calls Try.prog 30 #[.slice p0.a p0.n p0.c] w fun e w' => ∃ v, e = .returned v ∧ Q v w' :=
  calls_of_den Try.pnames Try.mixed F.gloaminglaw17.Graph.T Try.func30 F.gloaminglaw17.Graph.ok (es := [.va (.slice p0.a p0.n p0.c)]) rfl (by rw [F.gloaminglaw17.Graph.den]; exact h)

-- gloaming/gloaminglaw17.Some
def F.gloaminglaw17.Some.T : Tabs := ⟨(fun
    | 3 => [(7, .slice), (8, .int .i64)]
    | _ => []),
  fun _ => none,
  fun _ => .quiet⟩
def F.gloaminglaw17.Some (p0 : Slc) (p1 : Slc) (p2 : Int) : Tree :=
 lp [.slice, .int .i64] (fun X1 u2 => -- out:t7,i:t8
  br (decide ((u2.2.1 : Int) < (p1.n : Nat)))
   (br (decide ((u2.2.1 : Int) < p2))
    (br (decide (((p0.n : Nat) : Int) > 0))
     (ix p1.a p1.n u2.2.1 1 fun a3 =>
     ld (.l (.int .u8)) a3 fun (x4 : Int) =>
     br (decide ((x4 : Int) < 230))
      (ix p1.a p1.n u2.2.1 1 fun a5 =>
      ld (.l (.int .u8)) a5 fun (x6 : Int) =>
      need (((p0.n : Nat) : Int) ≠ 0) <|
      ix p0.a p0.n (Int.tmod (IntKind.wrap .i64 x6) (p0.n : Nat)) 1 fun a7 =>
      ld (.l (.int .i64)) a7 fun (x8 : Int) =>
      nw 3 [.int .i64 x8] fun b9 =>
      opr Try.prog (Builtin.append_ #[44, 44] 44 #[.slice u2.1.a u2.1.n u2.1.c, .slice (some ⟨b9, 0, none⟩) 1 1]) (.one (.l .slice)) fun (r10 : Slc) =>
      X1 (⟨r10.a, r10.n, r10.c⟩, IntKind.wrap .i64 (u2.2.1 + 1), ()))
      (ix p1.a p1.n u2.2.1 1 fun a5 =>
      ld (.l (.int .u8)) a5 fun (x6 : Int) =>
      nw 3 [.int .i64 (IntKind.wrap .i64 ((IntKind.wrap .i64 x6) - 231))] fun b7 =>
      opr Try.prog (Builtin.append_ #[44, 44] 44 #[.slice u2.1.a u2.1.n u2.1.c, .slice (some ⟨b7, 0, none⟩) 1 1]) (.one (.l .slice)) fun (r8 : Slc) =>
      X1 (⟨r8.a, r8.n, r8.c⟩, IntKind.wrap .i64 (u2.2.1 + 1), ())))
     (ix p1.a p1.n u2.2.1 1 fun a3 =>
     ld (.l (.int .u8)) a3 fun (x4 : Int) =>
     nw 3 [.int .i64 (IntKind.wrap .i64 ((IntKind.wrap .i64 x4) - 231))] fun b5 =>
     opr Try.prog (Builtin.append_ #[44, 44] 44 #[.slice u2.1.a u2.1.n u2.1.c, .slice (some ⟨b5, 0, none⟩) 1 1]) (.one (.l .slice)) fun (r6 : Slc) =>
     X1 (⟨r6.a, r6.n, r6.c⟩, IntKind.wrap .i64 (u2.2.1 + 1), ())))
    (ret (.slice u2.1.a u2.1.n u2.1.c)))
   (ret (.slice u2.1.a u2.1.n u2.1.c))) (⟨none, 0, 0⟩, 0, ())
theorem F.gloaminglaw17.Some.den (p0 : Slc) (p1 : Slc) (p2 : Int) : denF Try.prog F.gloaminglaw17.Some.T Try.f31 [.va (.slice p0.a p0.n p0.c), .va (.slice p1.a p1.n p1.c), .va (.int .i64 p2)] = F.gloaminglaw17.Some p0 p1 p2 := by kernel_rfl
theorem F.gloaminglaw17.Some.ok : (Try.f31.body.map (codeB F.gloaminglaw17.Some.T)).getD false = true := by kernel_rfl
theorem F.gloaminglaw17.Some.calls (p0 : Slc) (p1 : Slc) (p2 : Int) {Q : Value → World → Prop} {w : World} (h : F.gloaminglaw17.Some p0 p1 p2 Q w) : Calls Try.prog 31 #[.slice p0.a p0.n p0.c, .slice p1.a p1.n p1.c, .int .i64 p2] w fun e w' => ∃ v, e = .returned v ∧ Q v w' :=
  calls_of_den Try.pnames Try.mixed F.gloaminglaw17.Some.T Try.func31 F.gloaminglaw17.Some.ok (es := [.va (.slice p0.a p0.n p0.c), .va (.slice p1.a p1.n p1.c), .va (.int .i64 p2)]) rfl (by rw [F.gloaminglaw17.Some.den]; exact h)

-- gloaming/sweep.Dead
def F.sweep.Dead.T : Tabs := ⟨(fun
    | 5 => [(16, .int .i64)]
    | 11 => [(8, .slice), (29, .int .i64)]
    | _ => []),
  fun _ => none,
  fun _ => .quiet⟩
def F.sweep.Dead (p0 : Option Addr) (p1 : Slc) : Tree :=
 br (Option.isNone p0)
  (ret (.slice none 0 0))
  (nwM fun b1 =>
  lp [.int .i64] (fun X2 u3 => -- :t16
   br (decide ((u3.1 : Int) < (p1.n : Nat)))
    (ix p1.a p1.n u3.1 1 fun a4 =>
    ld (.l (.int .i64)) a4 fun (x5 : Int) =>
    oprU Try.prog (Instr.mapUpdate 101 (.map (some b1)) (.int .i64 x5) (.bool true)) <|
    X2 (IntKind.wrap .i64 (u3.1 + 1), ()))
    (nn p0 fun a4 =>
    ld (.l .ptr) (fa a4 0) fun (x5 : Option Addr) =>
    call Try.prog 35 [.pointer x5] (.one (.l .slice)) fun (r6 : Slc) =>
    lp [.slice, .int .i64] (fun X7 u8 => -- out:t8,:t29
     br (decide ((u8.2.1 : Int) < (r6.n : Nat)))
      (ix r6.a r6.n u8.2.1 1 fun a9 =>
      ld (.l (.int .i64)) a9 fun (x10 : Int) =>
      opr Try.prog (Instr.lookup 101 (.map (some b1)) (.int .i64 x10) false) (.one (.l .bool)) fun (r11 : Bool) =>
      br (!r11)
       (nw 3 [.int .i64 x10] fun b12 =>
       opr Try.prog (Builtin.append_ #[44, 44] 44 #[.slice u8.1.a u8.1.n u8.1.c, .slice (some ⟨b12, 0, none⟩) 1 1]) (.one (.l .slice)) fun (r13 : Slc) =>
       X7 (⟨r13.a, r13.n, r13.c⟩, IntKind.wrap .i64 (u8.2.1 + 1), ()))
       (X7 (⟨u8.1.a, u8.1.n, u8.1.c⟩, IntKind.wrap .i64 (u8.2.1 + 1), ())))
      (ret (.slice u8.1.a u8.1.n u8.1.c))) (⟨none, 0, 0⟩, 0, ()))) (0, ()))
theorem F.sweep.Dead.den (p0 : Option Addr) (p1 : Slc) : denF Try.prog F.sweep.Dead.T Try.f32 [.va (.pointer p0), .va (.slice p1.a p1.n p1.c)] = F.sweep.Dead p0 p1 := by kernel_rfl
theorem F.sweep.Dead.ok : (Try.f32.body.map (codeB F.sweep.Dead.T)).getD false = true := by kernel_rfl
theorem F.sweep.Dead.calls (p0 : Option Addr) (p1 : Slc) {Q : Value → World → Prop} {w : World} (h : F.sweep.Dead p0 p1 Q w) : Calls Try.prog 32 #[.pointer p0, .slice p1.a p1.n p1.c] w fun e w' => ∃ v, e = .returned v ∧ Q v w' :=
  calls_of_den Try.pnames Try.mixed F.sweep.Dead.T Try.func32 F.sweep.Dead.ok (es := [.va (.pointer p0), .va (.slice p1.a p1.n p1.c)]) rfl (by rw [F.sweep.Dead.den]; exact h)

-- gloaming/gloamingref1.In
def F.gloamingref1.In.T : Tabs := ⟨(fun
    | 2 => [(5, .int .i64)]
    | _ => []),
  fun _ => none,
  fun _ => .quiet⟩
def F.gloamingref1.In (p0 : Slc) (p1 : Int) : Tree :=
 lp [.int .i64] (fun X1 u2 => -- i:t5
  br (decide ((u2.1 : Int) < (p0.n : Nat)))
   (ix p0.a p0.n u2.1 1 fun a3 =>
   ld (.l (.int .i64)) a3 fun (x4 : Int) =>
   br ((x4 : Int) == p1)
    (ret (.bool true))
    (X1 (IntKind.wrap .i64 (u2.1 + 1), ())))
   (ret (.bool false))) (0, ())
theorem F.gloamingref1.In.den (p0 : Slc) (p1 : Int) : denF Try.prog F.gloamingref1.In.T Try.f33 [.va (.slice p0.a p0.n p0.c), .va (.int .i64 p1)] = F.gloamingref1.In p0 p1 := by kernel_rfl
theorem F.gloamingref1.In.ok : (Try.f33.body.map (codeB F.gloamingref1.In.T)).getD false = true := by kernel_rfl
theorem F.gloamingref1.In.calls (p0 : Slc) (p1 : Int) {Q : Value → World → Prop} {w : World} (h : F.gloamingref1.In p0 p1 Q w) : Calls Try.prog 33 #[.slice p0.a p0.n p0.c, .int .i64 p1] w fun e w' => ∃ v, e = .returned v ∧ Q v w' :=
  calls_of_den Try.pnames Try.mixed F.gloamingref1.In.T Try.func33 F.gloamingref1.In.ok (es := [.va (.slice p0.a p0.n p0.c), .va (.int .i64 p1)]) rfl (by rw [F.gloamingref1.In.den]; exact h)

-- gloaming/sweep.Sweep
def F.sweep.Sweep.T : Tabs := ⟨(fun
    | 3 => [(5, .int .i64), (12, .int .i64)]
    | _ => []),
  fun _ => none,
  fun _ => .quiet⟩
def F.sweep.Sweep (p0 : Option Addr) (p1 : Slc) : Tree :=
 call Try.prog 32 [.pointer p0, .slice p1.a p1.n p1.c] (.one (.l .slice)) fun (r1 : Slc) =>
 lp [.int .i64, .int .i64] (fun X2 u3 => -- n:t5,:t12
  br (decide ((u3.2.1 : Int) < (r1.n : Nat)))
   (ix r1.a r1.n u3.2.1 1 fun a4 =>
   ld (.l (.int .i64)) a4 fun (x5 : Int) =>
   nn p0 fun a6 =>
   ld (.l .ptr) (fa a6 0) fun (x7 : Option Addr) =>
   call Try.prog 24 [.pointer x7, .int .i64 x5] (.one (.l (.int .i64))) fun (r8 : Int) =>
   br ((r8 : Int) == 0)
    (X2 (IntKind.wrap .i64 (u3.1 + 1), IntKind.wrap .i64 (u3.2.1 + 1), ()))
    (X2 (u3.1, IntKind.wrap .i64 (u3.2.1 + 1), ())))
   (ret (.int .i64 u3.1))) (0, 0, ())
theorem F.sweep.Sweep.den (p0 : Option Addr) (p1 : Slc) : denF Try.prog F.sweep.Sweep.T Try.f34 [.va (.pointer p0), .va (.slice p1.a p1.n p1.c)] = F.sweep.Sweep p0 p1 := by kernel_rfl
theorem F.sweep.Sweep.ok : (Try.f34.body.map (codeB F.sweep.Sweep.T)).getD false = true := by kernel_rfl
theorem F.sweep.Sweep.calls (p0 : Option Addr) (p1 : Slc) {Q : Value → World → Prop} {w : World} (h : F.sweep.Sweep p0 p1 Q w) : Calls Try.prog 34 #[.pointer p0, .slice p1.a p1.n p1.c] w fun e w' => ∃ v, e = .returned v ∧ Q v w' :=
  calls_of_den Try.pnames Try.mixed F.sweep.Sweep.T Try.func34 F.sweep.Sweep.ok (es := [.va (.pointer p0), .va (.slice p1.a p1.n p1.c)]) rfl (by rw [F.sweep.Sweep.den]; exact h)

-- (*gloaming/space.Space).Each
def F.space.Space.Each.T : Tabs := ⟨(fun
    | 5 => [(3, .slice)]
    | 8 => [(3, .slice), (6, .int .i64)]
    | 12 => [(3, .slice)]
    | _ => []),
  fun _ => none,
  fun _ => .quiet⟩
def F.space.Space.Each (p0 : Option Addr) : Tree :=
 br (Option.isNone p0)
  (ret (.slice none 0 0))
  (nn p0 fun a1 =>
  ld (.l .map) (fa a1 2) fun (x2 : Option Nat) =>
  opr Try.prog (Instr.range 77 (.map x2)) (.one (.l .ptr)) fun (r3 : Option Addr) =>
  lp [.slice] (fun X4 u5 => -- out:t3
   nxt Try.prog (Instr.next (.pointer r3) false 0) (.l (.int .i64)) (.l .ptr)
    (nn p0 fun a8 =>
    ld (.l .map) (fa a8 3) fun (x9 : Option Nat) =>
    opr Try.prog (Instr.range 78 (.map x9)) (.one (.l .ptr)) fun (r10 : Option Addr) =>
    lp [.slice] (fun X11 u12 => -- out:t3
     nxt Try.prog (Instr.next (.pointer r10) false 0) (.l (.int .i64)) (.l (.int .i64))
      (call Try.prog 60 [.slice u12.1.a u12.1.n u12.1.c] (.many []) fun (r15 : KTs []) =>
      ret (.slice u12.1.a u12.1.n u12.1.c))
      (fun (k13 : Int) (v14 : Int) =>
      opr Try.prog (Instr.entry (.pointer r10)) (.many [.l (.int .i64), .l (.int .i64)]) fun (r16 : KTs [.l (.int .i64), .l (.int .i64)]) =>
      nw 3 [.int .i64 (IntKind.wrap .i64 (r16.1 * 64))] fun b17 =>
      opr Try.prog (Builtin.append_ #[44, 44] 44 #[.slice u12.1.a u12.1.n u12.1.c, .slice (some ⟨b17, 0, none⟩) 1 1]) (.one (.l .slice)) fun (r18 : Slc) =>
      X11 (⟨r18.a, r18.n, r18.c⟩, ()))) (⟨u5.1.a, u5.1.n, u5.1.c⟩, ()))
    (fun (k6 : Int) (v7 : Option Addr) =>
    opr Try.prog (Instr.entry (.pointer r3)) (.many [.l (.int .i64), .l .ptr]) fun (r19 : KTs [.l (.int .i64), .l .ptr]) =>
    nn r19.2.1 fun a20 =>
    ld (.l .ptr) (fa a20 0) fun (x21 : Option Addr) =>
    call Try.prog 59 [.pointer x21, .int .i64 0, .bool true] (.one (.l (.int .i64))) fun (r22 : Int) =>
    lp [.slice, .int .i64] (fun X23 u24 => -- out:t3,i:t6
     br (decide ((u24.2.1 : Int) ≥ 0))
      (call Try.prog 44 [.pointer r19.2.1] (.one (.l (.int .i64))) fun (r25 : Int) =>
      nw 3 [.int .i64 (IntKind.wrap .i64 ((IntKind.wrap .i64 (r19.1 * 64)) + (IntKind.wrap .i64 (u24.2.1 * r25))))] fun b26 =>
      opr Try.prog (Builtin.append_ #[44, 44] 44 #[.slice u24.1.a u24.1.n u24.1.c, .slice (some ⟨b26, 0, none⟩) 1 1]) (.one (.l .slice)) fun (r27 : Slc) =>
      nn r19.2.1 fun a28 =>
      ld (.l .ptr) (fa a28 0) fun (x29 : Option Addr) =>
      call Try.prog 59 [.pointer x29, .int .i64 (IntKind.wrap .i64 (u24.2.1 + 1)), .bool true] (.one (.l (.int .i64))) fun (r30 : Int) =>
      X23 (⟨r27.a, r27.n, r27.c⟩, r30, ()))
      (X4 (⟨u24.1.a, u24.1.n, u24.1.c⟩, ()))) (⟨u5.1.a, u5.1.n, u5.1.c⟩, r22, ()))) (⟨none, 0, 0⟩, ()))
theorem F.space.Space.Each.den (p0 : Option Addr) : denF Try.prog F.space.Space.Each.T Try.f35 [.va (.pointer p0)] = F.space.Space.Each p0 := by kernel_rfl
theorem F.space.Space.Each.ok : (Try.f35.body.map (codeB F.space.Space.Each.T)).getD false = true := by kernel_rfl
theorem F.space.Space.Each.calls (p0 : Option Addr) {Q : Value → World → Prop} {w : World} (h : F.space.Space.Each p0 Q w) : Calls Try.prog 35 #[.pointer p0] w fun e w' => ∃ v, e = .returned v ∧ Q v w' :=
  calls_of_den Try.pnames Try.mixed F.space.Space.Each.T Try.func35 F.space.Space.Each.ok (es := [.va (.pointer p0)]) rfl (by rw [F.space.Space.Each.den]; exact h)

-- gloaming/gloaminglaw19.awake
def F.gloaminglaw19.awake.T : Tabs := ⟨fun _ => [],
  fun _ => none,
  fun _ => .quiet⟩
def F.gloaminglaw19.awake  : Tree :=
 nw 5 [.int .u8 1, .int .u8 2, .int .u8 3] fun b1 =>
 call Try.prog 30 [.slice (some ⟨b1, 0, none⟩) 3 3] (.many [.l .ptr, .l .slice]) fun (r2 : KTs [.l .ptr, .l .slice]) =>
 br (Option.isNone r2.1)
  (ret (.bool false))
  (br (((r2.2.1.n : Nat) : Int) != 3)
   (ret (.bool false))
   (call Try.prog 34 [.pointer r2.1, .slice r2.2.1.a r2.2.1.n r2.2.1.c] (.one (.l (.int .i64))) fun (r3 : Int) =>
   br ((r3 : Int) == 0)
    (slc r2.2.1.a r2.2.1.c 1 (r2.2.1.n : Nat) 1 fun s4 =>
    call Try.prog 32 [.pointer r2.1, .slice s4.a s4.n s4.c] (.one (.l .slice)) fun (r5 : Slc) =>
    ret (.bool (((r5.n : Nat) : Int) == 1)))
    (ret (.bool false))))
theorem F.gloaminglaw19.awake.den  : denF Try.prog F.gloaminglaw19.awake.T Try.f36 [] = F.gloaminglaw19.awake := by kernel_rfl
theorem F.gloaminglaw19.awake.ok : (Try.f36.body.map (codeB F.gloaminglaw19.awake.T)).getD false = true := by kernel_rfl
theorem F.gloaminglaw19.awake.calls  {Q : Value → World → Prop} {w : World} (h : F.gloaminglaw19.awake Q w) : Calls Try.prog 36 #[] w fun e w' => ∃ v, e = .returned v ∧ Q v w' :=
  calls_of_den Try.pnames Try.mixed F.gloaminglaw19.awake.T Try.func36 F.gloaminglaw19.awake.ok (es := []) rfl (by rw [F.gloaminglaw19.awake.den]; exact h)

-- (*gloaming/space.Space).Alloc
def F.space.Space.Alloc.T : Tabs := ⟨fun _ => [],
  fun _ => none,
  fun _ => .quiet⟩
def F.space.Space.Alloc (p0 : Option Addr) (p1 : Int) : Tree :=
 call Try.prog 61 [.int .i64 p1] (.one (.l (.int .i64))) fun (r1 : Int) =>
 br (Option.isNone p0)
  (ret (.tuple #[.int .i64 0, .int .i64 2]))
  (br ((r1 : Int) == 0)
   (ret (.tuple #[.int .i64 0, .int .i64 1]))
   (call Try.prog 62 [.pointer p0, .int .i64 p1] (.many [.l (.int .i64), .l (.int .i64)]) fun (r2 : KTs [.l (.int .i64), .l (.int .i64)]) =>
   br ((r2.2.1 : Int) != 0)
    (ret (.tuple #[.int .i64 0, .int .i64 r2.2.1]))
    (nn p0 fun a3 =>
    ld (.l .ptr) (fa a3 0) fun (x4 : Option Addr) =>
    call Try.prog 63 [.pointer x4, .int .i64 r2.1, .int .i64 r1] (.one (.l (.int .i64))) fun (r5 : Int) =>
    ret (.tuple #[.int .i64 r2.1, .int .i64 r5]))))
theorem F.space.Space.Alloc.den (p0 : Option Addr) (p1 : Int) : denF Try.prog F.space.Space.Alloc.T Try.f37 [.va (.pointer p0), .va (.int .i64 p1)] = F.space.Space.Alloc p0 p1 := by kernel_rfl
theorem F.space.Space.Alloc.ok : (Try.f37.body.map (codeB F.space.Space.Alloc.T)).getD false = true := by kernel_rfl
theorem F.space.Space.Alloc.calls (p0 : Option Addr) (p1 : Int) {Q : Value → World → Prop} {w : World} (h : F.space.Space.Alloc p0 p1 Q w) : Calls Try.prog 37 #[.pointer p0, .int .i64 p1] w fun e w' => ∃ v, e = .returned v ∧ Q v w' :=
  calls_of_den Try.pnames Try.mixed F.space.Space.Alloc.T Try.func37 F.space.Space.Alloc.ok (es := [.va (.pointer p0), .va (.int .i64 p1)]) rfl (by rw [F.space.Space.Alloc.den]; exact h)

-- gloaming/space.New
def F.space.New.T : Tabs := ⟨fun _ => [],
  fun _ => none,
  fun _ => .quiet⟩
def F.space.New (p0 : Int) : Tree :=
 call Try.prog 64 [.int .i64 p0] (.many [.l .ptr, .l (.int .i64)]) fun (r1 : KTs [.l .ptr, .l (.int .i64)]) =>
 br ((r1.2.1 : Int) != 0)
  (ret (.tuple #[.pointer none, .int .i64 r1.2.1]))
  (call Try.prog 65 [.int .i64 p0] (.many [.l .ptr, .l (.int .i64)]) fun (r2 : KTs [.l .ptr, .l (.int .i64)]) =>
  br ((r2.2.1 : Int) != 0)
   (ret (.tuple #[.pointer none, .int .i64 r2.2.1]))
   (nwM fun b3 =>
   nwM fun b4 =>
   nw 80 [.pointer r1.1, .pointer r2.1, .map (some b3), .map (some b4)] fun b5 =>
   ret (.tuple #[.pointer (some (⟨b5, 0, none⟩)), .int .i64 0])))
theorem F.space.New.den (p0 : Int) : denF Try.prog F.space.New.T Try.f38 [.va (.int .i64 p0)] = F.space.New p0 := by kernel_rfl
theorem F.space.New.ok : (Try.f38.body.map (codeB F.space.New.T)).getD false = true := by kernel_rfl
theorem F.space.New.calls (p0 : Int) {Q : Value → World → Prop} {w : World} (h : F.space.New p0 Q w) : Calls Try.prog 38 #[.int .i64 p0] w fun e w' => ∃ v, e = .returned v ∧ Q v w' :=
  calls_of_den Try.pnames Try.mixed F.space.New.T Try.func38 F.space.New.ok (es := [.va (.int .i64 p0)]) rfl (by rw [F.space.New.den]; exact h)

-- gloaming/class.New
def F.class.New.T : Tabs := ⟨fun _ => [],
  fun _ => none,
  fun _ => .quiet⟩
def F.class.New  : Tree :=
 nw 97 [.slice none 0 0] fun b1 =>
 ret (.pointer (some (⟨b1, 0, none⟩)))
theorem F.class.New.den  : denF Try.prog F.class.New.T Try.f39 [] = F.class.New := by kernel_rfl
theorem F.class.New.ok : (Try.f39.body.map (codeB F.class.New.T)).getD false = true := by kernel_rfl
theorem F.class.New.calls  {Q : Value → World → Prop} {w : World} (h : F.class.New Q w) : Calls Try.prog 39 #[] w fun e w' => ∃ v, e = .returned v ∧ Q v w' :=
  calls_of_den Try.pnames Try.mixed F.class.New.T Try.func39 F.class.New.ok (es := []) rfl (by rw [F.class.New.den]; exact h)

-- (*gloaming/object.Heap).may
def F.object.Heap.may.T : Tabs := ⟨fun _ => [],
  fun _ => none,
  (fun
    | 5 => .held (some 6) (.go 0 false (.go 1 false (.go 2 false (.go 3 false (.go 4 false (.go 5 false (.two (.go 6 true (.go 7 false (.go 8 false (.go 9 false (.go 10 false (.go 11 false (.go 12 false .nil))))))) (.go 10 false (.go 6 true (.go 7 false (.go 8 false (.go 9 false (.go 11 false (.go 12 false .nil))))))))))))))
    | _ => .quiet)⟩
def F.object.Heap.may (p0 : Option Addr) (p1 : LTs [.int .i64, .int .i64, .int .i64, .bool]) : Tree :=
 nw 32 [.int .i64 p1.1, .int .i64 p1.2.1, .int .i64 p1.2.2.1, .bool p1.2.2.2.1] fun b1 =>
 ld (.g [.int .i64, .int .i64, .int .i64, .bool]) (⟨b1, 0, none⟩) fun (x2 : LTs [.int .i64, .int .i64, .int .i64, .bool]) =>
 call Try.prog 66 [.agg #[.int .i64 x2.1, .int .i64 x2.2.1, .int .i64 x2.2.2.1, .bool x2.2.2.2.1]] (.one (.l .bool)) fun (r3 : Bool) =>
 br (!r3)
  (ret (.int .i64 1))
  (ld (.l .bool) (fa (⟨b1, 0, none⟩) 3) fun (x4 : Bool) =>
  br x4
   (ret (.int .i64 1))
   (ld (.l (.int .i64)) (fa (⟨b1, 0, none⟩) 0) fun (x5 : Int) =>
   br ((x5 : Int) != 1)
    (ret (.int .i64 0))
    (drw <| held fun S6 =>
    nn p0 fun a7 =>
    ldS S6 (.l .ptr) (fa a7 1) fun (x8 : Option Addr) =>
    ldS S6 (.l (.int .i64)) (fa (⟨b1, 0, none⟩) 1) fun (x9 : Int) =>
    both
     (call Try.prog 27 [.pointer x8, .int .i64 x9] (.many [.g [.int .i64, .slice], .l (.int .i64)]) fun (r10 : KTs [.g [.int .i64, .slice], .l (.int .i64)]) =>
     nw 58 (zc Try.prog 58) fun b11 =>
     st (⟨b11, 0, none⟩) [.int .i64 r10.1.1, .slice r10.1.2.1.a r10.1.2.1.n r10.1.2.1.c] <|
     br ((r10.2.1 : Int) != 0)
      (ret (.int .i64 2))
      (ld (.l (.int .i64)) (fa (⟨b11, 0, none⟩) 0) fun (x12 : Int) =>
      ld (.l (.int .i64)) (fa (⟨b1, 0, none⟩) 2) fun (x13 : Int) =>
      br ((x12 : Int) != x13)
       (ret (.int .i64 1))
       (ret (.int .i64 0))))
     (nw 58 (zc Try.prog 58) fun b14 =>
     chk S6 <|
     call Try.prog 27 [.pointer x8, .int .i64 x9] (.many [.g [.int .i64, .slice], .l (.int .i64)]) fun (r15 : KTs [.g [.int .i64, .slice], .l (.int .i64)]) =>
     st (⟨b14, 0, none⟩) [.int .i64 r15.1.1, .slice r15.1.2.1.a r15.1.2.1.n r15.1.2.1.c] <|
     br ((r15.2.1 : Int) != 0)
      (ret (.int .i64 2))
      (ld (.l (.int .i64)) (fa (⟨b14, 0, none⟩) 0) fun (x16 : Int) =>
      ld (.l (.int .i64)) (fa (⟨b1, 0, none⟩) 2) fun (x17 : Int) =>
      br ((x16 : Int) != x17)
       (ret (.int .i64 1))
       (ret (.int .i64 0)))))))
theorem F.object.Heap.may.den (p0 : Option Addr) (p1 : LTs [.int .i64, .int .i64, .int .i64, .bool]) : denF Try.prog F.object.Heap.may.T Try.f40 [.va (.pointer p0), .va (.agg #[.int .i64 p1.1, .int .i64 p1.2.1, .int .i64 p1.2.2.1, .bool p1.2.2.2.1])] = F.object.Heap.may p0 p1 := by kernel_rfl
theorem F.object.Heap.may.ok : (Try.f40.body.map (codeB F.object.Heap.may.T)).getD false = true := by kernel_rfl
theorem F.object.Heap.may.calls (p0 : Option Addr) (p1 : LTs [.int .i64, .int .i64, .int .i64, .bool]) {Q : Value → World → Prop} {w : World} (h : F.object.Heap.may p0 p1 Q w) : Calls Try.prog 40 #[.pointer p0, .agg #[.int .i64 p1.1, .int .i64 p1.2.1, .int .i64 p1.2.2.1, .bool p1.2.2.2.1]] w fun e w' => ∃ v, e = .returned v ∧ Q v w' :=
  calls_of_den Try.pnames Try.mixed F.object.Heap.may.T Try.func40 F.object.Heap.may.ok (es := [.va (.pointer p0), .va (.agg #[.int .i64 p1.1, .int .i64 p1.2.1, .int .i64 p1.2.2.1, .bool p1.2.2.2.1])]) rfl (by rw [F.object.Heap.may.den]; exact h)

-- gloaming/head.Put
def F.head.Put.T : Tabs := ⟨fun _ => [],
  fun _ => none,
  fun _ => .quiet⟩
def F.head.Put (p0 : LTs [.int .i64, .int .i64, .int .i64, .bool]) : Tree :=
 nw 32 [.int .i64 p0.1, .int .i64 p0.2.1, .int .i64 p0.2.2.1, .bool p0.2.2.2.1] fun b1 =>
 ld (.g [.int .i64, .int .i64, .int .i64, .bool]) (⟨b1, 0, none⟩) fun (x2 : LTs [.int .i64, .int .i64, .int .i64, .bool]) =>
 call Try.prog 66 [.agg #[.int .i64 x2.1, .int .i64 x2.2.1, .int .i64 x2.2.2.1, .bool x2.2.2.2.1]] (.one (.l .bool)) fun (r3 : Bool) =>
 br (!r3)
  (ret (.tuple #[.int .i64 0, .bool false]))
  (ld (.l (.int .i64)) (fa (⟨b1, 0, none⟩) 0) fun (x4 : Int) =>
  ld (.l (.int .i64)) (fa (⟨b1, 0, none⟩) 1) fun (x5 : Int) =>
  ld (.l (.int .i64)) (fa (⟨b1, 0, none⟩) 2) fun (x6 : Int) =>
  ld (.l .bool) (fa (⟨b1, 0, none⟩) 3) fun (x7 : Bool) =>
  br x7
   (ret (.tuple #[.int .i64 (IntKind.wrap .i64 ((IntKind.wrap .i64 ((IntKind.wrap .i64 (x4 + (IntKind.wrap .i64 (16 * x5)))) + (IntKind.wrap .i64 (65536 * x6)))) + 8)), .bool true]))
   (ret (.tuple #[.int .i64 (IntKind.wrap .i64 ((IntKind.wrap .i64 (x4 + (IntKind.wrap .i64 (16 * x5)))) + (IntKind.wrap .i64 (65536 * x6)))), .bool true])))
theorem F.head.Put.den (p0 : LTs [.int .i64, .int .i64, .int .i64, .bool]) : denF Try.prog F.head.Put.T Try.f41 [.va (.agg #[.int .i64 p0.1, .int .i64 p0.2.1, .int .i64 p0.2.2.1, .bool p0.2.2.2.1])] = F.head.Put p0 := by kernel_rfl
theorem F.head.Put.ok : (Try.f41.body.map (codeB F.head.Put.T)).getD false = true := by kernel_rfl
theorem F.head.Put.calls (p0 : LTs [.int .i64, .int .i64, .int .i64, .bool]) {Q : Value → World → Prop} {w : World} (h : F.head.Put p0 Q w) : Calls Try.prog 41 #[.agg #[.int .i64 p0.1, .int .i64 p0.2.1, .int .i64 p0.2.2.1, .bool p0.2.2.2.1]] w fun e w' => ∃ v, e = .returned v ∧ Q v w' :=
  calls_of_den Try.pnames Try.mixed F.head.Put.T Try.func41 F.head.Put.ok (es := [.va (.agg #[.int .i64 p0.1, .int .i64 p0.2.1, .int .i64 p0.2.2.1, .bool p0.2.2.2.1])]) rfl (by rw [F.head.Put.den]; exact h)

-- (*gloaming/arena.Arena).Store
def F.arena.Arena.Store.T : Tabs := ⟨fun _ => [],
  fun _ => none,
  fun _ => .quiet⟩
def F.arena.Arena.Store (p0 : Option Addr) (p1 : Int) (p2 : Int) : Tree :=
 br (Option.isNone p0)
  (ret (.int .i64 2))
  (nn p0 fun a1 =>
  call Try.prog 67 [.pointer (some (fa a1 0)), .int .i64 p1] (.one (.l .bool)) fun (r2 : Bool) =>
  br (!r2)
   (ret (.int .i64 2))
   (nn p0 fun a3 =>
   ld (.l .slice) (fa (fa a3 0) 0) fun (x4 : Slc) =>
   ix x4.a x4.n p1 1 fun a5 =>
   st a5 [.int .i64 p2] <|
   ret (.int .i64 0)))
theorem F.arena.Arena.Store.den (p0 : Option Addr) (p1 : Int) (p2 : Int) : denF Try.prog F.arena.Arena.Store.T Try.f42 [.va (.pointer p0), .va (.int .i64 p1), .va (.int .i64 p2)] = F.arena.Arena.Store p0 p1 p2 := by kernel_rfl
theorem F.arena.Arena.Store.ok : (Try.f42.body.map (codeB F.arena.Arena.Store.T)).getD false = true := by kernel_rfl
theorem F.arena.Arena.Store.calls (p0 : Option Addr) (p1 : Int) (p2 : Int) {Q : Value → World → Prop} {w : World} (h : F.arena.Arena.Store p0 p1 p2 Q w) : Calls Try.prog 42 #[.pointer p0, .int .i64 p1, .int .i64 p2] w fun e w' => ∃ v, e = .returned v ∧ Q v w' :=
  calls_of_den Try.pnames Try.mixed F.arena.Arena.Store.T Try.func42 F.arena.Arena.Store.ok (es := [.va (.pointer p0), .va (.int .i64 p1), .va (.int .i64 p2)]) rfl (by rw [F.arena.Arena.Store.den]; exact h)

-- (*gloaming/arena.Arena).Len
def F.arena.Arena.Len.T : Tabs := ⟨fun _ => [],
  fun _ => none,
  fun _ => .quiet⟩
def F.arena.Arena.Len (p0 : Option Addr) : Tree :=
 br (Option.isNone p0)
  (ret (.int .i64 0))
  (nn p0 fun a1 =>
  ld (.l .slice) (fa (fa a1 0) 0) fun (x2 : Slc) =>
  ret (.int .i64 (x2.n : Nat)))
theorem F.arena.Arena.Len.den (p0 : Option Addr) : denF Try.prog F.arena.Arena.Len.T Try.f43 [.va (.pointer p0)] = F.arena.Arena.Len p0 := by kernel_rfl
theorem F.arena.Arena.Len.ok : (Try.f43.body.map (codeB F.arena.Arena.Len.T)).getD false = true := by kernel_rfl
theorem F.arena.Arena.Len.calls (p0 : Option Addr) {Q : Value → World → Prop} {w : World} (h : F.arena.Arena.Len p0 Q w) : Calls Try.prog 43 #[.pointer p0] w fun e w' => ∃ v, e = .returned v ∧ Q v w' :=
  calls_of_den Try.pnames Try.mixed F.arena.Arena.Len.T Try.func43 F.arena.Arena.Len.ok (es := [.va (.pointer p0)]) rfl (by rw [F.arena.Arena.Len.den]; exact h)

-- (*gloaming/block.Page).Words
def F.block.Page.Words.T : Tabs := ⟨fun _ => [],
  fun _ => none,
  fun _ => .quiet⟩
def F.block.Page.Words (p0 : Option Addr) : Tree :=
 br (Option.isNone p0)
  (ret (.int .i64 0))
  (nn p0 fun a1 =>
  ld (.l (.int .i64)) (fa a1 1) fun (x2 : Int) =>
  ret (.int .i64 x2))
theorem F.block.Page.Words.den (p0 : Option Addr) : denF Try.prog F.block.Page.Words.T Try.f44 [.va (.pointer p0)] = F.block.Page.Words p0 := by kernel_rfl
theorem F.block.Page.Words.ok : (Try.f44.body.map (codeB F.block.Page.Words.T)).getD false = true := by kernel_rfl
theorem F.block.Page.Words.calls (p0 : Option Addr) {Q : Value → World → Prop} {w : World} (h : F.block.Page.Words p0 Q w) : Calls Try.prog 44 #[.pointer p0] w fun e w' => ∃ v, e = .returned v ∧ Q v w' :=
  calls_of_den Try.pnames Try.mixed F.block.Page.Words.T Try.func44 F.block.Page.Words.ok (es := [.va (.pointer p0)]) rfl (by rw [F.block.Page.Words.den]; exact h)

-- (*gloaming/bits.Bits).Has
def F.bits.Bits.Has.T : Tabs := ⟨fun _ => [],
  fun _ => none,
  fun _ => .quiet⟩
def F.bits.Bits.Has (p0 : Option Addr) (p1 : Int) : Tree :=
 call Try.prog 68 [.pointer p0, .int .i64 p1] (.one (.l .bool)) fun (r1 : Bool) =>
 br r1
  (nn p0 fun a2 =>
  ld (.l .slice) (fa a2 0) fun (x3 : Slc) =>
  ix x3.a x3.n p1 1 fun a4 =>
  ld (.l .bool) a4 fun (x5 : Bool) =>
  ret (.bool x5))
  (ret (.bool false))
theorem F.bits.Bits.Has.den (p0 : Option Addr) (p1 : Int) : denF Try.prog F.bits.Bits.Has.T Try.f45 [.va (.pointer p0), .va (.int .i64 p1)] = F.bits.Bits.Has p0 p1 := by kernel_rfl
theorem F.bits.Bits.Has.ok : (Try.f45.body.map (codeB F.bits.Bits.Has.T)).getD false = true := by kernel_rfl
theorem F.bits.Bits.Has.calls (p0 : Option Addr) (p1 : Int) {Q : Value → World → Prop} {w : World} (h : F.bits.Bits.Has p0 p1 Q w) : Calls Try.prog 45 #[.pointer p0, .int .i64 p1] w fun e w' => ∃ v, e = .returned v ∧ Q v w' :=
  calls_of_den Try.pnames Try.mixed F.bits.Bits.Has.T Try.func45 F.bits.Bits.Has.ok (es := [.va (.pointer p0), .va (.int .i64 p1)]) rfl (by rw [F.bits.Bits.Has.den]; exact h)

-- gloaming/gloamingref1.Class
def F.gloamingref1.Class.T : Tabs := ⟨(fun
    | 3 => [(4, .int .i64)]
    | _ => []),
  fun _ => none,
  fun _ => .quiet⟩
def F.gloamingref1.Class (p0 : Int) : Tree :=
 call Try.prog 47 [] (.one (.l .slice)) fun (r1 : Slc) =>
 lp [.int .i64] (fun X2 u3 => -- i:t4
  br (decide ((u3.1 : Int) < (r1.n : Nat)))
   (br (decide ((p0 : Int) ≥ 1))
    (ix r1.a r1.n u3.1 1 fun a4 =>
    ld (.l (.int .i64)) a4 fun (x5 : Int) =>
    br (decide ((x5 : Int) ≥ p0))
     (ret (.int .i64 u3.1))
     (X2 (IntKind.wrap .i64 (u3.1 + 1), ())))
    (ret (.int .i64 (-1))))
   (ret (.int .i64 (-1)))) (0, ())
theorem F.gloamingref1.Class.den (p0 : Int) : denF Try.prog F.gloamingref1.Class.T Try.f46 [.va (.int .i64 p0)] = F.gloamingref1.Class p0 := by kernel_rfl
theorem F.gloamingref1.Class.ok : (Try.f46.body.map (codeB F.gloamingref1.Class.T)).getD false = true := by kernel_rfl
theorem F.gloamingref1.Class.calls (p0 : Int) {Q : Value → World → Prop} {w : World} (h : F.gloamingref1.Class p0 Q w) : Calls Try.prog 46 #[.int .i64 p0] w fun e w' => ∃ v, e = .returned v ∧ Q v w' :=
  calls_of_den Try.pnames Try.mixed F.gloamingref1.Class.T Try.func46 F.gloamingref1.Class.ok (es := [.va (.int .i64 p0)]) rfl (by rw [F.gloamingref1.Class.den]; exact h)

-- gloaming/gloamingref1.Sizes
def F.gloamingref1.Sizes.T : Tabs := ⟨fun _ => [],
  fun _ => none,
  fun _ => .quiet⟩
def F.gloamingref1.Sizes  : Tree :=
 nw 3 [.int .i64 2, .int .i64 4, .int .i64 8, .int .i64 16, .int .i64 32] fun b1 =>
 ret (.slice (some ⟨b1, 0, none⟩) 5 5)
theorem F.gloamingref1.Sizes.den  : denF Try.prog F.gloamingref1.Sizes.T Try.f47 [] = F.gloamingref1.Sizes := by kernel_rfl
theorem F.gloamingref1.Sizes.ok : (Try.f47.body.map (codeB F.gloamingref1.Sizes.T)).getD false = true := by kernel_rfl
theorem F.gloamingref1.Sizes.calls  {Q : Value → World → Prop} {w : World} (h : F.gloamingref1.Sizes Q w) : Calls Try.prog 47 #[] w fun e w' => ∃ v, e = .returned v ∧ Q v w' :=
  calls_of_den Try.pnames Try.mixed F.gloamingref1.Sizes.T Try.func47 F.gloamingref1.Sizes.ok (es := []) rfl (by rw [F.gloamingref1.Sizes.den]; exact h)

-- (*gloaming/object.Heap).field
def F.object.Heap.field.T : Tabs := ⟨fun _ => [],
  fun _ => none,
  fun _ => .quiet⟩
def F.object.Heap.field (p0 : Option Addr) (p1 : Int) (p2 : Int) : Tree :=
 call Try.prog 22 [.pointer p0, .int .i64 p1] (.many [.g [.int .i64, .int .i64, .int .i64, .bool], .l (.int .i64)]) fun (r1 : KTs [.g [.int .i64, .int .i64, .int .i64, .bool], .l (.int .i64)]) =>
 nw 32 (zc Try.prog 32) fun b2 =>
 st (⟨b2, 0, none⟩) [.int .i64 r1.1.1, .int .i64 r1.1.2.1, .int .i64 r1.1.2.2.1, .bool r1.1.2.2.2.1] <|
 br ((r1.2.1 : Int) != 0)
  (ret (.tuple #[.int .i64 0, .int .i64 r1.2.1]))
  (br (decide ((p2 : Int) < 0))
   (ret (.tuple #[.int .i64 0, .int .i64 1]))
   (ld (.l (.int .i64)) (fa (⟨b2, 0, none⟩) 2) fun (x3 : Int) =>
   br (decide ((p2 : Int) ≥ x3))
    (ret (.tuple #[.int .i64 0, .int .i64 1]))
    (ret (.tuple #[.int .i64 (IntKind.wrap .i64 ((IntKind.wrap .i64 (p1 + 1)) + p2)), .int .i64 0]))))
theorem F.object.Heap.field.den (p0 : Option Addr) (p1 : Int) (p2 : Int) : denF Try.prog F.object.Heap.field.T Try.f48 [.va (.pointer p0), .va (.int .i64 p1), .va (.int .i64 p2)] = F.object.Heap.field p0 p1 p2 := by kernel_rfl
theorem F.object.Heap.field.ok : (Try.f48.body.map (codeB F.object.Heap.field.T)).getD false = true := by kernel_rfl
theorem F.object.Heap.field.calls (p0 : Option Addr) (p1 : Int) (p2 : Int) {Q : Value → World → Prop} {w : World} (h : F.object.Heap.field p0 p1 p2 Q w) : Calls Try.prog 48 #[.pointer p0, .int .i64 p1, .int .i64 p2] w fun e w' => ∃ v, e = .returned v ∧ Q v w' :=
  calls_of_den Try.pnames Try.mixed F.object.Heap.field.T Try.func48 F.object.Heap.field.ok (es := [.va (.pointer p0), .va (.int .i64 p1), .va (.int .i64 p2)]) rfl (by rw [F.object.Heap.field.den]; exact h)

-- (*gloaming/arena.Arena).Load
def F.arena.Arena.Load.T : Tabs := ⟨fun _ => [],
  fun _ => none,
  fun _ => .quiet⟩
def F.arena.Arena.Load (p0 : Option Addr) (p1 : Int) : Tree :=
 br (Option.isNone p0)
  (ret (.tuple #[.int .i64 0, .int .i64 2]))
  (nn p0 fun a1 =>
  call Try.prog 67 [.pointer (some (fa a1 0)), .int .i64 p1] (.one (.l .bool)) fun (r2 : Bool) =>
  br (!r2)
   (ret (.tuple #[.int .i64 0, .int .i64 2]))
   (nn p0 fun a3 =>
   ld (.l .slice) (fa (fa a3 0) 0) fun (x4 : Slc) =>
   ix x4.a x4.n p1 1 fun a5 =>
   ld (.l (.int .i64)) a5 fun (x6 : Int) =>
   ret (.tuple #[.int .i64 x6, .int .i64 0])))
theorem F.arena.Arena.Load.den (p0 : Option Addr) (p1 : Int) : denF Try.prog F.arena.Arena.Load.T Try.f49 [.va (.pointer p0), .va (.int .i64 p1)] = F.arena.Arena.Load p0 p1 := by kernel_rfl
theorem F.arena.Arena.Load.ok : (Try.f49.body.map (codeB F.arena.Arena.Load.T)).getD false = true := by kernel_rfl
theorem F.arena.Arena.Load.calls (p0 : Option Addr) (p1 : Int) {Q : Value → World → Prop} {w : World} (h : F.arena.Arena.Load p0 p1 Q w) : Calls Try.prog 49 #[.pointer p0, .int .i64 p1] w fun e w' => ∃ v, e = .returned v ∧ Q v w' :=
  calls_of_den Try.pnames Try.mixed F.arena.Arena.Load.T Try.func49 F.arena.Arena.Load.ok (es := [.va (.pointer p0), .va (.int .i64 p1)]) rfl (by rw [F.arena.Arena.Load.den]; exact h)

-- gloaming/head.Get
def F.head.Get.T : Tabs := ⟨fun _ => [],
  fun _ => none,
  fun _ => .quiet⟩
def F.head.Get (p0 : Int) : Tree :=
 nw 32 (zc Try.prog 32) fun b1 =>
 br (decide ((p0 : Int) < 0))
  (st (⟨b1, 0, none⟩) [.int .i64 0, .int .i64 0, .int .i64 0, .bool false] <|
  ld (.g [.int .i64, .int .i64, .int .i64, .bool]) (⟨b1, 0, none⟩) fun (x2 : LTs [.int .i64, .int .i64, .int .i64, .bool]) =>
  ret (.tuple #[.agg #[.int .i64 x2.1, .int .i64 x2.2.1, .int .i64 x2.2.2.1, .bool x2.2.2.2.1], .bool false]))
  (need ((8 : Int) ≠ 0) <|
  need ((8 : Int) ≠ 0) <|
  need ((2 : Int) ≠ 0) <|
  need ((65536 : Int) ≠ 0) <|
  need ((16 : Int) ≠ 0) <|
  need ((65536 : Int) ≠ 0) <|
  nw 32 (zc Try.prog 32) fun b2 =>
  st (⟨b2, 0, none⟩) [.int .i64 (Int.tmod p0 8), .int .i64 (IntKind.wrap .i64 (Int.tdiv (Int.tmod p0 65536) 16)), .int .i64 (IntKind.wrap .i64 (Int.tdiv p0 65536)), .bool ((Int.tmod (IntKind.wrap .i64 (Int.tdiv p0 8)) 2 : Int) == 1)] <|
  ld (.g [.int .i64, .int .i64, .int .i64, .bool]) (⟨b2, 0, none⟩) fun (x3 : LTs [.int .i64, .int .i64, .int .i64, .bool]) =>
  call Try.prog 41 [.agg #[.int .i64 x3.1, .int .i64 x3.2.1, .int .i64 x3.2.2.1, .bool x3.2.2.2.1]] (.many [.l (.int .i64), .l .bool]) fun (r4 : KTs [.l (.int .i64), .l .bool]) =>
  br (!r4.2.1)
   (st (⟨b1, 0, none⟩) [.int .i64 0, .int .i64 0, .int .i64 0, .bool false] <|
   ld (.g [.int .i64, .int .i64, .int .i64, .bool]) (⟨b1, 0, none⟩) fun (x5 : LTs [.int .i64, .int .i64, .int .i64, .bool]) =>
   ret (.tuple #[.agg #[.int .i64 x5.1, .int .i64 x5.2.1, .int .i64 x5.2.2.1, .bool x5.2.2.2.1], .bool false]))
   (br ((r4.1 : Int) != p0)
    (st (⟨b1, 0, none⟩) [.int .i64 0, .int .i64 0, .int .i64 0, .bool false] <|
    ld (.g [.int .i64, .int .i64, .int .i64, .bool]) (⟨b1, 0, none⟩) fun (x5 : LTs [.int .i64, .int .i64, .int .i64, .bool]) =>
    ret (.tuple #[.agg #[.int .i64 x5.1, .int .i64 x5.2.1, .int .i64 x5.2.2.1, .bool x5.2.2.2.1], .bool false]))
    (ld (.g [.int .i64, .int .i64, .int .i64, .bool]) (⟨b2, 0, none⟩) fun (x5 : LTs [.int .i64, .int .i64, .int .i64, .bool]) =>
    st (⟨b1, 0, none⟩) [.int .i64 x5.1, .int .i64 x5.2.1, .int .i64 x5.2.2.1, .bool x5.2.2.2.1] <|
    ld (.g [.int .i64, .int .i64, .int .i64, .bool]) (⟨b1, 0, none⟩) fun (x6 : LTs [.int .i64, .int .i64, .int .i64, .bool]) =>
    ret (.tuple #[.agg #[.int .i64 x6.1, .int .i64 x6.2.1, .int .i64 x6.2.2.1, .bool x6.2.2.2.1], .bool true]))))
theorem F.head.Get.den (p0 : Int) : denF Try.prog F.head.Get.T Try.f50 [.va (.int .i64 p0)] = F.head.Get p0 := by kernel_rfl
theorem F.head.Get.ok : (Try.f50.body.map (codeB F.head.Get.T)).getD false = true := by kernel_rfl
theorem F.head.Get.calls (p0 : Int) {Q : Value → World → Prop} {w : World} (h : F.head.Get p0 Q w) : Calls Try.prog 50 #[.int .i64 p0] w fun e w' => ∃ v, e = .returned v ∧ Q v w' :=
  calls_of_den Try.pnames Try.mixed F.head.Get.T Try.func50 F.head.Get.ok (es := [.va (.int .i64 p0)]) rfl (by rw [F.head.Get.den]; exact h)

-- gloaming/object.all
def F.object.all.T : Tabs := ⟨(fun
    | 3 => [(3, .slice), (6, .int .i64)]
    | _ => []),
  fun _ => none,
  fun _ => .quiet⟩
def F.object.all (p0 : Int) : Tree :=
 lp [.slice, .int .i64] (fun X1 u2 => -- out:t3,:t6
  br (decide ((u2.2.1 : Int) < p0))
   (nw 3 [.int .i64 u2.2.1] fun b3 =>
   opr Try.prog (Builtin.append_ #[44, 44] 44 #[.slice u2.1.a u2.1.n u2.1.c, .slice (some ⟨b3, 0, none⟩) 1 1]) (.one (.l .slice)) fun (r4 : Slc) =>
   X1 (⟨r4.a, r4.n, r4.c⟩, IntKind.wrap .i64 (u2.2.1 + 1), ()))
   (ret (.slice u2.1.a u2.1.n u2.1.c))) (⟨none, 0, 0⟩, 0, ())
theorem F.object.all.den (p0 : Int) : denF Try.prog F.object.all.T Try.f51 [.va (.int .i64 p0)] = F.object.all p0 := by kernel_rfl
theorem F.object.all.ok : (Try.f51.body.map (codeB F.object.all.T)).getD false = true := by kernel_rfl
theorem F.object.all.calls (p0 : Int) {Q : Value → World → Prop} {w : World} (h : F.object.all p0 Q w) : Calls Try.prog 51 #[.int .i64 p0] w fun e w' => ∃ v, e = .returned v ∧ Q v w' :=
  calls_of_den Try.pnames Try.mixed F.object.all.T Try.func51 F.object.all.ok (es := [.va (.int .i64 p0)]) rfl (by rw [F.object.all.den]; exact h)

-- (*gloaming/pages.Pages).Give
def F.pages.Pages.Give.T : Tabs := ⟨fun _ => [],
  fun _ => none,
  (fun
    | 10 => .held (some 7) (.go 0 false (.go 1 false (.go 2 false (.go 3 false (.go 4 false (.go 5 false (.go 6 false (.go 7 true (.go 8 false .nil)))))))))
    | _ => .quiet)⟩
def F.pages.Pages.Give (p0 : Option Addr) (p1 : Int) (p2 : Int) : Tree :=
 br (Option.isNone p0)
  (ret (.int .i64 2))
  (br (decide ((p2 : Int) < 1))
   (ret (.int .i64 1))
   (br (decide ((p1 : Int) < 1))
    (ret (.int .i64 1))
    (nn p0 fun a1 =>
    ld (.l .ptr) (fa a1 0) fun (x2 : Option Addr) =>
    call Try.prog 69 [.pointer x2] (.one (.l (.int .i64))) fun (r3 : Int) =>
    br (decide ((p1 : Int) > r3))
     (ret (.int .i64 2))
     (nn p0 fun a4 =>
     ld (.l .ptr) (fa a4 0) fun (x5 : Option Addr) =>
     call Try.prog 69 [.pointer x5] (.one (.l (.int .i64))) fun (r6 : Int) =>
     br (decide ((p2 : Int) > (IntKind.wrap .i64 (r6 - p1))))
      (ret (.int .i64 2))
      (nn p0 fun a7 =>
      ld (.l .ptr) (fa a7 0) fun (x8 : Option Addr) =>
      call Try.prog 59 [.pointer x8, .int .i64 p1, .bool false] (.one (.l (.int .i64))) fun (r9 : Int) =>
      br (decide ((r9 : Int) ≥ 0))
       (br (decide ((r9 : Int) < (IntKind.wrap .i64 (p1 + p2))))
        (ret (.int .i64 2))
        (drw <| held fun S10 =>
        nn p0 fun a11 =>
        ldS S10 (.l .ptr) (fa a11 0) fun (x12 : Option Addr) =>
        call Try.prog 71 [.int .i64 p1, .int .i64 p2] (.one (.l .slice)) fun (r13 : Slc) =>
        chk S10 <|
        call Try.prog 70 [.pointer x12, .bool false, .slice r13.a r13.n r13.c] (.one (.l (.int .i64))) fun (r14 : Int) =>
        ret (.int .i64 r14)))
       (drw <| held fun S10 =>
       nn p0 fun a11 =>
       ldS S10 (.l .ptr) (fa a11 0) fun (x12 : Option Addr) =>
       call Try.prog 71 [.int .i64 p1, .int .i64 p2] (.one (.l .slice)) fun (r13 : Slc) =>
       chk S10 <|
       call Try.prog 70 [.pointer x12, .bool false, .slice r13.a r13.n r13.c] (.one (.l (.int .i64))) fun (r14 : Int) =>
       ret (.int .i64 r14)))))))
theorem F.pages.Pages.Give.den (p0 : Option Addr) (p1 : Int) (p2 : Int) : denF Try.prog F.pages.Pages.Give.T Try.f52 [.va (.pointer p0), .va (.int .i64 p1), .va (.int .i64 p2)] = F.pages.Pages.Give p0 p1 p2 := by kernel_rfl
theorem F.pages.Pages.Give.ok : (Try.f52.body.map (codeB F.pages.Pages.Give.T)).getD false = true := by kernel_rfl
theorem F.pages.Pages.Give.calls (p0 : Option Addr) (p1 : Int) (p2 : Int) {Q : Value → World → Prop} {w : World} (h : F.pages.Pages.Give p0 p1 p2 Q w) : Calls Try.prog 52 #[.pointer p0, .int .i64 p1, .int .i64 p2] w fun e w' => ∃ v, e = .returned v ∧ Q v w' :=
  calls_of_den Try.pnames Try.mixed F.pages.Pages.Give.T Try.func52 F.pages.Pages.Give.ok (es := [.va (.pointer p0), .va (.int .i64 p1), .va (.int .i64 p2)]) rfl (by rw [F.pages.Pages.Give.den]; exact h)

-- (*gloaming/block.Page).Give
def F.block.Page.Give.T : Tabs := ⟨fun _ => [],
  fun _ => none,
  fun _ => .quiet⟩
def F.block.Page.Give (p0 : Option Addr) (p1 : Int) : Tree :=
 br (Option.isNone p0)
  (ret (.int .i64 2))
  (nn p0 fun a1 =>
  ld (.l .ptr) (fa a1 0) fun (x2 : Option Addr) =>
  call Try.prog 45 [.pointer x2, .int .i64 p1] (.one (.l .bool)) fun (r3 : Bool) =>
  br (!r3)
   (ret (.int .i64 2))
   (nn p0 fun a4 =>
   ld (.l .ptr) (fa a4 0) fun (x5 : Option Addr) =>
   nw 3 [.int .i64 p1] fun b6 =>
   call Try.prog 70 [.pointer x5, .bool false, .slice (some ⟨b6, 0, none⟩) 1 1] (.one (.l (.int .i64))) fun (r7 : Int) =>
   ret (.int .i64 r7)))
theorem F.block.Page.Give.den (p0 : Option Addr) (p1 : Int) : denF Try.prog F.block.Page.Give.T Try.f53 [.va (.pointer p0), .va (.int .i64 p1)] = F.block.Page.Give p0 p1 := by kernel_rfl
theorem F.block.Page.Give.ok : (Try.f53.body.map (codeB F.block.Page.Give.T)).getD false = true := by kernel_rfl
theorem F.block.Page.Give.calls (p0 : Option Addr) (p1 : Int) {Q : Value → World → Prop} {w : World} (h : F.block.Page.Give p0 p1 Q w) : Calls Try.prog 53 #[.pointer p0, .int .i64 p1] w fun e w' => ∃ v, e = .returned v ∧ Q v w' :=
  calls_of_den Try.pnames Try.mixed F.block.Page.Give.T Try.func53 F.block.Page.Give.ok (es := [.va (.pointer p0), .va (.int .i64 p1)]) rfl (by rw [F.block.Page.Give.den]; exact h)

-- (*gloaming/block.Page).Empty
def F.block.Page.Empty.T : Tabs := ⟨fun _ => [],
  fun _ => none,
  fun _ => .quiet⟩
def F.block.Page.Empty (p0 : Option Addr) : Tree :=
 br (!(Option.isNone p0))
  (nn p0 fun a1 =>
  ld (.l .ptr) (fa a1 0) fun (x2 : Option Addr) =>
  call Try.prog 72 [.pointer x2] (.one (.l (.int .i64))) fun (r3 : Int) =>
  ret (.bool ((r3 : Int) == 0)))
  (ret (.bool false))
theorem F.block.Page.Empty.den (p0 : Option Addr) : denF Try.prog F.block.Page.Empty.T Try.f54 [.va (.pointer p0)] = F.block.Page.Empty p0 := by kernel_rfl
theorem F.block.Page.Empty.ok : (Try.f54.body.map (codeB F.block.Page.Empty.T)).getD false = true := by kernel_rfl
theorem F.block.Page.Empty.calls (p0 : Option Addr) {Q : Value → World → Prop} {w : World} (h : F.block.Page.Empty p0 Q w) : Calls Try.prog 54 #[.pointer p0] w fun e w' => ∃ v, e = .returned v ∧ Q v w' :=
  calls_of_den Try.pnames Try.mixed F.block.Page.Empty.T Try.func54 F.block.Page.Empty.ok (es := [.va (.pointer p0)]) rfl (by rw [F.block.Page.Empty.den]; exact h)

-- (*gloaming/class.Table).Add
def F.class.Table.Add.T : Tabs := ⟨fun _ => [],
  fun _ => none,
  (fun
    | 7 => .held (some 8) (.go 0 false (.go 1 false (.go 2 false (.go 3 false (.go 4 false (.go 5 false (.go 6 false (.go 7 false (.go 8 true (.go 9 false (.go 10 false (.go 11 false .nil))))))))))))
    | _ => .quiet)⟩
def F.class.Table.Add (p0 : Option Addr) (p1 : LTs [.int .i64, .slice]) : Tree :=
 nw 58 [.int .i64 p1.1, .slice p1.2.1.a p1.2.1.n p1.2.1.c] fun b1 =>
 br (Option.isNone p0)
  (ret (.tuple #[.int .i64 0, .int .i64 2]))
  (ld (.g [.int .i64, .slice]) (⟨b1, 0, none⟩) fun (x2 : LTs [.int .i64, .slice]) =>
  call Try.prog 73 [.agg #[.int .i64 x2.1, .slice x2.2.1.a x2.2.1.n x2.2.1.c]] (.one (.l .bool)) fun (r3 : Bool) =>
  br (!r3)
   (ret (.tuple #[.int .i64 0, .int .i64 1]))
   (nn p0 fun a4 =>
   ld (.l .slice) (fa a4 0) fun (x5 : Slc) =>
   br (decide (((x5.n : Nat) : Int) ≥ 256))
    (ret (.tuple #[.int .i64 0, .int .i64 3]))
    (drw <| held fun S6 =>
    nn p0 fun a7 =>
    ldS S6 (.l .slice) (fa a7 0) fun (x8 : Slc) =>
    ldS S6 (.g [.int .i64, .slice]) (⟨b1, 0, none⟩) fun (x9 : LTs [.int .i64, .slice]) =>
    call Try.prog 56 [.agg #[.int .i64 x9.1, .slice x9.2.1.a x9.2.1.n x9.2.1.c]] (.one (.g [.int .i64, .slice])) fun (r10 : LTs [.int .i64, .slice]) =>
    chk S6 <|
    nw 58 [.int .i64 r10.1, .slice r10.2.1.a r10.2.1.n r10.2.1.c] fun b11 =>
    chk S6 <|
    opr Try.prog (Builtin.append_ #[95, 95] 95 #[.slice x8.a x8.n x8.c, .slice (some ⟨b11, 0, none⟩) 1 1]) (.one (.l .slice)) fun (r12 : Slc) =>
    nn p0 fun a13 =>
    st (fa a13 0) [.slice r12.a r12.n r12.c] <|
    nn p0 fun a14 =>
    ld (.l .slice) (fa a14 0) fun (x15 : Slc) =>
    ret (.tuple #[.int .i64 (x15.n : Nat), .int .i64 0]))))
theorem F.class.Table.Add.den (p0 : Option Addr) (p1 : LTs [.int .i64, .slice]) : denF Try.prog F.class.Table.Add.T Try.f55 [.va (.pointer p0), .va (.agg #[.int .i64 p1.1, .slice p1.2.1.a p1.2.1.n p1.2.1.c])] = F.class.Table.Add p0 p1 := by kernel_rfl
theorem F.class.Table.Add.ok : (Try.f55.body.map (codeB F.class.Table.Add.T)).getD false = true := by kernel_rfl
theorem F.class.Table.Add.calls (p0 : Option Addr) (p1 : LTs [.int .i64, .slice]) {Q : Value → World → Prop} {w : World} (h : F.class.Table.Add p0 p1 Q w) : Calls Try.prog 55 #[.pointer p0, .agg #[.int .i64 p1.1, .slice p1.2.1.a p1.2.1.n p1.2.1.c]] w fun e w' => ∃ v, e = .returned v ∧ Q v w' :=
  calls_of_den Try.pnames Try.mixed F.class.Table.Add.T Try.func55 F.class.Table.Add.ok (es := [.va (.pointer p0), .va (.agg #[.int .i64 p1.1, .slice p1.2.1.a p1.2.1.n p1.2.1.c])]) rfl (by rw [F.class.Table.Add.den]; exact h)

-- gloaming/class.own
def F.class.own.T : Tabs := ⟨fun _ => [],
  fun _ => none,
  (fun
    | 1 => .held (some 6) (.go 0 false (.go 1 false (.go 2 false (.go 3 false (.go 4 false (.go 5 false (.go 6 true .nil)))))))
    | _ => .quiet)⟩
def F.class.own (p0 : LTs [.int .i64, .slice]) : Tree :=
 nw 58 [.int .i64 p0.1, .slice p0.2.1.a p0.2.1.n p0.2.1.c] fun b1 =>
 nw 58 (zc Try.prog 58) fun b2 =>
 drw <| held fun S3 =>
 ldS S3 (.l (.int .i64)) (fa (⟨b1, 0, none⟩) 0) fun (x4 : Int) =>
 ldS S3 (.l .slice) (fa (⟨b1, 0, none⟩) 1) fun (x5 : Slc) =>
 call Try.prog 74 [.slice x5.a x5.n x5.c] (.one (.l .slice)) fun (r6 : Slc) =>
 chk S3 <|
 st (⟨b2, 0, none⟩) [.int .i64 x4, .slice r6.a r6.n r6.c] <|
 ld (.g [.int .i64, .slice]) (⟨b2, 0, none⟩) fun (x7 : LTs [.int .i64, .slice]) =>
 ret (.agg #[.int .i64 x7.1, .slice x7.2.1.a x7.2.1.n x7.2.1.c])
theorem F.class.own.den (p0 : LTs [.int .i64, .slice]) : denF Try.prog F.class.own.T Try.f56 [.va (.agg #[.int .i64 p0.1, .slice p0.2.1.a p0.2.1.n p0.2.1.c])] = F.class.own p0 := by kernel_rfl
theorem F.class.own.ok : (Try.f56.body.map (codeB F.class.own.T)).getD false = true := by kernel_rfl
theorem F.class.own.calls (p0 : LTs [.int .i64, .slice]) {Q : Value → World → Prop} {w : World} (h : F.class.own p0 Q w) : Calls Try.prog 56 #[.agg #[.int .i64 p0.1, .slice p0.2.1.a p0.2.1.n p0.2.1.c]] w fun e w' => ∃ v, e = .returned v ∧ Q v w' :=
  calls_of_den Try.pnames Try.mixed F.class.own.T Try.func56 F.class.own.ok (es := [.va (.agg #[.int .i64 p0.1, .slice p0.2.1.a p0.2.1.n p0.2.1.c])]) rfl (by rw [F.class.own.den]; exact h)

-- gloaming/gloaminglaw17.heads
def F.gloaminglaw17.heads.T : Tabs := ⟨(fun
    | 3 => [(3, .slice), (4, .int .i64)]
    | _ => []),
  fun _ => none,
  (fun
    | 5 => .held (some 17) (.go 0 false (.go 1 false (.go 2 false (.go 3 false (.go 4 false (.go 5 false (.go 6 false (.go 7 false (.go 8 false (.go 9 false (.go 10 false (.go 11 false (.go 12 false (.go 13 false (.go 14 false (.go 15 false (.go 16 false (.go 17 true .nil))))))))))))))))))
    | _ => .quiet)⟩
def F.gloaminglaw17.heads (p0 : Slc) : Tree :=
 lp [.slice, .int .i64] (fun X1 u2 => -- l:t3,i:t4
  br (decide ((u2.2.1 : Int) < (p0.n : Nat)))
   (br (decide ((u2.2.1 : Int) < 24))
    (drw <| held fun S3 =>
    ix p0.a p0.n u2.2.1 1 fun a4 =>
    ldS S3 (.l (.int .u8)) a4 fun (x5 : Int) =>
    need ((4 : Int) ≠ 0) <|
    ix p0.a p0.n u2.2.1 1 fun a6 =>
    ldS S3 (.l (.int .u8)) a6 fun (x7 : Int) =>
    need ((4 : Int) ≠ 0) <|
    need ((5 : Int) ≠ 0) <|
    nw 32 (zc Try.prog 32) fun b8 =>
    chk S3 <|
    st (⟨b8, 0, none⟩) [.int .i64 (IntKind.wrap .i64 (1 + (Int.tmod (IntKind.wrap .i64 x5) 4))), .int .i64 0, .int .i64 (IntKind.wrap .i64 (1 + (Int.tmod (IntKind.wrap .i64 (Int.tdiv (IntKind.wrap .i64 x7) 4)) 5))), .bool false] <|
    ld (.l (.int .i64)) (fa (⟨b8, 0, none⟩) 0) fun (x9 : Int) =>
    br ((x9 : Int) == 1)
     (st (fa (⟨b8, 0, none⟩) 1) [.int .i64 1] <|
     st (fa (⟨b8, 0, none⟩) 2) [.int .i64 3] <|
     ld (.g [.int .i64, .int .i64, .int .i64, .bool]) (⟨b8, 0, none⟩) fun (x10 : LTs [.int .i64, .int .i64, .int .i64, .bool]) =>
     nw 32 [.int .i64 x10.1, .int .i64 x10.2.1, .int .i64 x10.2.2.1, .bool x10.2.2.2.1] fun b11 =>
     opr Try.prog (Builtin.append_ #[98, 98] 98 #[.slice u2.1.a u2.1.n u2.1.c, .slice (some ⟨b11, 0, none⟩) 1 1]) (.one (.l .slice)) fun (r12 : Slc) =>
     X1 (⟨r12.a, r12.n, r12.c⟩, IntKind.wrap .i64 (u2.2.1 + 1), ()))
     (br ((x9 : Int) == 4)
      (ix p0.a p0.n u2.2.1 1 fun a10 =>
      ld (.l (.int .u8)) a10 fun (x11 : Int) =>
      need ((4 : Int) ≠ 0) <|
      need ((3 : Int) ≠ 0) <|
      st (fa (⟨b8, 0, none⟩) 1) [.int .i64 (IntKind.wrap .i64 (1 + (Int.tmod (IntKind.wrap .i64 (Int.tdiv (IntKind.wrap .i64 x11) 4)) 3)))] <|
      st (fa (⟨b8, 0, none⟩) 2) [.int .i64 5] <|
      ld (.g [.int .i64, .int .i64, .int .i64, .bool]) (⟨b8, 0, none⟩) fun (x12 : LTs [.int .i64, .int .i64, .int .i64, .bool]) =>
      nw 32 [.int .i64 x12.1, .int .i64 x12.2.1, .int .i64 x12.2.2.1, .bool x12.2.2.2.1] fun b13 =>
      opr Try.prog (Builtin.append_ #[98, 98] 98 #[.slice u2.1.a u2.1.n u2.1.c, .slice (some ⟨b13, 0, none⟩) 1 1]) (.one (.l .slice)) fun (r14 : Slc) =>
      X1 (⟨r14.a, r14.n, r14.c⟩, IntKind.wrap .i64 (u2.2.1 + 1), ()))
      (ld (.g [.int .i64, .int .i64, .int .i64, .bool]) (⟨b8, 0, none⟩) fun (x10 : LTs [.int .i64, .int .i64, .int .i64, .bool]) =>
      nw 32 [.int .i64 x10.1, .int .i64 x10.2.1, .int .i64 x10.2.2.1, .bool x10.2.2.2.1] fun b11 =>
      opr Try.prog (Builtin.append_ #[98, 98] 98 #[.slice u2.1.a u2.1.n u2.1.c, .slice (some ⟨b11, 0, none⟩) 1 1]) (.one (.l .slice)) fun (r12 : Slc) =>
      X1 (⟨r12.a, r12.n, r12.c⟩, IntKind.wrap .i64 (u2.2.1 + 1), ()))))
    (ret (.slice u2.1.a u2.1.n u2.1.c)))
   (ret (.slice u2.1.a u2.1.n u2.1.c))) (⟨none, 0, 0⟩, 0, ())
theorem F.gloaminglaw17.heads.den (p0 : Slc) : denF Try.prog F.gloaminglaw17.heads.T Try.f57 [.va (.slice p0.a p0.n p0.c)] = F.gloaminglaw17.heads p0 := by kernel_rfl
theorem F.gloaminglaw17.heads.ok : (Try.f57.body.map (codeB F.gloaminglaw17.heads.T)).getD false = true := by kernel_rfl
theorem F.gloaminglaw17.heads.calls (p0 : Slc) {Q : Value → World → Prop} {w : World} (h : F.gloaminglaw17.heads p0 Q w) : Calls Try.prog 57 #[.slice p0.a p0.n p0.c] w fun e w' => ∃ v, e = .returned v ∧ Q v w' :=
  calls_of_den Try.pnames Try.mixed F.gloaminglaw17.heads.T Try.func57 F.gloaminglaw17.heads.ok (es := [.va (.slice p0.a p0.n p0.c)]) rfl (by rw [F.gloaminglaw17.heads.den]; exact h)

-- gloaming/gloaminglaw17.words
def F.gloaminglaw17.words.T : Tabs := ⟨(fun
    | 3 => [(10, .int .i64)]
    | _ => []),
  (fun
    | 7 => some [(12, .bool)]
    | _ => none),
  fun _ => .quiet⟩
def F.gloaminglaw17.words (p0 : LTs [.int .i64, .int .i64, .int .i64, .bool]) (p1 : Slc) (p2 : Slc) (p3 : Int) : Tree :=
 nw 32 [.int .i64 p0.1, .int .i64 p0.2.1, .int .i64 p0.2.2.1, .bool p0.2.2.2.1] fun b1 =>
 ld (.l (.int .i64)) (fa (⟨b1, 0, none⟩) 2) fun (x2 : Int) =>
 opr Try.prog (Instr.makeSlice 44 (.int .i64 x2) (.int .i64 x2)) (.one (.l .slice)) fun (r3 : Slc) =>
 lp [.int .i64] (fun X4 u5 => -- k:t10
  ld (.l (.int .i64)) (fa (⟨b1, 0, none⟩) 2) fun (x6 : Int) =>
  br (decide ((u5.1 : Int) < x6))
   (need (((p2.n : Nat) : Int) ≠ 0) <|
   ix p2.a p2.n (Int.tmod (IntKind.wrap .i64 ((IntKind.wrap .i64 ((IntKind.wrap .i64 (p3 * 7)) + (IntKind.wrap .i64 (u5.1 * 3)))) + 1)) (p2.n : Nat)) 1 fun a7 =>
   ld (.l (.int .u8)) a7 fun (x8 : Int) =>
   jn (fun (j10 : LTs [.bool]) => -- is:t12
    br j10.1
     (need ((3 : Int) ≠ 0) <|
     br (decide ((Int.tmod (IntKind.wrap .i64 ((IntKind.wrap .i64 ((IntKind.wrap .i64 x8) + (IntKind.wrap .i64 (13 * p3)))) + (IntKind.wrap .i64 (5 * u5.1)))) 3 : Int) > 0))
      (need (((p1.n : Nat) : Int) ≠ 0) <|
      ix p1.a p1.n (Int.tmod (IntKind.wrap .i64 ((IntKind.wrap .i64 ((IntKind.wrap .i64 x8) + (IntKind.wrap .i64 (13 * p3)))) + (IntKind.wrap .i64 (5 * u5.1)))) (p1.n : Nat)) 1 fun a11 =>
      ld (.l (.int .i64)) a11 fun (x12 : Int) =>
      ix r3.a r3.n u5.1 1 fun a13 =>
      st a13 [.int .i64 x12] <|
      br (!j10.1)
       (ix r3.a r3.n u5.1 1 fun a14 =>
       st a14 [.int .i64 (IntKind.wrap .i64 ((IntKind.wrap .i64 ((IntKind.wrap .i64 x8) + (IntKind.wrap .i64 (13 * p3)))) + (IntKind.wrap .i64 (5 * u5.1))))] <|
       X4 (IntKind.wrap .i64 (u5.1 + 1), ()))
       (X4 (IntKind.wrap .i64 (u5.1 + 1), ())))
      (br (!j10.1)
       (ix r3.a r3.n u5.1 1 fun a11 =>
       st a11 [.int .i64 (IntKind.wrap .i64 ((IntKind.wrap .i64 ((IntKind.wrap .i64 x8) + (IntKind.wrap .i64 (13 * p3)))) + (IntKind.wrap .i64 (5 * u5.1))))] <|
       X4 (IntKind.wrap .i64 (u5.1 + 1), ()))
       (X4 (IntKind.wrap .i64 (u5.1 + 1), ()))))
     (br (!j10.1)
      (ix r3.a r3.n u5.1 1 fun a11 =>
      st a11 [.int .i64 (IntKind.wrap .i64 ((IntKind.wrap .i64 ((IntKind.wrap .i64 x8) + (IntKind.wrap .i64 (13 * p3)))) + (IntKind.wrap .i64 (5 * u5.1))))] <|
      X4 (IntKind.wrap .i64 (u5.1 + 1), ()))
      (X4 (IntKind.wrap .i64 (u5.1 + 1), ())))) fun J9 =>
   ld (.l (.int .i64)) (fa (⟨b1, 0, none⟩) 0) fun (x11 : Int) =>
   br ((x11 : Int) == 2)
    (J9 (true, ()))
    (ld (.l (.int .i64)) (fa (⟨b1, 0, none⟩) 0) fun (x12 : Int) =>
    br ((x12 : Int) == 1)
     (br ((u5.1 : Int) != 1)
      (J9 (true, ()))
      (ld (.l (.int .i64)) (fa (⟨b1, 0, none⟩) 0) fun (x13 : Int) =>
      br ((x13 : Int) == 4)
       (br ((u5.1 : Int) == 0)
        (J9 (true, ()))
        (J9 ((u5.1 : Int) == 2, ())))
       (J9 (false, ()))))
     (ld (.l (.int .i64)) (fa (⟨b1, 0, none⟩) 0) fun (x13 : Int) =>
     br ((x13 : Int) == 4)
      (br ((u5.1 : Int) == 0)
       (J9 (true, ()))
       (J9 ((u5.1 : Int) == 2, ())))
      (J9 (false, ())))))
   (ld (.l (.int .i64)) (fa (⟨b1, 0, none⟩) 0) fun (x7 : Int) =>
   br ((x7 : Int) == 4)
    (ix r3.a r3.n 2 1 fun a8 =>
    st a8 [.int .i64 0] <|
    call Try.prog 75 [.slice p2.a p2.n p2.c, .int .i64 p3] (.one (.l (.int .i64))) fun (r9 : Int) =>
    ix r3.a r3.n 1 1 fun a10 =>
    st a10 [.int .i64 r9] <|
    need (((p2.n : Nat) : Int) ≠ 0) <|
    ix p2.a p2.n (Int.tmod p3 (p2.n : Nat)) 1 fun a11 =>
    ld (.l (.int .u8)) a11 fun (x12 : Int) =>
    ix r3.a r3.n 3 1 fun a13 =>
    st a13 [.int .i64 (IntKind.wrap .i64 x12)] <|
    ix r3.a r3.n 4 1 fun a14 =>
    st a14 [.int .i64 (IntKind.wrap .i64 (p3 + 1))] <|
    ret (.slice r3.a r3.n r3.c))
    (ret (.slice r3.a r3.n r3.c)))) (0, ())
theorem F.gloaminglaw17.words.den (p0 : LTs [.int .i64, .int .i64, .int .i64, .bool]) (p1 : Slc) (p2 : Slc) (p3 : Int) : denF Try.prog F.gloaminglaw17.words.T Try.f58 [.va (.agg #[.int .i64 p0.1, .int .i64 p0.2.1, .int .i64 p0.2.2.1, .bool p0.2.2.2.1]), .va (.slice p1.a p1.n p1.c), .va (.slice p2.a p2.n p2.c), .va (.int .i64 p3)] = F.gloaminglaw17.words p0 p1 p2 p3 := by kernel_rfl
theorem F.gloaminglaw17.words.ok : (Try.f58.body.map (codeB F.gloaminglaw17.words.T)).getD false = true := by kernel_rfl
theorem F.gloaminglaw17.words.calls (p0 : LTs [.int .i64, .int .i64, .int .i64, .bool]) (p1 : Slc) (p2 : Slc) (p3 : Int) {Q : Value → World → Prop} {w : World} (h : F.gloaminglaw17.words p0 p1 p2 p3 Q w) : Calls Try.prog 58 #[.agg #[.int .i64 p0.1, .int .i64 p0.2.1, .int .i64 p0.2.2.1, .bool p0.2.2.2.1], .slice p1.a p1.n p1.c, .slice p2.a p2.n p2.c, .int .i64 p3] w fun e w' => ∃ v, e = .returned v ∧ Q v w' :=
  calls_of_den Try.pnames Try.mixed F.gloaminglaw17.words.T Try.func58 F.gloaminglaw17.words.ok (es := [.va (.agg #[.int .i64 p0.1, .int .i64 p0.2.1, .int .i64 p0.2.2.1, .bool p0.2.2.2.1]), .va (.slice p1.a p1.n p1.c), .va (.slice p2.a p2.n p2.c), .va (.int .i64 p3)]) rfl (by rw [F.gloaminglaw17.words.den]; exact h)

-- (*gloaming/bits.Bits).Next
def F.bits.Bits.Next.T : Tabs := ⟨(fun
    | 2 => [(7, .int .i64)]
    | _ => []),
  fun _ => none,
  fun _ => .quiet⟩
def F.bits.Bits.Next (p0 : Option Addr) (p1 : Int) (p2 : Bool) : Tree :=
 lp [.int .i64] (fun X1 u2 => -- i:t7
  call Try.prog 69 [.pointer p0] (.one (.l (.int .i64))) fun (r3 : Int) =>
  br (decide ((u2.1 : Int) < r3))
   (nn p0 fun a4 =>
   ld (.l .slice) (fa a4 0) fun (x5 : Slc) =>
   ix x5.a x5.n u2.1 1 fun a6 =>
   ld (.l .bool) a6 fun (x7 : Bool) =>
   br (x7 == p2)
    (ret (.int .i64 u2.1))
    (X1 (IntKind.wrap .i64 (u2.1 + 1), ())))
   (ret (.int .i64 (-1)))) ((if (p1 : Int) > 0 then (p1 : Int) else 0), ())
theorem F.bits.Bits.Next.den (p0 : Option Addr) (p1 : Int) (p2 : Bool) : denF Try.prog F.bits.Bits.Next.T Try.f59 [.va (.pointer p0), .va (.int .i64 p1), .va (.bool p2)] = F.bits.Bits.Next p0 p1 p2 := by kernel_rfl
theorem F.bits.Bits.Next.ok : (Try.f59.body.map (codeB F.bits.Bits.Next.T)).getD false = true := by kernel_rfl
theorem F.bits.Bits.Next.calls (p0 : Option Addr) (p1 : Int) (p2 : Bool) {Q : Value → World → Prop} {w : World} (h : F.bits.Bits.Next p0 p1 p2 Q w) : Calls Try.prog 59 #[.pointer p0, .int .i64 p1, .bool p2] w fun e w' => ∃ v, e = .returned v ∧ Q v w' :=
  calls_of_den Try.pnames Try.mixed F.bits.Bits.Next.T Try.func59 F.bits.Bits.Next.ok (es := [.va (.pointer p0), .va (.int .i64 p1), .va (.bool p2)]) rfl (by rw [F.bits.Bits.Next.den]; exact h)

-- gloaming/size.Block
def F.size.Block.T : Tabs := ⟨fun _ => [],
  fun _ => none,
  fun _ => .quiet⟩
def F.size.Block (p0 : Int) : Tree :=
 call Try.prog 78 [.int .i64 p0] (.one (.l (.int .i64))) fun (r1 : Int) =>
 br (decide ((r1 : Int) ≥ 0))
  (call Try.prog 79 [] (.one (.l .slice)) fun (r2 : Slc) =>
  ix r2.a r2.n r1 1 fun a3 =>
  ld (.l (.int .i64)) a3 fun (x4 : Int) =>
  ret (.int .i64 x4))
  (call Try.prog 80 [.int .i64 p0] (.one (.l (.int .i64))) fun (r2 : Int) =>
  ret (.int .i64 (IntKind.wrap .i64 (r2 * 64))))
theorem F.size.Block.den (p0 : Int) : denF Try.prog F.size.Block.T Try.f61 [.va (.int .i64 p0)] = F.size.Block p0 := by kernel_rfl
theorem F.size.Block.ok : (Try.f61.body.map (codeB F.size.Block.T)).getD false = true := by kernel_rfl
theorem F.size.Block.calls (p0 : Int) {Q : Value → World → Prop} {w : World} (h : F.size.Block p0 Q w) : Calls Try.prog 61 #[.int .i64 p0] w fun e w' => ∃ v, e = .returned v ∧ Q v w' :=
  calls_of_den Try.pnames Try.mixed F.size.Block.T Try.func61 F.size.Block.ok (es := [.va (.int .i64 p0)]) rfl (by rw [F.size.Block.den]; exact h)

-- (*gloaming/space.Space).place
def F.space.Space.place.T : Tabs := ⟨fun _ => [],
  fun _ => none,
  fun _ => .quiet⟩
def F.space.Space.place (p0 : Option Addr) (p1 : Int) : Tree :=
 call Try.prog 78 [.int .i64 p1] (.one (.l (.int .i64))) fun (r1 : Int) =>
 br (decide ((r1 : Int) < 0))
  (call Try.prog 80 [.int .i64 p1] (.one (.l (.int .i64))) fun (r2 : Int) =>
  nn p0 fun a3 =>
  ld (.l .ptr) (fa a3 1) fun (x4 : Option Addr) =>
  call Try.prog 81 [.pointer x4, .int .i64 r2] (.many [.l (.int .i64), .l (.int .i64)]) fun (r5 : KTs [.l (.int .i64), .l (.int .i64)]) =>
  br ((r5.2.1 : Int) != 0)
   (ret (.tuple #[.int .i64 0, .int .i64 r5.2.1]))
   (nn p0 fun a6 =>
   ld (.l .map) (fa a6 3) fun (x7 : Option Nat) =>
   oprU Try.prog (Instr.mapUpdate 78 (.map x7) (.int .i64 r5.1) (.int .i64 r2)) <|
   ret (.tuple #[.int .i64 (IntKind.wrap .i64 (r5.1 * 64)), .int .i64 0])))
  (call Try.prog 82 [.pointer p0, .int .i64 r1] (.many [.l (.int .i64), .l (.int .i64)]) fun (r2 : KTs [.l (.int .i64), .l (.int .i64)]) =>
  br ((r2.2.1 : Int) != 0)
   (ret (.tuple #[.int .i64 0, .int .i64 r2.2.1]))
   (nn p0 fun a3 =>
   ld (.l .map) (fa a3 2) fun (x4 : Option Nat) =>
   opr Try.prog (Instr.lookup 77 (.map x4) (.int .i64 r2.1) false) (.one (.l .ptr)) fun (r5 : Option Addr) =>
   call Try.prog 83 [.pointer r5] (.many [.l (.int .i64), .l (.int .i64)]) fun (r6 : KTs [.l (.int .i64), .l (.int .i64)]) =>
   br ((r6.2.1 : Int) != 0)
    (ret (.tuple #[.int .i64 0, .int .i64 r6.2.1]))
    (nn p0 fun a7 =>
    ld (.l .map) (fa a7 2) fun (x8 : Option Nat) =>
    opr Try.prog (Instr.lookup 77 (.map x8) (.int .i64 r2.1) false) (.one (.l .ptr)) fun (r9 : Option Addr) =>
    call Try.prog 44 [.pointer r9] (.one (.l (.int .i64))) fun (r10 : Int) =>
    ret (.tuple #[.int .i64 (IntKind.wrap .i64 ((IntKind.wrap .i64 (r2.1 * 64)) + (IntKind.wrap .i64 (r6.1 * r10)))), .int .i64 0]))))
theorem F.space.Space.place.den (p0 : Option Addr) (p1 : Int) : denF Try.prog F.space.Space.place.T Try.f62 [.va (.pointer p0), .va (.int .i64 p1)] = F.space.Space.place p0 p1 := by kernel_rfl
theorem F.space.Space.place.ok : (Try.f62.body.map (codeB F.space.Space.place.T)).getD false = true := by kernel_rfl
theorem F.space.Space.place.calls (p0 : Option Addr) (p1 : Int) {Q : Value → World → Prop} {w : World} (h : F.space.Space.place p0 p1 Q w) : Calls Try.prog 62 #[.pointer p0, .int .i64 p1] w fun e w' => ∃ v, e = .returned v ∧ Q v w' :=
  calls_of_den Try.pnames Try.mixed F.space.Space.place.T Try.func62 F.space.Space.place.ok (es := [.va (.pointer p0), .va (.int .i64 p1)]) rfl (by rw [F.space.Space.place.den]; exact h)

-- (*gloaming/arena.Arena).Fill
def F.arena.Arena.Fill.T : Tabs := ⟨fun _ => [],
  fun _ => none,
  fun _ => .quiet⟩
def F.arena.Arena.Fill (p0 : Option Addr) (p1 : Int) (p2 : Int) : Tree :=
 br (Option.isNone p0)
  (ret (.int .i64 2))
  (br (decide ((p2 : Int) < 0))
   (ret (.int .i64 1))
   (br (decide ((p1 : Int) < 0))
    (ret (.int .i64 2))
    (nn p0 fun a1 =>
    ld (.l .slice) (fa (fa a1 0) 0) fun (x2 : Slc) =>
    br (decide ((p2 : Int) > (if (IntKind.wrap .i64 ((x2.n : Nat) - p1) : Int) > 0 then (IntKind.wrap .i64 ((x2.n : Nat) - p1) : Int) else 0)))
     (ret (.int .i64 2))
     (br (decide ((p2 : Int) > 0))
      (nn p0 fun a3 =>
      ld (.l .slice) (fa (fa a3 0) 0) fun (x4 : Slc) =>
      slc x4.a x4.c p1 (IntKind.wrap .i64 (p1 + p2)) 1 fun s5 =>
      opr Try.prog (Builtin.clear_ #[44] 0 #[.slice s5.a s5.n s5.c]) (.many []) fun (r6 : KTs []) =>
      ret (.int .i64 0))
      (ret (.int .i64 0))))))
theorem F.arena.Arena.Fill.den (p0 : Option Addr) (p1 : Int) (p2 : Int) : denF Try.prog F.arena.Arena.Fill.T Try.f63 [.va (.pointer p0), .va (.int .i64 p1), .va (.int .i64 p2)] = F.arena.Arena.Fill p0 p1 p2 := by kernel_rfl
theorem F.arena.Arena.Fill.ok : (Try.f63.body.map (codeB F.arena.Arena.Fill.T)).getD false = true := by kernel_rfl
theorem F.arena.Arena.Fill.calls (p0 : Option Addr) (p1 : Int) (p2 : Int) {Q : Value → World → Prop} {w : World} (h : F.arena.Arena.Fill p0 p1 p2 Q w) : Calls Try.prog 63 #[.pointer p0, .int .i64 p1, .int .i64 p2] w fun e w' => ∃ v, e = .returned v ∧ Q v w' :=
  calls_of_den Try.pnames Try.mixed F.arena.Arena.Fill.T Try.func63 F.arena.Arena.Fill.ok (es := [.va (.pointer p0), .va (.int .i64 p1), .va (.int .i64 p2)]) rfl (by rw [F.arena.Arena.Fill.den]; exact h)

-- gloaming/arena.New
def F.arena.New.T : Tabs := ⟨fun _ => [],
  fun _ => none,
  fun _ => .quiet⟩
def F.arena.New (p0 : Int) : Tree :=
 br (decide ((p0 : Int) < 1))
  (ret (.tuple #[.pointer none, .int .i64 1]))
  (br (decide ((p0 : Int) > 256))
   (ret (.tuple #[.pointer none, .int .i64 1]))
   (opr Try.prog (Instr.makeSlice 44 (.int .i64 (IntKind.wrap .i64 (p0 * 64))) (.int .i64 (IntKind.wrap .i64 (p0 * 64)))) (.one (.l .slice)) fun (r1 : Slc) =>
   nw 112 [.slice r1.a r1.n r1.c] fun b2 =>
   ret (.tuple #[.pointer (some (⟨b2, 0, none⟩)), .int .i64 0])))
theorem F.arena.New.den (p0 : Int) : denF Try.prog F.arena.New.T Try.f64 [.va (.int .i64 p0)] = F.arena.New p0 := by kernel_rfl
theorem F.arena.New.ok : (Try.f64.body.map (codeB F.arena.New.T)).getD false = true := by kernel_rfl
theorem F.arena.New.calls (p0 : Int) {Q : Value → World → Prop} {w : World} (h : F.arena.New p0 Q w) : Calls Try.prog 64 #[.int .i64 p0] w fun e w' => ∃ v, e = .returned v ∧ Q v w' :=
  calls_of_den Try.pnames Try.mixed F.arena.New.T Try.func64 F.arena.New.ok (es := [.va (.int .i64 p0)]) rfl (by rw [F.arena.New.den]; exact h)

-- gloaming/pages.New
def F.pages.New.T : Tabs := ⟨fun _ => [],
  fun _ => none,
  fun _ => .quiet⟩
def F.pages.New (p0 : Int) : Tree :=
 br (decide ((p0 : Int) < 1))
  (ret (.tuple #[.pointer none, .int .i64 1]))
  (br (decide ((p0 : Int) > 256))
   (ret (.tuple #[.pointer none, .int .i64 1]))
   (call Try.prog 84 [.int .i64 p0] (.many [.l .ptr, .l (.int .i64)]) fun (r1 : KTs [.l .ptr, .l (.int .i64)]) =>
   br ((r1.2.1 : Int) != 0)
    (ret (.tuple #[.pointer none, .int .i64 r1.2.1]))
    (nw 3 [.int .i64 0] fun b2 =>
    call Try.prog 70 [.pointer r1.1, .bool true, .slice (some ⟨b2, 0, none⟩) 1 1] (.one (.l (.int .i64))) fun (r3 : Int) =>
    nw 117 [.pointer r1.1] fun b4 =>
    ret (.tuple #[.pointer (some (⟨b4, 0, none⟩)), .int .i64 0]))))
theorem F.pages.New.den (p0 : Int) : denF Try.prog F.pages.New.T Try.f65 [.va (.int .i64 p0)] = F.pages.New p0 := by kernel_rfl
theorem F.pages.New.ok : (Try.f65.body.map (codeB F.pages.New.T)).getD false = true := by kernel_rfl
theorem F.pages.New.calls (p0 : Int) {Q : Value → World → Prop} {w : World} (h : F.pages.New p0 Q w) : Calls Try.prog 65 #[.int .i64 p0] w fun e w' => ∃ v, e = .returned v ∧ Q v w' :=
  calls_of_den Try.pnames Try.mixed F.pages.New.T Try.func65 F.pages.New.ok (es := [.va (.int .i64 p0)]) rfl (by rw [F.pages.New.den]; exact h)

-- gloaming/head.May
def F.head.May.T : Tabs := ⟨fun _ => [],
  fun _ => none,
  fun _ => .quiet⟩
def F.head.May (p0 : LTs [.int .i64, .int .i64, .int .i64, .bool]) : Tree :=
 nw 32 [.int .i64 p0.1, .int .i64 p0.2.1, .int .i64 p0.2.2.1, .bool p0.2.2.2.1] fun b1 =>
 ld (.l (.int .i64)) (fa (⟨b1, 0, none⟩) 2) fun (x2 : Int) =>
 nw 3 [.int .i64 0, .int .i64 1023] fun b3 =>
 call Try.prog 85 [.int .i64 x2, .slice (some ⟨b3, 0, none⟩) 2 2] (.one (.l .bool)) fun (r4 : Bool) =>
 br (!r4)
  (ret (.bool false))
  (ld (.l (.int .i64)) (fa (⟨b1, 0, none⟩) 0) fun (x5 : Int) =>
  br ((x5 : Int) == 1)
   (ld (.l (.int .i64)) (fa (⟨b1, 0, none⟩) 1) fun (x6 : Int) =>
   nw 3 [.int .i64 1, .int .i64 256] fun b7 =>
   call Try.prog 85 [.int .i64 x6, .slice (some ⟨b7, 0, none⟩) 2 2] (.one (.l .bool)) fun (r8 : Bool) =>
   ret (.bool r8))
   (br ((x5 : Int) == 2)
    (br ((x5 : Int) == 2)
     (ld (.l (.int .i64)) (fa (⟨b1, 0, none⟩) 1) fun (x6 : Int) =>
     nw 3 [.int .i64 0, .int .i64 0] fun b7 =>
     call Try.prog 85 [.int .i64 x6, .slice (some ⟨b7, 0, none⟩) 2 2] (.one (.l .bool)) fun (r8 : Bool) =>
     ret (.bool r8))
     (br ((x5 : Int) == 4)
      (ld (.l (.int .i64)) (fa (⟨b1, 0, none⟩) 1) fun (x6 : Int) =>
      nw 3 [.int .i64 1, .int .i64 3] fun b7 =>
      call Try.prog 85 [.int .i64 x6, .slice (some ⟨b7, 0, none⟩) 2 2] (.one (.l .bool)) fun (r8 : Bool) =>
      br r8
       (ld (.l (.int .i64)) (fa (⟨b1, 0, none⟩) 2) fun (x9 : Int) =>
       br ((x9 : Int) == 5)
        (ld (.l .bool) (fa (⟨b1, 0, none⟩) 3) fun (x10 : Bool) =>
        ret (.bool (!x10)))
        (ret (.bool false)))
       (ret (.bool false)))
      (ret (.bool false))))
    (br ((x5 : Int) == 3)
     (ld (.l (.int .i64)) (fa (⟨b1, 0, none⟩) 1) fun (x6 : Int) =>
     nw 3 [.int .i64 0, .int .i64 0] fun b7 =>
     call Try.prog 85 [.int .i64 x6, .slice (some ⟨b7, 0, none⟩) 2 2] (.one (.l .bool)) fun (r8 : Bool) =>
     ret (.bool r8))
     (br ((x5 : Int) == 4)
      (ld (.l (.int .i64)) (fa (⟨b1, 0, none⟩) 1) fun (x6 : Int) =>
      nw 3 [.int .i64 1, .int .i64 3] fun b7 =>
      call Try.prog 85 [.int .i64 x6, .slice (some ⟨b7, 0, none⟩) 2 2] (.one (.l .bool)) fun (r8 : Bool) =>
      br r8
       (ld (.l (.int .i64)) (fa (⟨b1, 0, none⟩) 2) fun (x9 : Int) =>
       br ((x9 : Int) == 5)
        (ld (.l .bool) (fa (⟨b1, 0, none⟩) 3) fun (x10 : Bool) =>
        ret (.bool (!x10)))
        (ret (.bool false)))
       (ret (.bool false)))
      (ret (.bool false))))))
theorem F.head.May.den (p0 : LTs [.int .i64, .int .i64, .int .i64, .bool]) : denF Try.prog F.head.May.T Try.f66 [.va (.agg #[.int .i64 p0.1, .int .i64 p0.2.1, .int .i64 p0.2.2.1, .bool p0.2.2.2.1])] = F.head.May p0 := by kernel_rfl
theorem F.head.May.ok : (Try.f66.body.map (codeB F.head.May.T)).getD false = true := by kernel_rfl
theorem F.head.May.calls (p0 : LTs [.int .i64, .int .i64, .int .i64, .bool]) {Q : Value → World → Prop} {w : World} (h : F.head.May p0 Q w) : Calls Try.prog 66 #[.agg #[.int .i64 p0.1, .int .i64 p0.2.1, .int .i64 p0.2.2.1, .bool p0.2.2.2.1]] w fun e w' => ∃ v, e = .returned v ∧ Q v w' :=
  calls_of_den Try.pnames Try.mixed F.head.May.T Try.func66 F.head.May.ok (es := [.va (.agg #[.int .i64 p0.1, .int .i64 p0.2.1, .int .i64 p0.2.2.1, .bool p0.2.2.2.1])]) rfl (by rw [F.head.May.den]; exact h)

-- (*gloaming/arena.words).has
def F.arena.words.has.T : Tabs := ⟨fun _ => [],
  fun _ => none,
  fun _ => .quiet⟩
def F.arena.words.has (p0 : Option Addr) (p1 : Int) : Tree :=
 br (decide ((p1 : Int) ≥ 0))
  (nn p0 fun a1 =>
  ld (.l .slice) (fa a1 0) fun (x2 : Slc) =>
  ret (.bool (decide ((p1 : Int) < (x2.n : Nat)))))
  (ret (.bool false))
theorem F.arena.words.has.den (p0 : Option Addr) (p1 : Int) : denF Try.prog F.arena.words.has.T Try.f67 [.va (.pointer p0), .va (.int .i64 p1)] = F.arena.words.has p0 p1 := by kernel_rfl
theorem F.arena.words.has.ok : (Try.f67.body.map (codeB F.arena.words.has.T)).getD false = true := by kernel_rfl
theorem F.arena.words.has.calls (p0 : Option Addr) (p1 : Int) {Q : Value → World → Prop} {w : World} (h : F.arena.words.has p0 p1 Q w) : Calls Try.prog 67 #[.pointer p0, .int .i64 p1] w fun e w' => ∃ v, e = .returned v ∧ Q v w' :=
  calls_of_den Try.pnames Try.mixed F.arena.words.has.T Try.func67 F.arena.words.has.ok (es := [.va (.pointer p0), .va (.int .i64 p1)]) rfl (by rw [F.arena.words.has.den]; exact h)

-- (*gloaming/bits.Bits).place
def F.bits.Bits.place.T : Tabs := ⟨fun _ => [],
  fun _ => none,
  fun _ => .quiet⟩
def F.bits.Bits.place (p0 : Option Addr) (p1 : Int) : Tree :=
 br (decide ((p1 : Int) ≥ 0))
  (call Try.prog 69 [.pointer p0] (.one (.l (.int .i64))) fun (r1 : Int) =>
  ret (.bool (decide ((p1 : Int) < r1))))
  (ret (.bool false))
theorem F.bits.Bits.place.den (p0 : Option Addr) (p1 : Int) : denF Try.prog F.bits.Bits.place.T Try.f68 [.va (.pointer p0), .va (.int .i64 p1)] = F.bits.Bits.place p0 p1 := by kernel_rfl
theorem F.bits.Bits.place.ok : (Try.f68.body.map (codeB F.bits.Bits.place.T)).getD false = true := by kernel_rfl
theorem F.bits.Bits.place.calls (p0 : Option Addr) (p1 : Int) {Q : Value → World → Prop} {w : World} (h : F.bits.Bits.place p0 p1 Q w) : Calls Try.prog 68 #[.pointer p0, .int .i64 p1] w fun e w' => ∃ v, e = .returned v ∧ Q v w' :=
  calls_of_den Try.pnames Try.mixed F.bits.Bits.place.T Try.func68 F.bits.Bits.place.ok (es := [.va (.pointer p0), .va (.int .i64 p1)]) rfl (by rw [F.bits.Bits.place.den]; exact h)

-- (*gloaming/bits.Bits).Size
def F.bits.Bits.Size.T : Tabs := ⟨fun _ => [],
  fun _ => none,
  fun _ => .quiet⟩
def F.bits.Bits.Size (p0 : Option Addr) : Tree :=
 br (Option.isNone p0)
  (ret (.int .i64 0))
  (nn p0 fun a1 =>
  ld (.l .slice) (fa a1 0) fun (x2 : Slc) =>
  ret (.int .i64 (x2.n : Nat)))
theorem F.bits.Bits.Size.den (p0 : Option Addr) : denF Try.prog F.bits.Bits.Size.T Try.f69 [.va (.pointer p0)] = F.bits.Bits.Size p0 := by kernel_rfl
theorem F.bits.Bits.Size.ok : (Try.f69.body.map (codeB F.bits.Bits.Size.T)).getD false = true := by kernel_rfl
theorem F.bits.Bits.Size.calls (p0 : Option Addr) {Q : Value → World → Prop} {w : World} (h : F.bits.Bits.Size p0 Q w) : Calls Try.prog 69 #[.pointer p0] w fun e w' => ∃ v, e = .returned v ∧ Q v w' :=
  calls_of_den Try.pnames Try.mixed F.bits.Bits.Size.T Try.func69 F.bits.Bits.Size.ok (es := [.va (.pointer p0)]) rfl (by rw [F.bits.Bits.Size.den]; exact h)

-- (*gloaming/bits.Bits).Set
def F.bits.Bits.Set.T : Tabs := ⟨(fun
    | 4 => [(18, .int .i64)]
    | _ => []),
  fun _ => none,
  fun _ => .quiet⟩
def F.bits.Bits.Set (p0 : Option Addr) (p1 : Bool) (p2 : Slc) : Tree :=
 nw 88 [.pointer p0] fun b1 =>
 ld (.l .ptr) (⟨b1, 0, none⟩) fun (x2 : Option Addr) =>
 br (Option.isNone x2)
  (ret (.int .i64 2))
  (call Try.prog 86 [.slice p2.a p2.n p2.c, .func (.func 87) #[] #[.pointer (some (⟨b1, 0, none⟩))]] (.one (.l .bool)) fun (r3 : Bool) =>
  br r3
   (ret (.int .i64 2))
   (lp [.int .i64] (fun X4 u5 => -- :t18
    br (decide ((u5.1 : Int) < (p2.n : Nat)))
     (ix p2.a p2.n u5.1 1 fun a6 =>
     ld (.l (.int .i64)) a6 fun (x7 : Int) =>
     ld (.l .ptr) (⟨b1, 0, none⟩) fun (x8 : Option Addr) =>
     nn x8 fun a9 =>
     ld (.l .slice) (fa a9 0) fun (x10 : Slc) =>
     ix x10.a x10.n x7 1 fun a11 =>
     st a11 [.bool p1] <|
     X4 (IntKind.wrap .i64 (u5.1 + 1), ()))
     (ret (.int .i64 0))) (0, ())))
theorem F.bits.Bits.Set.den (p0 : Option Addr) (p1 : Bool) (p2 : Slc) : denF Try.prog F.bits.Bits.Set.T Try.f70 [.va (.pointer p0), .va (.bool p1), .va (.slice p2.a p2.n p2.c)] = F.bits.Bits.Set p0 p1 p2 := by kernel_rfl
theorem F.bits.Bits.Set.ok : (Try.f70.body.map (codeB F.bits.Bits.Set.T)).getD false = true := by kernel_rfl
theorem F.bits.Bits.Set.calls (p0 : Option Addr) (p1 : Bool) (p2 : Slc) {Q : Value → World → Prop} {w : World} (h : F.bits.Bits.Set p0 p1 p2 Q w) : Calls Try.prog 70 #[.pointer p0, .bool p1, .slice p2.a p2.n p2.c] w fun e w' => ∃ v, e = .returned v ∧ Q v w' :=
  calls_of_den Try.pnames Try.mixed F.bits.Bits.Set.T Try.func70 F.bits.Bits.Set.ok (es := [.va (.pointer p0), .va (.bool p1), .va (.slice p2.a p2.n p2.c)]) rfl (by rw [F.bits.Bits.Set.den]; exact h)

-- gloaming/pages.row
def F.pages.row.T : Tabs := ⟨(fun
    | 3 => [(5, .slice), (8, .int .i64)]
    | _ => []),
  fun _ => none,
  fun _ => .quiet⟩
def F.pages.row (p0 : Int) (p1 : Int) : Tree :=
 lp [.slice, .int .i64] (fun X1 u2 => -- out:t5,:t8
  br (decide ((u2.2.1 : Int) < p1))
   (nw 3 [.int .i64 (IntKind.wrap .i64 (p0 + u2.2.1))] fun b3 =>
   opr Try.prog (Builtin.append_ #[44, 44] 44 #[.slice u2.1.a u2.1.n u2.1.c, .slice (some ⟨b3, 0, none⟩) 1 1]) (.one (.l .slice)) fun (r4 : Slc) =>
   X1 (⟨r4.a, r4.n, r4.c⟩, IntKind.wrap .i64 (u2.2.1 + 1), ()))
   (ret (.slice u2.1.a u2.1.n u2.1.c))) (⟨none, 0, 0⟩, 0, ())
theorem F.pages.row.den (p0 : Int) (p1 : Int) : denF Try.prog F.pages.row.T Try.f71 [.va (.int .i64 p0), .va (.int .i64 p1)] = F.pages.row p0 p1 := by kernel_rfl
theorem F.pages.row.ok : (Try.f71.body.map (codeB F.pages.row.T)).getD false = true := by kernel_rfl
theorem F.pages.row.calls (p0 : Int) (p1 : Int) {Q : Value → World → Prop} {w : World} (h : F.pages.row p0 p1 Q w) : Calls Try.prog 71 #[.int .i64 p0, .int .i64 p1] w fun e w' => ∃ v, e = .returned v ∧ Q v w' :=
  calls_of_den Try.pnames Try.mixed F.pages.row.T Try.func71 F.pages.row.ok (es := [.va (.int .i64 p0), .va (.int .i64 p1)]) rfl (by rw [F.pages.row.den]; exact h)

-- (*gloaming/bits.Bits).Count
def F.bits.Bits.Count.T : Tabs := ⟨(fun
    | 3 => [(3, .int .i64), (4, .int .i64)]
    | _ => []),
  fun _ => none,
  fun _ => .quiet⟩
def F.bits.Bits.Count (p0 : Option Addr) : Tree :=
 call Try.prog 59 [.pointer p0, .int .i64 0, .bool true] (.one (.l (.int .i64))) fun (r1 : Int) =>
 lp [.int .i64, .int .i64] (fun X2 u3 => -- n:t3,i:t4
  br (decide ((u3.2.1 : Int) ≥ 0))
   (call Try.prog 59 [.pointer p0, .int .i64 (IntKind.wrap .i64 (u3.2.1 + 1)), .bool true] (.one (.l (.int .i64))) fun (r4 : Int) =>
   X2 (IntKind.wrap .i64 (u3.1 + 1), r4, ()))
   (ret (.int .i64 u3.1))) (0, r1, ())
theorem F.bits.Bits.Count.den (p0 : Option Addr) : denF Try.prog F.bits.Bits.Count.T Try.f72 [.va (.pointer p0)] = F.bits.Bits.Count p0 := by kernel_rfl
theorem F.bits.Bits.Count.ok : (Try.f72.body.map (codeB F.bits.Bits.Count.T)).getD false = true := by kernel_rfl
theorem F.bits.Bits.Count.calls (p0 : Option Addr) {Q : Value → World → Prop} {w : World} (h : F.bits.Bits.Count p0 Q w) : Calls Try.prog 72 #[.pointer p0] w fun e w' => ∃ v, e = .returned v ∧ Q v w' :=
  calls_of_den Try.pnames Try.mixed F.bits.Bits.Count.T Try.func72 F.bits.Bits.Count.ok (es := [.va (.pointer p0)]) rfl (by rw [F.bits.Bits.Count.den]; exact h)

-- gloaming/class.may
def F.class.may.T : Tabs := ⟨(fun
    | 5 => [(3, .int .i64), (17, .int .i64)]
    | _ => []),
  fun _ => none,
  fun _ => .quiet⟩
def F.class.may (p0 : LTs [.int .i64, .slice]) : Tree :=
 nw 58 [.int .i64 p0.1, .slice p0.2.1.a p0.2.1.n p0.2.1.c] fun b1 =>
 ld (.l (.int .i64)) (fa (⟨b1, 0, none⟩) 0) fun (x2 : Int) =>
 br (decide ((x2 : Int) < 0))
  (ret (.bool false))
  (ld (.l (.int .i64)) (fa (⟨b1, 0, none⟩) 0) fun (x3 : Int) =>
  br (decide ((x3 : Int) > 1023))
   (ret (.bool false))
   (ld (.l .slice) (fa (⟨b1, 0, none⟩) 1) fun (x4 : Slc) =>
   lp [.int .i64, .int .i64] (fun X5 u6 => -- last:t3,:t17
    br (decide ((u6.2.1 : Int) < (x4.n : Nat)))
     (ix x4.a x4.n u6.2.1 1 fun a7 =>
     ld (.l (.int .i64)) a7 fun (x8 : Int) =>
     br (decide ((x8 : Int) ≤ u6.1))
      (ret (.bool false))
      (ld (.l (.int .i64)) (fa (⟨b1, 0, none⟩) 0) fun (x9 : Int) =>
      br (decide ((x8 : Int) ≥ x9))
       (ret (.bool false))
       (X5 (x8, IntKind.wrap .i64 (u6.2.1 + 1), ()))))
     (ret (.bool true))) ((-1), 0, ())))
theorem F.class.may.den (p0 : LTs [.int .i64, .slice]) : denF Try.prog F.class.may.T Try.f73 [.va (.agg #[.int .i64 p0.1, .slice p0.2.1.a p0.2.1.n p0.2.1.c])] = F.class.may p0 := by kernel_rfl
theorem F.class.may.ok : (Try.f73.body.map (codeB F.class.may.T)).getD false = true := by kernel_rfl
theorem F.class.may.calls (p0 : LTs [.int .i64, .slice]) {Q : Value → World → Prop} {w : World} (h : F.class.may p0 Q w) : Calls Try.prog 73 #[.agg #[.int .i64 p0.1, .slice p0.2.1.a p0.2.1.n p0.2.1.c]] w fun e w' => ∃ v, e = .returned v ∧ Q v w' :=
  calls_of_den Try.pnames Try.mixed F.class.may.T Try.func73 F.class.may.ok (es := [.va (.agg #[.int .i64 p0.1, .slice p0.2.1.a p0.2.1.n p0.2.1.c])]) rfl (by rw [F.class.may.den]; exact h)

-- slices.Clone[[]int,int]
def F.slices.Clone.T : Tabs := ⟨fun _ => [],
  fun _ => none,
  fun _ => .quiet⟩
def F.slices.Clone (p0 : Slc) : Tree :=
 br (Option.isNone p0.a)
  (ret (.slice none 0 0))
  (nw 3 [] fun b1 =>
  opr Try.prog (Builtin.append_ #[44, 44] 44 #[.slice (some ⟨b1, 0, none⟩) 0 0, .slice p0.a p0.n p0.c]) (.one (.l .slice)) fun (r2 : Slc) =>
  ret (.slice r2.a r2.n r2.c))
theorem F.slices.Clone.den (p0 : Slc) : denF Try.prog F.slices.Clone.T Try.f74 [.va (.slice p0.a p0.n p0.c)] = F.slices.Clone p0 := by kernel_rfl
theorem F.slices.Clone.ok : (Try.f74.body.map (codeB F.slices.Clone.T)).getD false = true := by kernel_rfl
theorem F.slices.Clone.calls (p0 : Slc) {Q : Value → World → Prop} {w : World} (h : F.slices.Clone p0 Q w) : Calls Try.prog 74 #[.slice p0.a p0.n p0.c] w fun e w' => ∃ v, e = .returned v ∧ Q v w' :=
  calls_of_den Try.pnames Try.mixed F.slices.Clone.T Try.func74 F.slices.Clone.ok (es := [.va (.slice p0.a p0.n p0.c)]) rfl (by rw [F.slices.Clone.den]; exact h)

-- gloaming/gloaminglaw17.n3
def F.gloaminglaw17.n3.T : Tabs := ⟨fun _ => [],
  fun _ => none,
  fun _ => .quiet⟩
def F.gloaminglaw17.n3 (p0 : Slc) (p1 : Int) : Tree :=
 need (((p0.n : Nat) : Int) ≠ 0) <|
 ix p0.a p0.n (Int.tmod (IntKind.wrap .i64 ((IntKind.wrap .i64 (p1 * 5)) + 2)) (p0.n : Nat)) 1 fun a1 =>
 ld (.l (.int .u8)) a1 fun (x2 : Int) =>
 need ((4 : Int) ≠ 0) <|
 ret (.int .i64 (IntKind.wrap .i64 ((Int.tmod (IntKind.wrap .i64 x2) 4) - 1)))
theorem F.gloaminglaw17.n3.den (p0 : Slc) (p1 : Int) : denF Try.prog F.gloaminglaw17.n3.T Try.f75 [.va (.slice p0.a p0.n p0.c), .va (.int .i64 p1)] = F.gloaminglaw17.n3 p0 p1 := by kernel_rfl
theorem F.gloaminglaw17.n3.ok : (Try.f75.body.map (codeB F.gloaminglaw17.n3.T)).getD false = true := by kernel_rfl
theorem F.gloaminglaw17.n3.calls (p0 : Slc) (p1 : Int) {Q : Value → World → Prop} {w : World} (h : F.gloaminglaw17.n3 p0 p1 Q w) : Calls Try.prog 75 #[.slice p0.a p0.n p0.c, .int .i64 p1] w fun e w' => ∃ v, e = .returned v ∧ Q v w' :=
  calls_of_den Try.pnames Try.mixed F.gloaminglaw17.n3.T Try.func75 F.gloaminglaw17.n3.ok (es := [.va (.slice p0.a p0.n p0.c), .va (.int .i64 p1)]) rfl (by rw [F.gloaminglaw17.n3.den]; exact h)

-- gloaming/size.Class
def F.size.Class.T : Tabs := ⟨(fun
    | 4 => [(9, .int .i64)]
    | _ => []),
  fun _ => none,
  fun _ => .quiet⟩
def F.size.Class (p0 : Int) : Tree :=
 br (decide ((p0 : Int) < 1))
  (ret (.int .i64 (-1)))
  (call Try.prog 79 [] (.one (.l .slice)) fun (r1 : Slc) =>
  lp [.int .i64] (fun X2 u3 => -- :t9
   br (decide ((u3.1 : Int) < (r1.n : Nat)))
    (ix r1.a r1.n u3.1 1 fun a4 =>
    ld (.l (.int .i64)) a4 fun (x5 : Int) =>
    br (decide ((x5 : Int) ≥ p0))
     (ret (.int .i64 u3.1))
     (X2 (IntKind.wrap .i64 (u3.1 + 1), ())))
    (ret (.int .i64 (-1)))) (0, ()))
theorem F.size.Class.den (p0 : Int) : denF Try.prog F.size.Class.T Try.f78 [.va (.int .i64 p0)] = F.size.Class p0 := by kernel_rfl
theorem F.size.Class.ok : (Try.f78.body.map (codeB F.size.Class.T)).getD false = true := by kernel_rfl
theorem F.size.Class.calls (p0 : Int) {Q : Value → World → Prop} {w : World} (h : F.size.Class p0 Q w) : Calls Try.prog 78 #[.int .i64 p0] w fun e w' => ∃ v, e = .returned v ∧ Q v w' :=
  calls_of_den Try.pnames Try.mixed F.size.Class.T Try.func78 F.size.Class.ok (es := [.va (.int .i64 p0)]) rfl (by rw [F.size.Class.den]; exact h)

-- gloaming/size.Sizes
def F.size.Sizes.T : Tabs := ⟨fun _ => [],
  fun _ => none,
  fun _ => .quiet⟩
def F.size.Sizes  : Tree :=
 nw 3 [.int .i64 2, .int .i64 4, .int .i64 8, .int .i64 16, .int .i64 32] fun b1 =>
 ret (.slice (some ⟨b1, 0, none⟩) 5 5)
theorem F.size.Sizes.den  : denF Try.prog F.size.Sizes.T Try.f79 [] = F.size.Sizes := by kernel_rfl
theorem F.size.Sizes.ok : (Try.f79.body.map (codeB F.size.Sizes.T)).getD false = true := by kernel_rfl
theorem F.size.Sizes.calls  {Q : Value → World → Prop} {w : World} (h : F.size.Sizes Q w) : Calls Try.prog 79 #[] w fun e w' => ∃ v, e = .returned v ∧ Q v w' :=
  calls_of_den Try.pnames Try.mixed F.size.Sizes.T Try.func79 F.size.Sizes.ok (es := []) rfl (by rw [F.size.Sizes.den]; exact h)

-- gloaming/size.Pages
def F.size.Pages.T : Tabs := ⟨fun _ => [],
  fun _ => none,
  fun _ => .quiet⟩
def F.size.Pages (p0 : Int) : Tree :=
 br (decide ((p0 : Int) < 1))
  (ret (.int .i64 0))
  (br (decide ((p0 : Int) > 1024))
   (ret (.int .i64 0))
   (call Try.prog 78 [.int .i64 p0] (.one (.l (.int .i64))) fun (r1 : Int) =>
   br (decide ((r1 : Int) ≥ 0))
    (ret (.int .i64 0))
    (need ((64 : Int) ≠ 0) <|
    ret (.int .i64 (IntKind.wrap .i64 (Int.tdiv (IntKind.wrap .i64 ((IntKind.wrap .i64 (p0 + 64)) - 1)) 64))))))
theorem F.size.Pages.den (p0 : Int) : denF Try.prog F.size.Pages.T Try.f80 [.va (.int .i64 p0)] = F.size.Pages p0 := by kernel_rfl
theorem F.size.Pages.ok : (Try.f80.body.map (codeB F.size.Pages.T)).getD false = true := by kernel_rfl
theorem F.size.Pages.calls (p0 : Int) {Q : Value → World → Prop} {w : World} (h : F.size.Pages p0 Q w) : Calls Try.prog 80 #[.int .i64 p0] w fun e w' => ∃ v, e = .returned v ∧ Q v w' :=
  calls_of_den Try.pnames Try.mixed F.size.Pages.T Try.func80 F.size.Pages.ok (es := [.va (.int .i64 p0)]) rfl (by rw [F.size.Pages.den]; exact h)

-- (*gloaming/pages.Pages).Take
def F.pages.Pages.Take.T : Tabs := ⟨fun _ => [],
  fun _ => none,
  (fun
    | 8 => .held (some 7) (.go 0 false (.go 1 false (.go 2 false (.go 3 false (.go 4 false (.go 5 false (.go 6 false (.go 7 true .nil))))))))
    | _ => .quiet)⟩
def F.pages.Pages.Take (p0 : Option Addr) (p1 : Int) : Tree :=
 br (Option.isNone p0)
  (ret (.tuple #[.int .i64 0, .int .i64 2]))
  (br (decide ((p1 : Int) < 1))
   (ret (.tuple #[.int .i64 0, .int .i64 1]))
   (nn p0 fun a1 =>
   ld (.l .ptr) (fa a1 0) fun (x2 : Option Addr) =>
   call Try.prog 99 [.pointer x2, .int .i64 0, .int .i64 p1] (.one (.l (.int .i64))) fun (r3 : Int) =>
   br (decide ((r3 : Int) < 0))
    (ret (.tuple #[.int .i64 0, .int .i64 3]))
    (drw <| held fun S4 =>
    nn p0 fun a5 =>
    ldS S4 (.l .ptr) (fa a5 0) fun (x6 : Option Addr) =>
    call Try.prog 71 [.int .i64 r3, .int .i64 p1] (.one (.l .slice)) fun (r7 : Slc) =>
    chk S4 <|
    call Try.prog 70 [.pointer x6, .bool true, .slice r7.a r7.n r7.c] (.one (.l (.int .i64))) fun (r8 : Int) =>
    ret (.tuple #[.int .i64 r3, .int .i64 0]))))
theorem F.pages.Pages.Take.den (p0 : Option Addr) (p1 : Int) : denF Try.prog F.pages.Pages.Take.T Try.f81 [.va (.pointer p0), .va (.int .i64 p1)] = F.pages.Pages.Take p0 p1 := by kernel_rfl
theorem F.pages.Pages.Take.ok : (Try.f81.body.map (codeB F.pages.Pages.Take.T)).getD false = true := by kernel_rfl
theorem F.pages.Pages.Take.calls (p0 : Option Addr) (p1 : Int) {Q : Value → World → Prop} {w : World} (h : F.pages.Pages.Take p0 p1 Q w) : Calls Try.prog 81 #[.pointer p0, .int .i64 p1] w fun e w' => ∃ v, e = .returned v ∧ Q v w' :=
  calls_of_den Try.pnames Try.mixed F.pages.Pages.Take.T Try.func81 F.pages.Pages.Take.ok (es := [.va (.pointer p0), .va (.int .i64 p1)]) rfl (by rw [F.pages.Pages.Take.den]; exact h)

-- (*gloaming/space.Space).first
def F.space.Space.first.T : Tabs := ⟨fun _ => [],
  fun _ => none,
  fun _ => .quiet⟩
def F.space.Space.first (p0 : Option Addr) (p1 : Int) : Tree :=
 call Try.prog 100 [.pointer p0, .int .i64 p1] (.many [.l (.int .i64), .l .bool]) fun (r1 : KTs [.l (.int .i64), .l .bool]) =>
 br r1.2.1
  (ret (.tuple #[.int .i64 r1.1, .int .i64 0]))
  (nn p0 fun a2 =>
  ld (.l .ptr) (fa a2 1) fun (x3 : Option Addr) =>
  call Try.prog 81 [.pointer x3, .int .i64 1] (.many [.l (.int .i64), .l (.int .i64)]) fun (r4 : KTs [.l (.int .i64), .l (.int .i64)]) =>
  br ((r4.2.1 : Int) != 0)
   (ret (.tuple #[.int .i64 0, .int .i64 r4.2.1]))
   (call Try.prog 101 [.int .i64 p1] (.many [.l .ptr, .l (.int .i64)]) fun (r5 : KTs [.l .ptr, .l (.int .i64)]) =>
   br ((r5.2.1 : Int) != 0)
    (ret (.tuple #[.int .i64 0, .int .i64 r5.2.1]))
    (nn p0 fun a6 =>
    ld (.l .map) (fa a6 2) fun (x7 : Option Nat) =>
    oprU Try.prog (Instr.mapUpdate 77 (.map x7) (.int .i64 r4.1) (.pointer r5.1)) <|
    ret (.tuple #[.int .i64 r4.1, .int .i64 0]))))
theorem F.space.Space.first.den (p0 : Option Addr) (p1 : Int) : denF Try.prog F.space.Space.first.T Try.f82 [.va (.pointer p0), .va (.int .i64 p1)] = F.space.Space.first p0 p1 := by kernel_rfl
theorem F.space.Space.first.ok : (Try.f82.body.map (codeB F.space.Space.first.T)).getD false = true := by kernel_rfl
theorem F.space.Space.first.calls (p0 : Option Addr) (p1 : Int) {Q : Value → World → Prop} {w : World} (h : F.space.Space.first p0 p1 Q w) : Calls Try.prog 82 #[.pointer p0, .int .i64 p1] w fun e w' => ∃ v, e = .returned v ∧ Q v w' :=
  calls_of_den Try.pnames Try.mixed F.space.Space.first.T Try.func82 F.space.Space.first.ok (es := [.va (.pointer p0), .va (.int .i64 p1)]) rfl (by rw [F.space.Space.first.den]; exact h)

-- (*gloaming/block.Page).Take
def F.block.Page.Take.T : Tabs := ⟨fun _ => [],
  fun _ => none,
  fun _ => .quiet⟩
def F.block.Page.Take (p0 : Option Addr) : Tree :=
 br (Option.isNone p0)
  (ret (.tuple #[.int .i64 0, .int .i64 2]))
  (nn p0 fun a1 =>
  ld (.l .ptr) (fa a1 0) fun (x2 : Option Addr) =>
  call Try.prog 59 [.pointer x2, .int .i64 0, .bool false] (.one (.l (.int .i64))) fun (r3 : Int) =>
  br (decide ((r3 : Int) < 0))
   (ret (.tuple #[.int .i64 0, .int .i64 3]))
   (nn p0 fun a4 =>
   ld (.l .ptr) (fa a4 0) fun (x5 : Option Addr) =>
   nw 3 [.int .i64 r3] fun b6 =>
   call Try.prog 70 [.pointer x5, .bool true, .slice (some ⟨b6, 0, none⟩) 1 1] (.one (.l (.int .i64))) fun (r7 : Int) =>
   ret (.tuple #[.int .i64 r3, .int .i64 r7])))
theorem F.block.Page.Take.den (p0 : Option Addr) : denF Try.prog F.block.Page.Take.T Try.f83 [.va (.pointer p0)] = F.block.Page.Take p0 := by kernel_rfl
theorem F.block.Page.Take.ok : (Try.f83.body.map (codeB F.block.Page.Take.T)).getD false = true := by kernel_rfl
theorem F.block.Page.Take.calls (p0 : Option Addr) {Q : Value → World → Prop} {w : World} (h : F.block.Page.Take p0 Q w) : Calls Try.prog 83 #[.pointer p0] w fun e w' => ∃ v, e = .returned v ∧ Q v w' :=
  calls_of_den Try.pnames Try.mixed F.block.Page.Take.T Try.func83 F.block.Page.Take.ok (es := [.va (.pointer p0)]) rfl (by rw [F.block.Page.Take.den]; exact h)

-- gloaming/bits.New
def F.bits.New.T : Tabs := ⟨fun _ => [],
  fun _ => none,
  fun _ => .quiet⟩
def F.bits.New (p0 : Int) : Tree :=
 br (decide ((p0 : Int) < 0))
  (ret (.tuple #[.pointer none, .int .i64 1]))
  (br (decide ((p0 : Int) > 16384))
   (ret (.tuple #[.pointer none, .int .i64 1]))
   (opr Try.prog (Instr.makeSlice 113 (.int .i64 p0) (.int .i64 p0)) (.one (.l .slice)) fun (r1 : Slc) =>
   nw 115 [.slice r1.a r1.n r1.c] fun b2 =>
   ret (.tuple #[.pointer (some (⟨b2, 0, none⟩)), .int .i64 0])))
theorem F.bits.New.den (p0 : Int) : denF Try.prog F.bits.New.T Try.f84 [.va (.int .i64 p0)] = F.bits.New p0 := by kernel_rfl
theorem F.bits.New.ok : (Try.f84.body.map (codeB F.bits.New.T)).getD false = true := by kernel_rfl
theorem F.bits.New.calls (p0 : Int) {Q : Value → World → Prop} {w : World} (h : F.bits.New p0 Q w) : Calls Try.prog 84 #[.int .i64 p0] w fun e w' => ∃ v, e = .returned v ∧ Q v w' :=
  calls_of_den Try.pnames Try.mixed F.bits.New.T Try.func84 F.bits.New.ok (es := [.va (.int .i64 p0)]) rfl (by rw [F.bits.New.den]; exact h)

-- gloaming/head.in
def F.head.in.T : Tabs := ⟨(fun
    | 2 => [(5, .int .i64)]
    | _ => []),
  fun _ => none,
  fun _ => .quiet⟩
def F.head.in (p0 : Int) (p1 : Slc) : Tree :=
 lp [.int .i64] (fun X1 u2 => -- i:t5
  br (decide ((IntKind.wrap .i64 (u2.1 + 1) : Int) < (p1.n : Nat)))
   (ix p1.a p1.n u2.1 1 fun a3 =>
   ld (.l (.int .i64)) a3 fun (x4 : Int) =>
   br (decide ((p0 : Int) ≥ x4))
    (ix p1.a p1.n (IntKind.wrap .i64 (u2.1 + 1)) 1 fun a5 =>
    ld (.l (.int .i64)) a5 fun (x6 : Int) =>
    br (decide ((p0 : Int) ≤ x6))
     (ret (.bool true))
     (X1 (IntKind.wrap .i64 (u2.1 + 2), ())))
    (X1 (IntKind.wrap .i64 (u2.1 + 2), ())))
   (ret (.bool false))) (0, ())
theorem F.head.in.den (p0 : Int) (p1 : Slc) : denF Try.prog F.head.in.T Try.f85 [.va (.int .i64 p0), .va (.slice p1.a p1.n p1.c)] = F.head.in p0 p1 := by kernel_rfl
theorem F.head.in.ok : (Try.f85.body.map (codeB F.head.in.T)).getD false = true := by kernel_rfl
theorem F.head.in.calls (p0 : Int) (p1 : Slc) {Q : Value → World → Prop} {w : World} (h : F.head.in p0 p1 Q w) : Calls Try.prog 85 #[.int .i64 p0, .slice p1.a p1.n p1.c] w fun e w' => ∃ v, e = .returned v ∧ Q v w' :=
  calls_of_den Try.pnames Try.mixed F.head.in.T Try.func85 F.head.in.ok (es := [.va (.int .i64 p0), .va (.slice p1.a p1.n p1.c)]) rfl (by rw [F.head.in.den]; exact h)

-- slices.ContainsFunc[[]int,int]
def F.slices.ContainsFunc.T : Tabs := ⟨fun _ => [],
  fun _ => none,
  fun _ => .quiet⟩
def F.slices.ContainsFunc (p0 : Slc) (p1 : Value) : Tree :=
 call Try.prog 102 [.slice p0.a p0.n p0.c, p1] (.one (.l (.int .i64))) fun (r1 : Int) =>
 ret (.bool (decide ((r1 : Int) ≥ 0)))
theorem F.slices.ContainsFunc.den (p0 : Slc) (p1 : Value) : denF Try.prog F.slices.ContainsFunc.T Try.f86 [.va (.slice p0.a p0.n p0.c), .op p1] = F.slices.ContainsFunc p0 p1 := by kernel_rfl
theorem F.slices.ContainsFunc.ok : (Try.f86.body.map (codeB F.slices.ContainsFunc.T)).getD false = true := by kernel_rfl
theorem F.slices.ContainsFunc.calls (p0 : Slc) (p1 : Value) {Q : Value → World → Prop} {w : World} (h : F.slices.ContainsFunc p0 p1 Q w) : Calls Try.prog 86 #[.slice p0.a p0.n p0.c, p1] w fun e w' => ∃ v, e = .returned v ∧ Q v w' :=
  calls_of_den Try.pnames Try.mixed F.slices.ContainsFunc.T Try.func86 F.slices.ContainsFunc.ok (es := [.va (.slice p0.a p0.n p0.c), .op p1]) rfl (by rw [F.slices.ContainsFunc.den]; exact h)

-- (*gloaming/bits.Bits).Set$1
def F.bits.Bits.Set_1.T : Tabs := ⟨fun _ => [],
  fun _ => none,
  fun _ => .quiet⟩
def F.bits.Bits.Set_1 (p0 : Int) (c0 : Option Addr) : Tree :=
 nn c0 fun a1 =>
 ld (.l .ptr) a1 fun (x2 : Option Addr) =>
 call Try.prog 68 [.pointer x2, .int .i64 p0] (.one (.l .bool)) fun (r3 : Bool) =>
 ret (.bool (!r3))
theorem F.bits.Bits.Set_1.den (p0 : Int) (c0 : Option Addr) : denF Try.prog F.bits.Bits.Set_1.T Try.f87 [.va (.int .i64 p0), .va (.pointer c0)] = F.bits.Bits.Set_1 p0 c0 := by kernel_rfl
theorem F.bits.Bits.Set_1.ok : (Try.f87.body.map (codeB F.bits.Bits.Set_1.T)).getD false = true := by kernel_rfl
theorem F.bits.Bits.Set_1.calls (p0 : Int) (c0 : Option Addr) {Q : Value → World → Prop} {w : World} (h : F.bits.Bits.Set_1 p0 c0 Q w) : Calls Try.prog 87 #[.int .i64 p0, .pointer c0] w fun e w' => ∃ v, e = .returned v ∧ Q v w' :=
  calls_of_den Try.pnames Try.mixed F.bits.Bits.Set_1.T Try.func87 F.bits.Bits.Set_1.ok (es := [.va (.int .i64 p0), .va (.pointer c0)]) rfl (by rw [F.bits.Bits.Set_1.den]; exact h)

-- (*gloaming/bits.Bits).Run
def F.bits.Bits.Run.T : Tabs := ⟨(fun
    | 5 => [(7, .int .i64), (8, .int .i64)]
    | _ => []),
  fun _ => none,
  fun _ => .quiet⟩
def F.bits.Bits.Run (p0 : Option Addr) (p1 : Int) (p2 : Int) : Tree :=
 br (decide ((p2 : Int) < 1))
  (ret (.int .i64 (-1)))
  (lp [.int .i64, .int .i64] (fun X1 u2 => -- free:t7,i:t8
   call Try.prog 69 [.pointer p0] (.one (.l (.int .i64))) fun (r3 : Int) =>
   br (decide ((u2.2.1 : Int) < r3))
    (nn p0 fun a4 =>
    ld (.l .slice) (fa a4 0) fun (x5 : Slc) =>
    ix x5.a x5.n u2.2.1 1 fun a6 =>
    ld (.l .bool) a6 fun (x7 : Bool) =>
    br x7
     (br ((0 : Int) == p2)
      (ret (.int .i64 (IntKind.wrap .i64 ((IntKind.wrap .i64 (u2.2.1 + 1)) - p2))))
      (X1 (0, IntKind.wrap .i64 (u2.2.1 + 1), ())))
     (br ((IntKind.wrap .i64 (u2.1 + 1) : Int) == p2)
      (ret (.int .i64 (IntKind.wrap .i64 ((IntKind.wrap .i64 (u2.2.1 + 1)) - p2))))
      (X1 (IntKind.wrap .i64 (u2.1 + 1), IntKind.wrap .i64 (u2.2.1 + 1), ()))))
    (ret (.int .i64 (-1)))) (0, (if (p1 : Int) > 0 then (p1 : Int) else 0), ()))
theorem F.bits.Bits.Run.den (p0 : Option Addr) (p1 : Int) (p2 : Int) : denF Try.prog F.bits.Bits.Run.T Try.f99 [.va (.pointer p0), .va (.int .i64 p1), .va (.int .i64 p2)] = F.bits.Bits.Run p0 p1 p2 := by kernel_rfl
theorem F.bits.Bits.Run.ok : (Try.f99.body.map (codeB F.bits.Bits.Run.T)).getD false = true := by kernel_rfl
theorem F.bits.Bits.Run.calls (p0 : Option Addr) (p1 : Int) (p2 : Int) {Q : Value → World → Prop} {w : World} (h : F.bits.Bits.Run p0 p1 p2 Q w) : Calls Try.prog 99 #[.pointer p0, .int .i64 p1, .int .i64 p2] w fun e w' => ∃ v, e = .returned v ∧ Q v w' :=
  calls_of_den Try.pnames Try.mixed F.bits.Bits.Run.T Try.func99 F.bits.Bits.Run.ok (es := [.va (.pointer p0), .va (.int .i64 p1), .va (.int .i64 p2)]) rfl (by rw [F.bits.Bits.Run.den]; exact h)

-- (*gloaming/space.Space).open
def F.space.Space.open.T : Tabs := ⟨(fun
    | 3 => [(21, .int .i64)]
    | _ => []),
  fun _ => none,
  fun _ => .quiet⟩
def F.space.Space.open (p0 : Option Addr) (p1 : Int) : Tree :=
 call Try.prog 79 [] (.one (.l .slice)) fun (r1 : Slc) =>
 ix r1.a r1.n p1 1 fun a2 =>
 ld (.l (.int .i64)) a2 fun (x3 : Int) =>
 nn p0 fun a4 =>
 ld (.l .map) (fa a4 2) fun (x5 : Option Nat) =>
 call Try.prog 110 [.map x5] (.one (.l .any)) fun (r6 : Value) =>
 call Try.prog 109 [r6] (.one (.l .slice)) fun (r7 : Slc) =>
 lp [.int .i64] (fun X8 u9 => -- :t21
  br (decide ((u9.1 : Int) < (r7.n : Nat)))
   (ix r7.a r7.n u9.1 1 fun a10 =>
   ld (.l (.int .i64)) a10 fun (x11 : Int) =>
   nn p0 fun a12 =>
   ld (.l .map) (fa a12 2) fun (x13 : Option Nat) =>
   opr Try.prog (Instr.lookup 77 (.map x13) (.int .i64 x11) false) (.one (.l .ptr)) fun (r14 : Option Addr) =>
   call Try.prog 44 [.pointer r14] (.one (.l (.int .i64))) fun (r15 : Int) =>
   br ((r15 : Int) == x3)
    (call Try.prog 111 [.pointer r14] (.one (.l .bool)) fun (r16 : Bool) =>
    br (!r16)
     (ret (.tuple #[.int .i64 x11, .bool true]))
     (X8 (IntKind.wrap .i64 (u9.1 + 1), ())))
    (X8 (IntKind.wrap .i64 (u9.1 + 1), ())))
   (ret (.tuple #[.int .i64 0, .bool false]))) (0, ())
theorem F.space.Space.open.den (p0 : Option Addr) (p1 : Int) : denF Try.prog F.space.Space.open.T Try.f100 [.va (.pointer p0), .va (.int .i64 p1)] = F.space.Space.open p0 p1 := by kernel_rfl
theorem F.space.Space.open.ok : (Try.f100.body.map (codeB F.space.Space.open.T)).getD false = true := by kernel_rfl
theorem F.space.Space.open.calls (p0 : Option Addr) (p1 : Int) {Q : Value → World → Prop} {w : World} (h : F.space.Space.open p0 p1 Q w) : Calls Try.prog 100 #[.pointer p0, .int .i64 p1] w fun e w' => ∃ v, e = .returned v ∧ Q v w' :=
  calls_of_den Try.pnames Try.mixed F.space.Space.open.T Try.func100 F.space.Space.open.ok (es := [.va (.pointer p0), .va (.int .i64 p1)]) rfl (by rw [F.space.Space.open.den]; exact h)

-- gloaming/block.New
def F.block.New.T : Tabs := ⟨fun _ => [],
  fun _ => none,
  fun _ => .quiet⟩
def F.block.New (p0 : Int) : Tree :=
 call Try.prog 79 [] (.one (.l .slice)) fun (r1 : Slc) =>
 br (decide ((p0 : Int) < 0))
  (ret (.tuple #[.pointer none, .int .i64 1]))
  (br (decide ((p0 : Int) ≥ (r1.n : Nat)))
   (ret (.tuple #[.pointer none, .int .i64 1]))
   (ix r1.a r1.n p0 1 fun a2 =>
   ld (.l (.int .i64)) a2 fun (x3 : Int) =>
   need ((x3 : Int) ≠ 0) <|
   call Try.prog 84 [.int .i64 (IntKind.wrap .i64 (Int.tdiv 64 x3))] (.many [.l .ptr, .l (.int .i64)]) fun (r4 : KTs [.l .ptr, .l (.int .i64)]) =>
   br ((r4.2.1 : Int) != 0)
    (ret (.tuple #[.pointer none, .int .i64 r4.2.1]))
    (ix r1.a r1.n p0 1 fun a5 =>
    ld (.l (.int .i64)) a5 fun (x6 : Int) =>
    nw 90 [.pointer r4.1, .int .i64 x6] fun b7 =>
    ret (.tuple #[.pointer (some (⟨b7, 0, none⟩)), .int .i64 0]))))
theorem F.block.New.den (p0 : Int) : denF Try.prog F.block.New.T Try.f101 [.va (.int .i64 p0)] = F.block.New p0 := by kernel_rfl
theorem F.block.New.ok : (Try.f101.body.map (codeB F.block.New.T)).getD false = true := by kernel_rfl
theorem F.block.New.calls (p0 : Int) {Q : Value → World → Prop} {w : World} (h : F.block.New p0 Q w) : Calls Try.prog 101 #[.int .i64 p0] w fun e w' => ∃ v, e = .returned v ∧ Q v w' :=
  calls_of_den Try.pnames Try.mixed F.block.New.T Try.func101 F.block.New.ok (es := [.va (.int .i64 p0)]) rfl (by rw [F.block.New.den]; exact h)

-- slices.IndexFunc[[]int,int]
def F.slices.IndexFunc.T : Tabs := ⟨(fun
    | 2 => [(8, .int .i64)]
    | _ => []),
  fun _ => none,
  fun _ => .quiet⟩
def F.slices.IndexFunc (p0 : Slc) (p1 : Value) : Tree :=
 lp [.int .i64] (fun X1 u2 => -- :t8
  br (decide ((u2.1 : Int) < (p0.n : Nat)))
   (ix p0.a p0.n u2.1 1 fun a3 =>
   ld (.l (.int .i64)) a3 fun (x4 : Int) =>
   callV Try.prog p1 [.int .i64 x4] (.one (.l .bool)) fun (r5 : Bool) =>
   br r5
    (ret (.int .i64 u2.1))
    (X1 (IntKind.wrap .i64 (u2.1 + 1), ())))
   (ret (.int .i64 (-1)))) (0, ())
theorem F.slices.IndexFunc.den (p0 : Slc) (p1 : Value) : denF Try.prog F.slices.IndexFunc.T Try.f102 [.va (.slice p0.a p0.n p0.c), .op p1] = F.slices.IndexFunc p0 p1 := by kernel_rfl
theorem F.slices.IndexFunc.ok : (Try.f102.body.map (codeB F.slices.IndexFunc.T)).getD false = true := by kernel_rfl
theorem F.slices.IndexFunc.calls (p0 : Slc) (p1 : Value) {Q : Value → World → Prop} {w : World} (h : F.slices.IndexFunc p0 p1 Q w) : Calls Try.prog 102 #[.slice p0.a p0.n p0.c, p1] w fun e w' => ∃ v, e = .returned v ∧ Q v w' :=
  calls_of_den Try.pnames Try.mixed F.slices.IndexFunc.T Try.func102 F.slices.IndexFunc.ok (es := [.va (.slice p0.a p0.n p0.c), .op p1]) rfl (by rw [F.slices.IndexFunc.den]; exact h)

-- (*gloaming/block.Page).Full
def F.block.Page.Full.T : Tabs := ⟨fun _ => [],
  fun _ => none,
  (fun
    | 1 => .held (some 12) (.go 0 false (.go 1 false (.go 2 false (.go 3 false (.go 4 false (.go 5 false (.go 6 false (.go 8 false (.go 9 false (.go 10 false (.go 11 false (.go 7 false (.go 12 true (.go 13 false (.go 14 false (.go 15 false .nil))))))))))))))))
    | _ => .quiet)⟩
def F.block.Page.Full (p0 : Option Addr) : Tree :=
 drw <| held fun S1 =>
 br (!(Option.isNone p0))
  (nn p0 fun a2 =>
  ldS S1 (.l .ptr) (fa a2 0) fun (x3 : Option Addr) =>
  nn p0 fun a4 =>
  ldS S1 (.l .ptr) (fa a4 0) fun (x5 : Option Addr) =>
  call Try.prog 72 [.pointer x3] (.one (.l (.int .i64))) fun (r6 : Int) =>
  chk S1 <|
  call Try.prog 69 [.pointer x5] (.one (.l (.int .i64))) fun (r7 : Int) =>
  ret (.bool ((r6 : Int) == r7)))
  (ret (.bool false))
theorem F.block.Page.Full.den (p0 : Option Addr) : denF Try.prog F.block.Page.Full.T Try.f111 [.va (.pointer p0)] = F.block.Page.Full p0 := by kernel_rfl
theorem F.block.Page.Full.ok : (Try.f111.body.map (codeB F.block.Page.Full.T)).getD false = true := by kernel_rfl
theorem F.block.Page.Full.calls (p0 : Option Addr) {Q : Value → World → Prop} {w : World} (h : F.block.Page.Full p0 Q w) : Calls Try.prog 111 #[.pointer p0] w fun e w' => ∃ v, e = .returned v ∧ Q v w' :=
  calls_of_den Try.pnames Try.mixed F.block.Page.Full.T Try.func111 F.block.Page.Full.ok (es := [.va (.pointer p0)]) rfl (by rw [F.block.Page.Full.den]; exact h)
end Go.Proofs.Ytncpnmpfghppeaa
