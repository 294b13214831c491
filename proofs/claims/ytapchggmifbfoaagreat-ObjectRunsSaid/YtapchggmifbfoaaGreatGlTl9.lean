import Derived.Test.YtapchggmifbfoaaGreatGlT
namespace Go.Proofs.YtapchggmifbfoaaGreat
open Go Go.Gl
set_option maxRecDepth 100000
set_option linter.unusedVariables false
-- gloaming/gloaminglaw9.awake
def F.gloaminglaw9.awake.T : Tabs := ⟨fun _ => [],
  fun _ => none,
  fun _ => .quiet⟩
def F.gloaminglaw9.awake  : Tree :=
 call Tryz.prog 50 [.int .i64 2] (.many [.l .ptr, .l (.int .i64)]) fun (r1 : KTs [.l .ptr, .l (.int .i64)]) =>
 call Tryz.prog 51 [.pointer r1.1] (.one (.l .bool)) fun (r2 : Bool) =>
 br (!r2)
  (ret (.bool false))
  (call Tryz.prog 39 [.int .i64 r1.2.1] (.one (.l (.int .i64))) fun (r3 : Int) =>
  br ((r3 : Int) != 0)
   (ret (.bool false))
   (call Tryz.prog 48 [.pointer r1.1, .agg #[.int .i64 3, .int .i64 0, .int .i64 1, .bool false]] (.many [.l (.int .i64), .l (.int .i64)]) fun (r4 : KTs [.l (.int .i64), .l (.int .i64)]) =>
   br ((r4.1 : Int) == 64)
    (call Tryz.prog 39 [.int .i64 r4.2.1] (.one (.l (.int .i64))) fun (r5 : Int) =>
    br ((r5 : Int) == 0)
     (call Tryz.prog 30 [.pointer r1.1] (.one (.l .slice)) fun (r6 : Slc) =>
     ret (.bool (((r6.n : Nat) : Int) == 1)))
     (ret (.bool false)))
    (ret (.bool false))))
theorem F.gloaminglaw9.awake.den  : denF Tryz.prog F.gloaminglaw9.awake.T Tryz.f35 [] = F.gloaminglaw9.awake := by kernel_rfl
theorem F.gloaminglaw9.awake.ok : (Tryz.f35.body.map (codeB F.gloaminglaw9.awake.T)).getD false = true := by kernel_rfl
theorem F.gloaminglaw9.awake.calls  {Q : Value → World → Prop} {w : World} (h : F.gloaminglaw9.awake Q w) : Calls Tryz.prog 35 #[] w fun e w' => ∃ v, e = .returned v ∧ Q v w' :=
  calls_of_den Tryz.pnames Tryz.mixed F.gloaminglaw9.awake.T Tryz.func35 F.gloaminglaw9.awake.ok (es := []) rfl (by rw [F.gloaminglaw9.awake.den]; exact h)

-- gloaming/gloaminglaw9.runs
def F.gloaminglaw9.runs.T : Tabs := ⟨(fun
    | 6 => [(8, .int .i64)]
    | _ => []),
  (fun
    | 7 => some [(9, .adr), (10, .int .i64), (183, .int .i64), (184, .int .i64), (185, .adr), (186, .int .i64), (187, .bool), (191, .adr), (193, .bool), (196, .int .i64), (197, .int .i64), (198, .bool), (199, .adr), (200, .bool), (201, .bool), (204, .adr), (205, .bool), (206, .bool), (207, .bool), (211, .bool), (214, .ptr), (215, .int .i64), (216, .slice), (217, .ptr), (218, .int .i64), (219, .slice), (220, .bool), (221, .bool)]
    | 33 => some []
    | _ => none),
  (fun
    | 16 => .held none (.go 0 false (.go 1 false (.go 2 false (.go 3 false (.go 4 false (.go 5 false (.go 7 false (.go 8 false (.go 6 false (.go 9 false (.go 10 false .nil)))))))))))
    | 19 => .held (some 6) (.go 0 false (.go 1 false (.go 2 false (.go 3 false (.go 4 false (.go 5 false (.go 6 true (.go 7 false (.go 8 false (.go 9 false (.go 10 false (.go 11 false .nil))))))))))))
    | 21 => .held none (.go 0 false (.go 1 false (.go 2 false (.go 3 false (.go 4 false (.go 5 false (.go 7 false (.go 8 false (.go 6 false (.go 9 false (.go 10 false .nil)))))))))))
    | 25 => .held (some 14) (.go 0 false (.go 1 false (.go 2 false (.go 3 false (.go 4 false (.go 5 false (.go 8 false (.go 9 false (.go 10 false (.go 11 false (.go 12 false (.go 13 false (.go 6 false (.go 7 false (.go 14 true (.go 15 false .nil))))))))))))))))
    | 31 => .held (some 12) (.go 0 false (.go 1 false (.go 2 false (.go 3 false (.go 4 false (.go 7 false (.go 8 false (.go 9 false (.go 10 false (.go 11 false (.go 5 false (.go 6 false (.go 12 true (.go 13 false .nil))))))))))))))
    | 37 => .held (some 31) (.go 0 false (.go 1 false (.go 2 false (.go 3 false (.go 4 false (.go 5 false (.go 7 false (.go 8 false (.go 6 false (.cut (.go 9 false (.go 10 false (.go 11 false (.go 12 false (.go 13 false (.go 14 false (.go 15 false (.go 16 false (.go 17 false (.go 18 false (.go 21 false (.go 22 false (.go 19 false (.cut (.go 20 false (.go 23 false (.go 24 false (.go 25 false (.go 26 false (.go 27 false (.go 28 false (.go 29 false (.go 30 false (.go 31 true (.go 32 false (.go 33 false (.go 34 false (.go 35 false (.go 36 false (.go 37 false (.go 39 false (.go 40 false (.go 38 false (.go 41 false (.go 42 false (.go 43 false (.go 44 false .nil)))))))))))))))))))))))))))))))))))))))))))))))
    | 39 => .held (some 15) (.go 0 false (.go 2 false (.go 1 false (.cut (.go 3 false (.cut (.go 4 false (.cut (.go 5 false (.go 6 false (.go 7 false (.go 8 false (.go 9 false (.go 11 false (.go 12 false (.go 13 false (.go 14 false (.go 10 false (.go 15 true (.go 16 false (.go 17 false (.go 18 false .nil))))))))))))))))))))))
    | _ => .quiet)⟩
def F.gloaminglaw9.runs (p0 : Int) (p1 : Slc) : Tree :=
 call Tryz.prog 50 [.int .i64 p0] (.many [.l .ptr, .l (.int .i64)]) fun (r1 : KTs [.l .ptr, .l (.int .i64)]) =>
 call Tryz.prog 51 [.pointer r1.1] (.one (.l .bool)) fun (r2 : Bool) =>
 br (!r2)
  (ret (.bool false))
  (call Tryz.prog 39 [.int .i64 r1.2.1] (.one (.l (.int .i64))) fun (r3 : Int) =>
  br ((r3 : Int) != 0)
   (ret (.bool false))
   (call Tryz.prog 68 [.int .i64 p0] (.one (.l .ptr)) fun (r4 : Option Addr) =>
   lp [.int .i64] (fun X5 u6 => -- i:t8
    br (decide ((u6.1 : Int) < (p1.n : Nat)))
     (br (decide ((u6.1 : Int) < 60))
      (jn (fun (j8 : LTs [.adr, .int .i64, .int .i64, .int .i64, .adr, .int .i64, .bool, .adr, .bool, .int .i64, .int .i64, .bool, .adr, .bool, .bool, .adr, .bool, .bool, .bool, .bool, .ptr, .int .i64, .slice, .ptr, .int .i64, .slice, .bool, .bool]) => -- a:t9,at:t10,:t183,:t184,:t185,:t186,:t187,:t191,:t193,:t196,:t197,:t198,:t199,:t200,:t201,:t204,:t205,:t206,:t207,:t211,:t214,:t215,:t216,:t217,:t218,:t219,:t220,:t221
       X5 (IntKind.wrap .i64 (u6.1 + 1), ())) fun J7 =>
      ix p1.a p1.n u6.1 10 fun a9 =>
      ld (.g [.int .i64, .int .i64, .int .i64, .int .i64, .bool, .int .i64, .slice, .int .i64, .int .i64, .int .i64]) a9 fun (x10 : LTs [.int .i64, .int .i64, .int .i64, .int .i64, .bool, .int .i64, .slice, .int .i64, .int .i64, .int .i64]) =>
      nw 56 (zc Tryz.prog 56) fun b11 =>
      st (⟨b11, 0, none⟩) [.int .i64 x10.1, .int .i64 x10.2.1, .int .i64 x10.2.2.1, .int .i64 x10.2.2.2.1, .bool x10.2.2.2.2.1, .int .i64 x10.2.2.2.2.2.1, .slice x10.2.2.2.2.2.2.1.a x10.2.2.2.2.2.2.1.n x10.2.2.2.2.2.2.1.c, .int .i64 x10.2.2.2.2.2.2.2.1, .int .i64 x10.2.2.2.2.2.2.2.2.1, .int .i64 x10.2.2.2.2.2.2.2.2.2.1] <|
      ld (.l (.int .i64)) (fa (⟨b11, 0, none⟩) 7) fun (x12 : Int) =>
      call Tryz.prog 79 [.pointer r4, .int .i64 x12] (.one (.l (.int .i64))) fun (r13 : Int) =>
      jn (fun (j15 : LTs []) => -- 
       ld (.l (.int .i64)) (fa (⟨b11, 0, none⟩) 8) fun (x16 : Int) =>
       call Tryz.prog 46 [.pointer r1.1, .int .i64 r13, .int .i64 x16] (.many [.l (.int .i64), .l (.int .i64)]) fun (r17 : KTs [.l (.int .i64), .l (.int .i64)]) =>
       ld (.l (.int .i64)) (fa (⟨b11, 0, none⟩) 8) fun (x18 : Int) =>
       call Tryz.prog 83 [.pointer r4, .int .i64 r13, .int .i64 x18] (.one (.g [.int .i64, .int .i64])) fun (r19 : LTs [.int .i64, .int .i64]) =>
       nw 120 (zc Tryz.prog 120) fun b20 =>
       st (⟨b20, 0, none⟩) [.int .i64 r19.1, .int .i64 r19.2.1] <|
       call Tryz.prog 62 [.pointer r1.1, .int .i64 r13] (.many [.g [.int .i64, .int .i64, .int .i64, .bool], .l (.int .i64)]) fun (r21 : KTs [.g [.int .i64, .int .i64, .int .i64, .bool], .l (.int .i64)]) =>
       nw 54 (zc Tryz.prog 54) fun b22 =>
       st (⟨b22, 0, none⟩) [.int .i64 r21.1.1, .int .i64 r21.1.2.1, .int .i64 r21.1.2.2.1, .bool r21.1.2.2.2.1] <|
       call Tryz.prog 76 [.pointer r4, .int .i64 r13] (.one (.g [.int .i64, .int .i64, .int .i64, .bool, .bool])) fun (r23 : LTs [.int .i64, .int .i64, .int .i64, .bool, .bool]) =>
       nw 130 (zc Tryz.prog 130) fun b24 =>
       st (⟨b24, 0, none⟩) [.int .i64 r23.1, .int .i64 r23.2.1, .int .i64 r23.2.2.1, .bool r23.2.2.2.1, .bool r23.2.2.2.2.1] <|
       drw <| held fun S25 =>
       ldS S25 (.l (.int .i64)) (fa (⟨b20, 0, none⟩) 0) fun (x26 : Int) =>
       br ((r17.1 : Int) != x26)
        (narrow S25 fun S27 =>
        narrow S27 fun S28 =>
        ret (.bool false))
        (ldS S25 (.l (.int .i64)) (fa (⟨b20, 0, none⟩) 1) fun (x27 : Int) =>
        call Tryz.prog 39 [.int .i64 r17.2.1] (.one (.l (.int .i64))) fun (r28 : Int) =>
        chk S25 <|
        narrow S25 fun S29 =>
        br ((r28 : Int) != x27)
         (narrow S29 fun S30 =>
         ret (.bool false))
         (ldS S29 (.g [.int .i64, .int .i64, .int .i64, .bool]) (⟨b22, 0, none⟩) fun (x30 : LTs [.int .i64, .int .i64, .int .i64, .bool]) =>
         ldS S29 (.g [.int .i64, .int .i64, .int .i64, .bool]) (fa (⟨b24, 0, none⟩) 0) fun (x31 : LTs [.int .i64, .int .i64, .int .i64, .bool]) =>
         br (!(((x30.1 : Int) == x31.1) && (((x30.2.1 : Int) == x31.2.1) && (((x30.2.2.1 : Int) == x31.2.2.1) && ((x30.2.2.2.1 == x31.2.2.2.1) && true)))))
          (narrow S29 fun S32 =>
          ret (.bool false))
          (ldS S29 (.l .bool) (fa (⟨b24, 0, none⟩) 4) fun (x32 : Bool) =>
          call Tryz.prog 39 [.int .i64 r21.2.1] (.one (.l (.int .i64))) fun (r33 : Int) =>
          chk S29 <|
          narrow S29 fun S34 =>
          br (!(((r33 : Int) == 0) == x32))
           (ret (.bool false))
           (ldS S34 (.l .bool) (fa (⟨b24, 0, none⟩) 4) fun (x35 : Bool) =>
           br (!x35)
            (call Tryz.prog 39 [.int .i64 r21.2.1] (.one (.l (.int .i64))) fun (r36 : Int) =>
            br ((r36 : Int) != 2)
             (ret (.bool false))
             (call Tryz.prog 45 [.pointer r1.1, .int .i64 r13] (.one (.l .slice)) fun (r37 : Slc) =>
             call Tryz.prog 84 [.pointer r4, .int .i64 r13] (.one (.l .slice)) fun (r38 : Slc) =>
             call Tryz.prog 28 [.slice r37.a r37.n r37.c, .slice r38.a r38.n r38.c] (.one (.l .bool)) fun (r39 : Bool) =>
             br (!r39)
              (ret (.bool false))
              (J7 (⟨b11, 0, none⟩, r13, r17.2.1, r28, fa (⟨b20, 0, none⟩) 1, x27, (r28 : Int) != x27, fa (⟨b24, 0, none⟩) 0, !(((x30.1 : Int) == x31.1) && (((x30.2.1 : Int) == x31.2.1) && (((x30.2.2.1 : Int) == x31.2.2.1) && ((x30.2.2.2.1 == x31.2.2.2.1) && true)))), r21.2.1, r33, (r33 : Int) == 0, fa (⟨b24, 0, none⟩) 4, x32, !(((r33 : Int) == 0) == x32), fa (⟨b24, 0, none⟩) 4, x35, !x35, true, (r36 : Int) != 2, r1.1, r13, ⟨r37.a, r37.n, r37.c⟩, r4, r13, ⟨r38.a, r38.n, r38.c⟩, r39, !r39, ()))))
            (call Tryz.prog 45 [.pointer r1.1, .int .i64 r13] (.one (.l .slice)) fun (r36 : Slc) =>
            call Tryz.prog 84 [.pointer r4, .int .i64 r13] (.one (.l .slice)) fun (r37 : Slc) =>
            call Tryz.prog 28 [.slice r36.a r36.n r36.c, .slice r37.a r37.n r37.c] (.one (.l .bool)) fun (r38 : Bool) =>
            br (!r38)
             (ret (.bool false))
             (J7 (⟨b11, 0, none⟩, r13, r17.2.1, r28, fa (⟨b20, 0, none⟩) 1, x27, (r28 : Int) != x27, fa (⟨b24, 0, none⟩) 0, !(((x30.1 : Int) == x31.1) && (((x30.2.1 : Int) == x31.2.1) && (((x30.2.2.1 : Int) == x31.2.2.1) && ((x30.2.2.2.1 == x31.2.2.2.1) && true)))), r21.2.1, r33, (r33 : Int) == 0, fa (⟨b24, 0, none⟩) 4, x32, !(((r33 : Int) == 0) == x32), fa (⟨b24, 0, none⟩) 4, x35, !x35, false, false, r1.1, r13, ⟨r36.a, r36.n, r36.c⟩, r4, r13, ⟨r37.a, r37.n, r37.c⟩, r38, !r38, ())))))))) fun J14 =>
      ld (.l (.int .i64)) (fa (⟨b11, 0, none⟩) 0) fun (x39 : Int) =>
      br ((x39 : Int) == 0)
       (br ((x39 : Int) == 0)
        (ld (.g [.int .i64, .int .i64, .int .i64, .bool]) (fa (⟨b11, 0, none⟩) 1) fun (x40 : LTs [.int .i64, .int .i64, .int .i64, .bool]) =>
        call Tryz.prog 48 [.pointer r1.1, .agg #[.int .i64 x40.1, .int .i64 x40.2.1, .int .i64 x40.2.2.1, .bool x40.2.2.2.1]] (.many [.l (.int .i64), .l (.int .i64)]) fun (r41 : KTs [.l (.int .i64), .l (.int .i64)]) =>
        ld (.g [.int .i64, .int .i64, .int .i64, .bool]) (fa (⟨b11, 0, none⟩) 1) fun (x42 : LTs [.int .i64, .int .i64, .int .i64, .bool]) =>
        call Tryz.prog 70 [.pointer r4, .agg #[.int .i64 x42.1, .int .i64 x42.2.1, .int .i64 x42.2.2.1, .bool x42.2.2.2.1]] (.one (.g [.int .i64, .int .i64])) fun (r43 : LTs [.int .i64, .int .i64]) =>
        nw 120 (zc Tryz.prog 120) fun b44 =>
        st (⟨b44, 0, none⟩) [.int .i64 r43.1, .int .i64 r43.2.1] <|
        drw <| held fun S45 =>
        ldS S45 (.l (.int .i64)) (fa (⟨b44, 0, none⟩) 0) fun (x46 : Int) =>
        br ((r41.1 : Int) != x46)
         (ret (.bool false))
         (ldS S45 (.l (.int .i64)) (fa (⟨b44, 0, none⟩) 1) fun (x47 : Int) =>
         call Tryz.prog 39 [.int .i64 r41.2.1] (.one (.l (.int .i64))) fun (r48 : Int) =>
         chk S45 <|
         br ((r48 : Int) != x47)
          (ret (.bool false))
          (J14 (()))))
        (br ((x39 : Int) == 3)
         (drw <| held fun S40 =>
         nn r1.1 fun a41 =>
         ldS S40 (.l .ptr) (fa a41 1) fun (x42 : Option Addr) =>
         ldS S40 (.g [.int .i64, .slice]) (fa (⟨b11, 0, none⟩) 5) fun (x43 : LTs [.int .i64, .slice]) =>
         call Tryz.prog 80 [.pointer x42, .agg #[.int .i64 x43.1, .slice x43.2.1.a x43.2.1.n x43.2.1.c]] (.many [.l (.int .i64), .l (.int .i64)]) fun (r44 : KTs [.l (.int .i64), .l (.int .i64)]) =>
         ld (.g [.int .i64, .slice]) (fa (⟨b11, 0, none⟩) 5) fun (x45 : LTs [.int .i64, .slice]) =>
         call Tryz.prog 69 [.pointer r4, .agg #[.int .i64 x45.1, .slice x45.2.1.a x45.2.1.n x45.2.1.c]] (.one (.g [.int .i64, .int .i64])) fun (r46 : LTs [.int .i64, .int .i64]) =>
         nw 120 (zc Tryz.prog 120) fun b47 =>
         st (⟨b47, 0, none⟩) [.int .i64 r46.1, .int .i64 r46.2.1] <|
         drw <| held fun S48 =>
         ldS S48 (.l (.int .i64)) (fa (⟨b47, 0, none⟩) 0) fun (x49 : Int) =>
         br ((r44.1 : Int) != x49)
          (ret (.bool false))
          (ldS S48 (.l (.int .i64)) (fa (⟨b47, 0, none⟩) 1) fun (x50 : Int) =>
          call Tryz.prog 39 [.int .i64 r44.2.1] (.one (.l (.int .i64))) fun (r51 : Int) =>
          chk S48 <|
          br ((r51 : Int) != x50)
           (ret (.bool false))
           (J14 (()))))
         (br ((x39 : Int) == 4)
          (br ((x39 : Int) == 4)
           (drw <| held fun S40 =>
           ldS S40 (.l (.int .i64)) (fa (⟨b11, 0, none⟩) 8) fun (x41 : Int) =>
           ldS S40 (.l (.int .i64)) (fa (⟨b11, 0, none⟩) 9) fun (x42 : Int) =>
           ldS S40 (.l (.int .i64)) (fa (⟨b11, 0, none⟩) 8) fun (x43 : Int) =>
           ldS S40 (.l (.int .i64)) (fa (⟨b11, 0, none⟩) 9) fun (x44 : Int) =>
           call Tryz.prog 49 [.pointer r1.1, .int .i64 r13, .int .i64 x41, .int .i64 x42] (.one (.l (.int .i64))) fun (r45 : Int) =>
           chk S40 <|
           call Tryz.prog 39 [.int .i64 r45] (.one (.l (.int .i64))) fun (r46 : Int) =>
           chk S40 <|
           call Tryz.prog 71 [.pointer r4, .int .i64 r13, .int .i64 x43, .int .i64 x44] (.one (.l (.int .i64))) fun (r47 : Int) =>
           br ((r46 : Int) != r47)
            (ret (.bool false))
            (J14 (())))
           (br ((x39 : Int) == 6)
            (call Tryz.prog 81 [.pointer r1.1, .int .i64 r13] (.one (.l (.int .i64))) fun (r40 : Int) =>
            call Tryz.prog 39 [.int .i64 r40] (.one (.l (.int .i64))) fun (r41 : Int) =>
            call Tryz.prog 82 [.pointer r4, .int .i64 r13] (.one (.l (.int .i64))) fun (r42 : Int) =>
            br ((r41 : Int) != r42)
             (ret (.bool false))
             (J14 (())))
            (br ((x39 : Int) == 7)
             (drw <| held fun S40 =>
             nn r1.1 fun a41 =>
             ldS S40 (.l .ptr) (fa a41 0) fun (x42 : Option Addr) =>
             nn r4 fun a43 =>
             ldS S40 (.l .ptr) (fa a43 0) fun (x44 : Option Addr) =>
             call Tryz.prog 74 [.pointer x42, .int .i64 r13] (.one (.l (.int .i64))) fun (r45 : Int) =>
             chk S40 <|
             call Tryz.prog 39 [.int .i64 r45] (.one (.l (.int .i64))) fun (r46 : Int) =>
             chk S40 <|
             call Tryz.prog 75 [.pointer x44, .int .i64 r13] (.one (.l (.int .i64))) fun (r47 : Int) =>
             br ((r46 : Int) != r47)
              (ret (.bool false))
              (J14 (())))
             (J14 (())))))
          (br ((x39 : Int) == 5)
           (drw <| held fun S40 =>
           ldS S40 (.l (.int .i64)) (fa (⟨b11, 0, none⟩) 8) fun (x41 : Int) =>
           ldS S40 (.l (.int .i64)) (fa (⟨b11, 0, none⟩) 9) fun (x42 : Int) =>
           ldS S40 (.l (.int .i64)) (fa (⟨b11, 0, none⟩) 8) fun (x43 : Int) =>
           ldS S40 (.l (.int .i64)) (fa (⟨b11, 0, none⟩) 9) fun (x44 : Int) =>
           call Tryz.prog 49 [.pointer r1.1, .int .i64 r13, .int .i64 x41, .int .i64 x42] (.one (.l (.int .i64))) fun (r45 : Int) =>
           chk S40 <|
           call Tryz.prog 39 [.int .i64 r45] (.one (.l (.int .i64))) fun (r46 : Int) =>
           chk S40 <|
           call Tryz.prog 71 [.pointer r4, .int .i64 r13, .int .i64 x43, .int .i64 x44] (.one (.l (.int .i64))) fun (r47 : Int) =>
           br ((r46 : Int) != r47)
            (ret (.bool false))
            (J14 (())))
           (br ((x39 : Int) == 6)
            (call Tryz.prog 81 [.pointer r1.1, .int .i64 r13] (.one (.l (.int .i64))) fun (r40 : Int) =>
            call Tryz.prog 39 [.int .i64 r40] (.one (.l (.int .i64))) fun (r41 : Int) =>
            call Tryz.prog 82 [.pointer r4, .int .i64 r13] (.one (.l (.int .i64))) fun (r42 : Int) =>
            br ((r41 : Int) != r42)
             (ret (.bool false))
             (J14 (())))
            (br ((x39 : Int) == 7)
             (drw <| held fun S40 =>
             nn r1.1 fun a41 =>
             ldS S40 (.l .ptr) (fa a41 0) fun (x42 : Option Addr) =>
             nn r4 fun a43 =>
             ldS S40 (.l .ptr) (fa a43 0) fun (x44 : Option Addr) =>
             call Tryz.prog 74 [.pointer x42, .int .i64 r13] (.one (.l (.int .i64))) fun (r45 : Int) =>
             chk S40 <|
             call Tryz.prog 39 [.int .i64 r45] (.one (.l (.int .i64))) fun (r46 : Int) =>
             chk S40 <|
             call Tryz.prog 75 [.pointer x44, .int .i64 r13] (.one (.l (.int .i64))) fun (r47 : Int) =>
             br ((r46 : Int) != r47)
              (ret (.bool false))
              (J14 (())))
             (J14 (()))))))))
       (br ((x39 : Int) == 1)
        (br ((x39 : Int) == 1)
         (ld (.g [.int .i64, .int .i64, .int .i64, .bool]) (fa (⟨b11, 0, none⟩) 1) fun (x40 : LTs [.int .i64, .int .i64, .int .i64, .bool]) =>
         call Tryz.prog 48 [.pointer r1.1, .agg #[.int .i64 x40.1, .int .i64 x40.2.1, .int .i64 x40.2.2.1, .bool x40.2.2.2.1]] (.many [.l (.int .i64), .l (.int .i64)]) fun (r41 : KTs [.l (.int .i64), .l (.int .i64)]) =>
         ld (.g [.int .i64, .int .i64, .int .i64, .bool]) (fa (⟨b11, 0, none⟩) 1) fun (x42 : LTs [.int .i64, .int .i64, .int .i64, .bool]) =>
         call Tryz.prog 70 [.pointer r4, .agg #[.int .i64 x42.1, .int .i64 x42.2.1, .int .i64 x42.2.2.1, .bool x42.2.2.2.1]] (.one (.g [.int .i64, .int .i64])) fun (r43 : LTs [.int .i64, .int .i64]) =>
         nw 120 (zc Tryz.prog 120) fun b44 =>
         st (⟨b44, 0, none⟩) [.int .i64 r43.1, .int .i64 r43.2.1] <|
         drw <| held fun S45 =>
         ldS S45 (.l (.int .i64)) (fa (⟨b44, 0, none⟩) 0) fun (x46 : Int) =>
         br ((r41.1 : Int) != x46)
          (ret (.bool false))
          (ldS S45 (.l (.int .i64)) (fa (⟨b44, 0, none⟩) 1) fun (x47 : Int) =>
          call Tryz.prog 39 [.int .i64 r41.2.1] (.one (.l (.int .i64))) fun (r48 : Int) =>
          chk S45 <|
          br ((r48 : Int) != x47)
           (ret (.bool false))
           (J14 (()))))
         (br ((x39 : Int) == 3)
          (drw <| held fun S40 =>
          nn r1.1 fun a41 =>
          ldS S40 (.l .ptr) (fa a41 1) fun (x42 : Option Addr) =>
          ldS S40 (.g [.int .i64, .slice]) (fa (⟨b11, 0, none⟩) 5) fun (x43 : LTs [.int .i64, .slice]) =>
          call Tryz.prog 80 [.pointer x42, .agg #[.int .i64 x43.1, .slice x43.2.1.a x43.2.1.n x43.2.1.c]] (.many [.l (.int .i64), .l (.int .i64)]) fun (r44 : KTs [.l (.int .i64), .l (.int .i64)]) =>
          ld (.g [.int .i64, .slice]) (fa (⟨b11, 0, none⟩) 5) fun (x45 : LTs [.int .i64, .slice]) =>
          call Tryz.prog 69 [.pointer r4, .agg #[.int .i64 x45.1, .slice x45.2.1.a x45.2.1.n x45.2.1.c]] (.one (.g [.int .i64, .int .i64])) fun (r46 : LTs [.int .i64, .int .i64]) =>
          nw 120 (zc Tryz.prog 120) fun b47 =>
          st (⟨b47, 0, none⟩) [.int .i64 r46.1, .int .i64 r46.2.1] <|
          drw <| held fun S48 =>
          ldS S48 (.l (.int .i64)) (fa (⟨b47, 0, none⟩) 0) fun (x49 : Int) =>
          br ((r44.1 : Int) != x49)
           (ret (.bool false))
           (ldS S48 (.l (.int .i64)) (fa (⟨b47, 0, none⟩) 1) fun (x50 : Int) =>
           call Tryz.prog 39 [.int .i64 r44.2.1] (.one (.l (.int .i64))) fun (r51 : Int) =>
           chk S48 <|
           br ((r51 : Int) != x50)
            (ret (.bool false))
            (J14 (()))))
          (br ((x39 : Int) == 4)
           (br ((x39 : Int) == 4)
            (drw <| held fun S40 =>
            ldS S40 (.l (.int .i64)) (fa (⟨b11, 0, none⟩) 8) fun (x41 : Int) =>
            ldS S40 (.l (.int .i64)) (fa (⟨b11, 0, none⟩) 9) fun (x42 : Int) =>
            ldS S40 (.l (.int .i64)) (fa (⟨b11, 0, none⟩) 8) fun (x43 : Int) =>
            ldS S40 (.l (.int .i64)) (fa (⟨b11, 0, none⟩) 9) fun (x44 : Int) =>
            call Tryz.prog 49 [.pointer r1.1, .int .i64 r13, .int .i64 x41, .int .i64 x42] (.one (.l (.int .i64))) fun (r45 : Int) =>
            chk S40 <|
            call Tryz.prog 39 [.int .i64 r45] (.one (.l (.int .i64))) fun (r46 : Int) =>
            chk S40 <|
            call Tryz.prog 71 [.pointer r4, .int .i64 r13, .int .i64 x43, .int .i64 x44] (.one (.l (.int .i64))) fun (r47 : Int) =>
            br ((r46 : Int) != r47)
             (ret (.bool false))
             (J14 (())))
            (br ((x39 : Int) == 6)
             (call Tryz.prog 81 [.pointer r1.1, .int .i64 r13] (.one (.l (.int .i64))) fun (r40 : Int) =>
             call Tryz.prog 39 [.int .i64 r40] (.one (.l (.int .i64))) fun (r41 : Int) =>
             call Tryz.prog 82 [.pointer r4, .int .i64 r13] (.one (.l (.int .i64))) fun (r42 : Int) =>
             br ((r41 : Int) != r42)
              (ret (.bool false))
              (J14 (())))
             (br ((x39 : Int) == 7)
              (drw <| held fun S40 =>
              nn r1.1 fun a41 =>
              ldS S40 (.l .ptr) (fa a41 0) fun (x42 : Option Addr) =>
              nn r4 fun a43 =>
              ldS S40 (.l .ptr) (fa a43 0) fun (x44 : Option Addr) =>
              call Tryz.prog 74 [.pointer x42, .int .i64 r13] (.one (.l (.int .i64))) fun (r45 : Int) =>
              chk S40 <|
              call Tryz.prog 39 [.int .i64 r45] (.one (.l (.int .i64))) fun (r46 : Int) =>
              chk S40 <|
              call Tryz.prog 75 [.pointer x44, .int .i64 r13] (.one (.l (.int .i64))) fun (r47 : Int) =>
              br ((r46 : Int) != r47)
               (ret (.bool false))
               (J14 (())))
              (J14 (())))))
           (br ((x39 : Int) == 5)
            (drw <| held fun S40 =>
            ldS S40 (.l (.int .i64)) (fa (⟨b11, 0, none⟩) 8) fun (x41 : Int) =>
            ldS S40 (.l (.int .i64)) (fa (⟨b11, 0, none⟩) 9) fun (x42 : Int) =>
            ldS S40 (.l (.int .i64)) (fa (⟨b11, 0, none⟩) 8) fun (x43 : Int) =>
            ldS S40 (.l (.int .i64)) (fa (⟨b11, 0, none⟩) 9) fun (x44 : Int) =>
            call Tryz.prog 49 [.pointer r1.1, .int .i64 r13, .int .i64 x41, .int .i64 x42] (.one (.l (.int .i64))) fun (r45 : Int) =>
            chk S40 <|
            call Tryz.prog 39 [.int .i64 r45] (.one (.l (.int .i64))) fun (r46 : Int) =>
            chk S40 <|
            call Tryz.prog 71 [.pointer r4, .int .i64 r13, .int .i64 x43, .int .i64 x44] (.one (.l (.int .i64))) fun (r47 : Int) =>
            br ((r46 : Int) != r47)
             (ret (.bool false))
             (J14 (())))
            (br ((x39 : Int) == 6)
             (call Tryz.prog 81 [.pointer r1.1, .int .i64 r13] (.one (.l (.int .i64))) fun (r40 : Int) =>
             call Tryz.prog 39 [.int .i64 r40] (.one (.l (.int .i64))) fun (r41 : Int) =>
             call Tryz.prog 82 [.pointer r4, .int .i64 r13] (.one (.l (.int .i64))) fun (r42 : Int) =>
             br ((r41 : Int) != r42)
              (ret (.bool false))
              (J14 (())))
             (br ((x39 : Int) == 7)
              (drw <| held fun S40 =>
              nn r1.1 fun a41 =>
              ldS S40 (.l .ptr) (fa a41 0) fun (x42 : Option Addr) =>
              nn r4 fun a43 =>
              ldS S40 (.l .ptr) (fa a43 0) fun (x44 : Option Addr) =>
              call Tryz.prog 74 [.pointer x42, .int .i64 r13] (.one (.l (.int .i64))) fun (r45 : Int) =>
              chk S40 <|
              call Tryz.prog 39 [.int .i64 r45] (.one (.l (.int .i64))) fun (r46 : Int) =>
              chk S40 <|
              call Tryz.prog 75 [.pointer x44, .int .i64 r13] (.one (.l (.int .i64))) fun (r47 : Int) =>
              br ((r46 : Int) != r47)
               (ret (.bool false))
               (J14 (())))
              (J14 (()))))))))
        (br ((x39 : Int) == 2)
         (ld (.g [.int .i64, .int .i64, .int .i64, .bool]) (fa (⟨b11, 0, none⟩) 1) fun (x40 : LTs [.int .i64, .int .i64, .int .i64, .bool]) =>
         call Tryz.prog 48 [.pointer r1.1, .agg #[.int .i64 x40.1, .int .i64 x40.2.1, .int .i64 x40.2.2.1, .bool x40.2.2.2.1]] (.many [.l (.int .i64), .l (.int .i64)]) fun (r41 : KTs [.l (.int .i64), .l (.int .i64)]) =>
         ld (.g [.int .i64, .int .i64, .int .i64, .bool]) (fa (⟨b11, 0, none⟩) 1) fun (x42 : LTs [.int .i64, .int .i64, .int .i64, .bool]) =>
         call Tryz.prog 70 [.pointer r4, .agg #[.int .i64 x42.1, .int .i64 x42.2.1, .int .i64 x42.2.2.1, .bool x42.2.2.2.1]] (.one (.g [.int .i64, .int .i64])) fun (r43 : LTs [.int .i64, .int .i64]) =>
         nw 120 (zc Tryz.prog 120) fun b44 =>
         st (⟨b44, 0, none⟩) [.int .i64 r43.1, .int .i64 r43.2.1] <|
         drw <| held fun S45 =>
         ldS S45 (.l (.int .i64)) (fa (⟨b44, 0, none⟩) 0) fun (x46 : Int) =>
         br ((r41.1 : Int) != x46)
          (ret (.bool false))
          (ldS S45 (.l (.int .i64)) (fa (⟨b44, 0, none⟩) 1) fun (x47 : Int) =>
          call Tryz.prog 39 [.int .i64 r41.2.1] (.one (.l (.int .i64))) fun (r48 : Int) =>
          chk S45 <|
          br ((r48 : Int) != x47)
           (ret (.bool false))
           (J14 (()))))
         (br ((x39 : Int) == 3)
          (drw <| held fun S40 =>
          nn r1.1 fun a41 =>
          ldS S40 (.l .ptr) (fa a41 1) fun (x42 : Option Addr) =>
          ldS S40 (.g [.int .i64, .slice]) (fa (⟨b11, 0, none⟩) 5) fun (x43 : LTs [.int .i64, .slice]) =>
          call Tryz.prog 80 [.pointer x42, .agg #[.int .i64 x43.1, .slice x43.2.1.a x43.2.1.n x43.2.1.c]] (.many [.l (.int .i64), .l (.int .i64)]) fun (r44 : KTs [.l (.int .i64), .l (.int .i64)]) =>
          ld (.g [.int .i64, .slice]) (fa (⟨b11, 0, none⟩) 5) fun (x45 : LTs [.int .i64, .slice]) =>
          call Tryz.prog 69 [.pointer r4, .agg #[.int .i64 x45.1, .slice x45.2.1.a x45.2.1.n x45.2.1.c]] (.one (.g [.int .i64, .int .i64])) fun (r46 : LTs [.int .i64, .int .i64]) =>
          nw 120 (zc Tryz.prog 120) fun b47 =>
          st (⟨b47, 0, none⟩) [.int .i64 r46.1, .int .i64 r46.2.1] <|
          drw <| held fun S48 =>
          ldS S48 (.l (.int .i64)) (fa (⟨b47, 0, none⟩) 0) fun (x49 : Int) =>
          br ((r44.1 : Int) != x49)
           (ret (.bool false))
           (ldS S48 (.l (.int .i64)) (fa (⟨b47, 0, none⟩) 1) fun (x50 : Int) =>
           call Tryz.prog 39 [.int .i64 r44.2.1] (.one (.l (.int .i64))) fun (r51 : Int) =>
           chk S48 <|
           br ((r51 : Int) != x50)
            (ret (.bool false))
            (J14 (()))))
          (br ((x39 : Int) == 4)
           (br ((x39 : Int) == 4)
            (drw <| held fun S40 =>
            ldS S40 (.l (.int .i64)) (fa (⟨b11, 0, none⟩) 8) fun (x41 : Int) =>
            ldS S40 (.l (.int .i64)) (fa (⟨b11, 0, none⟩) 9) fun (x42 : Int) =>
            ldS S40 (.l (.int .i64)) (fa (⟨b11, 0, none⟩) 8) fun (x43 : Int) =>
            ldS S40 (.l (.int .i64)) (fa (⟨b11, 0, none⟩) 9) fun (x44 : Int) =>
            call Tryz.prog 49 [.pointer r1.1, .int .i64 r13, .int .i64 x41, .int .i64 x42] (.one (.l (.int .i64))) fun (r45 : Int) =>
            chk S40 <|
            call Tryz.prog 39 [.int .i64 r45] (.one (.l (.int .i64))) fun (r46 : Int) =>
            chk S40 <|
            call Tryz.prog 71 [.pointer r4, .int .i64 r13, .int .i64 x43, .int .i64 x44] (.one (.l (.int .i64))) fun (r47 : Int) =>
            br ((r46 : Int) != r47)
             (ret (.bool false))
             (J14 (())))
            (br ((x39 : Int) == 6)
             (call Tryz.prog 81 [.pointer r1.1, .int .i64 r13] (.one (.l (.int .i64))) fun (r40 : Int) =>
             call Tryz.prog 39 [.int .i64 r40] (.one (.l (.int .i64))) fun (r41 : Int) =>
             call Tryz.prog 82 [.pointer r4, .int .i64 r13] (.one (.l (.int .i64))) fun (r42 : Int) =>
             br ((r41 : Int) != r42)
              (ret (.bool false))
              (J14 (())))
             (br ((x39 : Int) == 7)
              (drw <| held fun S40 =>
              nn r1.1 fun a41 =>
              ldS S40 (.l .ptr) (fa a41 0) fun (x42 : Option Addr) =>
              nn r4 fun a43 =>
              ldS S40 (.l .ptr) (fa a43 0) fun (x44 : Option Addr) =>
              call Tryz.prog 74 [.pointer x42, .int .i64 r13] (.one (.l (.int .i64))) fun (r45 : Int) =>
              chk S40 <|
              call Tryz.prog 39 [.int .i64 r45] (.one (.l (.int .i64))) fun (r46 : Int) =>
              chk S40 <|
              call Tryz.prog 75 [.pointer x44, .int .i64 r13] (.one (.l (.int .i64))) fun (r47 : Int) =>
              br ((r46 : Int) != r47)
               (ret (.bool false))
               (J14 (())))
              (J14 (())))))
           (br ((x39 : Int) == 5)
            (drw <| held fun S40 =>
            ldS S40 (.l (.int .i64)) (fa (⟨b11, 0, none⟩) 8) fun (x41 : Int) =>
            ldS S40 (.l (.int .i64)) (fa (⟨b11, 0, none⟩) 9) fun (x42 : Int) =>
            ldS S40 (.l (.int .i64)) (fa (⟨b11, 0, none⟩) 8) fun (x43 : Int) =>
            ldS S40 (.l (.int .i64)) (fa (⟨b11, 0, none⟩) 9) fun (x44 : Int) =>
            call Tryz.prog 49 [.pointer r1.1, .int .i64 r13, .int .i64 x41, .int .i64 x42] (.one (.l (.int .i64))) fun (r45 : Int) =>
            chk S40 <|
            call Tryz.prog 39 [.int .i64 r45] (.one (.l (.int .i64))) fun (r46 : Int) =>
            chk S40 <|
            call Tryz.prog 71 [.pointer r4, .int .i64 r13, .int .i64 x43, .int .i64 x44] (.one (.l (.int .i64))) fun (r47 : Int) =>
            br ((r46 : Int) != r47)
             (ret (.bool false))
             (J14 (())))
            (br ((x39 : Int) == 6)
             (call Tryz.prog 81 [.pointer r1.1, .int .i64 r13] (.one (.l (.int .i64))) fun (r40 : Int) =>
             call Tryz.prog 39 [.int .i64 r40] (.one (.l (.int .i64))) fun (r41 : Int) =>
             call Tryz.prog 82 [.pointer r4, .int .i64 r13] (.one (.l (.int .i64))) fun (r42 : Int) =>
             br ((r41 : Int) != r42)
              (ret (.bool false))
              (J14 (())))
             (br ((x39 : Int) == 7)
              (drw <| held fun S40 =>
              nn r1.1 fun a41 =>
              ldS S40 (.l .ptr) (fa a41 0) fun (x42 : Option Addr) =>
              nn r4 fun a43 =>
              ldS S40 (.l .ptr) (fa a43 0) fun (x44 : Option Addr) =>
              call Tryz.prog 74 [.pointer x42, .int .i64 r13] (.one (.l (.int .i64))) fun (r45 : Int) =>
              chk S40 <|
              call Tryz.prog 39 [.int .i64 r45] (.one (.l (.int .i64))) fun (r46 : Int) =>
              chk S40 <|
              call Tryz.prog 75 [.pointer x44, .int .i64 r13] (.one (.l (.int .i64))) fun (r47 : Int) =>
              br ((r46 : Int) != r47)
               (ret (.bool false))
               (J14 (())))
              (J14 (()))))))))))
      (drw <| held fun S7 =>
      call Tryz.prog 30 [.pointer r1.1] (.one (.l .slice)) fun (r8 : Slc) =>
      chk S7 <|
      narrow S7 fun S9 =>
      call Tryz.prog 31 [.pointer r4] (.one (.l .slice)) fun (r10 : Slc) =>
      chk S9 <|
      narrow S9 fun S11 =>
      call Tryz.prog 29 [.slice r8.a r8.n r8.c, .slice r10.a r10.n r10.c] (.one (.l .bool)) fun (r12 : Bool) =>
      chk S11 <|
      narrow S11 fun S13 =>
      br r12
       (nn r1.1 fun a14 =>
       ldS S13 (.l .ptr) (fa a14 0) fun (x15 : Option Addr) =>
       nn r4 fun a16 =>
       ldS S13 (.l .ptr) (fa a16 0) fun (x17 : Option Addr) =>
       call Tryz.prog 32 [.pointer x15] (.one (.l (.int .i64))) fun (r18 : Int) =>
       chk S13 <|
       call Tryz.prog 33 [.pointer x17] (.one (.l (.int .i64))) fun (r19 : Int) =>
       ret (.bool ((r18 : Int) == r19)))
       (ret (.bool false))))
     (drw <| held fun S7 =>
     call Tryz.prog 30 [.pointer r1.1] (.one (.l .slice)) fun (r8 : Slc) =>
     chk S7 <|
     narrow S7 fun S9 =>
     call Tryz.prog 31 [.pointer r4] (.one (.l .slice)) fun (r10 : Slc) =>
     chk S9 <|
     narrow S9 fun S11 =>
     call Tryz.prog 29 [.slice r8.a r8.n r8.c, .slice r10.a r10.n r10.c] (.one (.l .bool)) fun (r12 : Bool) =>
     chk S11 <|
     narrow S11 fun S13 =>
     br r12
      (nn r1.1 fun a14 =>
      ldS S13 (.l .ptr) (fa a14 0) fun (x15 : Option Addr) =>
      nn r4 fun a16 =>
      ldS S13 (.l .ptr) (fa a16 0) fun (x17 : Option Addr) =>
      call Tryz.prog 32 [.pointer x15] (.one (.l (.int .i64))) fun (r18 : Int) =>
      chk S13 <|
      call Tryz.prog 33 [.pointer x17] (.one (.l (.int .i64))) fun (r19 : Int) =>
      ret (.bool ((r18 : Int) == r19)))
      (ret (.bool false)))) (0, ())))
theorem F.gloaminglaw9.runs.den (p0 : Int) (p1 : Slc) : denF Tryz.prog F.gloaminglaw9.runs.T Tryz.f36 [.va (.int .i64 p0), .va (.slice p1.a p1.n p1.c)] = F.gloaminglaw9.runs p0 p1 := by kernel_rfl
theorem F.gloaminglaw9.runs.ok : (Tryz.f36.body.map (codeB F.gloaminglaw9.runs.T)).getD false = true := by kernel_rfl
theorem F.gloaminglaw9.runs.calls (p0 : Int) (p1 : Slc) {Q : Value → World → Prop} {w : World} (h : F.gloaminglaw9.runs p0 p1 Q w) : Calls Tryz.prog 36 #[.int .i64 p0, .slice p1.a p1.n p1.c] w fun e w' => ∃ v, e = .returned v ∧ Q v w' :=
  calls_of_den Tryz.pnames Tryz.mixed F.gloaminglaw9.runs.T Tryz.func36 F.gloaminglaw9.runs.ok (es := [.va (.int .i64 p0), .va (.slice p1.a p1.n p1.c)]) rfl (by rw [F.gloaminglaw9.runs.den]; exact h)

-- gloaming/gloaminglaw9.Asks
def F.gloaminglaw9.Asks.T : Tabs := ⟨(fun
    | 3 => [(3, .slice), (4, .int .i64)]
    | _ => []),
  (fun
    | 14 => some []
    | _ => none),
  (fun
    | 5 => .held (some 28) (.go 0 false (.go 1 false (.go 2 false (.go 3 false (.go 4 false (.go 5 false (.go 6 false (.go 7 false (.go 8 false (.go 9 false (.go 10 false (.go 11 false (.go 12 false (.go 13 false (.go 14 false (.go 15 false (.go 16 false (.go 17 false (.go 18 false (.go 19 false (.go 20 false (.go 21 false (.go 22 false (.go 23 false (.go 24 false (.go 25 false (.go 26 false (.go 27 false (.go 28 true .nil)))))))))))))))))))))))))))))
    | 6 => .tail 17
    | 14 => .held (some 18) (.go 0 false (.go 1 false (.go 2 false (.go 3 false (.go 4 false (.go 5 false (.go 6 false (.go 7 false (.go 8 false (.go 9 false (.go 10 false (.go 11 false (.go 12 false (.go 13 false (.go 14 false (.go 15 false (.go 16 false (.go 17 false (.go 18 true .nil)))))))))))))))))))
    | _ => .quiet)⟩
def F.gloaminglaw9.Asks (p0 : Slc) : Tree :=
 lp [.slice, .int .i64] (fun X1 u2 => -- l:t3,i:t4
  br (decide ((IntKind.wrap .i64 (u2.2.1 + 3) : Int) < (p0.n : Nat)))
   (br (decide (((u2.1.n : Nat) : Int) < 50))
    (drw <| held fun S3 =>
    ix p0.a p0.n u2.2.1 1 fun a4 =>
    ldS S3 (.l (.int .u8)) a4 fun (x5 : Int) =>
    need ((8 : Int) ≠ 0) <|
    ix p0.a p0.n (IntKind.wrap .i64 (u2.2.1 + 1)) 1 fun a6 =>
    ldS S3 (.l (.int .u8)) a6 fun (x7 : Int) =>
    need ((64 : Int) ≠ 0) <|
    ix p0.a p0.n (IntKind.wrap .i64 (u2.2.1 + 2)) 1 fun a8 =>
    ldS S3 (.l (.int .u8)) a8 fun (x9 : Int) =>
    need ((8 : Int) ≠ 0) <|
    ix p0.a p0.n (IntKind.wrap .i64 (u2.2.1 + 3)) 1 fun a10 =>
    ldS S3 (.l (.int .u8)) a10 fun (x11 : Int) =>
    nw 56 (zc Tryz.prog 56) fun b12 =>
    chk S3 <|
    st (⟨b12, 0, none⟩) [.int .i64 (Int.tmod (IntKind.wrap .i64 x5) 8), .int .i64 0, .int .i64 0, .int .i64 0, .bool false, .int .i64 0, .slice none 0 0, .int .i64 (Int.tmod (IntKind.wrap .i64 x7) 64), .int .i64 (Int.tmod (IntKind.wrap .i64 x9) 8), .int .i64 (IntKind.wrap .i64 x11)] <|
    drw <|
    ix p0.a p0.n (IntKind.wrap .i64 (u2.2.1 + 1)) 1 fun a13 =>
    ld (.l (.int .u8)) a13 fun (x14 : Int) =>
    need ((4 : Int) ≠ 0) <|
    ix p0.a p0.n (IntKind.wrap .i64 (u2.2.1 + 2)) 1 fun a15 =>
    ld (.l (.int .u8)) a15 fun (x16 : Int) =>
    need ((70 : Int) ≠ 0) <|
    st (fa (⟨b12, 0, none⟩) 1) [.int .i64 (IntKind.wrap .i64 (1 + (Int.tmod (IntKind.wrap .i64 x14) 4))), .int .i64 0, .int .i64 (Int.tmod (IntKind.wrap .i64 x16) 70), .bool false] <|
    jn (fun (j18 : LTs []) => -- 
     drw <| held fun S19 =>
     ix p0.a p0.n (IntKind.wrap .i64 (u2.2.1 + 3)) 1 fun a20 =>
     ldS S19 (.l (.int .u8)) a20 fun (x21 : Int) =>
     need ((5 : Int) ≠ 0) <|
     ix p0.a p0.n (IntKind.wrap .i64 (u2.2.1 + 2)) 1 fun a22 =>
     ldS S19 (.l (.int .u8)) a22 fun (x23 : Int) =>
     need ((5 : Int) ≠ 0) <|
     nw 3 [.int .i64 (Int.tmod (IntKind.wrap .i64 x23) 5)] fun b24 =>
     chk S19 <|
     st (fa (⟨b12, 0, none⟩) 5) [.int .i64 (IntKind.wrap .i64 (1 + (Int.tmod (IntKind.wrap .i64 x21) 5))), .slice (some ⟨b24, 0, none⟩) 1 1] <|
     ld (.g [.int .i64, .int .i64, .int .i64, .int .i64, .bool, .int .i64, .slice, .int .i64, .int .i64, .int .i64]) (⟨b12, 0, none⟩) fun (x25 : LTs [.int .i64, .int .i64, .int .i64, .int .i64, .bool, .int .i64, .slice, .int .i64, .int .i64, .int .i64]) =>
     nw 56 [.int .i64 x25.1, .int .i64 x25.2.1, .int .i64 x25.2.2.1, .int .i64 x25.2.2.2.1, .bool x25.2.2.2.2.1, .int .i64 x25.2.2.2.2.2.1, .slice x25.2.2.2.2.2.2.1.a x25.2.2.2.2.2.2.1.n x25.2.2.2.2.2.2.1.c, .int .i64 x25.2.2.2.2.2.2.2.1, .int .i64 x25.2.2.2.2.2.2.2.2.1, .int .i64 x25.2.2.2.2.2.2.2.2.2.1] fun b26 =>
     opr Tryz.prog (Builtin.append_ #[50, 50] 50 #[.slice u2.1.a u2.1.n u2.1.c, .slice (some ⟨b26, 0, none⟩) 1 1]) (.one (.l .slice)) fun (r27 : Slc) =>
     X1 (⟨r27.a, r27.n, r27.c⟩, IntKind.wrap .i64 (u2.2.1 + 4), ())) fun J17 =>
    ld (.l (.int .i64)) (fa (fa (⟨b12, 0, none⟩) 1) 0) fun (x28 : Int) =>
    br ((x28 : Int) == 1)
     (ix p0.a p0.n (IntKind.wrap .i64 (u2.2.1 + 3)) 1 fun a29 =>
     ld (.l (.int .u8)) a29 fun (x30 : Int) =>
     need ((4 : Int) ≠ 0) <|
     st (fa (fa (⟨b12, 0, none⟩) 1) 1) [.int .i64 (IntKind.wrap .i64 (1 + (Int.tmod (IntKind.wrap .i64 x30) 4)))] <|
     ix p0.a p0.n (IntKind.wrap .i64 (u2.2.1 + 3)) 1 fun a31 =>
     ld (.l (.int .u8)) a31 fun (x32 : Int) =>
     need ((4 : Int) ≠ 0) <|
     st (fa (fa (⟨b12, 0, none⟩) 1) 2) [.int .i64 (IntKind.wrap .i64 (1 + (Int.tmod (IntKind.wrap .i64 x32) 4)))] <|
     J17 (()))
     (br ((x28 : Int) == 4)
      (ix p0.a p0.n (IntKind.wrap .i64 (u2.2.1 + 3)) 1 fun a29 =>
      ld (.l (.int .u8)) a29 fun (x30 : Int) =>
      need ((3 : Int) ≠ 0) <|
      st (fa (fa (⟨b12, 0, none⟩) 1) 1) [.int .i64 (IntKind.wrap .i64 (1 + (Int.tmod (IntKind.wrap .i64 x30) 3)))] <|
      st (fa (fa (⟨b12, 0, none⟩) 1) 2) [.int .i64 5] <|
      J17 (()))
      (J17 (()))))
    (ret (.slice u2.1.a u2.1.n u2.1.c)))
   (ret (.slice u2.1.a u2.1.n u2.1.c))) (⟨none, 0, 0⟩, 0, ())
theorem F.gloaminglaw9.Asks.den (p0 : Slc) : denF Tryz.prog F.gloaminglaw9.Asks.T Tryz.f37 [.va (.slice p0.a p0.n p0.c)] = F.gloaminglaw9.Asks p0 := by kernel_rfl
theorem F.gloaminglaw9.Asks.ok : (Tryz.f37.body.map (codeB F.gloaminglaw9.Asks.T)).getD false = true := by kernel_rfl
theorem F.gloaminglaw9.Asks.calls (p0 : Slc) {Q : Value → World → Prop} {w : World} (h : F.gloaminglaw9.Asks p0 Q w) : Calls Tryz.prog 37 #[.slice p0.a p0.n p0.c] w fun e w' => ∃ v, e = .returned v ∧ Q v w' :=
  calls_of_den Tryz.pnames Tryz.mixed F.gloaminglaw9.Asks.T Tryz.func37 F.gloaminglaw9.Asks.ok (es := [.va (.slice p0.a p0.n p0.c)]) rfl (by rw [F.gloaminglaw9.Asks.den]; exact h)

-- gloaming/gloaminglaw9.Whole
def F.gloaminglaw9.Whole.T : Tabs := ⟨fun _ => [],
  fun _ => none,
  fun _ => .quiet⟩
def F.gloaminglaw9.Whole (p0 : Option Addr) : Tree :=
 br (!(Option.isNone p0))
  (nn p0 fun a1 =>
  ld (.l .ptr) (fa a1 0) fun (x2 : Option Addr) =>
  br (!(Option.isNone x2))
   (nn p0 fun a3 =>
   ld (.l .ptr) (fa a3 1) fun (x4 : Option Addr) =>
   br (!(Option.isNone x4))
    (nn p0 fun a5 =>
    ld (.l .ptr) (fa a5 0) fun (x6 : Option Addr) =>
    nn x6 fun a7 =>
    ld (.l .ptr) (fa a7 0) fun (x8 : Option Addr) =>
    br (!(Option.isNone x8))
     (nn p0 fun a9 =>
     ld (.l .ptr) (fa a9 0) fun (x10 : Option Addr) =>
     nn x10 fun a11 =>
     ld (.l .ptr) (fa a11 1) fun (x12 : Option Addr) =>
     ret (.bool (!(Option.isNone x12))))
     (ret (.bool false)))
    (ret (.bool false)))
   (ret (.bool false)))
  (ret (.bool false))
theorem F.gloaminglaw9.Whole.den (p0 : Option Addr) : denF Tryz.prog F.gloaminglaw9.Whole.T Tryz.f51 [.va (.pointer p0)] = F.gloaminglaw9.Whole p0 := by kernel_rfl
theorem F.gloaminglaw9.Whole.ok : (Tryz.f51.body.map (codeB F.gloaminglaw9.Whole.T)).getD false = true := by kernel_rfl
theorem F.gloaminglaw9.Whole.calls (p0 : Option Addr) {Q : Value → World → Prop} {w : World} (h : F.gloaminglaw9.Whole p0 Q w) : Calls Tryz.prog 51 #[.pointer p0] w fun e w' => ∃ v, e = .returned v ∧ Q v w' :=
  calls_of_den Tryz.pnames Tryz.mixed F.gloaminglaw9.Whole.T Tryz.func51 F.gloaminglaw9.Whole.ok (es := [.va (.pointer p0)]) rfl (by rw [F.gloaminglaw9.Whole.den]; exact h)

-- gloaming/gloaminglaw9.address
def F.gloaminglaw9.address.T : Tabs := ⟨fun _ => [],
  fun _ => none,
  fun _ => .quiet⟩
def F.gloaminglaw9.address (p0 : Option Addr) (p1 : Int) : Tree :=
 nn p0 fun a1 =>
 ld (.l .ptr) (fa a1 0) fun (x2 : Option Addr) =>
 call Tryz.prog 73 [.pointer x2] (.one (.l .slice)) fun (r3 : Slc) =>
 br (decide (((r3.n : Nat) : Int) > 0))
  (br (decide ((p1 : Int) ≥ 0))
   (br (decide ((p1 : Int) < 64))
    (need (((r3.n : Nat) : Int) ≠ 0) <|
    ix r3.a r3.n (Int.tmod p1 (r3.n : Nat)) 1 fun a4 =>
    ld (.l (.int .i64)) a4 fun (x5 : Int) =>
    ret (.int .i64 x5))
    (ret (.int .i64 p1)))
   (ret (.int .i64 p1)))
  (ret (.int .i64 p1))
theorem F.gloaminglaw9.address.den (p0 : Option Addr) (p1 : Int) : denF Tryz.prog F.gloaminglaw9.address.T Tryz.f79 [.va (.pointer p0), .va (.int .i64 p1)] = F.gloaminglaw9.address p0 p1 := by kernel_rfl
theorem F.gloaminglaw9.address.ok : (Tryz.f79.body.map (codeB F.gloaminglaw9.address.T)).getD false = true := by kernel_rfl
theorem F.gloaminglaw9.address.calls (p0 : Option Addr) (p1 : Int) {Q : Value → World → Prop} {w : World} (h : F.gloaminglaw9.address p0 p1 Q w) : Calls Tryz.prog 79 #[.pointer p0, .int .i64 p1] w fun e w' => ∃ v, e = .returned v ∧ Q v w' :=
  calls_of_den Tryz.pnames Tryz.mixed F.gloaminglaw9.address.T Tryz.func79 F.gloaminglaw9.address.ok (es := [.va (.pointer p0), .va (.int .i64 p1)]) rfl (by rw [F.gloaminglaw9.address.den]; exact h)
end Go.Proofs.YtapchggmifbfoaaGreat
