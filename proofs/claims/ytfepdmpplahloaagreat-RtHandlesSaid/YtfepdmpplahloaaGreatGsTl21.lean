import Derived.Test.YtfepdmpplahloaaGreatGsT
namespace Go.Proofs.YtfepdmpplahloaaGreat
open Go Go.Gl
set_option maxRecDepth 100000
set_option linter.unusedVariables false
variable{Q:Value→World→Prop}{w:World}
def F.gloaminglaw21.fresh:Tree:=
 call Tryz.prog 14 [.agg #[.int .i64 60,.int .i64 1,.int .i64 3]] (.many [.l .ptr,.l (.int .i64)]) fun(r1:KTs _)=>
 call Tryz.prog 15 [.pointer r1.1] (.one (.l .bool)) fun(r2:Bool)=>
 br (!r2)
 (ret (.pointer none))
 (call Tryz.prog 10 [.int .i64 r1.2.1] (.one (.l (.int .i64))) fun(r3:Int)=>
 br ((r3:Int) != 0)
 (ret (.pointer none))
 (ret (.pointer r1.1)))
theorem F.gloaminglaw21.fresh.calls(h:F.gloaminglaw21.fresh Q w):Calls Tryz.prog 8 #[] w (RetQ Q):=
 Tryz.cd Tabs.z Tryz.func8 (by kernel_rfl) (es:=[]) rfl (by kernel_rfl) h
def F.gloaminglaw21.do(p0:Option Addr)(p1:Int)(p2:Int)(p3:Int)(p4:Int):Tree:=
 nw 26 (zc Tryz.prog 26) fun b1=>
 call Tryz.prog 16 [.pointer p0,.agg #[.int .i64 p1,.int .i64 p2,.int .i64 p3,.int .i64 p4]] (.one (.g [.int .i64,.int .i64])) fun(r2:LTs _)=>
 st (⟨b1,0,none⟩) [.int .i64 r2.1,.int .i64 r2.2.1]<|
 ld (.g [.int .i64,.int .i64]) (⟨b1,0,none⟩) fun(x3:LTs _)=>
 ret (.agg #[.int .i64 x3.1,.int .i64 x3.2.1])
theorem F.gloaminglaw21.do.calls(p0:Option Addr)(p1:Int)(p2:Int)(p3:Int)(p4:Int)(h:F.gloaminglaw21.do p0 p1 p2 p3 p4 Q w):Calls Tryz.prog 9 #[.pointer p0,.int .i64 p1,.int .i64 p2,.int .i64 p3,.int .i64 p4] w (RetQ Q):=
 Tryz.cd Tabs.z Tryz.func9 (by kernel_rfl) (es:=[.va (.pointer p0),.va (.int .i64 p1),.va (.int .i64 p2),.va (.int .i64 p3),.va (.int .i64 p4)]) rfl (by kernel_rfl) h
def F.gloaminglaw21.is(p0:LTs [.int .i64,.int .i64])(p1:Int):Tree:=
 nw 26 [.int .i64 p0.1,.int .i64 p0.2.1] fun b1=>
 ld (.l (.int .i64)) (fa (⟨b1,0,none⟩) 0) fun(x2:Int)=>
 call Tryz.prog 10 [.int .i64 x2] (.one (.l (.int .i64))) fun(r3:Int)=>
 br ((r3:Int)==0)
 (ld (.l (.int .i64)) (fa (⟨b1,0,none⟩) 1) fun(x4:Int)=>
 ret (.bool ((x4:Int)==p1)))
 (ret (.bool false))
theorem F.gloaminglaw21.is.calls(p0:LTs [.int .i64,.int .i64])(p1:Int)(h:F.gloaminglaw21.is p0 p1 Q w):Calls Tryz.prog 11 #[.agg #[.int .i64 p0.1,.int .i64 p0.2.1],.int .i64 p1] w (RetQ Q):=
 Tryz.cd Tabs.z Tryz.func11 (by kernel_rfl) (es:=[.va (.agg #[.int .i64 p0.1,.int .i64 p0.2.1]),.va (.int .i64 p1)]) rfl (by kernel_rfl) h
def F.gloaminglaw21.awake:Tree:=
 call Tryz.prog 14 [.agg #[.int .i64 2,.int .i64 0,.int .i64 1]] (.many [.l .ptr,.l (.int .i64)]) fun(r1:KTs _)=>
 call Tryz.prog 15 [.pointer r1.1] (.one (.l .bool)) fun(r2:Bool)=>
 br (!r2)
 (ret (.bool false))
 (call Tryz.prog 10 [.int .i64 r1.2.1] (.one (.l (.int .i64))) fun(r3:Int)=>
 br ((r3:Int) != 0)
 (ret (.bool false))
 (call Tryz.prog 16 [.pointer r1.1,.agg #[.int .i64 0,.int .i64 0,.int .i64 0,.int .i64 0]] (.one (.g [.int .i64,.int .i64])) fun(r4:LTs _)=>
 call Tryz.prog 16 [.pointer r1.1,.agg #[.int .i64 4,.int .i64 3,.int .i64 0,.int .i64 0]] (.one (.g [.int .i64,.int .i64])) fun(r5:LTs _)=>
 nw 26 (zc Tryz.prog 26) fun b6=>
 nw 26 (zc Tryz.prog 26) fun b7=>
 st (⟨b6,0,none⟩) [.int .i64 r4.1,.int .i64 r4.2.1]<|
 st (⟨b7,0,none⟩) [.int .i64 r5.1,.int .i64 r5.2.1]<|
 ld (.l (.int .i64)) (fa (⟨b6,0,none⟩) 0) fun(x8:Int)=>
 call Tryz.prog 10 [.int .i64 x8] (.one (.l (.int .i64))) fun(r9:Int)=>
 br ((r9:Int)==1)
 (ld (.l (.int .i64)) (fa (⟨b7,0,none⟩) 0) fun(x10:Int)=>
 call Tryz.prog 10 [.int .i64 x10] (.one (.l (.int .i64))) fun(r11:Int)=>
 br ((r11:Int)==0)
 (ld (.l (.int .i64)) (fa (⟨b7,0,none⟩) 1) fun(x12:Int)=>
 ret (.bool ((x12:Int)==512)))
 (ret (.bool false)))
 (ret (.bool false))))
theorem F.gloaminglaw21.awake.calls(h:F.gloaminglaw21.awake Q w):Calls Tryz.prog 12 #[] w (RetQ Q):=
 Tryz.cd Tabs.z Tryz.func12 (by kernel_rfl) (es:=[]) rfl (by kernel_rfl) h
def F.gloaminglaw21.fails(p0:LTs [.int .i64,.int .i64])(p1:Int):Tree:=
 nw 26 [.int .i64 p0.1,.int .i64 p0.2.1] fun b1=>
 ld (.l (.int .i64)) (fa (⟨b1,0,none⟩) 0) fun(x2:Int)=>
 call Tryz.prog 10 [.int .i64 x2] (.one (.l (.int .i64))) fun(r3:Int)=>
 br ((r3:Int)==p1)
 (ld (.l (.int .i64)) (fa (⟨b1,0,none⟩) 1) fun(x4:Int)=>
 ret (.bool ((x4:Int)==0)))
 (ret (.bool false))
theorem F.gloaminglaw21.fails.calls(p0:LTs [.int .i64,.int .i64])(p1:Int)(h:F.gloaminglaw21.fails p0 p1 Q w):Calls Tryz.prog 13 #[.agg #[.int .i64 p0.1,.int .i64 p0.2.1],.int .i64 p1] w (RetQ Q):=
 Tryz.cd Tabs.z Tryz.func13 (by kernel_rfl) (es:=[.va (.agg #[.int .i64 p0.1,.int .i64 p0.2.1]),.va (.int .i64 p1)]) rfl (by kernel_rfl) h
def F.gloaminglaw21.Whole(p0:Option Addr):Tree:=
 br (!(Option.isNone p0))
 (nn p0 fun a1=>
 ld (.l .ptr) (fa a1 0) fun(x2:Option Addr)=>
 call Tryz.prog 22 [.pointer x2] (.one (.l .bool)) fun(r3:Bool)=>
 ret (.bool r3))
 (ret (.bool false))
theorem F.gloaminglaw21.Whole.calls(p0:Option Addr)(h:F.gloaminglaw21.Whole p0 Q w):Calls Tryz.prog 15 #[.pointer p0] w (RetQ Q):=
 Tryz.cd Tabs.z Tryz.func15 (by kernel_rfl) (es:=[.va (.pointer p0)]) rfl (by kernel_rfl) h
end Go.Proofs.YtfepdmpplahloaaGreat
