/- What laws of the runtime go by, where there are references. -/
import Derived.Test.YtfepdmpplahloaaGreatGsFl
set_option linter.unusedSimpArgs false
set_option linter.unusedVariables false
namespace Go.Proofs.YtfepdmpplahloaaGreat
open Go Go.Gl
variable{ρ0 ρ:FR}{L L':List Asn}{Post:Value→List Asn→Prop}{T:Tree}
theorem en_err{e:Int}{K:Int→Tree}(h:Tr ρ0 ρ L (K e) Post):Tr ρ0 ρ L (call Tryz.prog 10 [.int .i64 e] (.one (.l (.int .i64))) K) Post:=by
 refine en_call (law_err e) .nil ?_
 rintro _ _ ⟨rfl,rfl⟩
 exact h
namespace Rx
variable{x:Rt}{h o:Int}{hd:Hd}
theorem referent_zero(hh:Hn.held x.hs h=(o,0))(h1:Ob.head x.S o=some hd)(hk:hd.k=4)(hg:Ob.get x.S o 0=(0,0)):referent x h=((0,0),x):=by
 unfold referent
 rw[by_is hh,h1]
 dsimp only
 rw[if_neg (fun g=>g hk),hg]
 split
 ·rfl
 ·rw[if_pos (.inr rfl)]
theorem str_of{S:Spc}(h1:Ob.head S o=some hd)(hk:hd.k=4):Rf.str S o=(hd.c,0):=by
 unfold Rf.str
 rw[h1]
 dsimp only
 rw[if_pos hk]
theorem referent_is{v:Int}(hh:Hn.held x.hs h=(o,0))(h1:Ob.head x.S o=some hd)(hk:hd.k=4)(hc:hd.c≠3)(hg:Ob.get x.S o 0=(v,0))(hv:v≠0)(hf:Hn.free x.hs≠none):
  referent x h=(giveR {x with S:=if hd.c=1 then(Ob.put x.S o 3 x.ck).2 else x.S} v,giveS {x with S:=if hd.c=1 then(Ob.put x.S o 3 x.ck).2 else x.S} v):=by
 have e:Rf.referent x.S o x.ck=((v,0),if hd.c=1 then(Ob.put x.S o 3 x.ck).2 else x.S):=by
  unfold Rf.referent
  rw[str_of h1 hk]
  dsimp only
  rw[if_neg (fun g=>g.elim (fun g=>g rfl) hc),hg]
  dsimp only
  by_cases g:hd.c=1
  ·rw[if_pos g,if_pos ⟨g,hv⟩]
  ·rw[if_neg g,if_neg (fun q=>g q.1)]
 unfold referent
 rw[by_is hh,h1]
 dsimp only
 rw[if_neg (fun g=>g hk),if_neg hc,hg,if_neg (fun g=>g.elim (fun g=>g rfl) hv),if_neg hf,e,if_neg (fun g=>g rfl)]
end Rx
theorem bo_invd{x:Rt}{os:List Ob1}(H:Bo x.S x.cs os)(hc:x.cs=[])(h1:∀o∈os,o.h.k≠1)(hq:∀o∈os,o.h.k=4→o.ws.getD 1 0≤x.rows.length):x.InvD:=by
 refine⟨fun a ha=> ?_,fun a hd hh hk=> ?_,fun c h=>by rw[hc]at h;cases h⟩
 ·obtain⟨o,ho,rfl,hk⟩:=H.isR.mp ha
  have:=H.get o ho 1 (by rw[isR_n H.hw (H.head o ho) hk];decide)
  change Ob.get x.S o.a 1=_ at this
  rw[this]
  exact hq o ho hk
 ·obtain⟨o,ho,rfl⟩:=H.obj.mp (by unfold Mk.obj;rw[hh];rfl)
  rw[H.head o ho]at hh
  injection hh with hh
  rw[←hh]at hk
  exact absurd hk (h1 o ho)
section
variable(i:Pl)(q:Nat){N:Int}{cs:List Cls}{rows:List (List Int)}{ser:Int}{S:Spc}{l:List Hn.Slot}{ro wa pe:List Int}{ck rn:Int}{os:List Ob1}
end
end Go.Proofs.YtfepdmpplahloaaGreat
