/- The runtime's operations, one by one. -/
import Derived.Test.YtfepdmpplahloaaGreatGsAft
import Derived.Test.YtfepdmpplahloaaGreatGsProc8
import Derived.Test.YtfepdmpplahloaaGreatGsTt
set_option linter.unusedSimpArgs false
set_option linter.unusedVariables false
namespace Go.Proofs.YtfepdmpplahloaaGreat
open Go Go.Gl
variable{ρ0 ρ:FR}{L L':List Asn}{Post:Value→List Asn→Prop}{T:Tree}
namespace Hn
theorem all1_len(hs:List Slot)(i:Nat):(all1 hs i).length=if(at' hs i).2≠0 then 1 else 0:=by unfold all1;split<;>rfl
theorem all_full{hs:List Slot}(n:Nat):((List.range n).flatMap (all1 hs)).length=n↔∀j,j<n→(at' hs j).2≠0:=by
 induction n with
 |zero=>simp
 |succ n ih=>
  have hle:=all_len (hs:=hs) n
  rw[List.range_succ,List.flatMap_append,List.length_append,List.flatMap_singleton,all1_len]
  constructor
  ·intro h j hj
   by_cases e:(at' hs n).2≠0
   ·rw[if_pos e]at h
    by_cases ej:j=n
    ·subst ej;exact e
    ·exact ih.mp (by omega) j (by omega)
   ·rw[if_neg e]at h;omega
  ·intro h
   rw[if_pos (h n (by omega)),ih.mpr fun j hj=>h j (by omega)]
theorem room_iff{hs:List Slot}(hl:hs.length=512):(all hs).length=512↔free hs=none:=by
 unfold all
 rw[hl,all_full]
 constructor
 ·exact fun h=>free_isN fun j hj=>h j (by omega)
 ·exact fun h j hj=>free_none h j (by omega)
end Hn
theorem han_room(p:Nat){hs:List Hn.Slot}(H:Hn.Ok hs):Gl.Spec ρ Tryz.prog 90 [.pointer (some ⟨p,0,none⟩)] [HanA p hs] R1
  fun r M=>r=512-((Hn.all hs).length:Nat)∧M=[HanA p hs]:=by
 refine Gl.Spec.of (fun Q w h=>F.handle.Handles.Room.calls (some ⟨p,0,none⟩) h) fun R=> ?_
 unfold F.handle.Handles.Room
 try simp only[lca,lna]
 have hl:(Hn.all hs).length≤512:=by unfold Hn.all;rw[H.len];exact Hn.all_len 512
 refine en_brf rfl ?_
 refine en_call (han_all p H) tks ?_
 rintro r _ ⟨hr,rfl⟩
 try simp only[lca,lna]
 rw[wrap64 (by omega) (by omega),hr]
 refine Tr.drop (A:=SLc r 2 ((Hn.all hs).flatMap hcs)) tk ?_
 exact en_rets (x:=(512-((Hn.all hs).length:Nat):Int)) rfl ⟨rfl,rfl⟩ tks ens
theorem han_held(p:Nat){hs:List Hn.Slot}(H:Hn.Ok hs)(x:Int):Gl.Spec ρ Tryz.prog 121 [.pointer (some ⟨p,0,none⟩),i64 x] [HanA p hs] P2
  fun r M=>r=((Hn.held hs x).1,(Hn.held hs x).2,())∧M=[HanA p hs]:=by
 refine Gl.Spec.of (fun Q w h=>F.handle.Handles.Held.calls (some ⟨p,0,none⟩) x h) fun R=> ?_
 unfold F.handle.Handles.Held
 try simp only[lca,lna]
 have hl:=H.len
 refine en_call (han_find p H x) tks ?_
 rintro r _ ⟨hr,rfl⟩
 try simp only[lca,lna]
 unfold Hn.held
 cases hf:Hn.find hs x with
 |none=>
  rw[hf]at hr
  refine en_brt (by rw[hr];rfl) ?_
  exact en_rets (x:=((0:Int),(6:Int),())) rfl ⟨rfl,rfl⟩ tks ens
 |some k=>
  rw[hf]at hr
  obtain⟨hk,rfl⟩:=hr
  refine en_brf rfl ?_
  refine en_nn (en_ix (by omega) (by omega) ?_)
  rw[fa_mk,fa_mk,fa_mk]
  rw[show 0+0+(k:Int).toNat*2+1=k*2+1 by omega]
  refine en_ld (k:= .int .i64) (off:=k*2+1) (x:=(Hn.at' hs k).2) rfl tk (hc_get (by omega)).2 ?_
  exact en_rets (x:=((Hn.at' hs k).2,(0:Int),())) rfl ⟨rfl,rfl⟩ tks ens
theorem rf_heap{p hp:Nat}{rows:List (List Int)}{n:Int}{f:Option Addr→Tree}{a:Addr}(ha:a=⟨p,0,none⟩)(t:Take L (RfA p hp rows n) L')(h:Tr ρ0 ρ (RfA p hp rows n::L') (f (some ⟨hp,0,none⟩)) Post):
  Tr ρ0 ρ L (ld (.l .ptr) a fun x=>nn x fun b=>ld (.l .ptr) (fa b 0) f) Post:=by
 subst ha
 refine RfA.op t fun q=> ?_
 refine en_ld (k:= .ptr) (off:=0) (x:=some ⟨q,0,none⟩) rfl tk rfl ?_
 refine en_nn (que_heap (q:=q) (hp:=hp) (rows:=rows) (by rw[fa_mk]) tk ?_)
 exact Tr.close (M:=[blk p [.pointer (some ⟨q,0,none⟩),i64 n],QueA q hp rows]) tks (RfA.cl (p:=p) (q:=q) (hp:=hp) (rows:=rows) (n:=n)) h
abbrev Pl.Q(i:Pl)(q:Nat)(x:Rt):List Asn:=blk q [.pointer (some ⟨i.p,0,none⟩)]::i.A x
namespace Rx
def giveR(x:Rt)(v:Int):Int×Int:=if v=0 then(0,0)else if Hn.free x.hs=none then(0,3)else Hn.holdR x.hs v
def giveS(x:Rt)(v:Int):Rt:=if v=0 then x else{x with hs:=Hn.holdS x.hs v}
def hld(x:Rt)(h:Int)(orNone:Bool):Int×Int:=if orNone=true∧h=0 then(0,0)else Hn.held x.hs h
def fld(x:Rt)(a k:Int):Int×Bool×Int:=match Ob.head x.S a with
 |none=>(0,false,2)
 |some h=>if h.k=4 then(0,false,5)else if(Ob.get x.S a k).2≠0 then(0,false,(Ob.get x.S a k).2)else((Ob.get x.S a k).1,decide (k∈Ob.refs x.S x.cs a),0)
theorem hold_none{hs:List Hn.Slot}(h:Hn.free hs=none)(v:Int):Hn.holdS hs v=hs:=by
 unfold Hn.holdS;rw[h];split<;>rfl
end Rx
theorem en_room(i:Pl)(x:Rt)(H:Hn.Ok x.hs){k:Int→Tree}(t:Take L (HanA i.h x.hs) L')(h0:Hn.free x.hs=none→Tr ρ0 ρ (HanA i.h x.hs::L') (k 0) Post)(h1:∀r:Int,r≠0→Hn.free x.hs≠none→Tr ρ0 ρ (HanA i.h x.hs::L') (k r) Post):
  Tr ρ0 ρ L (call Tryz.prog 90 [.pointer (some ⟨i.h,0,none⟩)] (.one (.l (.int .i64))) k) Post:=by
 refine en_call (han_room i.h H) (.cons t .nil) ?_
 rintro _ _ ⟨rfl,rfl⟩
 have:=Hn.room_iff H.len
 have hl:(Hn.all x.hs).length≤512:=by unfold Hn.all;rw[H.len];exact Hn.all_len 512
 by_cases e:Hn.free x.hs=none
 ·rw[this.mpr e];exact h0 e
 ·exact h1 _ (fun g=>e (this.mp (by omega))) e
theorem rt_given(i:Pl)(q:Nat)(x:Rt)(H:Hn.Ok x.hs)(v:Int):Gl.Spec ρ Tryz.prog 80 [.pointer (some ⟨q,0,none⟩),i64 v] (i.Q q x) P2
  fun r M=>r=((Rx.giveR x v).1,(Rx.giveR x v).2,())∧M=i.Q q (Rx.giveS x v):=by
 refine Gl.Spec.of (fun Q w h=>F.rt.Runtime.given.calls (some ⟨q,0,none⟩) v h) fun R=> ?_
 unfold F.rt.Runtime.given
 try simp only[lca,lna]
 unfold Rx.giveR Rx.giveS
 refine en_br (fun h=> ?_) (fun h=> ?_)
 ·have h':v=0:=by simpa using h
  rw[if_pos h',if_pos h']
  exact en_rets (x:=((0:Int),(0:Int),())) rfl ⟨rfl,rfl⟩ tks ens
 have h':v≠0:=by simpa using h
 rw[if_neg h',if_neg h']
 refine en_nn ?_
 refine en_ld (k:= .ptr) (b:=q) (off:=0) (x:=some ⟨i.p,0,none⟩) (by rw[fa_mk]) tk rfl ?_
 refine en_nn ?_
 refine en_ld (k:= .ptr) (b:=i.p) (off:=1) (x:=some ⟨i.h,0,none⟩) (by rw[fa_mk]) tk rfl ?_
 refine en_room i x H tk (fun e=> ?_) (fun r hr e=> ?_)
 ·rw[if_pos e,Rx.hold_none e]
  refine en_brt rfl ?_
  exact en_rets (x:=((0:Int),(3:Int),())) rfl ⟨rfl,rfl⟩ tks ens
 ·rw[if_neg e]
  refine en_brf (by simpa using hr) ?_
  refine en_nn ?_
  refine en_ld (k:= .ptr) (b:=q) (off:=0) (x:=some ⟨i.p,0,none⟩) (by rw[fa_mk]) tk rfl ?_
  refine en_nn ?_
  refine en_ld (k:= .ptr) (b:=i.p) (off:=1) (x:=some ⟨i.h,0,none⟩) (by rw[fa_mk]) tk rfl ?_
  refine en_call (han_hold i.h H v) tks ?_
  rintro x' M ⟨rfl,rfl⟩
  try simp only[lca,lna]
  exact en_rets (x:=((Hn.holdR x.hs v).1,(Hn.holdR x.hs v).2,())) rfl ⟨rfl,rfl⟩ tks ens
theorem rt_held(i:Pl)(q:Nat)(x:Rt)(H:Hn.Ok x.hs)(h:Int)(orNone:Bool):Gl.Spec ρ Tryz.prog 78 [.pointer (some ⟨q,0,none⟩),i64 h,.bool orNone] (i.Q q x) P2
  fun r M=>r=((Rx.hld x h orNone).1,(Rx.hld x h orNone).2,())∧M=i.Q q x:=by
 refine Gl.Spec.of (fun Q w hh=>F.rt.Runtime.held.calls (some ⟨q,0,none⟩) h orNone hh) fun R=> ?_
 unfold F.rt.Runtime.held
 try simp only[lca,lna]
 unfold Rx.hld
 have go:∀{e:Int×Int},e=Hn.held x.hs h→Tr ρ ρ (i.Q q x++R) (nn (some ⟨q,0,none⟩) fun a1=>ld (.l .ptr) (fa a1 0) fun(x2:Option Addr)=>nn x2 fun a3=>ld (.l .ptr) (fa a3 1) fun(x4:Option Addr)=>call Tryz.prog 121 [.pointer x4,.int .i64 h] (.many [.l (.int .i64),.l (.int .i64)]) fun(r5:KTs _)=>ret (.tuple #[.int .i64 r5.1,.int .i64 r5.2.1]))
   (SP P2 (fun r M=>r=(e.1,e.2,())∧M=i.Q q x) R):=fun{e} he=>by
  subst he
  try simp only[lca,lna]
  refine en_nn ?_
  refine en_ld (k:= .ptr) (b:=q) (off:=0) (x:=some ⟨i.p,0,none⟩) (by rw[fa_mk]) tk rfl ?_
  refine en_nn ?_
  refine en_ld (k:= .ptr) (b:=i.p) (off:=1) (x:=some ⟨i.h,0,none⟩) (by rw[fa_mk]) tk rfl ?_
  refine en_call (han_held i.h H h) tks ?_
  rintro x' M ⟨rfl,rfl⟩
  try simp only[lca,lna]
  exact en_rets (x:=((Hn.held x.hs h).1,(Hn.held x.hs h).2,())) rfl ⟨rfl,rfl⟩ tks ens
 refine en_br (fun h1=> ?_) (fun h1=> ?_)
 ·refine en_br (fun h2=> ?_) (fun h2=> ?_)
  ·rw[if_pos ⟨h1,by simpa using h2⟩]
   exact en_rets (x:=((0:Int),(0:Int),())) rfl ⟨rfl,rfl⟩ tks ens
  ·exact go (if_neg fun g=>by simp[g.2]at h2)
 ·exact go (if_neg fun g=>by simp[g.1]at h1)
end Go.Proofs.YtfepdmpplahloaaGreat
namespace Go.Proofs.YtfepdmpplahloaaGreat
open Go Go.Gl
variable{ρ0 ρ:FR}{L L':List Asn}{Post:Value→List Asn→Prop}{T:Tree}
abbrev opV(k a b c:Int):Value:= .agg #[i64 k,i64 a,i64 b,i64 c]
abbrev Ans2:=(Int×Int)×Rt
namespace Rx
variable(x:Rt)
def by'(h:Int)(f:Int→Ans2):Ans2:=if(hld x h false).2≠0 then((0,(hld x h false).2),x)else f (hld x h false).1
def drop(a:Int):Ans2:=((0,Hn.dropE x.hs a),{x with hs:=Hn.dropS x.hs a})
def referent(a:Int):Ans2:=by' x a fun at'=>match Ob.head x.S at' with
 |none=>((0,5),x)
 |some hd=>if hd.k≠4 then((0,5),x)else if hd.c=3 then((0,0),x)else
  if(Ob.get x.S at' 0).2≠0∨(Ob.get x.S at' 0).1=0 then((0,(Ob.get x.S at' 0).2),x)else if Hn.free x.hs=none then((0,3),x)else
  if(Rf.referent x.S at' x.ck).1.2≠0 then((0,(Rf.referent x.S at' x.ck).1.2),{x with S:=(Rf.referent x.S at' x.ck).2})else
  (giveR {x with S:=(Rf.referent x.S at' x.ck).2} (Rf.referent x.S at' x.ck).1.1,giveS {x with S:=(Rf.referent x.S at' x.ck).2} (Rf.referent x.S at' x.ck).1.1)
end Rx
abbrev Does(ρ:FR)(f:FuncId)(i:Pl)(q:Nat)(k a b c:Int)(x:Rt)(y:Ans2):Prop:=
 Gl.Spec ρ Tryz.prog f [.pointer (some ⟨q,0,none⟩),opV k a b c] (i.Q q x) P2 fun r M=>r=(y.1.1,y.1.2,())∧M=i.Q q y.2
variable(i:Pl)(q:Nat)(k a b c:Int)(x:Rt)(H:x.Ok)
include H
theorem do_drop:Does ρ 46 i q k a b c x (Rx.drop x a):=by
 refine Gl.Spec.of (fun Q w hh=>F.rt.Runtime.drop.calls (some ⟨q,0,none⟩) (k,a,b,c,()) hh) fun R=> ?_
 unfold F.rt.Runtime.drop
 try simp only[lca,lna]
 refine en_nw fun b1=>en_drw ?_
 refine en_nn ?_
 refine en_ld (k:= .ptr) (b:=q) (off:=0) (x:=some ⟨i.p,0,none⟩) (by rw[fa_mk]) tk rfl ?_
 refine en_nn ?_
 refine en_ld (k:= .ptr) (b:=i.p) (off:=1) (x:=some ⟨i.h,0,none⟩) (by rw[fa_mk]) tk rfl ?_
 refine en_ld (k:= .int .i64) (b:=b1) (off:=1) (x:=a) (by rw[fa_mk]) tk rfl ?_
 refine en_call (han_drop i.h H.hs a) tks ?_
 rintro x' M ⟨rfl,rfl⟩
 try simp only[lca,lna]
 exact en_rets (x:=((0:Int),Hn.dropE x.hs a,())) rfl ⟨rfl,rfl⟩ tks ens
theorem do_referent:Does ρ 50 i q k a b c x (Rx.referent x a):=by
 refine Gl.Spec.of (fun Q w hh=>F.rt.Runtime.referent.calls (some ⟨q,0,none⟩) (k,a,b,c,()) hh) fun R=> ?_
 unfold F.rt.Runtime.referent
 try simp only[lca,lna]
 refine en_nw fun b1=> ?_
 refine en_ld (k:= .int .i64) (b:=b1) (off:=1) (x:=a) (by rw[fa_mk]) tk rfl ?_
 refine en_call (rt_held i q x H.hs a false) tks ?_
 rintro x' M ⟨rfl,rfl⟩
 try simp only[lca,lna]
 unfold Rx.referent Rx.by'
 generalize Rx.hld x a false=h
 refine en_br (fun e=> ?_) (fun e=> ?_)
 ·have e:h.2≠0:=by simpa using e
  rw[if_pos e]
  exact en_rets (x:=((0:Int),h.2,())) rfl ⟨rfl,rfl⟩ tks ens
 have e:h.2=0:=by simpa using e
 rw[if_neg (fun g=>g e)]
 refine en_nn ?_
 refine en_ld (k:= .ptr) (b:=q) (off:=0) (x:=some ⟨i.p,0,none⟩) (by rw[fa_mk]) tk rfl ?_
 refine en_nn ?_
 refine en_ld (k:= .ptr) (b:=i.p) (off:=0) (x:=some ⟨i.r,0,none⟩) (by rw[fa_mk]) tk rfl ?_
 refine en_nn (rf_heap (p:=i.r) (hp:=i.b) (rows:=x.rows) (n:=x.ser) (by rw[fa_mk]) tk ?_)
 refine en_call (object_head i.b x.S x.cs H.hw h.1) tks ?_
 rintro x' M ⟨rfl,rfl⟩
 try simp only[lca,lna]
 refine en_nw fun b13=> ?_
 rw[show zc Tryz.prog 103=[.int .i64 0,.int .i64 0,.int .i64 0,.bool false] by kernel_rfl]
 refine en_st (b:=b13) (off:=0) rfl tk (by simp) rfl ?_
 cases hh:Ob.head x.S h.1 with
 |none=>
  refine en_brt rfl ?_
  exact en_rets (x:=((0:Int),(5:Int),())) rfl ⟨rfl,rfl⟩ tks ens
 |some hd=>
  dsimp only
  refine en_brf rfl ?_
  refine en_ld (k:= .int .i64) (b:=b13) (off:=0) (x:=hd.k) (by rw[fa_mk]) tk rfl ?_
  refine en_br (fun e1=> ?_) (fun e1=> ?_)
  ·have e1:hd.k≠4:=by simpa using e1
   rw[if_pos e1]
   exact en_rets (x:=((0:Int),(5:Int),())) rfl ⟨rfl,rfl⟩ tks ens
  have e1:hd.k=4:=by simpa using e1
  rw[if_neg (fun g=>g e1)]
  refine en_ld (k:= .int .i64) (b:=b13) (off:=1) (x:=hd.c) (by rw[fa_mk]) tk rfl ?_
  refine en_br (fun e2=> ?_) (fun e2=> ?_)
  ·have e2:hd.c=3:=by simpa using e2
   rw[if_pos e2]
   exact en_rets (x:=((0:Int),(0:Int),())) rfl ⟨rfl,rfl⟩ tks ens
  have e2:hd.c≠3:=by simpa using e2
  rw[if_neg e2]
  refine en_nn ?_
  refine en_ld (k:= .ptr) (b:=q) (off:=0) (x:=some ⟨i.p,0,none⟩) (by rw[fa_mk]) tk rfl ?_
  refine en_nn ?_
  refine en_ld (k:= .ptr) (b:=i.p) (off:=0) (x:=some ⟨i.r,0,none⟩) (by rw[fa_mk]) tk rfl ?_
  refine en_nn (rf_heap (p:=i.r) (hp:=i.b) (rows:=x.rows) (n:=x.ser) (by rw[fa_mk]) tk ?_)
  refine en_call (object_get i.b x.S x.cs H.hw h.1 0) tks ?_
  rintro x' M ⟨rfl,rfl⟩
  try simp only[lca,lna]
  generalize Ob.get x.S h.1 0=g
  refine en_br (fun e3=> ?_) (fun e3=> ?_)
  ·have e3:g.2≠0:=by simpa using e3
   rw[if_pos (.inl e3)]
   refine en_brf (by simpa using e3) ?_
   exact en_rets (x:=((0:Int),g.2,())) rfl ⟨rfl,rfl⟩ tks ens
  have e3:g.2=0:=by simpa using e3
  refine en_br (fun e4=> ?_) (fun e4=> ?_)
  ·have e4:g.1=0:=by simpa using e4
   rw[if_pos (.inr e4)]
   refine en_brt (by simpa using e3) (en_brf (by simpa using e4) ?_)
   exact en_rets (x:=((0:Int),g.2,())) rfl ⟨rfl,rfl⟩ tks ens
  have e4:g.1≠0:=by simpa using e4
  rw[if_neg (fun h=>h.elim (fun h=>h e3) e4)]
  refine en_nn ?_
  refine en_ld (k:= .ptr) (b:=q) (off:=0) (x:=some ⟨i.p,0,none⟩) (by rw[fa_mk]) tk rfl ?_
  refine en_nn ?_
  refine en_ld (k:= .ptr) (b:=i.p) (off:=1) (x:=some ⟨i.h,0,none⟩) (by rw[fa_mk]) tk rfl ?_
  refine en_room i x H.hs tk (fun e=> ?_) (fun r hr e=> ?_)
  ·rw[if_pos e]
   refine en_brt rfl (en_brt (by simpa using e3) (en_brt (by simpa using e4) ?_))
   exact en_rets (x:=((0:Int),(3:Int),())) rfl ⟨rfl,rfl⟩ tks ens
  rw[if_neg e]
  refine en_brf (by simpa using hr) ?_
  refine en_drw (en_held [blk q [.pointer (some ⟨i.p,0,none⟩)],blk i.p (i.cs x)] tks ?_)
  refine en_nn (en_ldS (k:= .ptr) (b:=q) (off:=0) (x:=some ⟨i.p,0,none⟩) (by rw[fa_mk]) tk rfl ?_)
  refine en_nn (en_ldS (k:= .ptr) (b:=i.p) (off:=0) (x:=some ⟨i.r,0,none⟩) (by rw[fa_mk]) tk rfl ?_)
  refine en_nn (en_ldS (k:= .ptr) (b:=q) (off:=0) (x:=some ⟨i.p,0,none⟩) (by rw[fa_mk]) tk rfl ?_)
  try simp only[lca,lna]
  refine en_call (gc_clock i x) tks ?_
  rintro x' M ⟨rfl,rfl⟩
  try simp only[lca,lna]
  refine en_chk tks ?_
  refine en_call (rfs_referent i.r i.b x.S x.cs H.hw x.rows x.ser h.1 x.ck) tks ?_
  rintro x' M ⟨rfl,rfl⟩
  try simp only[lca,lna]
  generalize Rf.referent x.S h.1 x.ck=y
  refine en_br (fun e5=> ?_) (fun e5=> ?_)
  ·have e5:y.1.2≠0:=by simpa using e5
   rw[if_pos e5]
   exact en_rets (x:=((0:Int),y.1.2,())) rfl ⟨rfl,rfl⟩ tks ens
  have e5:y.1.2=0:=by simpa using e5
  rw[if_neg (fun g=>g e5)]
  refine en_call (rt_given i q {x with S:=y.2} H.hs y.1.1) tks ?_
  rintro x' M ⟨rfl,rfl⟩
  try simp only[lca,lna]
  exact en_rets (x:=((Rx.giveR {x with S:=y.2} y.1.1).1,(Rx.giveR {x with S:=y.2} y.1.1).2,())) rfl ⟨rfl,rfl⟩ tks ens
end Go.Proofs.YtfepdmpplahloaaGreat
namespace Go.Proofs.YtfepdmpplahloaaGreat
open Go Go.Gl
variable{ρ0 ρ:FR}{L L':List Asn}{Post:Value→List Asn→Prop}{T:Tree}
end Go.Proofs.YtfepdmpplahloaaGreat
namespace Go.Proofs.YtfepdmpplahloaaGreat
open Go Go.Gl
variable{ρ0 ρ:FR}{L L':List Asn}{Post:Value→List Asn→Prop}{T:Tree}
def Rt.CollR(x x':Rt)(all:Bool):Prop:=∃(z1 z2:Slc) (l:List Rf6) (m2 m3:List Bool),Coll x.S x.cs (x.in7 z1 z2 all) x.roots x.wa l m2 m3∧
 x'=x.after (clrOf x.S m2 m3 l) (putOf x.S m3 (clrOf x.S m2 m3 l)) (pendOf x.S m2 x.wa) (Mk.all m3)
theorem Rt.CollR.inv{x x':Rt}{all:Bool}(h:x.CollR x' all){N:Int}(I:x.Inv N):x'.Inv (N+1):=by
 obtain⟨z1,z2,l,m2,m3,hC,rfl⟩:=h
 exact I.after hC
theorem gc_collectR(i:Pl)(x:Rt)(H:x.Ok2)(all:Bool):Gl.Spec ρ Tryz.prog 68 [.pointer (some ⟨i.p,0,none⟩),.bool all] (i.A x) OE
  fun r M=>∃(s1 s2 s3 s4:Slc) (A1 A2 A3 A4:Asn) (x':Rt),r=((s1,s2,s3,s4,()),0,())∧x.CollR x' all∧M=[A1,A2,A3,A4]++i.A x':=
 Spec.post (gc_collect i x H all) fun r M ⟨z1,z2,s1,s2,s3,s4,l,m2,m3,hC,hr,hM⟩=>⟨s1,s2,s3,s4,_,_,_,_,_,hr,⟨z1,z2,l,m2,m3,hC,rfl⟩,hM⟩
namespace Rx
end Rx
end Go.Proofs.YtfepdmpplahloaaGreat
namespace Go.Proofs.YtfepdmpplahloaaGreat
open Go Go.Gl
variable{ρ0 ρ:FR}{L L':List Asn}{Post:Value→List Asn→Prop}{T:Tree}
namespace Rx
def Tries(mk:Rt→Ans2)(x:Rt)(y:Ans2):Prop:=
 ((mk x).1.2≠3∧y=mk x)∨((mk x).1.2=3∧∃x1,(mk x).2.CollR x1 false∧(((mk x1).1.2≠3∧y=mk x1)∨((mk x1).1.2=3∧∃x2,(mk x1).2.CollR x2 true∧y=mk x2)))
def MadeR(mk:Rt→Ans2)(x:Rt)(y:Ans2):Prop:=if Hn.free x.hs=none then y=((0,3),x)else∃z,Tries mk x z∧y=if z.1.2≠0 then((0,z.1.2),z.2)else(giveR z.2 z.1.1,giveS z.2 z.1.1)
theorem give_inv{x:Rt}{N:Int}(I:x.Inv N)(v:Int):(giveS x v).Inv N:=by
 unfold giveS
 split
 ·exact I
 ·exact{I with h:=I.h.hold v}
def Tr3(mk:Rt→Ans2)(x:Rt)(j:Nat)(z:Ans2):Prop:=
 (j=0∧z=mk x)∨(j=1∧(mk x).1.2=3∧∃x1,(mk x).2.CollR x1 false∧z=mk x1)∨(j=2∧(mk x).1.2=3∧∃x1,(mk x).2.CollR x1 false∧(mk x1).1.2=3∧∃x2,(mk x1).2.CollR x2 true∧z=mk x2)
theorem Tr3.tries{mk:Rt→Ans2}{x:Rt}{j:Nat}{z:Ans2}(h:Tr3 mk x j z)(hz:z.1.2≠3∨j=2):Tries mk x z:=by
 rcases h with ⟨rfl,rfl⟩|⟨rfl,h1,x1,h2,rfl⟩|⟨rfl,h1,x1,h2,h3,x2,h4,rfl⟩
 ·exact .inl ⟨hz.resolve_right (by decide),rfl⟩
 ·exact .inr ⟨h1,x1,h2,.inl ⟨hz.resolve_right (by decide),rfl⟩⟩
 ·exact .inr ⟨h1,x1,h2,.inr ⟨h3,x2,h4,rfl⟩⟩
theorem Tr3.next{mk:Rt→Ans2}{x x':Rt}{j:Nat}{z:Ans2}(h:Tr3 mk x j z)(hz:z.1.2=3)(hj:j<2)(hc:z.2.CollR x' (j==1)):Tr3 mk x (j+1) (mk x'):=by
 rcases h with ⟨rfl,rfl⟩|⟨rfl,h1,x1,h2,rfl⟩|⟨rfl,_⟩
 ·exact .inr (.inl ⟨rfl,hz,x',hc,rfl⟩)
 ·exact .inr (.inr ⟨rfl,h1,x1,h2,hz,x',hc,rfl⟩)
 ·omega
end Rx
theorem ft_get:∀{j:Nat},j<2→([.bool false,.bool true]:List Value)[j]? =some (LK.val .bool (j==1))
 |0,_=>rfl
 |1,_=>rfl
theorem rt_madeE(i:Pl)(q:Nat)(x:Rt)(C:Asn)(mk:Rt→Ans2){N:Int}(hN:N+10<2^49)(z:Ans2)(e:Hn.free x.hs≠none){LL R:List Asn}(ht:Rx.Tries mk x z)(Iz:z.2.Inv (N+10))(hp:Takes LL (C::i.Q q z.2) R):
  Tr ρ ρ LL (br ((z.1.2:Int) != 0) (ret (.tuple #[.int .i64 0,.int .i64 z.1.2])) (call Tryz.prog 80 [.pointer (some ⟨q,0,none⟩),.int .i64 z.1.1] (.many [.l (.int .i64),.l (.int .i64)]) fun(r12:KTs _)=>ret (.tuple #[.int .i64 r12.1,.int .i64 r12.2.1])))
   (SP P2 (fun r M=>∃y:Ans2,Rx.MadeR mk x y∧y.2.Inv (N+10)∧r=(y.1.1,y.1.2,())∧M=C::i.Q q y.2) R):=by
 refine Tr.perm hp.perm ?_
 try simp only[lca,lna]
 refine en_br (fun e1=> ?_) (fun e1=> ?_)
 ·have e1:z.1.2≠0:=by simpa using e1
  have hy:Rx.MadeR mk x ((0,z.1.2),z.2):=by unfold Rx.MadeR;rw[if_neg e];exact⟨z,ht,by rw[if_pos e1]⟩
  exact en_rets (x:=((0:Int),z.1.2,())) rfl ⟨((0,z.1.2),z.2),hy,Iz,rfl,rfl⟩ tks ens
 ·have e1:z.1.2=0:=by simpa using e1
  refine en_call (rt_given i q z.2 (Iz.h.ok (by omega)) z.1.1) tks ?_
  rintro x' M ⟨rfl,rfl⟩
  try simp only[lca,lna]
  have hy:Rx.MadeR mk x (Rx.giveR z.2 z.1.1,Rx.giveS z.2 z.1.1):=by unfold Rx.MadeR;rw[if_neg e];exact⟨z,ht,by rw[if_neg (fun g=>g e1)]⟩
  exact en_rets (x:=((Rx.giveR z.2 z.1.1).1,(Rx.giveR z.2 z.1.1).2,())) rfl ⟨(Rx.giveR z.2 z.1.1,Rx.giveS z.2 z.1.1),hy,Rx.give_inv Iz _,rfl,rfl⟩ tks ens
theorem rt_made(i:Pl)(q:Nat)(x:Rt)(C:Asn){f:FuncId}{fn:Func}{cv:Array Value}(hf:Tryz.prog.funcs[f]? =some fn)(hb:fn.body.isSome=true)(mk:Rt→Ans2){N:Int}(I:x.Inv N)(hN:N+10<2^49)
  (hm:∀(M:Int) (y:Rt),y.Inv M→M<2^49→Gl.Spec ρ Tryz.prog f ([]++cv.toList) (C::i.Q q y) P2 (fun r L=>r=((mk y).1.1,(mk y).1.2,())∧L=C::i.Q q (mk y).2)∧(mk y).2.Inv (M+1)):
  Gl.Spec ρ Tryz.prog 86 [.pointer (some ⟨q,0,none⟩),.func (.func f) #[] cv] (C::i.Q q x) P2
  fun r M=>∃y:Ans2,Rx.MadeR mk x y∧y.2.Inv (N+10)∧r=(y.1.1,y.1.2,())∧M=C::i.Q q y.2:=by
 refine Gl.Spec.of (fun Q w hh=>F.rt.Runtime.made.calls (some ⟨q,0,none⟩) (.func (.func f) #[] cv) hh) fun R=> ?_
 unfold F.rt.Runtime.made
 try simp only[lca,lna]
 refine en_nn ?_
 refine en_ld (k:= .ptr) (b:=q) (off:=0) (x:=some ⟨i.p,0,none⟩) (by rw[fa_mk]) tk rfl ?_
 refine en_nn ?_
 refine en_ld (k:= .ptr) (b:=i.p) (off:=1) (x:=some ⟨i.h,0,none⟩) (by rw[fa_mk]) tk rfl ?_
 have hok:=I.h.ok (show N<2^50 by omega)
 refine en_room i x hok tk (fun e=> ?_) (fun r hr e=> ?_)
 ·refine en_brt rfl ?_
  have hy:Rx.MadeR mk x ((0,3),x):=by unfold Rx.MadeR;rw[if_pos e]
  exact en_rets (x:=((0:Int),(3:Int),())) rfl ⟨((0,3),x),hy,I.le (by omega),rfl,rfl⟩ tks ens
 refine en_brf (by simpa using hr) ?_
 obtain⟨s0,I0⟩:=hm N x I (by omega)
 refine en_callV hf hb s0 tks ?_
 rintro _ _ ⟨rfl,rfl⟩
 try simp only[lca,lna]
 refine en_nw fun b7=> ?_
 have fin:=fun(z:Ans2) {LL:List Asn} ht Iz hp=>rt_madeE (ρ:=ρ) (LL:=LL) (R:=R) i q x C mk hN z e ht Iz hp
 refine en_lp (I:=fun n u M=>∃(j:Nat) (z:Ans2),j≤2∧n=2-j∧u=(z.1.1,z.1.2,(j:Int),())∧Rx.Tr3 mk x j z∧z.2.Inv (N+2*j+1)∧M=blk b7 [.bool false,.bool true]::C::(i.Q q z.2++R)) 2 ⟨0,mk x,by omega,rfl,rfl,.inl ⟨rfl,rfl⟩,I0.le (by omega),rfl⟩ ?_
 rintro n _ _ ⟨j,z,hj,rfl,rfl,ht,Iz,rfl⟩ X hX
 try simp only[lca,lna]
 refine en_br (fun hc=> ?_) (fun hc=> ?_)
 ·have hj':j<2:=by have:(j:Int)<2:=of_decide_eq_true hc;omega
  refine en_ix (by omega) (by omega) ?_
  rw[fa_mk]
  refine en_ld (k:= .bool) (b:=b7) (off:=0+(j:Int).toNat*1) (x:=(j==1)) rfl tk ?_ ?_
  ·rw[show 0+(j:Int).toNat*1=j by omega]
   exact ft_get hj'
  refine en_br (fun e1=> ?_) (fun e1=> ?_)
  ·have e1:z.1.2≠3:=by simpa using e1
   refine Tr.drop (A:=blk b7 [.bool false,.bool true]) tk ?_
   exact fin z (ht.tries (.inl e1)) (Iz.le (by omega)) tks
  ·have e1:z.1.2=3:=by simpa using e1
   refine en_nn ?_
   refine en_ld (k:= .ptr) (b:=q) (off:=0) (x:=some ⟨i.p,0,none⟩) (by rw[fa_mk]) tk rfl ?_
   refine en_call (gc_collectR i z.2 (Iz.ok2 (by omega)) (j==1)) tks ?_
   rintro _ _ ⟨s1,s2,s3,s4,A1,A2,A3,A4,x',rfl,hC,rfl⟩
   try simp only[lca,lna]
   refine Tr.drop (A:=A1) tk (Tr.drop (A:=A2) tk (Tr.drop (A:=A3) tk (Tr.drop (A:=A4) tk ?_)))
   have Ix:=hC.inv Iz
   obtain⟨s1,I1⟩:=hm _ x' Ix (by omega)
   refine en_callV hf hb s1 tks ?_
   rintro _ _ ⟨rfl,rfl⟩
   try simp only[lca,lna]
   rw[wrap64 (n:=(j:Int)+1) (by omega) (by omega)]
   exact Tr.perm (Takes.perm (M:=blk b7 [.bool false,.bool true]::C::i.Q q (mk x').2) tks) (hX (2-(j+1)) _ _ (by omega) ⟨j+1,mk x',by omega,rfl,rfl,ht.next e1 hj' hC,I1.le (by omega),rfl⟩)
 ·have hj':j=2:=by have:¬(j:Int)<2:=of_decide_eq_false hc;omega
  refine Tr.drop (A:=blk b7 [.bool false,.bool true]) tk ?_
  exact fin z (ht.tries (.inr hj')) (Iz.le (by omega)) tks
def Rx.mk(h:Hd)(y:Rt):Ans2:=(((Ob.make y.S y.cs h).1,(Ob.make y.S y.cs h).2.1),{y with S:=(Ob.make y.S y.cs h).2.2})
theorem Tr.openS{M:List Asn}(t:Take L (star M) L')(h:Tr ρ0 ρ (M++L') T Post):Tr ρ0 ρ L T Post:=
 Tr.openL (M:=fun _:Unit=>M) (c:=fun _=>True) t (fun _ h=>⟨(),trivial,h⟩) (fun _ _=>h)
abbrev capO(b1 b2 q:Nat)(h:Hd):List Asn:=[blk b1 [.pointer (some ⟨q,0,none⟩)],blk b2 [.int .i64 h.k,.int .i64 h.c,.int .i64 h.n,.bool h.f]]
theorem rt_object1(i:Pl)(q b1 b2:Nat)(h:Hd)(y:Rt)(hw:HWf y.S y.cs):Gl.Spec ρ Tryz.prog 119 [.pointer (some ⟨b1,0,none⟩),.pointer (some ⟨b2,0,none⟩)] (star (capO b1 b2 q h)::i.Q q y) P2
  fun r L=>r=((Rx.mk h y).1.1,(Rx.mk h y).1.2,())∧L=star (capO b1 b2 q h)::i.Q q (Rx.mk h y).2:=by
 refine Gl.Spec.of (fun Q w hh=>F.rt.Runtime.object_1.calls (some ⟨b1,0,none⟩) (some ⟨b2,0,none⟩) hh) fun R=> ?_
 unfold F.rt.Runtime.object_1
 try simp only[lca,lna]
 refine Tr.openS (M:=capO b1 b2 q h) tk ?_
 refine RfA.op (p:=i.r) (hp:=i.b) (rows:=y.rows) (n:=y.ser) tk fun qq=> ?_
 refine QueA.op (p:=qq) (hp:=i.b) (rows:=y.rows) tk fun z hz=> ?_
 refine en_drw (en_held [blk b1 [.pointer (some ⟨q,0,none⟩)],blk b2 [.int .i64 h.k,.int .i64 h.c,.int .i64 h.n,.bool h.f],blk q [.pointer (some ⟨i.p,0,none⟩)],blk i.p (i.cs y),blk i.r [.pointer (some ⟨qq,0,none⟩),i64 y.ser],blk qq [.pointer (some ⟨i.b,0,none⟩),.slice z.a z.n z.c]] tks ?_)
 refine en_nn (en_ldS (k:= .ptr) (b:=b1) (off:=0) (x:=some ⟨q,0,none⟩) rfl tk rfl ?_)
 refine en_nn (en_ldS (k:= .ptr) (b:=q) (off:=0) (x:=some ⟨i.p,0,none⟩) (by rw[fa_mk]) tk rfl ?_)
 refine en_nn (en_ldS (k:= .ptr) (b:=i.p) (off:=0) (x:=some ⟨i.r,0,none⟩) (by rw[fa_mk]) tk rfl ?_)
 refine en_nn (en_ldS (k:= .ptr) (b:=i.r) (off:=0) (x:=some ⟨qq,0,none⟩) (by rw[fa_mk]) tk rfl ?_)
 refine en_nn (en_ldS (k:= .ptr) (b:=qq) (off:=0) (x:=some ⟨i.b,0,none⟩) (by rw[fa_mk]) tk rfl ?_)
 refine en_nn (en_ldgS (b:=b2) (off:=0) (x:=(h.k,h.c,h.n,h.f,())) [] rfl tk rfl ?_)
 try simp only[lca,lna]
 refine Tr.close (M:=[blk qq [.pointer (some ⟨i.b,0,none⟩),.slice z.a z.n z.c],SLc z 2 (endC y.rows)]) tks (QueA.cl (p:=qq) (hp:=i.b) (rows:=y.rows) hz) ?_
 refine Tr.close tks (RfA.cl (p:=i.r) (q:=qq) (hp:=i.b) (rows:=y.rows) (n:=y.ser)) ?_
 refine Tr.close (M:=capO b1 b2 q h) (A:=star (capO b1 b2 q h)) tks (fun h H=>H) ?_
 refine en_call (object_make i.b y.S y.cs hw h) tks ?_
 rintro x' M ⟨rfl,rfl⟩
 try simp only[lca,lna]
 exact en_rets (x:=((Ob.make y.S y.cs h).1,(Ob.make y.S y.cs h).2.1,())) rfl ⟨rfl,rfl⟩ tks ens
theorem rt_object(i:Pl)(q:Nat)(x:Rt)(h:Hd)(hk:h.k≠4){N:Int}(I:x.Inv N)(hN:N+10<2^49):Gl.Spec ρ Tryz.prog 76 [.pointer (some ⟨q,0,none⟩),hval h] (i.Q q x) P2
  fun r M=>∃y:Ans2,Rx.MadeR (Rx.mk h) x y∧y.2.Inv (N+10)∧r=(y.1.1,y.1.2,())∧M=i.Q q y.2:=by
 refine Gl.Spec.of (fun Q w hh=>F.rt.Runtime.object.calls (some ⟨q,0,none⟩) h.t hh) fun R=> ?_
 unfold F.rt.Runtime.object
 try simp only[lca,lna]
 refine en_nw fun b1=>en_nw fun b2=> ?_
 refine en_ld (k:= .ptr) (b:=b1) (off:=0) (x:=some ⟨q,0,none⟩) rfl tk rfl ?_
 refine Tr.close (M:=[blk b1 [.pointer (some ⟨q,0,none⟩)],blk b2 [.int .i64 h.k,.int .i64 h.c,.int .i64 h.n,.bool h.f]]) (A:=star (capO b1 b2 q h)) tks (fun h H=>H) ?_
 refine en_call (rt_made i q x (star (capO b1 b2 q h)) Tryz.func119 (by kernel_rfl) (Rx.mk h) I hN fun M y Iy hM=>⟨?_,?_⟩) tks ?_
 ·exact rt_object1 i q b1 b2 h y Iy.w.hw
 ·exact{Iy with w:=Iy.w.make hk,ser:=⟨Iy.ser.1,by have:=Iy.ser.2;show y.ser≤_;omega⟩,rn:=⟨Iy.rn.1,by have:=Iy.rn.2;show y.rn≤_;omega⟩,h:=Iy.h.le (by omega)}
 rintro _ _ ⟨y,hy,Iy,rfl,rfl⟩
 try simp only[lca,lna]
 refine Tr.drop (A:=star (capO b1 b2 q h)) tk ?_
 exact en_rets (x:=(y.1.1,y.1.2,())) rfl ⟨y,hy,Iy,rfl,rfl⟩ tks ens
namespace Rx
def listR(x:Rt)(kind a:Int)(y:Ans2):Prop:=if a<0∨a>1023 then y=((0,1),x)else MadeR (mk ⟨kind,0,a,false⟩) x y
end Rx
theorem do_list(i:Pl)(q b1 b2:Nat)(kind k a b c:Int)(x:Rt)(hk:kind≠4){N:Int}(I:x.Inv N)(hN:N+10<2^49):
  Gl.Spec ρ Tryz.prog 77 [opV k a b c,.pointer (some ⟨b1,0,none⟩),.pointer (some ⟨b2,0,none⟩)] (blk b1 [.pointer (some ⟨q,0,none⟩)]::blk b2 [i64 kind]::i.Q q x) P2
  fun r M=>∃y:Ans2,Rx.listR x kind a y∧y.2.Inv (N+10)∧r=(y.1.1,y.1.2,())∧M=blk b1 [.pointer (some ⟨q,0,none⟩)]::blk b2 [i64 kind]::i.Q q y.2:=by
 refine Gl.Spec.of (fun Q w hh=>F.rt.Runtime.list_1.calls (k,a,b,c,()) (some ⟨b1,0,none⟩) (some ⟨b2,0,none⟩) hh) fun R=> ?_
 unfold F.rt.Runtime.list_1
 try simp only[lca,lna]
 refine en_nw fun b3=> ?_
 refine en_ld (k:= .int .i64) (b:=b3) (off:=1) (x:=a) (by rw[fa_mk]) tk rfl ?_
 have bad:(a<0∨a>1023)→Rx.listR x kind a ((0,1),x):=fun h=>by unfold Rx.listR;rw[if_pos h]
 refine en_br (fun e=> ?_) (fun e=> ?_)
 ·have e:a<0:=of_decide_eq_true e
  exact en_rets (x:=((0:Int),(1:Int),())) rfl ⟨((0,1),x),bad (.inl e),I.le (by omega),rfl,rfl⟩ tks ens
 have e1:¬a<0:=of_decide_eq_false e
 refine en_ld (k:= .int .i64) (b:=b3) (off:=1) (x:=a) (by rw[fa_mk]) tk rfl ?_
 refine en_br (fun e=> ?_) (fun e=> ?_)
 ·have e:a>1023:=of_decide_eq_true e
  exact en_rets (x:=((0:Int),(1:Int),())) rfl ⟨((0,1),x),bad (.inr e),I.le (by omega),rfl,rfl⟩ tks ens
 have e2:¬a>1023:=of_decide_eq_false e
 refine en_nn (en_ld (k:= .ptr) (b:=b1) (off:=0) (x:=some ⟨q,0,none⟩) rfl tk rfl ?_)
 refine en_nn (en_ld (k:= .int .i64) (b:=b2) (off:=0) (x:=kind) rfl tk rfl ?_)
 refine en_ld (k:= .int .i64) (b:=b3) (off:=1) (x:=a) (by rw[fa_mk]) tk rfl ?_
 refine en_call (rt_object i q x ⟨kind,0,a,false⟩ hk I hN) tks ?_
 rintro _ _ ⟨y,hy,Iy,rfl,rfl⟩
 try simp only[lca,lna]
 have hy':Rx.listR x kind a y:=by unfold Rx.listR;rw[if_neg (fun g=>g.elim e1 e2)];exact hy
 exact en_rets (x:=(y.1.1,y.1.2,())) rfl ⟨y,hy',Iy,rfl,rfl⟩ tks ens
end Go.Proofs.YtfepdmpplahloaaGreat
