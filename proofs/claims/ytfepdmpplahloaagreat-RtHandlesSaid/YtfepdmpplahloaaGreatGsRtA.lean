/- The runtime's operations, one by one. -/
import Derived.Test.YtfepdmpplahloaaGreatGsL20c
import Derived.Test.YtfepdmpplahloaaGreatGsProc8
import Derived.Test.YtfepdmpplahloaaGreatGsTt
set_option linter.unusedSimpArgs false
set_option linter.unusedVariables false
namespace Go.Proofs.YtfepdmpplahloaaGreat
open Go Go.Gl
variable{ρ0 ρ:FR}{L L':List Asn}{Post:Value→List Asn→Prop}{T:Tree}
namespace Hn
theorem all1_len(hs:List Slot)(i:Nat):(all1 hs i).length=if(at' hs i).2≠0 then 1 else 0:=by unfold all1;split<;>rfl
theorem all_full{hs:List Slot}(n:Nat):((List.range n).flatMap (all1 hs)).length=n↔∀j,j<n→(at' hs j).2≠0:=by
 induction n with
 |zero=>simp
 |succ n ih=>
  have hle:=all_len (hs:=hs) n
  rw[List.range_succ,List.flatMap_append,List.length_append,List.flatMap_singleton,all1_len]
  constructor
  ·intro h j hj
   by_cases e:(at' hs n).2≠0
   ·rw[if_pos e]at h
    by_cases ej:j=n
    ·subst ej;exact e
    ·exact ih.mp (by omega) j (by omega)
   ·rw[if_neg e]at h;omega
  ·intro h
   rw[if_pos (h n (by omega)),ih.mpr fun j hj=>h j (by omega)]
theorem room_iff{hs:List Slot}(hl:hs.length=512):(all hs).length=512↔free hs=none:=by
 unfold all
 rw[hl,all_full]
 constructor
 ·exact fun h=>free_isN fun j hj=>h j (by omega)
 ·exact fun h j hj=>free_none h j (by omega)
end Hn
theorem han_room(p:Nat){hs:List Hn.Slot}(H:Hn.Ok hs):Gl.Spec ρ Tryz.prog 90 [.pointer (some ⟨p,0,none⟩)] [HanA p hs] R1
  fun r M=>r=512-((Hn.all hs).length:Nat)∧M=[HanA p hs]:=by
 refine Gl.Spec.of (fun Q w h=>F.handle.Handles.Room.calls (some ⟨p,0,none⟩) h) fun R=> ?_
 unfold F.handle.Handles.Room
 try simp only[lca,lna]
 have hl:(Hn.all hs).length≤512:=by unfold Hn.all;rw[H.len];exact Hn.all_len 512
 refine en_brf rfl ?_
 refine en_call (han_all p H) tks ?_
 rintro r _ ⟨hr,rfl⟩
 try simp only[lca,lna]
 rw[wrap64 (by omega) (by omega),hr]
 refine Tr.drop (A:=SLc r 2 ((Hn.all hs).flatMap hcs)) tk ?_
 exact en_rets (x:=(512-((Hn.all hs).length:Nat):Int)) rfl ⟨rfl,rfl⟩ tks ens
theorem han_held(p:Nat){hs:List Hn.Slot}(H:Hn.Ok hs)(x:Int):Gl.Spec ρ Tryz.prog 121 [.pointer (some ⟨p,0,none⟩),i64 x] [HanA p hs] P2
  fun r M=>r=((Hn.held hs x).1,(Hn.held hs x).2,())∧M=[HanA p hs]:=by
 refine Gl.Spec.of (fun Q w h=>F.handle.Handles.Held.calls (some ⟨p,0,none⟩) x h) fun R=> ?_
 unfold F.handle.Handles.Held
 try simp only[lca,lna]
 have hl:=H.len
 refine en_call (han_find p H x) tks ?_
 rintro r _ ⟨hr,rfl⟩
 try simp only[lca,lna]
 unfold Hn.held
 cases hf:Hn.find hs x with
 |none=>
  rw[hf]at hr
  refine en_brt (by rw[hr];rfl) ?_
  exact en_rets (x:=((0:Int),(6:Int),())) rfl ⟨rfl,rfl⟩ tks ens
 |some k=>
  rw[hf]at hr
  obtain⟨hk,rfl⟩:=hr
  refine en_brf rfl ?_
  refine en_nn (en_ix (by omega) (by omega) ?_)
  rw[fa_mk,fa_mk,fa_mk]
  rw[show 0+0+(k:Int).toNat*2+1=k*2+1 by omega]
  refine en_ld (k:= .int .i64) (off:=k*2+1) (x:=(Hn.at' hs k).2) rfl tk (hc_get (by omega)).2 ?_
  exact en_rets (x:=((Hn.at' hs k).2,(0:Int),())) rfl ⟨rfl,rfl⟩ tks ens
def Rx.rootR(ro:List Int)(i:Int):Int×Int:=if 0≤i∧i<16 then(ro.getD i.toNat 0,0)else(0,1)
theorem root_root(p:Nat)(ro:List Int)(hl:ro.length=16)(i:Int):Gl.Spec ρ Tryz.prog 84 [.pointer (some ⟨p,0,none⟩),i64 i] [blk p (ro.map i64)] P2
  fun r M=>r=((Rx.rootR ro i).1,(Rx.rootR ro i).2,())∧M=[blk p (ro.map i64)]:=by
 refine Gl.Spec.of (fun Q w h=>F.root.Roots.Root.calls (some ⟨p,0,none⟩) i h) fun R=> ?_
 unfold F.root.Roots.Root
 have hp:Gl.Spec ρ Tryz.prog 128 [.pointer (some ⟨p,0,none⟩),i64 i] [] RB fun r M=>r=decide (0≤i∧i<16)∧M=[]:=by
  refine Gl.Spec.of (fun Q w h=>F.root.Roots.place.calls (some ⟨p,0,none⟩) i h) fun R=> ?_
  unfold F.root.Roots.place
  try simp only[lca,lna]
  refine en_brt rfl (en_br (fun h=> ?_) (fun h=> ?_))
  ·have h':i≥0:=of_decide_eq_true h
   refine en_rets (x:=decide (0≤i∧i<16)) ?_ ⟨rfl,rfl⟩ tks ens
   have:decide (0≤i∧i<16)=decide (i<16):=by rw[decide_eq_decide];omega
   rw[this];rfl
  ·have h':¬i≥0:=of_decide_eq_false h
   refine en_rets (x:=decide (0≤i∧i<16)) ?_ ⟨rfl,rfl⟩ tks ens
   have:decide (0≤i∧i<16)=false:=by rw[decide_eq_false_iff_not];omega
   rw[this];rfl
 try simp only[lca,lna]
 refine en_call hp tks ?_
 rintro x' M ⟨rfl,rfl⟩
 try simp only[lca,lna]
 unfold Rx.rootR
 refine en_br (fun h=> ?_) (fun h=> ?_)
 ·have h':¬(0≤i∧i<16):=by rw[Bool.not_eq_true']at h;exact of_decide_eq_false h
  rw[if_neg h']
  exact en_rets (x:=((0:Int),(1:Int),())) rfl ⟨rfl,rfl⟩ tks ens
 ·have h':0≤i∧i<16:=by rw[Bool.not_eq_false']at h;exact of_decide_eq_true h
  rw[if_pos h']
  refine en_nn (en_ix h'.1 (by have:=h'.2;omega) ?_)
  rw[fa_mk,fa_mk]
  refine en_ld (k:= .int .i64) (off:=0+0+i.toNat*1) (x:=ro.getD i.toNat 0) rfl tk ?_ ?_
  ·rw[show 0+0+i.toNat*1=i.toNat by omega]
   exact getD_map (by omega)
  exact en_rets (x:=(ro.getD i.toNat 0,(0:Int),())) rfl ⟨rfl,rfl⟩ tks ens
theorem rf_heap{p hp:Nat}{rows:List (List Int)}{n:Int}{f:Option Addr→Tree}{a:Addr}(ha:a=⟨p,0,none⟩)(t:Take L (RfA p hp rows n) L')(h:Tr ρ0 ρ (RfA p hp rows n::L') (f (some ⟨hp,0,none⟩)) Post):
  Tr ρ0 ρ L (ld (.l .ptr) a fun x=>nn x fun b=>ld (.l .ptr) (fa b 0) f) Post:=by
 subst ha
 refine RfA.op t fun q=> ?_
 refine en_ld (k:= .ptr) (off:=0) (x:=some ⟨q,0,none⟩) rfl tk rfl ?_
 refine en_nn (que_heap (q:=q) (hp:=hp) (rows:=rows) (by rw[fa_mk]) tk ?_)
 exact Tr.close (M:=[blk p [.pointer (some ⟨q,0,none⟩),i64 n],QueA q hp rows]) tks (RfA.cl (p:=p) (q:=q) (hp:=hp) (rows:=rows) (n:=n)) h
theorem rf_que{p hp:Nat}{rows:List (List Int)}{n:Int}{f:Option Addr→Tree}{a:Addr}(ha:a=⟨p,0,none⟩)(t:Take L (RfA p hp rows n) L')(h:∀q:Nat,Tr ρ0 ρ (blk p [.pointer (some ⟨q,0,none⟩),i64 n]::QueA q hp rows::L') (f (some ⟨q,0,none⟩)) Post):
  Tr ρ0 ρ L (ld (.l .ptr) a f) Post:=by
 subst ha
 refine RfA.op t fun q=> ?_
 exact en_ld (k:= .ptr) (off:=0) (x:=some ⟨q,0,none⟩) rfl tk rfl (h q)
abbrev Pl.Q(i:Pl)(q:Nat)(x:Rt):List Asn:=blk q [.pointer (some ⟨i.p,0,none⟩)]::i.A x
namespace Rx
def giveR(x:Rt)(v:Int):Int×Int:=if v=0 then(0,0)else if Hn.free x.hs=none then(0,3)else Hn.holdR x.hs v
def giveS(x:Rt)(v:Int):Rt:=if v=0 then x else{x with hs:=Hn.holdS x.hs v}
def hld(x:Rt)(h:Int)(orNone:Bool):Int×Int:=if orNone=true∧h=0 then(0,0)else Hn.held x.hs h
def fld(x:Rt)(a k:Int):Int×Bool×Int:=match Ob.head x.S a with
 |none=>(0,false,2)
 |some h=>if h.k=4 then(0,false,5)else if(Ob.get x.S a k).2≠0 then(0,false,(Ob.get x.S a k).2)else((Ob.get x.S a k).1,decide (k∈Ob.refs x.S x.cs a),0)
theorem hold_none{hs:List Hn.Slot}(h:Hn.free hs=none)(v:Int):Hn.holdS hs v=hs:=by
 unfold Hn.holdS;rw[h];split<;>rfl
end Rx
theorem en_room(i:Pl)(x:Rt)(H:Hn.Ok x.hs){k:Int→Tree}(t:Take L (HanA i.h x.hs) L')(h0:Hn.free x.hs=none→Tr ρ0 ρ (HanA i.h x.hs::L') (k 0) Post)(h1:∀r:Int,r≠0→Hn.free x.hs≠none→Tr ρ0 ρ (HanA i.h x.hs::L') (k r) Post):
  Tr ρ0 ρ L (call Tryz.prog 90 [.pointer (some ⟨i.h,0,none⟩)] (.one (.l (.int .i64))) k) Post:=by
 refine en_call (han_room i.h H) (.cons t .nil) ?_
 rintro _ _ ⟨rfl,rfl⟩
 have:=Hn.room_iff H.len
 have hl:(Hn.all x.hs).length≤512:=by unfold Hn.all;rw[H.len];exact Hn.all_len 512
 by_cases e:Hn.free x.hs=none
 ·rw[this.mpr e];exact h0 e
 ·exact h1 _ (fun g=>e (this.mp (by omega))) e
theorem rt_given(i:Pl)(q:Nat)(x:Rt)(H:Hn.Ok x.hs)(v:Int):Gl.Spec ρ Tryz.prog 80 [.pointer (some ⟨q,0,none⟩),i64 v] (i.Q q x) P2
  fun r M=>r=((Rx.giveR x v).1,(Rx.giveR x v).2,())∧M=i.Q q (Rx.giveS x v):=by
 refine Gl.Spec.of (fun Q w h=>F.rt.Runtime.given.calls (some ⟨q,0,none⟩) v h) fun R=> ?_
 unfold F.rt.Runtime.given
 try simp only[lca,lna]
 unfold Rx.giveR Rx.giveS
 refine en_br (fun h=> ?_) (fun h=> ?_)
 ·have h':v=0:=by simpa using h
  rw[if_pos h',if_pos h']
  exact en_rets (x:=((0:Int),(0:Int),())) rfl ⟨rfl,rfl⟩ tks ens
 have h':v≠0:=by simpa using h
 rw[if_neg h',if_neg h']
 refine en_nn ?_
 refine en_ld (k:= .ptr) (b:=q) (off:=0) (x:=some ⟨i.p,0,none⟩) (by rw[fa_mk]) tk rfl ?_
 refine en_nn ?_
 refine en_ld (k:= .ptr) (b:=i.p) (off:=1) (x:=some ⟨i.h,0,none⟩) (by rw[fa_mk]) tk rfl ?_
 refine en_room i x H tk (fun e=> ?_) (fun r hr e=> ?_)
 ·rw[if_pos e,Rx.hold_none e]
  refine en_brt rfl ?_
  exact en_rets (x:=((0:Int),(3:Int),())) rfl ⟨rfl,rfl⟩ tks ens
 ·rw[if_neg e]
  refine en_brf (by simpa using hr) ?_
  refine en_nn ?_
  refine en_ld (k:= .ptr) (b:=q) (off:=0) (x:=some ⟨i.p,0,none⟩) (by rw[fa_mk]) tk rfl ?_
  refine en_nn ?_
  refine en_ld (k:= .ptr) (b:=i.p) (off:=1) (x:=some ⟨i.h,0,none⟩) (by rw[fa_mk]) tk rfl ?_
  refine en_call (han_hold i.h H v) tks ?_
  rintro x' M ⟨rfl,rfl⟩
  try simp only[lca,lna]
  exact en_rets (x:=((Hn.holdR x.hs v).1,(Hn.holdR x.hs v).2,())) rfl ⟨rfl,rfl⟩ tks ens
theorem rt_held(i:Pl)(q:Nat)(x:Rt)(H:Hn.Ok x.hs)(h:Int)(orNone:Bool):Gl.Spec ρ Tryz.prog 78 [.pointer (some ⟨q,0,none⟩),i64 h,.bool orNone] (i.Q q x) P2
  fun r M=>r=((Rx.hld x h orNone).1,(Rx.hld x h orNone).2,())∧M=i.Q q x:=by
 refine Gl.Spec.of (fun Q w hh=>F.rt.Runtime.held.calls (some ⟨q,0,none⟩) h orNone hh) fun R=> ?_
 unfold F.rt.Runtime.held
 try simp only[lca,lna]
 unfold Rx.hld
 have go:∀{e:Int×Int},e=Hn.held x.hs h→Tr ρ ρ (i.Q q x++R) (nn (some ⟨q,0,none⟩) fun a1=>ld (.l .ptr) (fa a1 0) fun(x2:Option Addr)=>nn x2 fun a3=>ld (.l .ptr) (fa a3 1) fun(x4:Option Addr)=>call Tryz.prog 121 [.pointer x4,.int .i64 h] (.many [.l (.int .i64),.l (.int .i64)]) fun(r5:KTs _)=>ret (.tuple #[.int .i64 r5.1,.int .i64 r5.2.1]))
   (SP P2 (fun r M=>r=(e.1,e.2,())∧M=i.Q q x) R):=fun{e} he=>by
  subst he
  try simp only[lca,lna]
  refine en_nn ?_
  refine en_ld (k:= .ptr) (b:=q) (off:=0) (x:=some ⟨i.p,0,none⟩) (by rw[fa_mk]) tk rfl ?_
  refine en_nn ?_
  refine en_ld (k:= .ptr) (b:=i.p) (off:=1) (x:=some ⟨i.h,0,none⟩) (by rw[fa_mk]) tk rfl ?_
  refine en_call (han_held i.h H h) tks ?_
  rintro x' M ⟨rfl,rfl⟩
  try simp only[lca,lna]
  exact en_rets (x:=((Hn.held x.hs h).1,(Hn.held x.hs h).2,())) rfl ⟨rfl,rfl⟩ tks ens
 refine en_br (fun h1=> ?_) (fun h1=> ?_)
 ·refine en_br (fun h2=> ?_) (fun h2=> ?_)
  ·rw[if_pos ⟨h1,by simpa using h2⟩]
   exact en_rets (x:=((0:Int),(0:Int),())) rfl ⟨rfl,rfl⟩ tks ens
  ·exact go (if_neg fun g=>by simp[g.2]at h2)
 ·exact go (if_neg fun g=>by simp[g.1]at h1)
abbrev IBI:RK:= .many [.l (.int .i64),.l .bool,.l (.int .i64)]
theorem rt_field(i:Pl)(q:Nat)(x:Rt)(hw:HWf x.S x.cs)(a k:Int):Gl.Spec ρ Tryz.prog 79 [.pointer (some ⟨q,0,none⟩),i64 a,i64 k] (i.Q q x) IBI
  fun r M=>r=((Rx.fld x a k).1,(Rx.fld x a k).2.1,(Rx.fld x a k).2.2,())∧M=i.Q q x:=by
 refine Gl.Spec.of (fun Q w hh=>F.rt.Runtime.field.calls (some ⟨q,0,none⟩) a k hh) fun R=> ?_
 unfold F.rt.Runtime.field
 try simp only[lca,lna]
 refine en_nn ?_
 refine en_ld (k:= .ptr) (b:=q) (off:=0) (x:=some ⟨i.p,0,none⟩) (by rw[fa_mk]) tk rfl ?_
 refine en_nn ?_
 refine en_ld (k:= .ptr) (b:=i.p) (off:=0) (x:=some ⟨i.r,0,none⟩) (by rw[fa_mk]) tk rfl ?_
 refine en_nn (rf_heap (p:=i.r) (hp:=i.b) (rows:=x.rows) (n:=x.ser) (by rw[fa_mk]) tk ?_)
 refine en_call (object_head i.b x.S x.cs hw a) tks ?_
 rintro x' M ⟨rfl,rfl⟩
 try simp only[lca,lna]
 refine en_nw fun b10=> ?_
 rw[show zc Tryz.prog 103=[.int .i64 0,.int .i64 0,.int .i64 0,.bool false] by kernel_rfl]
 refine en_st (b:=b10) (off:=0) rfl tk (by simp) rfl ?_
 unfold Rx.fld
 cases hh:Ob.head x.S a with
 |none=>
  refine en_brt rfl ?_
  exact en_rets (x:=((0:Int),false,(2:Int),())) rfl ⟨rfl,rfl⟩ tks ens
 |some h=>
  dsimp only
  refine en_brf rfl ?_
  refine en_ld (k:= .int .i64) (b:=b10) (off:=0) (x:=h.k) (by rw[fa_mk]) tk rfl ?_
  refine en_br (fun h1=> ?_) (fun h1=> ?_)
  ·have h1:h.k=4:=by simpa using h1
   rw[if_pos h1]
   exact en_rets (x:=((0:Int),false,(5:Int),())) rfl ⟨rfl,rfl⟩ tks ens
  ·have h1:h.k≠4:=by simpa using h1
   rw[if_neg h1]
   refine en_nn ?_
   refine en_ld (k:= .ptr) (b:=q) (off:=0) (x:=some ⟨i.p,0,none⟩) (by rw[fa_mk]) tk rfl ?_
   refine en_nn ?_
   refine en_ld (k:= .ptr) (b:=i.p) (off:=0) (x:=some ⟨i.r,0,none⟩) (by rw[fa_mk]) tk rfl ?_
   refine en_nn (rf_heap (p:=i.r) (hp:=i.b) (rows:=x.rows) (n:=x.ser) (by rw[fa_mk]) tk ?_)
   refine en_call (object_get i.b x.S x.cs hw a k) tks ?_
   rintro x' M ⟨rfl,rfl⟩
   try simp only[lca,lna]
   refine en_br (fun h2=> ?_) (fun h2=> ?_)
   ·have h2:(Ob.get x.S a k).2≠0:=by simpa using h2
    rw[if_pos h2]
    exact en_rets (x:=((0:Int),false,(Ob.get x.S a k).2,())) rfl ⟨rfl,rfl⟩ tks ens
   ·have h2:(Ob.get x.S a k).2=0:=by simpa using h2
    rw[if_neg (fun g=>g h2)]
    refine en_nn ?_
    refine en_ld (k:= .ptr) (b:=q) (off:=0) (x:=some ⟨i.p,0,none⟩) (by rw[fa_mk]) tk rfl ?_
    refine en_nn ?_
    refine en_ld (k:= .ptr) (b:=i.p) (off:=0) (x:=some ⟨i.r,0,none⟩) (by rw[fa_mk]) tk rfl ?_
    refine en_nn (rf_heap (p:=i.r) (hp:=i.b) (rows:=x.rows) (n:=x.ser) (by rw[fa_mk]) tk ?_)
    refine en_call (object_refs i.b x.S x.cs hw a) tks ?_
    rintro r _ ⟨hr,rfl⟩
    try simp only[lca,lna]
    have hrl:(Ob.refs x.S x.cs a).length<2^40:=refs_len hw a
    refine en_call (int_contains (A:=[SLc r 1 ((Ob.refs x.S x.cs a).map i64)]) r (Ob.refs x.S x.cs a) (Rd.sl .here (by rw[List.length_map];omega)) (by omega) k) tks ?_
    rintro _ _ ⟨rfl,rfl⟩
    try simp only[lca,lna]
    refine Tr.drop (A:=SLc r 1 ((Ob.refs x.S x.cs a).map i64)) tk ?_
    exact en_rets (x:=((Ob.get x.S a k).1,decide (k∈Ob.refs x.S x.cs a),(0:Int),())) rfl ⟨rfl,rfl⟩ tks ens
end Go.Proofs.YtfepdmpplahloaaGreat
namespace Go.Proofs.YtfepdmpplahloaaGreat
open Go Go.Gl
variable{ρ0 ρ:FR}{L L':List Asn}{Post:Value→List Asn→Prop}{T:Tree}
abbrev opV(k a b c:Int):Value:= .agg #[i64 k,i64 a,i64 b,i64 c]
abbrev Ans2:=(Int×Int)×Rt
namespace Rx
variable(x:Rt)
def by'(h:Int)(f:Int→Ans2):Ans2:=if(hld x h false).2≠0 then((0,(hld x h false).2),x)else f (hld x h false).1
def byN(h:Int)(f:Int→Ans2):Ans2:=if(hld x h true).2≠0 then((0,(hld x h true).2),x)else f (hld x h true).1
def get(a b:Int):Ans2:=by' x a fun at'=>if(fld x at' b).2.2≠0∨(fld x at' b).2.1=false then(((fld x at' b).1,(fld x at' b).2.2),x)else(giveR x (fld x at' b).1,giveS x (fld x at' b).1)
def set(a b c:Int):Ans2:=by' x a fun at'=>byN x c fun to=>if(fld x at' b).2.2≠0 then((0,(fld x at' b).2.2),x)else if(fld x at' b).2.1=false then((0,5),x)else
 ((0,(Ob.put x.S at' b to).1),{x with S:=(Ob.put x.S at' b to).2})
def drop(a:Int):Ans2:=((0,Hn.dropE x.hs a),{x with hs:=Hn.dropS x.hs a})
def placeE(i a:Int):Int:=if(0≤i∧i<16)∧0≤a then 0 else 1
def placeS(ro:List Int)(i a:Int):List Int:=if(0≤i∧i<16)∧0≤a then ro.set i.toNat a else ro
def root(a b:Int):Ans2:=byN x b fun at'=>((0,placeE a at'),{x with ro:=placeS x.ro a at'})
def take(a:Int):Ans2:=if(rootR x.ro a).2≠0 then((0,(rootR x.ro a).2),x)else(giveR x (rootR x.ro a).1,giveS x (rootR x.ro a).1)
def enqueue(a:Int):Ans2:=by' x a fun at'=>(if(Rf.enq x.S x.rows at').1.2≠0∨(Rf.enq x.S x.rows at').1.1=false then(0,(Rf.enq x.S x.rows at').1.2)else(1,0),{x with S:=(Rf.enq x.S x.rows at').2.1,rows:=(Rf.enq x.S x.rows at').2.2})
def open':Ans2:=(if x.rows.length=8 then(0,3)else((x.rows.length:Nat),0),{x with rows:=if x.rows.length=8 then x.rows else x.rows++[[]]})
def poll(a:Int):Ans2:=if Qu.has x.rows a=false then((0,2),x)else if Qu.row x.rows a=[]then((0,0),x)else if Hn.free x.hs=none then((0,3),x)else
 if(Qu.pollR x.rows a).2≠0 then((0,(Qu.pollR x.rows a).2),{x with S:=Qu.pollS x.S x.rows a,rows:=Qu.pollQ x.rows a})else
 (giveR {x with S:=Qu.pollS x.S x.rows a,rows:=Qu.pollQ x.rows a} (Qu.pollR x.rows a).1,giveS {x with S:=Qu.pollS x.S x.rows a,rows:=Qu.pollQ x.rows a} (Qu.pollR x.rows a).1)
def counts:List Int:=[x.used,x.free,(x.pe.length:Nat),((Sp.each x.S).length:Nat),x.rn]
def count(a:Int):Ans2:=if a<0∨a≥5 then((0,1),x)else(((counts x).getD a.toNat 0,0),x)
end Rx
abbrev Does(ρ:FR)(f:FuncId)(i:Pl)(q:Nat)(k a b c:Int)(x:Rt)(y:Ans2):Prop:=
 Gl.Spec ρ Tryz.prog f [.pointer (some ⟨q,0,none⟩),opV k a b c] (i.Q q x) P2 fun r M=>r=(y.1.1,y.1.2,())∧M=i.Q q y.2
variable(i:Pl)(q:Nat)(k a b c:Int)(x:Rt)(H:x.Ok)
include H
theorem do_get:Does ρ 43 i q k a b c x (Rx.get x a b):=by
 refine Gl.Spec.of (fun Q w hh=>F.rt.Runtime.get.calls (some ⟨q,0,none⟩) (k,a,b,c,()) hh) fun R=> ?_
 unfold F.rt.Runtime.get
 try simp only[lca,lna]
 refine en_nw fun b1=> ?_
 refine en_ld (k:= .int .i64) (b:=b1) (off:=1) (x:=a) (by rw[fa_mk]) tk rfl ?_
 refine en_call (rt_held i q x H.hs a false) tks ?_
 rintro x' M ⟨rfl,rfl⟩
 try simp only[lca,lna]
 unfold Rx.get Rx.by'
 generalize Rx.hld x a false=h
 refine en_br (fun e=> ?_) (fun e=> ?_)
 ·have e:h.2≠0:=by simpa using e
  rw[if_pos e]
  exact en_rets (x:=((0:Int),h.2,())) rfl ⟨rfl,rfl⟩ tks ens
 have e:h.2=0:=by simpa using e
 rw[if_neg (fun g=>g e)]
 refine en_ld (k:= .int .i64) (b:=b1) (off:=2) (x:=b) (by rw[fa_mk]) tk rfl ?_
 refine en_call (rt_field i q x H.hw h.1 b) tks ?_
 rintro x' M ⟨rfl,rfl⟩
 try simp only[lca,lna]
 generalize Rx.fld x h.1 b=f
 refine en_br (fun e1=> ?_) (fun e1=> ?_)
 ·have e1:f.2.2≠0:=by simpa using e1
  rw[if_pos (.inl e1)]
  exact en_rets (x:=(f.1,f.2.2,())) rfl ⟨rfl,rfl⟩ tks ens
 have e1:f.2.2=0:=by simpa using e1
 refine en_br (fun e2=> ?_) (fun e2=> ?_)
 ·have e2:f.2.1=false:=by simpa using e2
  rw[if_pos (.inr e2)]
  exact en_rets (x:=(f.1,f.2.2,())) rfl ⟨rfl,rfl⟩ tks ens
 have e2:f.2.1=true:=by simpa using e2
 rw[if_neg (by rw[e1,e2];simp)]
 refine en_call (rt_given i q x H.hs f.1) tks ?_
 rintro x' M ⟨rfl,rfl⟩
 try simp only[lca,lna]
 exact en_rets (x:=((Rx.giveR x f.1).1,(Rx.giveR x f.1).2,())) rfl ⟨rfl,rfl⟩ tks ens
theorem do_set:Does ρ 44 i q k a b c x (Rx.set x a b c):=by
 refine Gl.Spec.of (fun Q w hh=>F.rt.Runtime.set.calls (some ⟨q,0,none⟩) (k,a,b,c,()) hh) fun R=> ?_
 unfold F.rt.Runtime.set
 try simp only[lca,lna]
 refine en_nw fun b1=> ?_
 refine en_ld (k:= .int .i64) (b:=b1) (off:=1) (x:=a) (by rw[fa_mk]) tk rfl ?_
 refine en_call (rt_held i q x H.hs a false) tks ?_
 rintro x' M ⟨rfl,rfl⟩
 try simp only[lca,lna]
 unfold Rx.set Rx.by' Rx.byN
 generalize Rx.hld x a false=h
 refine en_br (fun e=> ?_) (fun e=> ?_)
 ·have e:h.2≠0:=by simpa using e
  rw[if_pos e]
  exact en_rets (x:=((0:Int),h.2,())) rfl ⟨rfl,rfl⟩ tks ens
 have e:h.2=0:=by simpa using e
 rw[if_neg (fun g=>g e)]
 refine en_ld (k:= .int .i64) (b:=b1) (off:=3) (x:=c) (by rw[fa_mk]) tk rfl ?_
 refine en_call (rt_held i q x H.hs c true) tks ?_
 rintro x' M ⟨rfl,rfl⟩
 try simp only[lca,lna]
 generalize Rx.hld x c true=t
 refine en_br (fun e=> ?_) (fun e=> ?_)
 ·have e:t.2≠0:=by simpa using e
  rw[if_pos e]
  exact en_rets (x:=((0:Int),t.2,())) rfl ⟨rfl,rfl⟩ tks ens
 have e:t.2=0:=by simpa using e
 rw[if_neg (fun g=>g e)]
 refine en_ld (k:= .int .i64) (b:=b1) (off:=2) (x:=b) (by rw[fa_mk]) tk rfl ?_
 refine en_call (rt_field i q x H.hw h.1 b) tks ?_
 rintro x' M ⟨rfl,rfl⟩
 try simp only[lca,lna]
 generalize Rx.fld x h.1 b=f
 refine en_br (fun e1=> ?_) (fun e1=> ?_)
 ·have e1:f.2.2≠0:=by simpa using e1
  rw[if_pos e1]
  exact en_rets (x:=((0:Int),f.2.2,())) rfl ⟨rfl,rfl⟩ tks ens
 have e1:f.2.2=0:=by simpa using e1
 rw[if_neg (fun g=>g e1)]
 refine en_br (fun e2=> ?_) (fun e2=> ?_)
 ·have e2:f.2.1=false:=by simpa using e2
  rw[if_pos e2]
  exact en_rets (x:=((0:Int),(5:Int),())) rfl ⟨rfl,rfl⟩ tks ens
 have e2:f.2.1=true:=by simpa using e2
 rw[if_neg (by rw[e2];simp)]
 refine en_drw ?_
 refine en_nn ?_
 refine en_ld (k:= .ptr) (b:=q) (off:=0) (x:=some ⟨i.p,0,none⟩) (by rw[fa_mk]) tk rfl ?_
 refine en_nn ?_
 refine en_ld (k:= .ptr) (b:=i.p) (off:=0) (x:=some ⟨i.r,0,none⟩) (by rw[fa_mk]) tk rfl ?_
 refine en_nn (rf_heap (p:=i.r) (hp:=i.b) (rows:=x.rows) (n:=x.ser) (by rw[fa_mk]) tk ?_)
 refine en_ld (k:= .int .i64) (b:=b1) (off:=2) (x:=b) (by rw[fa_mk]) tk rfl ?_
 refine en_call (object_put i.b x.S x.cs H.hw h.1 b t.1) tks ?_
 rintro x' M ⟨rfl,rfl⟩
 try simp only[lca,lna]
 exact en_rets (x:=((0:Int),(Ob.put x.S h.1 b t.1).1,())) rfl ⟨rfl,rfl⟩ tks ens
theorem do_drop:Does ρ 46 i q k a b c x (Rx.drop x a):=by
 refine Gl.Spec.of (fun Q w hh=>F.rt.Runtime.drop.calls (some ⟨q,0,none⟩) (k,a,b,c,()) hh) fun R=> ?_
 unfold F.rt.Runtime.drop
 try simp only[lca,lna]
 refine en_nw fun b1=>en_drw ?_
 refine en_nn ?_
 refine en_ld (k:= .ptr) (b:=q) (off:=0) (x:=some ⟨i.p,0,none⟩) (by rw[fa_mk]) tk rfl ?_
 refine en_nn ?_
 refine en_ld (k:= .ptr) (b:=i.p) (off:=1) (x:=some ⟨i.h,0,none⟩) (by rw[fa_mk]) tk rfl ?_
 refine en_ld (k:= .int .i64) (b:=b1) (off:=1) (x:=a) (by rw[fa_mk]) tk rfl ?_
 refine en_call (han_drop i.h H.hs a) tks ?_
 rintro x' M ⟨rfl,rfl⟩
 try simp only[lca,lna]
 exact en_rets (x:=((0:Int),Hn.dropE x.hs a,())) rfl ⟨rfl,rfl⟩ tks ens
theorem do_root:Does ρ 47 i q k a b c x (Rx.root x a b):=by
 refine Gl.Spec.of (fun Q w hh=>F.rt.Runtime.root.calls (some ⟨q,0,none⟩) (k,a,b,c,()) hh) fun R=> ?_
 unfold F.rt.Runtime.root
 try simp only[lca,lna]
 refine en_nw fun b1=> ?_
 refine en_ld (k:= .int .i64) (b:=b1) (off:=2) (x:=b) (by rw[fa_mk]) tk rfl ?_
 refine en_call (rt_held i q x H.hs b true) tks ?_
 rintro x' M ⟨rfl,rfl⟩
 try simp only[lca,lna]
 unfold Rx.root Rx.byN
 generalize Rx.hld x b true=h
 refine en_br (fun e=> ?_) (fun e=> ?_)
 ·have e:h.2≠0:=by simpa using e
  rw[if_pos e]
  exact en_rets (x:=((0:Int),h.2,())) rfl ⟨rfl,rfl⟩ tks ens
 have e:h.2=0:=by simpa using e
 rw[if_neg (fun g=>g e)]
 refine en_drw ?_
 refine en_nn ?_
 refine en_ld (k:= .ptr) (b:=q) (off:=0) (x:=some ⟨i.p,0,none⟩) (by rw[fa_mk]) tk rfl ?_
 refine en_nn ?_
 refine en_ld (k:= .ptr) (b:=i.p) (off:=2) (x:=some ⟨i.o,0,none⟩) (by rw[fa_mk]) tk rfl ?_
 refine en_ld (k:= .int .i64) (b:=b1) (off:=1) (x:=a) (by rw[fa_mk]) tk rfl ?_
 refine en_call (root_place i.o x.ro H.ro a h.1) tks ?_
 rintro x' M ⟨rfl,rfl⟩
 try simp only[lca,lna]
 exact en_rets (x:=((0:Int),Rx.placeE a h.1,())) rfl ⟨rfl,rfl⟩ tks ens
theorem do_take:Does ρ 48 i q k a b c x (Rx.take x a):=by
 refine Gl.Spec.of (fun Q w hh=>F.rt.Runtime.take.calls (some ⟨q,0,none⟩) (k,a,b,c,()) hh) fun R=> ?_
 unfold F.rt.Runtime.take
 try simp only[lca,lna]
 refine en_nw fun b1=> ?_
 refine en_drw (en_held [blk q [.pointer (some ⟨i.p,0,none⟩)],blk i.p (i.cs x),blk b1 [i64 k,i64 a,i64 b,i64 c]] tks ?_)
 refine en_nn (en_ldS (k:= .ptr) (b:=q) (off:=0) (x:=some ⟨i.p,0,none⟩) (by rw[fa_mk]) tk rfl ?_)
 refine en_nn (en_ldS (k:= .ptr) (b:=i.p) (off:=2) (x:=some ⟨i.o,0,none⟩) (by rw[fa_mk]) tk rfl ?_)
 refine en_ldS (k:= .int .i64) (b:=b1) (off:=1) (x:=a) (by rw[fa_mk]) tk rfl ?_
 try simp only[lca,lna]
 refine en_call (root_root i.o x.ro H.ro a) tks ?_
 rintro x' M ⟨rfl,rfl⟩
 try simp only[lca,lna]
 unfold Rx.take
 refine en_br (fun e=> ?_) (fun e=> ?_)
 ·have e:(Rx.rootR x.ro a).2≠0:=by simpa using e
  rw[if_pos e]
  exact en_rets (x:=((0:Int),(Rx.rootR x.ro a).2,())) rfl ⟨rfl,rfl⟩ tks ens
 have e:(Rx.rootR x.ro a).2=0:=by simpa using e
 rw[if_neg (fun g=>g e)]
 refine en_call (rt_given i q x H.hs (Rx.rootR x.ro a).1) tks ?_
 rintro x' M ⟨rfl,rfl⟩
 try simp only[lca,lna]
 exact en_rets (x:=((Rx.giveR x (Rx.rootR x.ro a).1).1,(Rx.giveR x (Rx.rootR x.ro a).1).2,())) rfl ⟨rfl,rfl⟩ tks ens
theorem do_enqueue(hq:QB x.S):Does ρ 52 i q k a b c x (Rx.enqueue x a):=by
 refine Gl.Spec.of (fun Q w hh=>F.rt.Runtime.enqueue.calls (some ⟨q,0,none⟩) (k,a,b,c,()) hh) fun R=> ?_
 unfold F.rt.Runtime.enqueue
 try simp only[lca,lna]
 refine en_nw fun b1=> ?_
 refine en_ld (k:= .int .i64) (b:=b1) (off:=1) (x:=a) (by rw[fa_mk]) tk rfl ?_
 refine en_call (rt_held i q x H.hs a false) tks ?_
 rintro x' M ⟨rfl,rfl⟩
 try simp only[lca,lna]
 unfold Rx.enqueue Rx.by'
 generalize Rx.hld x a false=h
 refine en_br (fun e=> ?_) (fun e=> ?_)
 ·have e:h.2≠0:=by simpa using e
  rw[if_pos e]
  exact en_rets (x:=((0:Int),h.2,())) rfl ⟨rfl,rfl⟩ tks ens
 have e:h.2=0:=by simpa using e
 rw[if_neg (fun g=>g e)]
 refine en_nn ?_
 refine en_ld (k:= .ptr) (b:=q) (off:=0) (x:=some ⟨i.p,0,none⟩) (by rw[fa_mk]) tk rfl ?_
 refine en_nn ?_
 refine en_ld (k:= .ptr) (b:=i.p) (off:=0) (x:=some ⟨i.r,0,none⟩) (by rw[fa_mk]) tk rfl ?_
 have hz:=nz_of H.rows
 refine en_call (rfs_enqueue i.r i.b x.S x.cs H.hw x.rows hz x.ser h.1 (enq_ok H.hw hq hz h.1).2.2.2) tks ?_
 rintro x' M ⟨rfl,rfl⟩
 try simp only[lca,lna]
 generalize Rf.enq x.S x.rows h.1=y
 refine en_br (fun e1=> ?_) (fun e1=> ?_)
 ·have e1:y.1.2≠0:=by simpa using e1
  rw[if_pos (.inl e1)]
  exact en_rets (x:=((0:Int),y.1.2,())) rfl ⟨rfl,rfl⟩ tks ens
 have e1:y.1.2=0:=by simpa using e1
 refine en_br (fun e2=> ?_) (fun e2=> ?_)
 ·have e2:y.1.1=false:=by simpa using e2
  rw[if_pos (.inr e2)]
  exact en_rets (x:=((0:Int),y.1.2,())) rfl ⟨rfl,rfl⟩ tks ens
 have e2:y.1.1=true:=by simpa using e2
 rw[if_neg (by rw[e1,e2];simp)]
 exact en_rets (x:=((1:Int),(0:Int),())) rfl ⟨rfl,rfl⟩ tks ens
theorem do_open:Does ρ 53 i q k a b c x (Rx.open' x):=by
 refine Gl.Spec.of (fun Q w hh=>F.rt.Runtime.open.calls (some ⟨q,0,none⟩) (k,a,b,c,()) hh) fun R=> ?_
 unfold F.rt.Runtime.open
 try simp only[lca,lna]
 refine en_nw fun b1=> ?_
 refine en_nn ?_
 refine en_ld (k:= .ptr) (b:=q) (off:=0) (x:=some ⟨i.p,0,none⟩) (by rw[fa_mk]) tk rfl ?_
 refine en_nn ?_
 refine en_ld (k:= .ptr) (b:=i.p) (off:=0) (x:=some ⟨i.r,0,none⟩) (by rw[fa_mk]) tk rfl ?_
 refine en_nn (rf_que (p:=i.r) (hp:=i.b) (rows:=x.rows) (n:=x.ser) (by rw[fa_mk]) tk fun qq=> ?_)
 refine en_call (que_open qq i.b x.rows H.rows.few) tks ?_
 rintro x' M ⟨rfl,rfl⟩
 try simp only[lca,lna]
 refine Tr.close (M:=[blk i.r [.pointer (some ⟨qq,0,none⟩),i64 x.ser],QueA qq i.b (if x.rows.length=8 then x.rows else x.rows++[[]])]) tks (RfA.cl (p:=i.r) (q:=qq) (hp:=i.b) (rows:=if x.rows.length=8 then x.rows else x.rows++[[]]) (n:=x.ser)) ?_
 unfold Rx.open'
 by_cases e:x.rows.length=8
 ·simp only[if_pos e]
  exact en_rets (x:=((0:Int),(3:Int),())) rfl ⟨rfl,rfl⟩ tks ens
 ·simp only[if_neg e]
  exact en_rets (x:=(((x.rows.length:Nat):Int),(0:Int),())) rfl ⟨rfl,rfl⟩ tks ens
end Go.Proofs.YtfepdmpplahloaaGreat
namespace Go.Proofs.YtfepdmpplahloaaGreat
open Go Go.Gl
variable{ρ0 ρ:FR}{L L':List Asn}{Post:Value→List Asn→Prop}{T:Tree}
theorem que_list0(p hp:Nat)(rows:List (List Int))(i:Int)(h':Qu.has rows i=false):Gl.Spec ρ Tryz.prog 66 [.pointer (some ⟨p,0,none⟩),i64 i] [QueA p hp rows] SE
  fun r M=>r=(⟨none,0,0⟩,2,())∧M=[QueA p hp rows]:=by
 refine Gl.Spec.of (fun Q w h=>F.queue.Queues.List.calls (some ⟨p,0,none⟩) i h) fun R=> ?_
 unfold F.queue.Queues.List
 try simp only[lca,lna]
 refine en_call (que_has p hp rows i) tks ?_
 rintro x' M ⟨rfl,rfl⟩
 try simp only[lca,lna]
 refine en_brt (by rw[h'];rfl) ?_
 exact en_rets (x:=((⟨none,0,0⟩:Slc),(2:Int),())) rfl ⟨rfl,rfl⟩ tks ens
theorem do_poll(i:Pl)(q:Nat)(k a b c:Int)(x:Rt)(H:x.Ok):Does ρ 54 i q k a b c x (Rx.poll x a):=by
 refine Gl.Spec.of (fun Q w hh=>F.rt.Runtime.poll.calls (some ⟨q,0,none⟩) (k,a,b,c,()) hh) fun R=> ?_
 unfold F.rt.Runtime.poll
 try simp only[lca,lna]
 refine en_nw fun b1=> ?_
 refine RfA.op (p:=i.r) (hp:=i.b) (rows:=x.rows) (n:=x.ser) tk fun qq=> ?_
 refine en_drw (en_held [blk q [.pointer (some ⟨i.p,0,none⟩)],blk i.p (i.cs x),blk b1 [i64 k,i64 a,i64 b,i64 c],blk i.r [.pointer (some ⟨qq,0,none⟩),i64 x.ser]] tks ?_)
 refine en_nn (en_ldS (k:= .ptr) (b:=q) (off:=0) (x:=some ⟨i.p,0,none⟩) (by rw[fa_mk]) tk rfl ?_)
 refine en_nn (en_ldS (k:= .ptr) (b:=i.p) (off:=0) (x:=some ⟨i.r,0,none⟩) (by rw[fa_mk]) tk rfl ?_)
 refine en_nn (en_ldS (k:= .ptr) (b:=i.r) (off:=0) (x:=some ⟨qq,0,none⟩) (by rw[fa_mk]) tk rfl ?_)
 refine en_ldS (k:= .int .i64) (b:=b1) (off:=1) (x:=a) (by rw[fa_mk]) tk rfl ?_
 try simp only[lca,lna]
 unfold Rx.poll
 have cl:∀{rows:List (List Int)} {S:Spc} {T:Tree} {P:Value→List Asn→Prop} {L L':List Asn},Takes L [blk i.r [.pointer (some ⟨qq,0,none⟩),i64 x.ser],QueA qq i.b rows] L'→Tr ρ ρ (RfA i.r i.b rows x.ser::L') T P→Tr ρ ρ L T P:=fun t h=>
  Tr.close t (RfA.cl (p:=i.r) (q:=qq) (hp:=i.b) (n:=x.ser)) h
 cases hh:Qu.has x.rows a with
 |false=>
  refine en_call (que_list0 qq i.b x.rows a hh) tks ?_
  rintro x' M ⟨rfl,rfl⟩
  try simp only[lca,lna]
  refine en_brt rfl ?_
  rw[if_pos trivial]
  refine cl (S:=x.S) tks ?_
  exact en_rets (x:=((0:Int),(2:Int),())) rfl ⟨rfl,rfl⟩ tks ens
 |true=>
  have hm:=row_mem hh
  have hlen:=H.rows.len _ hm
  refine en_call (que_list qq i.b x.S x.cs H.hw x.rows a hh (H.rows.lk _ hm) (by omega)) tks ?_
  rintro _ _ ⟨s,rfl,hs,rfl⟩
  try simp only[lca,lna]
  rw[if_neg (by decide)]
  refine en_brf rfl ?_
  refine en_br (fun e=> ?_) (fun e=> ?_)
  ·have e:((s.n:Nat):Int)=0:=by simpa using e
   rw[if_pos (List.eq_nil_of_length_eq_zero (by omega))]
   refine cl (S:=x.S) tks ?_
   exact en_rets (x:=((0:Int),(0:Int),())) rfl ⟨rfl,rfl⟩ tks ens
  have e:¬((s.n:Nat):Int)=0:=by simpa using e
  rw[if_neg (fun g=>by rw[g]at hs;exact e (by rw[hs];rfl))]
  refine en_nn ?_
  refine en_ld (k:= .ptr) (b:=q) (off:=0) (x:=some ⟨i.p,0,none⟩) (by rw[fa_mk]) tk rfl ?_
  refine en_nn ?_
  refine en_ld (k:= .ptr) (b:=i.p) (off:=1) (x:=some ⟨i.h,0,none⟩) (by rw[fa_mk]) tk rfl ?_
  refine en_room i x H.hs tk (fun e=> ?_) (fun r hr e=> ?_)
  ·rw[if_pos e]
   refine en_brt rfl ?_
   refine cl (S:=x.S) tks ?_
   exact en_rets (x:=((0:Int),(3:Int),())) rfl ⟨rfl,rfl⟩ tks ens
  rw[if_neg e]
  refine en_brf (by simpa using hr) ?_
  refine en_drw (en_held [blk q [.pointer (some ⟨i.p,0,none⟩)],blk i.p (i.cs x),blk b1 [i64 k,i64 a,i64 b,i64 c],blk i.r [.pointer (some ⟨qq,0,none⟩),i64 x.ser]] tks ?_)
  refine en_nn (en_ldS (k:= .ptr) (b:=q) (off:=0) (x:=some ⟨i.p,0,none⟩) (by rw[fa_mk]) tk rfl ?_)
  refine en_nn (en_ldS (k:= .ptr) (b:=i.p) (off:=0) (x:=some ⟨i.r,0,none⟩) (by rw[fa_mk]) tk rfl ?_)
  refine en_nn (en_ldS (k:= .ptr) (b:=i.r) (off:=0) (x:=some ⟨qq,0,none⟩) (by rw[fa_mk]) tk rfl ?_)
  refine en_ldS (k:= .int .i64) (b:=b1) (off:=1) (x:=a) (by rw[fa_mk]) tk rfl ?_
  try simp only[lca,lna]
  refine en_call (que_poll qq i.b x.S x.cs H.hw x.rows H.rows.lk a) tks ?_
  rintro x' M ⟨rfl,rfl⟩
  try simp only[lca,lna]
  refine cl (S:=x.S) tks ?_
  generalize Qu.pollR x.rows a=y
  generalize Qu.pollS x.S x.rows a=S'
  generalize Qu.pollQ x.rows a=rows'
  refine Tr.drop (A:=SLc s 1 ((Qu.row x.rows a).map i64)) tk ?_
  refine en_br (fun e5=> ?_) (fun e5=> ?_)
  ·have e5:y.2≠0:=by simpa using e5
   rw[if_pos e5]
   exact en_rets (x:=((0:Int),y.2,())) rfl ⟨rfl,rfl⟩ tks ens
  have e5:y.2=0:=by simpa using e5
  rw[if_neg (fun g=>g e5)]
  refine en_call (rt_given i q {x with S:=S',rows:=rows'} H.hs y.1) tks ?_
  rintro x' M ⟨rfl,rfl⟩
  try simp only[lca,lna]
  exact en_rets (x:=((Rx.giveR {x with S:=S',rows:=rows'} y.1).1,(Rx.giveR {x with S:=S',rows:=rows'} y.1).2,())) rfl ⟨rfl,rfl⟩ tks ens
end Go.Proofs.YtfepdmpplahloaaGreat
namespace Go.Proofs.YtfepdmpplahloaaGreat
open Go Go.Gl
variable{ρ0 ρ:FR}{L L':List Asn}{Post:Value→List Asn→Prop}{T:Tree}
def Rt.CollR(x x':Rt)(all:Bool):Prop:=∃(z1 z2:Slc) (l:List Rf6) (m2 m3:List Bool),Coll x.S x.cs (x.in7 z1 z2 all) x.roots x.wa l m2 m3∧
 x'=x.after (clrOf x.S m2 m3 l) (putOf x.S m3 (clrOf x.S m2 m3 l)) (pendOf x.S m2 x.wa) (Mk.all m3)
theorem Rt.CollR.inv{x x':Rt}{all:Bool}(h:x.CollR x' all){N:Int}(I:x.Inv N):x'.Inv (N+1):=by
 obtain⟨z1,z2,l,m2,m3,hC,rfl⟩:=h
 exact I.after hC
theorem gc_collectR(i:Pl)(x:Rt)(H:x.Ok2)(all:Bool):Gl.Spec ρ Tryz.prog 68 [.pointer (some ⟨i.p,0,none⟩),.bool all] (i.A x) OE
  fun r M=>∃(s1 s2 s3 s4:Slc) (A1 A2 A3 A4:Asn) (x':Rt),r=((s1,s2,s3,s4,()),0,())∧x.CollR x' all∧M=[A1,A2,A3,A4]++i.A x':=
 Spec.post (gc_collect i x H all) fun r M ⟨z1,z2,s1,s2,s3,s4,l,m2,m3,hC,hr,hM⟩=>⟨s1,s2,s3,s4,_,_,_,_,_,hr,⟨z1,z2,l,m2,m3,hC,rfl⟩,hM⟩
namespace Rx
end Rx
theorem do_count(i:Pl)(q:Nat)(k a b c:Int)(x:Rt)(H:x.Ok):Does ρ 59 i q k a b c x (Rx.count x a):=by
 refine Gl.Spec.of (fun Q w hh=>F.rt.Runtime.count.calls (some ⟨q,0,none⟩) (k,a,b,c,()) hh) fun R=> ?_
 unfold F.rt.Runtime.count
 try simp only[lca,lna]
 have hpe:=H.pe
 have hws:=H.ws
 have hul:=used_le H.hw.wf
 refine en_nw fun b1=> ?_
 refine RfA.op (p:=i.r) (hp:=i.b) (rows:=x.rows) (n:=x.ser) tk fun qq=> ?_
 refine QueA.op (p:=qq) (hp:=i.b) (rows:=x.rows) tk fun z hz=> ?_
 refine HeapA.op (p:=i.b) (S:=x.S) (cs:=x.cs) tk fun ps pt=> ?_
 refine en_nn ?_
 refine en_ld (k:= .ptr) (b:=q) (off:=0) (x:=some ⟨i.p,0,none⟩) (by rw[fa_mk]) tk rfl ?_
 refine en_nn ?_
 refine en_ld (k:= .ptr) (b:=i.p) (off:=0) (x:=some ⟨i.r,0,none⟩) (by rw[fa_mk]) tk rfl ?_
 refine en_nn (en_ld (k:= .ptr) (b:=i.r) (off:=0) (x:=some ⟨qq,0,none⟩) (by rw[fa_mk]) tk rfl ?_)
 refine en_nn (en_ld (k:= .ptr) (b:=qq) (off:=0) (x:=some ⟨i.b,0,none⟩) (by rw[fa_mk]) tk rfl ?_)
 refine en_nn (en_ld (k:= .ptr) (b:=i.b) (off:=0) (x:=some ⟨ps,0,none⟩) (by rw[fa_mk]) tk rfl ?_)
 refine en_call (space_used ps x.S H.hw.wf) tks ?_
 rintro x' M ⟨rfl,rfl⟩
 try simp only[lca,lna]
 refine en_drw (en_held [blk q [.pointer (some ⟨i.p,0,none⟩)],blk i.p (i.cs x),blk i.r [.pointer (some ⟨qq,0,none⟩),i64 x.ser],blk qq [.pointer (some ⟨i.b,0,none⟩),.slice z.a z.n z.c],blk i.b [.pointer (some ⟨ps,0,none⟩),.pointer (some ⟨pt,0,none⟩)]] tks ?_)
 iterate 2
  try refine en_nn (en_ldS (k:= .ptr) (b:=q) (off:=0) (x:=some ⟨i.p,0,none⟩) (by rw[fa_mk]) tk rfl ?_)
  try refine en_nn (en_ldS (k:= .ptr) (b:=i.p) (off:=0) (x:=some ⟨i.r,0,none⟩) (by rw[fa_mk]) tk rfl ?_)
  try refine en_nn (en_ldS (k:= .ptr) (b:=i.r) (off:=0) (x:=some ⟨qq,0,none⟩) (by rw[fa_mk]) tk rfl ?_)
  try refine en_nn (en_ldS (k:= .ptr) (b:=qq) (off:=0) (x:=some ⟨i.b,0,none⟩) (by rw[fa_mk]) tk rfl ?_)
  try refine en_nn (en_ldS (k:= .ptr) (b:=i.b) (off:=0) (x:=some ⟨ps,0,none⟩) (by rw[fa_mk]) tk rfl ?_)
  try refine en_nn (en_ldS (k:= .ptr) (b:=q) (off:=0) (x:=some ⟨i.p,0,none⟩) (by rw[fa_mk]) tk rfl ?_)
  try refine en_nn (en_ldS (k:= .ptr) (b:=i.p) (off:=3) (x:=some ⟨i.f,0,none⟩) (by rw[fa_mk]) tk rfl ?_)
 try simp only[lca,lna]
 refine en_call (space_cap ps x.S H.ws (by have:=H.hw.wf.len;have:=H.hw.wf.most;omega)) tks ?_
 rintro x' M ⟨rfl,rfl⟩
 try simp only[lca,lna]
 refine en_chk tks ?_
 refine en_call (fin_pending i.f i.b x.wa x.pe (by omega)) tks ?_
 rintro s _ ⟨hs,rfl⟩
 try simp only[lca,lna]
 refine en_chk tks ?_
 refine en_call (space_each ps x.S H.hw.wf) tks ?_
 rintro s' _ ⟨hs',rfl⟩
 try simp only[lca,lna]
 refine en_chk tks ?_
 refine en_call (gc_runs i x) tks ?_
 rintro x' M ⟨rfl,rfl⟩
 try simp only[lca,lna]
 have hwl:=H.hw.wf.len
 have hwm:=H.hw.wf.most
 refine en_nw fun b44=> ?_
 rw[wrap64 (n:=((x.S.ws.length-64:Nat):Int)-_) (by omega) (by omega),hs,hs']
 refine Tr.drop (A:=SLc s 1 (x.pe.map i64)) tk (Tr.drop (A:=SLc s' 1 ((Sp.each x.S).map i64)) tk ?_)
 refine Tr.close (M:=[blk i.b [.pointer (some ⟨ps,0,none⟩),.pointer (some ⟨pt,0,none⟩)],SpaceA ps x.S,TableA pt x.cs]) tks (HeapA.cl (p:=i.b)) ?_
 refine Tr.close tks (QueA.cl (p:=qq) (hp:=i.b) (rows:=x.rows) hz) ?_
 refine Tr.close tks (RfA.cl (p:=i.r) (q:=qq) (hp:=i.b) (rows:=x.rows) (n:=x.ser)) ?_
 refine Tr.take (A:=blk b44 ((Rx.counts x).map i64)) tk ?_
 unfold Rx.count
 refine en_ld (k:= .int .i64) (b:=b1) (off:=1) (x:=a) (by rw[fa_mk]) tk rfl ?_
 refine en_br (fun e=> ?_) (fun e=> ?_)
 ·have e:a<0:=of_decide_eq_true e
  rw[if_pos (.inl e)]
  exact en_rets (x:=((0:Int),(1:Int),())) rfl ⟨rfl,rfl⟩ tks ens
 have e1:¬a<0:=of_decide_eq_false e
 refine en_ld (k:= .int .i64) (b:=b1) (off:=1) (x:=a) (by rw[fa_mk]) tk rfl ?_
 refine en_br (fun e=> ?_) (fun e=> ?_)
 ·have e:a≥5:=of_decide_eq_true e
  rw[if_pos (.inr e)]
  exact en_rets (x:=((0:Int),(1:Int),())) rfl ⟨rfl,rfl⟩ tks ens
 have e2:¬a≥5:=of_decide_eq_false e
 rw[if_neg (fun g=>g.elim e1 e2)]
 refine en_ld (k:= .int .i64) (b:=b1) (off:=1) (x:=a) (by rw[fa_mk]) tk rfl ?_
 refine en_ix (by omega) (by omega) ?_
 rw[fa_mk]
 refine en_ld (k:= .int .i64) (b:=b44) (off:=0+a.toNat*1) (x:=(Rx.counts x).getD a.toNat 0) rfl tk ?_ ?_
 ·rw[show 0+a.toNat*1=a.toNat by omega]
  exact getD_map (by show a.toNat<5;omega)
 exact en_rets (x:=((Rx.counts x).getD a.toNat 0,(0:Int),())) rfl ⟨rfl,rfl⟩ tks ens
end Go.Proofs.YtfepdmpplahloaaGreat
namespace Go.Proofs.YtfepdmpplahloaaGreat
open Go Go.Gl
variable{ρ0 ρ:FR}{L L':List Asn}{Post:Value→List Asn→Prop}{T:Tree}
namespace Rx
def Tries(mk:Rt→Ans2)(x:Rt)(y:Ans2):Prop:=
 ((mk x).1.2≠3∧y=mk x)∨((mk x).1.2=3∧∃x1,(mk x).2.CollR x1 false∧(((mk x1).1.2≠3∧y=mk x1)∨((mk x1).1.2=3∧∃x2,(mk x1).2.CollR x2 true∧y=mk x2)))
def MadeR(mk:Rt→Ans2)(x:Rt)(y:Ans2):Prop:=if Hn.free x.hs=none then y=((0,3),x)else∃z,Tries mk x z∧y=if z.1.2≠0 then((0,z.1.2),z.2)else(giveR z.2 z.1.1,giveS z.2 z.1.1)
theorem give_inv{x:Rt}{N:Int}(I:x.Inv N)(v:Int):(giveS x v).Inv N:=by
 unfold giveS
 split
 ·exact I
 ·exact{I with h:=I.h.hold v}
def Tr3(mk:Rt→Ans2)(x:Rt)(j:Nat)(z:Ans2):Prop:=
 (j=0∧z=mk x)∨(j=1∧(mk x).1.2=3∧∃x1,(mk x).2.CollR x1 false∧z=mk x1)∨(j=2∧(mk x).1.2=3∧∃x1,(mk x).2.CollR x1 false∧(mk x1).1.2=3∧∃x2,(mk x1).2.CollR x2 true∧z=mk x2)
theorem Tr3.tries{mk:Rt→Ans2}{x:Rt}{j:Nat}{z:Ans2}(h:Tr3 mk x j z)(hz:z.1.2≠3∨j=2):Tries mk x z:=by
 rcases h with ⟨rfl,rfl⟩|⟨rfl,h1,x1,h2,rfl⟩|⟨rfl,h1,x1,h2,h3,x2,h4,rfl⟩
 ·exact .inl ⟨hz.resolve_right (by decide),rfl⟩
 ·exact .inr ⟨h1,x1,h2,.inl ⟨hz.resolve_right (by decide),rfl⟩⟩
 ·exact .inr ⟨h1,x1,h2,.inr ⟨h3,x2,h4,rfl⟩⟩
theorem Tr3.next{mk:Rt→Ans2}{x x':Rt}{j:Nat}{z:Ans2}(h:Tr3 mk x j z)(hz:z.1.2=3)(hj:j<2)(hc:z.2.CollR x' (j==1)):Tr3 mk x (j+1) (mk x'):=by
 rcases h with ⟨rfl,rfl⟩|⟨rfl,h1,x1,h2,rfl⟩|⟨rfl,_⟩
 ·exact .inr (.inl ⟨rfl,hz,x',hc,rfl⟩)
 ·exact .inr (.inr ⟨rfl,h1,x1,h2,hz,x',hc,rfl⟩)
 ·omega
end Rx
theorem ft_get:∀{j:Nat},j<2→([.bool false,.bool true]:List Value)[j]? =some (LK.val .bool (j==1))
 |0,_=>rfl
 |1,_=>rfl
theorem rt_madeE(i:Pl)(q:Nat)(x:Rt)(C:Asn)(mk:Rt→Ans2){N:Int}(hN:N+10<2^49)(z:Ans2)(e:Hn.free x.hs≠none){LL R:List Asn}(ht:Rx.Tries mk x z)(Iz:z.2.Inv (N+10))(hp:Takes LL (C::i.Q q z.2) R):
  Tr ρ ρ LL (br ((z.1.2:Int) != 0) (ret (.tuple #[.int .i64 0,.int .i64 z.1.2])) (call Tryz.prog 80 [.pointer (some ⟨q,0,none⟩),.int .i64 z.1.1] (.many [.l (.int .i64),.l (.int .i64)]) fun(r12:KTs _)=>ret (.tuple #[.int .i64 r12.1,.int .i64 r12.2.1])))
   (SP P2 (fun r M=>∃y:Ans2,Rx.MadeR mk x y∧y.2.Inv (N+10)∧r=(y.1.1,y.1.2,())∧M=C::i.Q q y.2) R):=by
 refine Tr.perm hp.perm ?_
 try simp only[lca,lna]
 refine en_br (fun e1=> ?_) (fun e1=> ?_)
 ·have e1:z.1.2≠0:=by simpa using e1
  have hy:Rx.MadeR mk x ((0,z.1.2),z.2):=by unfold Rx.MadeR;rw[if_neg e];exact⟨z,ht,by rw[if_pos e1]⟩
  exact en_rets (x:=((0:Int),z.1.2,())) rfl ⟨((0,z.1.2),z.2),hy,Iz,rfl,rfl⟩ tks ens
 ·have e1:z.1.2=0:=by simpa using e1
  refine en_call (rt_given i q z.2 (Iz.h.ok (by omega)) z.1.1) tks ?_
  rintro x' M ⟨rfl,rfl⟩
  try simp only[lca,lna]
  have hy:Rx.MadeR mk x (Rx.giveR z.2 z.1.1,Rx.giveS z.2 z.1.1):=by unfold Rx.MadeR;rw[if_neg e];exact⟨z,ht,by rw[if_neg (fun g=>g e1)]⟩
  exact en_rets (x:=((Rx.giveR z.2 z.1.1).1,(Rx.giveR z.2 z.1.1).2,())) rfl ⟨(Rx.giveR z.2 z.1.1,Rx.giveS z.2 z.1.1),hy,Rx.give_inv Iz _,rfl,rfl⟩ tks ens
theorem rt_made(i:Pl)(q:Nat)(x:Rt)(C:Asn){f:FuncId}{fn:Func}{cv:Array Value}(hf:Tryz.prog.funcs[f]? =some fn)(hb:fn.body.isSome=true)(mk:Rt→Ans2){N:Int}(I:x.Inv N)(hN:N+10<2^49)
  (hm:∀(M:Int) (y:Rt),y.Inv M→M<2^49→Gl.Spec ρ Tryz.prog f ([]++cv.toList) (C::i.Q q y) P2 (fun r L=>r=((mk y).1.1,(mk y).1.2,())∧L=C::i.Q q (mk y).2)∧(mk y).2.Inv (M+1)):
  Gl.Spec ρ Tryz.prog 86 [.pointer (some ⟨q,0,none⟩),.func (.func f) #[] cv] (C::i.Q q x) P2
  fun r M=>∃y:Ans2,Rx.MadeR mk x y∧y.2.Inv (N+10)∧r=(y.1.1,y.1.2,())∧M=C::i.Q q y.2:=by
 refine Gl.Spec.of (fun Q w hh=>F.rt.Runtime.made.calls (some ⟨q,0,none⟩) (.func (.func f) #[] cv) hh) fun R=> ?_
 unfold F.rt.Runtime.made
 try simp only[lca,lna]
 refine en_nn ?_
 refine en_ld (k:= .ptr) (b:=q) (off:=0) (x:=some ⟨i.p,0,none⟩) (by rw[fa_mk]) tk rfl ?_
 refine en_nn ?_
 refine en_ld (k:= .ptr) (b:=i.p) (off:=1) (x:=some ⟨i.h,0,none⟩) (by rw[fa_mk]) tk rfl ?_
 have hok:=I.h.ok (show N<2^50 by omega)
 refine en_room i x hok tk (fun e=> ?_) (fun r hr e=> ?_)
 ·refine en_brt rfl ?_
  have hy:Rx.MadeR mk x ((0,3),x):=by unfold Rx.MadeR;rw[if_pos e]
  exact en_rets (x:=((0:Int),(3:Int),())) rfl ⟨((0,3),x),hy,I.le (by omega),rfl,rfl⟩ tks ens
 refine en_brf (by simpa using hr) ?_
 obtain⟨s0,I0⟩:=hm N x I (by omega)
 refine en_callV hf hb s0 tks ?_
 rintro _ _ ⟨rfl,rfl⟩
 try simp only[lca,lna]
 refine en_nw fun b7=> ?_
 have fin:=fun(z:Ans2) {LL:List Asn} ht Iz hp=>rt_madeE (ρ:=ρ) (LL:=LL) (R:=R) i q x C mk hN z e ht Iz hp
 refine en_lp (I:=fun n u M=>∃(j:Nat) (z:Ans2),j≤2∧n=2-j∧u=(z.1.1,z.1.2,(j:Int),())∧Rx.Tr3 mk x j z∧z.2.Inv (N+2*j+1)∧M=blk b7 [.bool false,.bool true]::C::(i.Q q z.2++R)) 2 ⟨0,mk x,by omega,rfl,rfl,.inl ⟨rfl,rfl⟩,I0.le (by omega),rfl⟩ ?_
 rintro n _ _ ⟨j,z,hj,rfl,rfl,ht,Iz,rfl⟩ X hX
 try simp only[lca,lna]
 refine en_br (fun hc=> ?_) (fun hc=> ?_)
 ·have hj':j<2:=by have:(j:Int)<2:=of_decide_eq_true hc;omega
  refine en_ix (by omega) (by omega) ?_
  rw[fa_mk]
  refine en_ld (k:= .bool) (b:=b7) (off:=0+(j:Int).toNat*1) (x:=(j==1)) rfl tk ?_ ?_
  ·rw[show 0+(j:Int).toNat*1=j by omega]
   exact ft_get hj'
  refine en_br (fun e1=> ?_) (fun e1=> ?_)
  ·have e1:z.1.2≠3:=by simpa using e1
   refine Tr.drop (A:=blk b7 [.bool false,.bool true]) tk ?_
   exact fin z (ht.tries (.inl e1)) (Iz.le (by omega)) tks
  ·have e1:z.1.2=3:=by simpa using e1
   refine en_nn ?_
   refine en_ld (k:= .ptr) (b:=q) (off:=0) (x:=some ⟨i.p,0,none⟩) (by rw[fa_mk]) tk rfl ?_
   refine en_call (gc_collectR i z.2 (Iz.ok2 (by omega)) (j==1)) tks ?_
   rintro _ _ ⟨s1,s2,s3,s4,A1,A2,A3,A4,x',rfl,hC,rfl⟩
   try simp only[lca,lna]
   refine Tr.drop (A:=A1) tk (Tr.drop (A:=A2) tk (Tr.drop (A:=A3) tk (Tr.drop (A:=A4) tk ?_)))
   have Ix:=hC.inv Iz
   obtain⟨s1,I1⟩:=hm _ x' Ix (by omega)
   refine en_callV hf hb s1 tks ?_
   rintro _ _ ⟨rfl,rfl⟩
   try simp only[lca,lna]
   rw[wrap64 (n:=(j:Int)+1) (by omega) (by omega)]
   exact Tr.perm (Takes.perm (M:=blk b7 [.bool false,.bool true]::C::i.Q q (mk x').2) tks) (hX (2-(j+1)) _ _ (by omega) ⟨j+1,mk x',by omega,rfl,rfl,ht.next e1 hj' hC,I1.le (by omega),rfl⟩)
 ·have hj':j=2:=by have:¬(j:Int)<2:=of_decide_eq_false hc;omega
  refine Tr.drop (A:=blk b7 [.bool false,.bool true]) tk ?_
  exact fin z (ht.tries (.inr hj')) (Iz.le (by omega)) tks
def Rx.mk(h:Hd)(y:Rt):Ans2:=(((Ob.make y.S y.cs h).1,(Ob.make y.S y.cs h).2.1),{y with S:=(Ob.make y.S y.cs h).2.2})
theorem Tr.openS{M:List Asn}(t:Take L (star M) L')(h:Tr ρ0 ρ (M++L') T Post):Tr ρ0 ρ L T Post:=
 Tr.openL (M:=fun _:Unit=>M) (c:=fun _=>True) t (fun _ h=>⟨(),trivial,h⟩) (fun _ _=>h)
abbrev capO(b1 b2 q:Nat)(h:Hd):List Asn:=[blk b1 [.pointer (some ⟨q,0,none⟩)],blk b2 [.int .i64 h.k,.int .i64 h.c,.int .i64 h.n,.bool h.f]]
theorem rt_object1(i:Pl)(q b1 b2:Nat)(h:Hd)(y:Rt)(hw:HWf y.S y.cs):Gl.Spec ρ Tryz.prog 119 [.pointer (some ⟨b1,0,none⟩),.pointer (some ⟨b2,0,none⟩)] (star (capO b1 b2 q h)::i.Q q y) P2
  fun r L=>r=((Rx.mk h y).1.1,(Rx.mk h y).1.2,())∧L=star (capO b1 b2 q h)::i.Q q (Rx.mk h y).2:=by
 refine Gl.Spec.of (fun Q w hh=>F.rt.Runtime.object_1.calls (some ⟨b1,0,none⟩) (some ⟨b2,0,none⟩) hh) fun R=> ?_
 unfold F.rt.Runtime.object_1
 try simp only[lca,lna]
 refine Tr.openS (M:=capO b1 b2 q h) tk ?_
 refine RfA.op (p:=i.r) (hp:=i.b) (rows:=y.rows) (n:=y.ser) tk fun qq=> ?_
 refine QueA.op (p:=qq) (hp:=i.b) (rows:=y.rows) tk fun z hz=> ?_
 refine en_drw (en_held [blk b1 [.pointer (some ⟨q,0,none⟩)],blk b2 [.int .i64 h.k,.int .i64 h.c,.int .i64 h.n,.bool h.f],blk q [.pointer (some ⟨i.p,0,none⟩)],blk i.p (i.cs y),blk i.r [.pointer (some ⟨qq,0,none⟩),i64 y.ser],blk qq [.pointer (some ⟨i.b,0,none⟩),.slice z.a z.n z.c]] tks ?_)
 refine en_nn (en_ldS (k:= .ptr) (b:=b1) (off:=0) (x:=some ⟨q,0,none⟩) rfl tk rfl ?_)
 refine en_nn (en_ldS (k:= .ptr) (b:=q) (off:=0) (x:=some ⟨i.p,0,none⟩) (by rw[fa_mk]) tk rfl ?_)
 refine en_nn (en_ldS (k:= .ptr) (b:=i.p) (off:=0) (x:=some ⟨i.r,0,none⟩) (by rw[fa_mk]) tk rfl ?_)
 refine en_nn (en_ldS (k:= .ptr) (b:=i.r) (off:=0) (x:=some ⟨qq,0,none⟩) (by rw[fa_mk]) tk rfl ?_)
 refine en_nn (en_ldS (k:= .ptr) (b:=qq) (off:=0) (x:=some ⟨i.b,0,none⟩) (by rw[fa_mk]) tk rfl ?_)
 refine en_nn (en_ldgS (b:=b2) (off:=0) (x:=(h.k,h.c,h.n,h.f,())) [] rfl tk rfl ?_)
 try simp only[lca,lna]
 refine Tr.close (M:=[blk qq [.pointer (some ⟨i.b,0,none⟩),.slice z.a z.n z.c],SLc z 2 (endC y.rows)]) tks (QueA.cl (p:=qq) (hp:=i.b) (rows:=y.rows) hz) ?_
 refine Tr.close tks (RfA.cl (p:=i.r) (q:=qq) (hp:=i.b) (rows:=y.rows) (n:=y.ser)) ?_
 refine Tr.close (M:=capO b1 b2 q h) (A:=star (capO b1 b2 q h)) tks (fun h H=>H) ?_
 refine en_call (object_make i.b y.S y.cs hw h) tks ?_
 rintro x' M ⟨rfl,rfl⟩
 try simp only[lca,lna]
 exact en_rets (x:=((Ob.make y.S y.cs h).1,(Ob.make y.S y.cs h).2.1,())) rfl ⟨rfl,rfl⟩ tks ens
theorem rt_object(i:Pl)(q:Nat)(x:Rt)(h:Hd)(hk:h.k≠4){N:Int}(I:x.Inv N)(hN:N+10<2^49):Gl.Spec ρ Tryz.prog 76 [.pointer (some ⟨q,0,none⟩),hval h] (i.Q q x) P2
  fun r M=>∃y:Ans2,Rx.MadeR (Rx.mk h) x y∧y.2.Inv (N+10)∧r=(y.1.1,y.1.2,())∧M=i.Q q y.2:=by
 refine Gl.Spec.of (fun Q w hh=>F.rt.Runtime.object.calls (some ⟨q,0,none⟩) h.t hh) fun R=> ?_
 unfold F.rt.Runtime.object
 try simp only[lca,lna]
 refine en_nw fun b1=>en_nw fun b2=> ?_
 refine en_ld (k:= .ptr) (b:=b1) (off:=0) (x:=some ⟨q,0,none⟩) rfl tk rfl ?_
 refine Tr.close (M:=[blk b1 [.pointer (some ⟨q,0,none⟩)],blk b2 [.int .i64 h.k,.int .i64 h.c,.int .i64 h.n,.bool h.f]]) (A:=star (capO b1 b2 q h)) tks (fun h H=>H) ?_
 refine en_call (rt_made i q x (star (capO b1 b2 q h)) Tryz.func119 (by kernel_rfl) (Rx.mk h) I hN fun M y Iy hM=>⟨?_,?_⟩) tks ?_
 ·exact rt_object1 i q b1 b2 h y Iy.w.hw
 ·exact{Iy with w:=Iy.w.make hk,ser:=⟨Iy.ser.1,by have:=Iy.ser.2;show y.ser≤_;omega⟩,rn:=⟨Iy.rn.1,by have:=Iy.rn.2;show y.rn≤_;omega⟩,h:=Iy.h.le (by omega)}
 rintro _ _ ⟨y,hy,Iy,rfl,rfl⟩
 try simp only[lca,lna]
 refine Tr.drop (A:=star (capO b1 b2 q h)) tk ?_
 exact en_rets (x:=(y.1.1,y.1.2,())) rfl ⟨y,hy,Iy,rfl,rfl⟩ tks ens
namespace Rx
def listR(x:Rt)(kind a:Int)(y:Ans2):Prop:=if a<0∨a>1023 then y=((0,1),x)else MadeR (mk ⟨kind,0,a,false⟩) x y
end Rx
theorem do_list(i:Pl)(q b1 b2:Nat)(kind k a b c:Int)(x:Rt)(hk:kind≠4){N:Int}(I:x.Inv N)(hN:N+10<2^49):
  Gl.Spec ρ Tryz.prog 77 [opV k a b c,.pointer (some ⟨b1,0,none⟩),.pointer (some ⟨b2,0,none⟩)] (blk b1 [.pointer (some ⟨q,0,none⟩)]::blk b2 [i64 kind]::i.Q q x) P2
  fun r M=>∃y:Ans2,Rx.listR x kind a y∧y.2.Inv (N+10)∧r=(y.1.1,y.1.2,())∧M=blk b1 [.pointer (some ⟨q,0,none⟩)]::blk b2 [i64 kind]::i.Q q y.2:=by
 refine Gl.Spec.of (fun Q w hh=>F.rt.Runtime.list_1.calls (k,a,b,c,()) (some ⟨b1,0,none⟩) (some ⟨b2,0,none⟩) hh) fun R=> ?_
 unfold F.rt.Runtime.list_1
 try simp only[lca,lna]
 refine en_nw fun b3=> ?_
 refine en_ld (k:= .int .i64) (b:=b3) (off:=1) (x:=a) (by rw[fa_mk]) tk rfl ?_
 have bad:(a<0∨a>1023)→Rx.listR x kind a ((0,1),x):=fun h=>by unfold Rx.listR;rw[if_pos h]
 refine en_br (fun e=> ?_) (fun e=> ?_)
 ·have e:a<0:=of_decide_eq_true e
  exact en_rets (x:=((0:Int),(1:Int),())) rfl ⟨((0,1),x),bad (.inl e),I.le (by omega),rfl,rfl⟩ tks ens
 have e1:¬a<0:=of_decide_eq_false e
 refine en_ld (k:= .int .i64) (b:=b3) (off:=1) (x:=a) (by rw[fa_mk]) tk rfl ?_
 refine en_br (fun e=> ?_) (fun e=> ?_)
 ·have e:a>1023:=of_decide_eq_true e
  exact en_rets (x:=((0:Int),(1:Int),())) rfl ⟨((0,1),x),bad (.inr e),I.le (by omega),rfl,rfl⟩ tks ens
 have e2:¬a>1023:=of_decide_eq_false e
 refine en_nn (en_ld (k:= .ptr) (b:=b1) (off:=0) (x:=some ⟨q,0,none⟩) rfl tk rfl ?_)
 refine en_nn (en_ld (k:= .int .i64) (b:=b2) (off:=0) (x:=kind) rfl tk rfl ?_)
 refine en_ld (k:= .int .i64) (b:=b3) (off:=1) (x:=a) (by rw[fa_mk]) tk rfl ?_
 refine en_call (rt_object i q x ⟨kind,0,a,false⟩ hk I hN) tks ?_
 rintro _ _ ⟨y,hy,Iy,rfl,rfl⟩
 try simp only[lca,lna]
 have hy':Rx.listR x kind a y:=by unfold Rx.listR;rw[if_neg (fun g=>g.elim e1 e2)];exact hy
 exact en_rets (x:=(y.1.1,y.1.2,())) rfl ⟨y,hy',Iy,rfl,rfl⟩ tks ens
end Go.Proofs.YtfepdmpplahloaaGreat
