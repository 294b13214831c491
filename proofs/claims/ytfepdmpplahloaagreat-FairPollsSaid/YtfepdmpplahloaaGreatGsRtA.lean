/- The runtime's operations, one by one. -/
import Derived.Test.YtfepdmpplahloaaGreatGsAft
import Derived.Test.YtfepdmpplahloaaGreatGsProc8
import Derived.Test.YtfepdmpplahloaaGreatGsTt
set_option linter.unusedSimpArgs false
set_option linter.unusedVariables false
namespace Go.Proofs.YtfepdmpplahloaaGreat
open Go Go.Gl
variable{ρ0 ρ:FR}{L L':List aA}{Post:Value→List aA→Prop}{T:Tree}
namespace Hn
theorem zd(hs:List Slot)(i:Nat):(jo hs i).length=if(aQ hs i).2≠0 then 1 else 0:=by unfold jo;split<;>rfl
theorem zX{hs:List Slot}(n:Nat):((List.range n).flatMap (jo hs)).length=n↔∀j,j<n→(aQ hs j).2≠0:=by
 induction n with
 |zero=>simp
 |succ n ih=>
  have hle:=fF (hs:=hs) n
  rw[List.range_succ,List.flatMap_append,List.length_append,List.flatMap_singleton,zd]
  constructor
  ·intro h j hj
   by_cases e:(aQ hs n).2≠0
   ·rw[if_pos e]at h
    by_cases ej:j=n
    ·subst ej;exact e
    ·exact ih.mp (by omega) j (by omega)
   ·rw[if_neg e]at h;omega
  ·intro h
   rw[if_pos (h n (by omega)),ih.mpr fun j hj=>h j (by omega)]
theorem A6{hs:List Slot}(hl:hs.length=512):(all hs).length=512↔free hs=none:=by
 unfold all
 rw[hl,zX]
 constructor
 ·exact fun h=>uA fun j hj=>h j (by omega)
 ·exact fun h j hj=>rb h j (by omega)
end Hn
theorem Ay(p:Nat){hs:List Hn.Slot}(H:Hn.Ok hs):Gl.Spec ρ Tryz.prog 90 [.pointer (some ⟨p,0,none⟩)] [gf p hs] R1
  fun r M=>r=512-((Hn.all hs).length:Nat)∧M=[gf p hs]:=by
 refine Gl.Spec.of (fun Q w h=>F.handle.aW.Room.calls (some ⟨p,0,none⟩) h) fun R=> ?_
 unfold F.handle.aW.Room
 try simp only[aq,al]
 have hl:(Hn.all hs).length≤512:=by unfold Hn.all;rw[H.len];exact Hn.fF 512
 refine ak rfl ?_
 refine ae (w6 p H) ag ?_
 rintro r _ ⟨hr,rfl⟩
 try simp only[aq,al]
 rw[wrap64 (by omega) (by omega),hr]
 refine Tr.drop (A:=aE r 2 ((Hn.all hs).flatMap qs)) tk ?_
 exact aa (x:=(512-((Hn.all hs).length:Nat):Int)) rfl ⟨rfl,rfl⟩ ag aB
theorem z7(p:Nat){hs:List Hn.Slot}(H:Hn.Ok hs)(x:Int):Gl.Spec ρ Tryz.prog 121 [.pointer (some ⟨p,0,none⟩),i64 x] [gf p hs] P2
  fun r M=>r=((Hn.held hs x).1,(Hn.held hs x).2,())∧M=[gf p hs]:=by
 refine Gl.Spec.of (fun Q w h=>F.handle.aW.Cg.calls (some ⟨p,0,none⟩) x h) fun R=> ?_
 unfold F.handle.aW.Cg
 try simp only[aq,al]
 have hl:=H.len
 refine ae (sV p H x) ag ?_
 rintro r _ ⟨hr,rfl⟩
 try simp only[aq,al]
 unfold Hn.held
 cases hf:Hn.find hs x with
 |none=>
  rw[hf]at hr
  refine aH (by rw[hr];rfl) ?_
  exact aa (x:=((0:Int),(6:Int),())) rfl ⟨rfl,rfl⟩ ag aB
 |some k=>
  rw[hf]at hr
  obtain⟨hk,rfl⟩:=hr
  refine ak rfl ?_
  refine ah (iO (by omega) (by omega) ?_)
  rw[af,af,af]
  rw[show 0+0+(k:Int).toNat*2+1=k*2+1 by omega]
  refine ai (k:= .int .i64) (off:=k*2+1) (x:=(Hn.aQ hs k).2) rfl tk (ij (by omega)).2 ?_
  exact aa (x:=((Hn.aQ hs k).2,(0:Int),())) rfl ⟨rfl,rfl⟩ ag aB
def Rx.fk(ro:List Int)(i:Int):Int×Int:=if 0≤i∧i<16 then(ro.getD i.toNat 0,0)else(0,1)
theorem ra(p:Nat)(ro:List Int)(hl:ro.length=16)(i:Int):Gl.Spec ρ Tryz.prog 84 [.pointer (some ⟨p,0,none⟩),i64 i] [aw p (ro.map i64)] P2
  fun r M=>r=((Rx.fk ro i).1,(Rx.fk ro i).2,())∧M=[aw p (ro.map i64)]:=by
 refine Gl.Spec.of (fun Q w h=>F.root.de.C2.calls (some ⟨p,0,none⟩) i h) fun R=> ?_
 unfold F.root.de.C2
 have hp:Gl.Spec ρ Tryz.prog 128 [.pointer (some ⟨p,0,none⟩),i64 i] [] RB fun r M=>r=decide (0≤i∧i<16)∧M=[]:=by
  refine Gl.Spec.of (fun Q w h=>F.root.de.place.calls (some ⟨p,0,none⟩) i h) fun R=> ?_
  unfold F.root.de.place
  try simp only[aq,al]
  refine aH rfl (aj (fun h=> ?_) (fun h=> ?_))
  ·have h':i≥0:=of_decide_eq_true h
   refine aa (x:=decide (0≤i∧i<16)) ?_ ⟨rfl,rfl⟩ ag aB
   have:decide (0≤i∧i<16)=decide (i<16):=by rw[decide_eq_decide];omega
   rw[this];rfl
  ·have h':¬i≥0:=of_decide_eq_false h
   refine aa (x:=decide (0≤i∧i<16)) ?_ ⟨rfl,rfl⟩ ag aB
   have:decide (0≤i∧i<16)=false:=by rw[decide_eq_false_iff_not];omega
   rw[this];rfl
 try simp only[aq,al]
 refine ae hp ag ?_
 rintro x' M ⟨rfl,rfl⟩
 try simp only[aq,al]
 unfold Rx.fk
 refine aj (fun h=> ?_) (fun h=> ?_)
 ·have h':¬(0≤i∧i<16):=by rw[Bool.not_eq_true']at h;exact of_decide_eq_false h
  rw[if_neg h']
  exact aa (x:=((0:Int),(1:Int),())) rfl ⟨rfl,rfl⟩ ag aB
 ·have h':0≤i∧i<16:=by rw[Bool.not_eq_false']at h;exact of_decide_eq_true h
  rw[if_pos h']
  refine ah (iO h'.1 (by have:=h'.2;omega) ?_)
  rw[af,af]
  refine ai (k:= .int .i64) (off:=0+0+i.toNat*1) (x:=ro.getD i.toNat 0) rfl tk ?_ ?_
  ·rw[show 0+0+i.toNat*1=i.toNat by omega]
   exact getD_map (by omega)
  exact aa (x:=(ro.getD i.toNat 0,(0:Int),())) rfl ⟨rfl,rfl⟩ ag aB
theorem fJ{p hp:Nat}{rows:List (List Int)}{n:Int}{f:Option Addr→Tree}{a:Addr}(ha:a=⟨p,0,none⟩)(t:Take L (cL p hp rows n) L')(h:Tr ρ0 ρ (cL p hp rows n::L') (f (some ⟨hp,0,none⟩)) Post):
  Tr ρ0 ρ L (ld (.l .ptr) a fun x=>nn x fun b=>ld (.l .ptr) (fa b 0) f) Post:=by
 subst ha
 refine cL.op t fun q=> ?_
 refine ai (k:= .ptr) (off:=0) (x:=some ⟨q,0,none⟩) rfl tk rfl ?_
 refine ah (dk (q:=q) (hp:=hp) (rows:=rows) (by rw[af]) tk ?_)
 exact Tr.close (M:=[aw p [.pointer (some ⟨q,0,none⟩),i64 n],bP q hp rows]) ag (cL.cl (p:=p) (q:=q) (hp:=hp) (rows:=rows) (n:=n)) h
theorem uY{p hp:Nat}{rows:List (List Int)}{n:Int}{f:Option Addr→Tree}{a:Addr}(ha:a=⟨p,0,none⟩)(t:Take L (cL p hp rows n) L')(h:∀q:Nat,Tr ρ0 ρ (aw p [.pointer (some ⟨q,0,none⟩),i64 n]::bP q hp rows::L') (f (some ⟨q,0,none⟩)) Post):
  Tr ρ0 ρ L (ld (.l .ptr) a f) Post:=by
 subst ha
 refine cL.op t fun q=> ?_
 exact ai (k:= .ptr) (off:=0) (x:=some ⟨q,0,none⟩) rfl tk rfl (h q)
abbrev Pl.Q(i:Pl)(q:Nat)(x:Rt):List aA:=aw q [.pointer (some ⟨i.p,0,none⟩)]::i.A x
namespace Rx
def cW(x:Rt)(v:Int):Int×Int:=if v=0 then(0,0)else if Hn.free x.hs=none then(0,3)else Hn.iR x.hs v
def dO(x:Rt)(v:Int):Rt:=if v=0 then x else{x with hs:=Hn.du x.hs v}
def gA(x:Rt)(h:Int)(orNone:Bool):Int×Int:=if orNone=true∧h=0 then(0,0)else Hn.held x.hs h
def fY(x:Rt)(a k:Int):Int×Bool×Int:=match Ob.head x.S a with
 |none=>(0,false,2)
 |some h=>if h.k=4 then(0,false,5)else if(Ob.get x.S a k).2≠0 then(0,false,(Ob.get x.S a k).2)else((Ob.get x.S a k).1,decide (k∈Ob.refs x.S x.cs a),0)
theorem yf{hs:List Hn.Slot}(h:Hn.free hs=none)(v:Int):Hn.du hs v=hs:=by
 unfold Hn.du;rw[h];split<;>rfl
end Rx
theorem my(i:Pl)(x:Rt)(H:Hn.Ok x.hs){k:Int→Tree}(t:Take L (gf i.h x.hs) L')(h0:Hn.free x.hs=none→Tr ρ0 ρ (gf i.h x.hs::L') (k 0) Post)(h1:∀r:Int,r≠0→Hn.free x.hs≠none→Tr ρ0 ρ (gf i.h x.hs::L') (k r) Post):
  Tr ρ0 ρ L (call Tryz.prog 90 [.pointer (some ⟨i.h,0,none⟩)] (.one (.l (.int .i64))) k) Post:=by
 refine ae (Ay i.h H) (.cons t .nil) ?_
 rintro _ _ ⟨rfl,rfl⟩
 have:=Hn.A6 H.len
 have hl:(Hn.all x.hs).length≤512:=by unfold Hn.all;rw[H.len];exact Hn.fF 512
 by_cases e:Hn.free x.hs=none
 ·rw[this.mpr e];exact h0 e
 ·exact h1 _ (fun g=>e (this.mp (by omega))) e
theorem iJ(i:Pl)(q:Nat)(x:Rt)(H:Hn.Ok x.hs)(v:Int):Gl.Spec ρ Tryz.prog 80 [.pointer (some ⟨q,0,none⟩),i64 v] (i.Q q x) P2
  fun r M=>r=((Rx.cW x v).1,(Rx.cW x v).2,())∧M=i.Q q (Rx.dO x v):=by
 refine Gl.Spec.of (fun Q w h=>F.rt.Runtime.given.calls (some ⟨q,0,none⟩) v h) fun R=> ?_
 unfold F.rt.Runtime.given
 try simp only[aq,al]
 unfold Rx.cW Rx.dO
 refine aj (fun h=> ?_) (fun h=> ?_)
 ·have h':v=0:=by simpa using h
  rw[if_pos h',if_pos h']
  exact aa (x:=((0:Int),(0:Int),())) rfl ⟨rfl,rfl⟩ ag aB
 have h':v≠0:=by simpa using h
 rw[if_neg h',if_neg h']
 refine ah ?_
 refine ai (k:= .ptr) (b:=q) (off:=0) (x:=some ⟨i.p,0,none⟩) (by rw[af]) tk rfl ?_
 refine ah ?_
 refine ai (k:= .ptr) (b:=i.p) (off:=1) (x:=some ⟨i.h,0,none⟩) (by rw[af]) tk rfl ?_
 refine my i x H tk (fun e=> ?_) (fun r hr e=> ?_)
 ·rw[if_pos e,Rx.yf e]
  refine aH rfl ?_
  exact aa (x:=((0:Int),(3:Int),())) rfl ⟨rfl,rfl⟩ ag aB
 ·rw[if_neg e]
  refine ak (by simpa using hr) ?_
  refine ah ?_
  refine ai (k:= .ptr) (b:=q) (off:=0) (x:=some ⟨i.p,0,none⟩) (by rw[af]) tk rfl ?_
  refine ah ?_
  refine ai (k:= .ptr) (b:=i.p) (off:=1) (x:=some ⟨i.h,0,none⟩) (by rw[af]) tk rfl ?_
  refine ae (zV i.h H v) ag ?_
  rintro x' M ⟨rfl,rfl⟩
  try simp only[aq,al]
  exact aa (x:=((Hn.iR x.hs v).1,(Hn.iR x.hs v).2,())) rfl ⟨rfl,rfl⟩ ag aB
theorem fH(i:Pl)(q:Nat)(x:Rt)(H:Hn.Ok x.hs)(h:Int)(orNone:Bool):Gl.Spec ρ Tryz.prog 78 [.pointer (some ⟨q,0,none⟩),i64 h,.bool orNone] (i.Q q x) P2
  fun r M=>r=((Rx.gA x h orNone).1,(Rx.gA x h orNone).2,())∧M=i.Q q x:=by
 refine Gl.Spec.of (fun Q w hh=>F.rt.Runtime.held.calls (some ⟨q,0,none⟩) h orNone hh) fun R=> ?_
 unfold F.rt.Runtime.held
 try simp only[aq,al]
 unfold Rx.gA
 have go:∀{e:Int×Int},e=Hn.held x.hs h→Tr ρ ρ (i.Q q x++R) (nn (some ⟨q,0,none⟩) fun a1=>ld (.l .ptr) (fa a1 0) fun(x2:Option Addr)=>nn x2 fun a3=>ld (.l .ptr) (fa a3 1) fun(x4:Option Addr)=>call Tryz.prog 121 [.pointer x4,.int .i64 h] (.many [.l (.int .i64),.l (.int .i64)]) fun(r5:KTs _)=>ret (.tuple #[.int .i64 r5.1,.int .i64 r5.2.1]))
   (SP P2 (fun r M=>r=(e.1,e.2,())∧M=i.Q q x) R):=fun{e} he=>by
  subst he
  try simp only[aq,al]
  refine ah ?_
  refine ai (k:= .ptr) (b:=q) (off:=0) (x:=some ⟨i.p,0,none⟩) (by rw[af]) tk rfl ?_
  refine ah ?_
  refine ai (k:= .ptr) (b:=i.p) (off:=1) (x:=some ⟨i.h,0,none⟩) (by rw[af]) tk rfl ?_
  refine ae (z7 i.h H h) ag ?_
  rintro x' M ⟨rfl,rfl⟩
  try simp only[aq,al]
  exact aa (x:=((Hn.held x.hs h).1,(Hn.held x.hs h).2,())) rfl ⟨rfl,rfl⟩ ag aB
 refine aj (fun h1=> ?_) (fun h1=> ?_)
 ·refine aj (fun h2=> ?_) (fun h2=> ?_)
  ·rw[if_pos ⟨h1,by simpa using h2⟩]
   exact aa (x:=((0:Int),(0:Int),())) rfl ⟨rfl,rfl⟩ ag aB
  ·exact go (if_neg fun g=>by simp[g.2]at h2)
 ·exact go (if_neg fun g=>by simp[g.1]at h1)
abbrev FL:RK:= .many [.l (.int .i64),.l .bool,.l (.int .i64)]
theorem pM(i:Pl)(q:Nat)(x:Rt)(hw:aO x.S x.cs)(a k:Int):Gl.Spec ρ Tryz.prog 79 [.pointer (some ⟨q,0,none⟩),i64 a,i64 k] (i.Q q x) FL
  fun r M=>r=((Rx.fY x a k).1,(Rx.fY x a k).2.1,(Rx.fY x a k).2.2,())∧M=i.Q q x:=by
 refine Gl.Spec.of (fun Q w hh=>F.rt.Runtime.field.calls (some ⟨q,0,none⟩) a k hh) fun R=> ?_
 unfold F.rt.Runtime.field
 try simp only[aq,al]
 refine ah ?_
 refine ai (k:= .ptr) (b:=q) (off:=0) (x:=some ⟨i.p,0,none⟩) (by rw[af]) tk rfl ?_
 refine ah ?_
 refine ai (k:= .ptr) (b:=i.p) (off:=0) (x:=some ⟨i.r,0,none⟩) (by rw[af]) tk rfl ?_
 refine ah (fJ (p:=i.r) (hp:=i.b) (rows:=x.rows) (n:=x.aU) (by rw[af]) tk ?_)
 refine ae (bS i.b x.S x.cs hw a) ag ?_
 rintro x' M ⟨rfl,rfl⟩
 try simp only[aq,al]
 refine ax fun b10=> ?_
 rw[show zc Tryz.prog 103=[.int .i64 0,.int .i64 0,.int .i64 0,.bool false] by kernel_rfl]
 refine aL (b:=b10) (off:=0) rfl tk (by simp) rfl ?_
 unfold Rx.fY
 cases hh:Ob.head x.S a with
 |none=>
  refine aH rfl ?_
  exact aa (x:=((0:Int),false,(2:Int),())) rfl ⟨rfl,rfl⟩ ag aB
 |some h=>
  dsimp only
  refine ak rfl ?_
  refine ai (k:= .int .i64) (b:=b10) (off:=0) (x:=h.k) (by rw[af]) tk rfl ?_
  refine aj (fun h1=> ?_) (fun h1=> ?_)
  ·have h1:h.k=4:=by simpa using h1
   rw[if_pos h1]
   exact aa (x:=((0:Int),false,(5:Int),())) rfl ⟨rfl,rfl⟩ ag aB
  ·have h1:h.k≠4:=by simpa using h1
   rw[if_neg h1]
   refine ah ?_
   refine ai (k:= .ptr) (b:=q) (off:=0) (x:=some ⟨i.p,0,none⟩) (by rw[af]) tk rfl ?_
   refine ah ?_
   refine ai (k:= .ptr) (b:=i.p) (off:=0) (x:=some ⟨i.r,0,none⟩) (by rw[af]) tk rfl ?_
   refine ah (fJ (p:=i.r) (hp:=i.b) (rows:=x.rows) (n:=x.aU) (by rw[af]) tk ?_)
   refine ae (dg i.b x.S x.cs hw a k) ag ?_
   rintro x' M ⟨rfl,rfl⟩
   try simp only[aq,al]
   refine aj (fun h2=> ?_) (fun h2=> ?_)
   ·have h2:(Ob.get x.S a k).2≠0:=by simpa using h2
    rw[if_pos h2]
    exact aa (x:=((0:Int),false,(Ob.get x.S a k).2,())) rfl ⟨rfl,rfl⟩ ag aB
   ·have h2:(Ob.get x.S a k).2=0:=by simpa using h2
    rw[if_neg (fun g=>g h2)]
    refine ah ?_
    refine ai (k:= .ptr) (b:=q) (off:=0) (x:=some ⟨i.p,0,none⟩) (by rw[af]) tk rfl ?_
    refine ah ?_
    refine ai (k:= .ptr) (b:=i.p) (off:=0) (x:=some ⟨i.r,0,none⟩) (by rw[af]) tk rfl ?_
    refine ah (fJ (p:=i.r) (hp:=i.b) (rows:=x.rows) (n:=x.aU) (by rw[af]) tk ?_)
    refine ae (nX i.b x.S x.cs hw a) ag ?_
    rintro r _ ⟨hr,rfl⟩
    try simp only[aq,al]
    have hrl:(Ob.refs x.S x.cs a).length<2^40:=tT hw a
    refine ae (jG (A:=[aE r 1 ((Ob.refs x.S x.cs a).map i64)]) r (Ob.refs x.S x.cs a) (Rd.sl .here (by rw[List.length_map];omega)) (by omega) k) ag ?_
    rintro _ _ ⟨rfl,rfl⟩
    try simp only[aq,al]
    refine Tr.drop (A:=aE r 1 ((Ob.refs x.S x.cs a).map i64)) tk ?_
    exact aa (x:=((Ob.get x.S a k).1,decide (k∈Ob.refs x.S x.cs a),(0:Int),())) rfl ⟨rfl,rfl⟩ ag aB
end Go.Proofs.YtfepdmpplahloaaGreat
namespace Go.Proofs.YtfepdmpplahloaaGreat
open Go Go.Gl
variable{ρ0 ρ:FR}{L L':List aA}{Post:Value→List aA→Prop}{T:Tree}
abbrev uT(k a b c:Int):Value:= .agg #[i64 k,i64 a,i64 b,i64 c]
abbrev bg:=(Int×Int)×Rt
namespace Rx
variable(x:Rt)
def qp(h:Int)(f:Int→bg):bg:=if(gA x h false).2≠0 then((0,(gA x h false).2),x)else f (gA x h false).1
def Bg(h:Int)(f:Int→bg):bg:=if(gA x h true).2≠0 then((0,(gA x h true).2),x)else f (gA x h true).1
def get(a b:Int):bg:=qp x a fun aQ=>if(fY x aQ b).2.2≠0∨(fY x aQ b).2.1=false then(((fY x aQ b).1,(fY x aQ b).2.2),x)else(cW x (fY x aQ b).1,dO x (fY x aQ b).1)
def set(a b c:Int):bg:=qp x a fun aQ=>Bg x c fun to=>if(fY x aQ b).2.2≠0 then((0,(fY x aQ b).2.2),x)else if(fY x aQ b).2.1=false then((0,5),x)else
 ((0,(Ob.put x.S aQ b to).1),{x with S:=(Ob.put x.S aQ b to).2})
def put(a b c:Int):bg:=qp x a fun aQ=>if(fY x aQ b).2.2≠0 then((0,(fY x aQ b).2.2),x)else if(fY x aQ b).2.1=true then((0,5),x)else
 ((0,(Ob.put x.S aQ b c).1),{x with S:=(Ob.put x.S aQ b c).2})
def drop(a:Int):bg:=((0,Hn.mj x.hs a),{x with hs:=Hn.gG x.hs a})
def pJ(i a:Int):Int:=if(0≤i∧i<16)∧0≤a then 0 else 1
def cw(ro:List Int)(i a:Int):List Int:=if(0≤i∧i<16)∧0≤a then ro.set i.toNat a else ro
def root(a b:Int):bg:=Bg x b fun aQ=>((0,pJ a aQ),{x with ro:=cw x.ro a aQ})
def take(a:Int):bg:=if(fk x.ro a).2≠0 then((0,(fk x.ro a).2),x)else(cW x (fk x.ro a).1,dO x (fk x.ro a).1)
def aG(a:Int):bg:=qp x a fun aQ=>match Ob.head x.S aQ with
 |none=>((0,5),x)
 |some hd=>if hd.k≠4 then((0,5),x)else if hd.c=3 then((0,0),x)else
  if(Ob.get x.S aQ 0).2≠0∨(Ob.get x.S aQ 0).1=0 then((0,(Ob.get x.S aQ 0).2),x)else if Hn.free x.hs=none then((0,3),x)else
  if(Rf.aG x.S aQ x.ck).1.2≠0 then((0,(Rf.aG x.S aQ x.ck).1.2),{x with S:=(Rf.aG x.S aQ x.ck).2})else
  (cW {x with S:=(Rf.aG x.S aQ x.ck).2} (Rf.aG x.S aQ x.ck).1.1,dO {x with S:=(Rf.aG x.S aQ x.ck).2} (Rf.aG x.S aQ x.ck).1.1)
def clear(a:Int):bg:=qp x a fun aQ=>((0,(Rf.clear x.S [aQ]).1),{x with S:=(Rf.clear x.S [aQ]).2})
def enqueue(a:Int):bg:=qp x a fun aQ=>(if(Rf.ct x.S x.rows aQ).1.2≠0∨(Rf.ct x.S x.rows aQ).1.1=false then(0,(Rf.ct x.S x.rows aQ).1.2)else(1,0),{x with S:=(Rf.ct x.S x.rows aQ).2.1,rows:=(Rf.ct x.S x.rows aQ).2.2})
def jI:bg:=(if x.rows.length=8 then(0,3)else((x.rows.length:Nat),0),{x with rows:=if x.rows.length=8 then x.rows else x.rows++[[]]})
def eU(a:Int):bg:=if Qu.has x.rows a=false then((0,2),x)else if Qu.row x.rows a=[]then((0,0),x)else if Hn.free x.hs=none then((0,3),x)else
 if(Qu.hU x.rows a).2≠0 then((0,(Qu.hU x.rows a).2),{x with S:=Qu.cp x.S x.rows a,rows:=Qu.dP x.rows a})else
 (cW {x with S:=Qu.cp x.S x.rows a,rows:=Qu.dP x.rows a} (Qu.hU x.rows a).1,dO {x with S:=Qu.cp x.S x.rows a,rows:=Qu.dP x.rows a} (Qu.hU x.rows a).1)
def final(a:Int):bg:=qp x a fun aQ=>((0,(Ob.final x.S aQ).1),{x with S:=(Ob.final x.S aQ).2,wa:=if(Ob.final x.S aQ).1=0 then x.wa++[aQ]else x.wa})
def run(a b c:Int):bg:=
 if a<0∨a≥x.pe.length∨b<0∨b>2 then((0,1),x)else if b=1∧(fk x.ro c).2≠0 then((0,1),x)else if b=2∧Hn.free x.hs=none then((0,3),x)else
 if(Fn.dT x.pe a).2≠0 then((0,(Fn.dT x.pe a).2),{x with pe:=Fn.dN x.pe a})else
 if b=1 then((0,pJ c (Fn.dT x.pe a).1),{x with pe:=Fn.dN x.pe a,ro:=cw x.ro c (Fn.dT x.pe a).1})else
 if b=2 then(cW {x with pe:=Fn.dN x.pe a} (Fn.dT x.pe a).1,dO {x with pe:=Fn.dN x.pe a} (Fn.dT x.pe a).1)else((0,0),{x with pe:=Fn.dN x.pe a})
def tick(a:Int):bg:=if a<0 then((0,1),x)else((0,0),{x with ck:=Sf.later x.ck a})
def counts:List Int:=[x.used,x.free,(x.pe.length:Nat),((Sp.each x.S).length:Nat),x.rn]
def count(a:Int):bg:=if a<0∨a≥5 then((0,1),x)else(((counts x).getD a.toNat 0,0),x)
end Rx
abbrev k7(ρ:FR)(f:FuncId)(i:Pl)(q:Nat)(k a b c:Int)(x:Rt)(y:bg):Prop:=
 Gl.Spec ρ Tryz.prog f [.pointer (some ⟨q,0,none⟩),uT k a b c] (i.Q q x) P2 fun r M=>r=(y.1.1,y.1.2,())∧M=i.Q q y.2
variable(i:Pl)(q:Nat)(k a b c:Int)(x:Rt)(H:x.Ok)
include H
theorem DL:k7 ρ 43 i q k a b c x (Rx.get x a b):=by
 refine Gl.Spec.of (fun Q w hh=>F.rt.Runtime.get.calls (some ⟨q,0,none⟩) (k,a,b,c,()) hh) fun R=> ?_
 unfold F.rt.Runtime.get
 try simp only[aq,al]
 refine ax fun b1=> ?_
 refine ai (k:= .int .i64) (b:=b1) (off:=1) (x:=a) (by rw[af]) tk rfl ?_
 refine ae (fH i q x H.hs a false) ag ?_
 rintro x' M ⟨rfl,rfl⟩
 try simp only[aq,al]
 unfold Rx.get Rx.qp
 generalize Rx.gA x a false=h
 refine aj (fun e=> ?_) (fun e=> ?_)
 ·have e:h.2≠0:=by simpa using e
  rw[if_pos e]
  exact aa (x:=((0:Int),h.2,())) rfl ⟨rfl,rfl⟩ ag aB
 have e:h.2=0:=by simpa using e
 rw[if_neg (fun g=>g e)]
 refine ai (k:= .int .i64) (b:=b1) (off:=2) (x:=b) (by rw[af]) tk rfl ?_
 refine ae (pM i q x H.hw h.1 b) ag ?_
 rintro x' M ⟨rfl,rfl⟩
 try simp only[aq,al]
 generalize Rx.fY x h.1 b=f
 refine aj (fun e1=> ?_) (fun e1=> ?_)
 ·have e1:f.2.2≠0:=by simpa using e1
  rw[if_pos (.inl e1)]
  exact aa (x:=(f.1,f.2.2,())) rfl ⟨rfl,rfl⟩ ag aB
 have e1:f.2.2=0:=by simpa using e1
 refine aj (fun e2=> ?_) (fun e2=> ?_)
 ·have e2:f.2.1=false:=by simpa using e2
  rw[if_pos (.inr e2)]
  exact aa (x:=(f.1,f.2.2,())) rfl ⟨rfl,rfl⟩ ag aB
 have e2:f.2.1=true:=by simpa using e2
 rw[if_neg (by rw[e1,e2];simp)]
 refine ae (iJ i q x H.hs f.1) ag ?_
 rintro x' M ⟨rfl,rfl⟩
 try simp only[aq,al]
 exact aa (x:=((Rx.cW x f.1).1,(Rx.cW x f.1).2,())) rfl ⟨rfl,rfl⟩ ag aB
theorem DW:k7 ρ 44 i q k a b c x (Rx.set x a b c):=by
 refine Gl.Spec.of (fun Q w hh=>F.rt.Runtime.set.calls (some ⟨q,0,none⟩) (k,a,b,c,()) hh) fun R=> ?_
 unfold F.rt.Runtime.set
 try simp only[aq,al]
 refine ax fun b1=> ?_
 refine ai (k:= .int .i64) (b:=b1) (off:=1) (x:=a) (by rw[af]) tk rfl ?_
 refine ae (fH i q x H.hs a false) ag ?_
 rintro x' M ⟨rfl,rfl⟩
 try simp only[aq,al]
 unfold Rx.set Rx.qp Rx.Bg
 generalize Rx.gA x a false=h
 refine aj (fun e=> ?_) (fun e=> ?_)
 ·have e:h.2≠0:=by simpa using e
  rw[if_pos e]
  exact aa (x:=((0:Int),h.2,())) rfl ⟨rfl,rfl⟩ ag aB
 have e:h.2=0:=by simpa using e
 rw[if_neg (fun g=>g e)]
 refine ai (k:= .int .i64) (b:=b1) (off:=3) (x:=c) (by rw[af]) tk rfl ?_
 refine ae (fH i q x H.hs c true) ag ?_
 rintro x' M ⟨rfl,rfl⟩
 try simp only[aq,al]
 generalize Rx.gA x c true=t
 refine aj (fun e=> ?_) (fun e=> ?_)
 ·have e:t.2≠0:=by simpa using e
  rw[if_pos e]
  exact aa (x:=((0:Int),t.2,())) rfl ⟨rfl,rfl⟩ ag aB
 have e:t.2=0:=by simpa using e
 rw[if_neg (fun g=>g e)]
 refine ai (k:= .int .i64) (b:=b1) (off:=2) (x:=b) (by rw[af]) tk rfl ?_
 refine ae (pM i q x H.hw h.1 b) ag ?_
 rintro x' M ⟨rfl,rfl⟩
 try simp only[aq,al]
 generalize Rx.fY x h.1 b=f
 refine aj (fun e1=> ?_) (fun e1=> ?_)
 ·have e1:f.2.2≠0:=by simpa using e1
  rw[if_pos e1]
  exact aa (x:=((0:Int),f.2.2,())) rfl ⟨rfl,rfl⟩ ag aB
 have e1:f.2.2=0:=by simpa using e1
 rw[if_neg (fun g=>g e1)]
 refine aj (fun e2=> ?_) (fun e2=> ?_)
 ·have e2:f.2.1=false:=by simpa using e2
  rw[if_pos e2]
  exact aa (x:=((0:Int),(5:Int),())) rfl ⟨rfl,rfl⟩ ag aB
 have e2:f.2.1=true:=by simpa using e2
 rw[if_neg (by rw[e2];simp)]
 refine aK ?_
 refine ah ?_
 refine ai (k:= .ptr) (b:=q) (off:=0) (x:=some ⟨i.p,0,none⟩) (by rw[af]) tk rfl ?_
 refine ah ?_
 refine ai (k:= .ptr) (b:=i.p) (off:=0) (x:=some ⟨i.r,0,none⟩) (by rw[af]) tk rfl ?_
 refine ah (fJ (p:=i.r) (hp:=i.b) (rows:=x.rows) (n:=x.aU) (by rw[af]) tk ?_)
 refine ai (k:= .int .i64) (b:=b1) (off:=2) (x:=b) (by rw[af]) tk rfl ?_
 refine ae (cM i.b x.S x.cs H.hw h.1 b t.1) ag ?_
 rintro x' M ⟨rfl,rfl⟩
 try simp only[aq,al]
 exact aa (x:=((0:Int),(Ob.put x.S h.1 b t.1).1,())) rfl ⟨rfl,rfl⟩ ag aB
theorem Ei:k7 ρ 45 i q k a b c x (Rx.put x a b c):=by
 refine Gl.Spec.of (fun Q w hh=>F.rt.Runtime.put.calls (some ⟨q,0,none⟩) (k,a,b,c,()) hh) fun R=> ?_
 unfold F.rt.Runtime.put
 try simp only[aq,al]
 refine ax fun b1=> ?_
 refine ai (k:= .int .i64) (b:=b1) (off:=1) (x:=a) (by rw[af]) tk rfl ?_
 refine ae (fH i q x H.hs a false) ag ?_
 rintro x' M ⟨rfl,rfl⟩
 try simp only[aq,al]
 unfold Rx.put Rx.qp
 generalize Rx.gA x a false=h
 refine aj (fun e=> ?_) (fun e=> ?_)
 ·have e:h.2≠0:=by simpa using e
  rw[if_pos e]
  exact aa (x:=((0:Int),h.2,())) rfl ⟨rfl,rfl⟩ ag aB
 have e:h.2=0:=by simpa using e
 rw[if_neg (fun g=>g e)]
 refine ai (k:= .int .i64) (b:=b1) (off:=2) (x:=b) (by rw[af]) tk rfl ?_
 refine ae (pM i q x H.hw h.1 b) ag ?_
 rintro x' M ⟨rfl,rfl⟩
 try simp only[aq,al]
 generalize Rx.fY x h.1 b=f
 refine aj (fun e1=> ?_) (fun e1=> ?_)
 ·have e1:f.2.2≠0:=by simpa using e1
  rw[if_pos e1]
  exact aa (x:=((0:Int),f.2.2,())) rfl ⟨rfl,rfl⟩ ag aB
 have e1:f.2.2=0:=by simpa using e1
 rw[if_neg (fun g=>g e1)]
 refine aj (fun e2=> ?_) (fun e2=> ?_)
 ·rw[if_pos e2]
  exact aa (x:=((0:Int),(5:Int),())) rfl ⟨rfl,rfl⟩ ag aB
 rw[if_neg (by rw[e2];simp)]
 refine aK ?_
 refine ah ?_
 refine ai (k:= .ptr) (b:=q) (off:=0) (x:=some ⟨i.p,0,none⟩) (by rw[af]) tk rfl ?_
 refine ah ?_
 refine ai (k:= .ptr) (b:=i.p) (off:=0) (x:=some ⟨i.r,0,none⟩) (by rw[af]) tk rfl ?_
 refine ah (fJ (p:=i.r) (hp:=i.b) (rows:=x.rows) (n:=x.aU) (by rw[af]) tk ?_)
 refine ai (k:= .int .i64) (b:=b1) (off:=2) (x:=b) (by rw[af]) tk rfl ?_
 refine ai (k:= .int .i64) (b:=b1) (off:=3) (x:=c) (by rw[af]) tk rfl ?_
 refine ae (cM i.b x.S x.cs H.hw h.1 b c) ag ?_
 rintro x' M ⟨rfl,rfl⟩
 try simp only[aq,al]
 exact aa (x:=((0:Int),(Ob.put x.S h.1 b c).1,())) rfl ⟨rfl,rfl⟩ ag aB
theorem B5:k7 ρ 46 i q k a b c x (Rx.drop x a):=by
 refine Gl.Spec.of (fun Q w hh=>F.rt.Runtime.drop.calls (some ⟨q,0,none⟩) (k,a,b,c,()) hh) fun R=> ?_
 unfold F.rt.Runtime.drop
 try simp only[aq,al]
 refine ax fun b1=>aK ?_
 refine ah ?_
 refine ai (k:= .ptr) (b:=q) (off:=0) (x:=some ⟨i.p,0,none⟩) (by rw[af]) tk rfl ?_
 refine ah ?_
 refine ai (k:= .ptr) (b:=i.p) (off:=1) (x:=some ⟨i.h,0,none⟩) (by rw[af]) tk rfl ?_
 refine ai (k:= .int .i64) (b:=b1) (off:=1) (x:=a) (by rw[af]) tk rfl ?_
 refine ae (zA i.h H.hs a) ag ?_
 rintro x' M ⟨rfl,rfl⟩
 try simp only[aq,al]
 exact aa (x:=((0:Int),Hn.mj x.hs a,())) rfl ⟨rfl,rfl⟩ ag aB
theorem BP:k7 ρ 47 i q k a b c x (Rx.root x a b):=by
 refine Gl.Spec.of (fun Q w hh=>F.rt.Runtime.root.calls (some ⟨q,0,none⟩) (k,a,b,c,()) hh) fun R=> ?_
 unfold F.rt.Runtime.root
 try simp only[aq,al]
 refine ax fun b1=> ?_
 refine ai (k:= .int .i64) (b:=b1) (off:=2) (x:=b) (by rw[af]) tk rfl ?_
 refine ae (fH i q x H.hs b true) ag ?_
 rintro x' M ⟨rfl,rfl⟩
 try simp only[aq,al]
 unfold Rx.root Rx.Bg
 generalize Rx.gA x b true=h
 refine aj (fun e=> ?_) (fun e=> ?_)
 ·have e:h.2≠0:=by simpa using e
  rw[if_pos e]
  exact aa (x:=((0:Int),h.2,())) rfl ⟨rfl,rfl⟩ ag aB
 have e:h.2=0:=by simpa using e
 rw[if_neg (fun g=>g e)]
 refine aK ?_
 refine ah ?_
 refine ai (k:= .ptr) (b:=q) (off:=0) (x:=some ⟨i.p,0,none⟩) (by rw[af]) tk rfl ?_
 refine ah ?_
 refine ai (k:= .ptr) (b:=i.p) (off:=2) (x:=some ⟨i.o,0,none⟩) (by rw[af]) tk rfl ?_
 refine ai (k:= .int .i64) (b:=b1) (off:=1) (x:=a) (by rw[af]) tk rfl ?_
 refine ae (pK i.o x.ro H.ro a h.1) ag ?_
 rintro x' M ⟨rfl,rfl⟩
 try simp only[aq,al]
 exact aa (x:=((0:Int),Rx.pJ a h.1,())) rfl ⟨rfl,rfl⟩ ag aB
theorem CR:k7 ρ 48 i q k a b c x (Rx.take x a):=by
 refine Gl.Spec.of (fun Q w hh=>F.rt.Runtime.take.calls (some ⟨q,0,none⟩) (k,a,b,c,()) hh) fun R=> ?_
 unfold F.rt.Runtime.take
 try simp only[aq,al]
 refine ax fun b1=> ?_
 refine aK (aR [aw q [.pointer (some ⟨i.p,0,none⟩)],aw i.p (i.cs x),aw b1 [i64 k,i64 a,i64 b,i64 c]] ag ?_)
 refine ah (ar (k:= .ptr) (b:=q) (off:=0) (x:=some ⟨i.p,0,none⟩) (by rw[af]) tk rfl ?_)
 refine ah (ar (k:= .ptr) (b:=i.p) (off:=2) (x:=some ⟨i.o,0,none⟩) (by rw[af]) tk rfl ?_)
 refine ar (k:= .int .i64) (b:=b1) (off:=1) (x:=a) (by rw[af]) tk rfl ?_
 try simp only[aq,al]
 refine ae (ra i.o x.ro H.ro a) ag ?_
 rintro x' M ⟨rfl,rfl⟩
 try simp only[aq,al]
 unfold Rx.take
 refine aj (fun e=> ?_) (fun e=> ?_)
 ·have e:(Rx.fk x.ro a).2≠0:=by simpa using e
  rw[if_pos e]
  exact aa (x:=((0:Int),(Rx.fk x.ro a).2,())) rfl ⟨rfl,rfl⟩ ag aB
 have e:(Rx.fk x.ro a).2=0:=by simpa using e
 rw[if_neg (fun g=>g e)]
 refine ae (iJ i q x H.hs (Rx.fk x.ro a).1) ag ?_
 rintro x' M ⟨rfl,rfl⟩
 try simp only[aq,al]
 exact aa (x:=((Rx.cW x (Rx.fk x.ro a).1).1,(Rx.cW x (Rx.fk x.ro a).1).2,())) rfl ⟨rfl,rfl⟩ ag aB
theorem uj:k7 ρ 50 i q k a b c x (Rx.aG x a):=by
 refine Gl.Spec.of (fun Q w hh=>F.rt.Runtime.aG.calls (some ⟨q,0,none⟩) (k,a,b,c,()) hh) fun R=> ?_
 unfold F.rt.Runtime.aG
 try simp only[aq,al]
 refine ax fun b1=> ?_
 refine ai (k:= .int .i64) (b:=b1) (off:=1) (x:=a) (by rw[af]) tk rfl ?_
 refine ae (fH i q x H.hs a false) ag ?_
 rintro x' M ⟨rfl,rfl⟩
 try simp only[aq,al]
 unfold Rx.aG Rx.qp
 generalize Rx.gA x a false=h
 refine aj (fun e=> ?_) (fun e=> ?_)
 ·have e:h.2≠0:=by simpa using e
  rw[if_pos e]
  exact aa (x:=((0:Int),h.2,())) rfl ⟨rfl,rfl⟩ ag aB
 have e:h.2=0:=by simpa using e
 rw[if_neg (fun g=>g e)]
 refine ah ?_
 refine ai (k:= .ptr) (b:=q) (off:=0) (x:=some ⟨i.p,0,none⟩) (by rw[af]) tk rfl ?_
 refine ah ?_
 refine ai (k:= .ptr) (b:=i.p) (off:=0) (x:=some ⟨i.r,0,none⟩) (by rw[af]) tk rfl ?_
 refine ah (fJ (p:=i.r) (hp:=i.b) (rows:=x.rows) (n:=x.aU) (by rw[af]) tk ?_)
 refine ae (bS i.b x.S x.cs H.hw h.1) ag ?_
 rintro x' M ⟨rfl,rfl⟩
 try simp only[aq,al]
 refine ax fun b13=> ?_
 rw[show zc Tryz.prog 103=[.int .i64 0,.int .i64 0,.int .i64 0,.bool false] by kernel_rfl]
 refine aL (b:=b13) (off:=0) rfl tk (by simp) rfl ?_
 cases hh:Ob.head x.S h.1 with
 |none=>
  refine aH rfl ?_
  exact aa (x:=((0:Int),(5:Int),())) rfl ⟨rfl,rfl⟩ ag aB
 |some hd=>
  dsimp only
  refine ak rfl ?_
  refine ai (k:= .int .i64) (b:=b13) (off:=0) (x:=hd.k) (by rw[af]) tk rfl ?_
  refine aj (fun e1=> ?_) (fun e1=> ?_)
  ·have e1:hd.k≠4:=by simpa using e1
   rw[if_pos e1]
   exact aa (x:=((0:Int),(5:Int),())) rfl ⟨rfl,rfl⟩ ag aB
  have e1:hd.k=4:=by simpa using e1
  rw[if_neg (fun g=>g e1)]
  refine ai (k:= .int .i64) (b:=b13) (off:=1) (x:=hd.c) (by rw[af]) tk rfl ?_
  refine aj (fun e2=> ?_) (fun e2=> ?_)
  ·have e2:hd.c=3:=by simpa using e2
   rw[if_pos e2]
   exact aa (x:=((0:Int),(0:Int),())) rfl ⟨rfl,rfl⟩ ag aB
  have e2:hd.c≠3:=by simpa using e2
  rw[if_neg e2]
  refine ah ?_
  refine ai (k:= .ptr) (b:=q) (off:=0) (x:=some ⟨i.p,0,none⟩) (by rw[af]) tk rfl ?_
  refine ah ?_
  refine ai (k:= .ptr) (b:=i.p) (off:=0) (x:=some ⟨i.r,0,none⟩) (by rw[af]) tk rfl ?_
  refine ah (fJ (p:=i.r) (hp:=i.b) (rows:=x.rows) (n:=x.aU) (by rw[af]) tk ?_)
  refine ae (dg i.b x.S x.cs H.hw h.1 0) ag ?_
  rintro x' M ⟨rfl,rfl⟩
  try simp only[aq,al]
  generalize Ob.get x.S h.1 0=g
  refine aj (fun e3=> ?_) (fun e3=> ?_)
  ·have e3:g.2≠0:=by simpa using e3
   rw[if_pos (.inl e3)]
   refine ak (by simpa using e3) ?_
   exact aa (x:=((0:Int),g.2,())) rfl ⟨rfl,rfl⟩ ag aB
  have e3:g.2=0:=by simpa using e3
  refine aj (fun e4=> ?_) (fun e4=> ?_)
  ·have e4:g.1=0:=by simpa using e4
   rw[if_pos (.inr e4)]
   refine aH (by simpa using e3) (ak (by simpa using e4) ?_)
   exact aa (x:=((0:Int),g.2,())) rfl ⟨rfl,rfl⟩ ag aB
  have e4:g.1≠0:=by simpa using e4
  rw[if_neg (fun h=>h.elim (fun h=>h e3) e4)]
  refine ah ?_
  refine ai (k:= .ptr) (b:=q) (off:=0) (x:=some ⟨i.p,0,none⟩) (by rw[af]) tk rfl ?_
  refine ah ?_
  refine ai (k:= .ptr) (b:=i.p) (off:=1) (x:=some ⟨i.h,0,none⟩) (by rw[af]) tk rfl ?_
  refine my i x H.hs tk (fun e=> ?_) (fun r hr e=> ?_)
  ·rw[if_pos e]
   refine aH rfl (aH (by simpa using e3) (aH (by simpa using e4) ?_))
   exact aa (x:=((0:Int),(3:Int),())) rfl ⟨rfl,rfl⟩ ag aB
  rw[if_neg e]
  refine ak (by simpa using hr) ?_
  refine aK (aR [aw q [.pointer (some ⟨i.p,0,none⟩)],aw i.p (i.cs x)] ag ?_)
  refine ah (ar (k:= .ptr) (b:=q) (off:=0) (x:=some ⟨i.p,0,none⟩) (by rw[af]) tk rfl ?_)
  refine ah (ar (k:= .ptr) (b:=i.p) (off:=0) (x:=some ⟨i.r,0,none⟩) (by rw[af]) tk rfl ?_)
  refine ah (ar (k:= .ptr) (b:=q) (off:=0) (x:=some ⟨i.p,0,none⟩) (by rw[af]) tk rfl ?_)
  try simp only[aq,al]
  refine ae (tI i x) ag ?_
  rintro x' M ⟨rfl,rfl⟩
  try simp only[aq,al]
  refine aN ag ?_
  refine ae (rS i.r i.b x.S x.cs H.hw x.rows x.aU h.1 x.ck) ag ?_
  rintro x' M ⟨rfl,rfl⟩
  try simp only[aq,al]
  generalize Rf.aG x.S h.1 x.ck=y
  refine aj (fun e5=> ?_) (fun e5=> ?_)
  ·have e5:y.1.2≠0:=by simpa using e5
   rw[if_pos e5]
   exact aa (x:=((0:Int),y.1.2,())) rfl ⟨rfl,rfl⟩ ag aB
  have e5:y.1.2=0:=by simpa using e5
  rw[if_neg (fun g=>g e5)]
  refine ae (iJ i q {x with S:=y.2} H.hs y.1.1) ag ?_
  rintro x' M ⟨rfl,rfl⟩
  try simp only[aq,al]
  exact aa (x:=((Rx.cW {x with S:=y.2} y.1.1).1,(Rx.cW {x with S:=y.2} y.1.1).2,())) rfl ⟨rfl,rfl⟩ ag aB
theorem Ae:k7 ρ 51 i q k a b c x (Rx.clear x a):=by
 refine Gl.Spec.of (fun Q w hh=>F.rt.Runtime.clear.calls (some ⟨q,0,none⟩) (k,a,b,c,()) hh) fun R=> ?_
 unfold F.rt.Runtime.clear
 try simp only[aq,al]
 refine ax fun b1=> ?_
 refine ai (k:= .int .i64) (b:=b1) (off:=1) (x:=a) (by rw[af]) tk rfl ?_
 refine ae (fH i q x H.hs a false) ag ?_
 rintro x' M ⟨rfl,rfl⟩
 try simp only[aq,al]
 unfold Rx.clear Rx.qp
 generalize Rx.gA x a false=h
 refine aj (fun e=> ?_) (fun e=> ?_)
 ·have e:h.2≠0:=by simpa using e
  rw[if_pos e]
  exact aa (x:=((0:Int),h.2,())) rfl ⟨rfl,rfl⟩ ag aB
 have e:h.2=0:=by simpa using e
 rw[if_neg (fun g=>g e)]
 refine ah ?_
 refine ai (k:= .ptr) (b:=q) (off:=0) (x:=some ⟨i.p,0,none⟩) (by rw[af]) tk rfl ?_
 refine ah ?_
 refine ai (k:= .ptr) (b:=i.p) (off:=0) (x:=some ⟨i.r,0,none⟩) (by rw[af]) tk rfl ?_
 refine ax fun b8=> ?_
 refine Tr.fv (b:=b8) (cs:=[i64 h.1]) tk fun ρ1 ⟨ty,hb⟩ hle=> ?_
 refine ae (nK i.r i.b x.S x.cs H.hw x.rows x.aU ⟨some ⟨b8,0,none⟩,1,1⟩ [h.1] ⟨rfl,.inr ⟨b8,0,_,ty,_,rfl,hb,fun j hj=>by simp⟩⟩ (by show 1<2^40;decide)) ag ?_
 rintro _ _ ⟨rfl,rfl⟩
 try simp only[aq,al]
 exact aa (x:=((0:Int),(Rf.clear x.S [h.1]).1,())) rfl ⟨rfl,rfl⟩ ag aB
theorem vc(hq:QB x.S):k7 ρ 52 i q k a b c x (Rx.enqueue x a):=by
 refine Gl.Spec.of (fun Q w hh=>F.rt.Runtime.enqueue.calls (some ⟨q,0,none⟩) (k,a,b,c,()) hh) fun R=> ?_
 unfold F.rt.Runtime.enqueue
 try simp only[aq,al]
 refine ax fun b1=> ?_
 refine ai (k:= .int .i64) (b:=b1) (off:=1) (x:=a) (by rw[af]) tk rfl ?_
 refine ae (fH i q x H.hs a false) ag ?_
 rintro x' M ⟨rfl,rfl⟩
 try simp only[aq,al]
 unfold Rx.enqueue Rx.qp
 generalize Rx.gA x a false=h
 refine aj (fun e=> ?_) (fun e=> ?_)
 ·have e:h.2≠0:=by simpa using e
  rw[if_pos e]
  exact aa (x:=((0:Int),h.2,())) rfl ⟨rfl,rfl⟩ ag aB
 have e:h.2=0:=by simpa using e
 rw[if_neg (fun g=>g e)]
 refine ah ?_
 refine ai (k:= .ptr) (b:=q) (off:=0) (x:=some ⟨i.p,0,none⟩) (by rw[af]) tk rfl ?_
 refine ah ?_
 refine ai (k:= .ptr) (b:=i.p) (off:=0) (x:=some ⟨i.r,0,none⟩) (by rw[af]) tk rfl ?_
 have hz:=wA H.rows
 refine ae (nW i.r i.b x.S x.cs H.hw x.rows hz x.aU h.1 (rI H.hw hq hz h.1).2.2.2) ag ?_
 rintro x' M ⟨rfl,rfl⟩
 try simp only[aq,al]
 generalize Rf.ct x.S x.rows h.1=y
 refine aj (fun e1=> ?_) (fun e1=> ?_)
 ·have e1:y.1.2≠0:=by simpa using e1
  rw[if_pos (.inl e1)]
  exact aa (x:=((0:Int),y.1.2,())) rfl ⟨rfl,rfl⟩ ag aB
 have e1:y.1.2=0:=by simpa using e1
 refine aj (fun e2=> ?_) (fun e2=> ?_)
 ·have e2:y.1.1=false:=by simpa using e2
  rw[if_pos (.inr e2)]
  exact aa (x:=((0:Int),y.1.2,())) rfl ⟨rfl,rfl⟩ ag aB
 have e2:y.1.1=true:=by simpa using e2
 rw[if_neg (by rw[e1,e2];simp)]
 exact aa (x:=((1:Int),(0:Int),())) rfl ⟨rfl,rfl⟩ ag aB
theorem CK:k7 ρ 53 i q k a b c x (Rx.jI x):=by
 refine Gl.Spec.of (fun Q w hh=>F.rt.Runtime.open.calls (some ⟨q,0,none⟩) (k,a,b,c,()) hh) fun R=> ?_
 unfold F.rt.Runtime.open
 try simp only[aq,al]
 refine ax fun b1=> ?_
 refine ah ?_
 refine ai (k:= .ptr) (b:=q) (off:=0) (x:=some ⟨i.p,0,none⟩) (by rw[af]) tk rfl ?_
 refine ah ?_
 refine ai (k:= .ptr) (b:=i.p) (off:=0) (x:=some ⟨i.r,0,none⟩) (by rw[af]) tk rfl ?_
 refine ah (uY (p:=i.r) (hp:=i.b) (rows:=x.rows) (n:=x.aU) (by rw[af]) tk fun qq=> ?_)
 refine ae (AE qq i.b x.rows H.rows.ux) ag ?_
 rintro x' M ⟨rfl,rfl⟩
 try simp only[aq,al]
 refine Tr.close (M:=[aw i.r [.pointer (some ⟨qq,0,none⟩),i64 x.aU],bP qq i.b (if x.rows.length=8 then x.rows else x.rows++[[]])]) ag (cL.cl (p:=i.r) (q:=qq) (hp:=i.b) (rows:=if x.rows.length=8 then x.rows else x.rows++[[]]) (n:=x.aU)) ?_
 unfold Rx.jI
 by_cases e:x.rows.length=8
 ·simp only[if_pos e]
  exact aa (x:=((0:Int),(3:Int),())) rfl ⟨rfl,rfl⟩ ag aB
 ·simp only[if_neg e]
  exact aa (x:=(((x.rows.length:Nat):Int),(0:Int),())) rfl ⟨rfl,rfl⟩ ag aB
theorem Aj:k7 ρ 55 i q k a b c x (Rx.final x a):=by
 refine Gl.Spec.of (fun Q w hh=>F.rt.Runtime.final.calls (some ⟨q,0,none⟩) (k,a,b,c,()) hh) fun R=> ?_
 unfold F.rt.Runtime.final
 try simp only[aq,al]
 refine ax fun b1=> ?_
 refine ai (k:= .int .i64) (b:=b1) (off:=1) (x:=a) (by rw[af]) tk rfl ?_
 refine ae (fH i q x H.hs a false) ag ?_
 rintro x' M ⟨rfl,rfl⟩
 try simp only[aq,al]
 unfold Rx.final Rx.qp
 generalize Rx.gA x a false=h
 refine aj (fun e=> ?_) (fun e=> ?_)
 ·have e:h.2≠0:=by simpa using e
  rw[if_pos e]
  exact aa (x:=((0:Int),h.2,())) rfl ⟨rfl,rfl⟩ ag aB
 have e:h.2=0:=by simpa using e
 rw[if_neg (fun g=>g e)]
 refine ah ?_
 refine ai (k:= .ptr) (b:=q) (off:=0) (x:=some ⟨i.p,0,none⟩) (by rw[af]) tk rfl ?_
 refine ah ?_
 refine ai (k:= .ptr) (b:=i.p) (off:=3) (x:=some ⟨i.f,0,none⟩) (by rw[af]) tk rfl ?_
 have hwa:=H.wa
 refine ae (xJ i.f i.b x.S x.cs H.hw x.wa x.pe (by omega) h.1) ag ?_
 rintro x' M ⟨rfl,rfl⟩
 try simp only[aq,al]
 exact aa (x:=((0:Int),(Ob.final x.S h.1).1,())) rfl ⟨rfl,rfl⟩ ag aB
theorem B3(hc:x.ck<9223372036854775808)(ha:a<9223372036854775808):k7 ρ 58 i q k a b c x (Rx.tick x a):=by
 have _:=H
 refine Gl.Spec.of (fun Q w hh=>F.rt.Runtime.tick.calls (some ⟨q,0,none⟩) (k,a,b,c,()) hh) fun R=> ?_
 unfold F.rt.Runtime.tick
 try simp only[aq,al]
 refine ax fun b1=> ?_
 refine ai (k:= .int .i64) (b:=b1) (off:=1) (x:=a) (by rw[af]) tk rfl ?_
 unfold Rx.tick
 refine aj (fun e=> ?_) (fun e=> ?_)
 ·have e:a<0:=of_decide_eq_true e
  rw[if_pos e]
  exact aa (x:=((0:Int),(1:Int),())) rfl ⟨rfl,rfl⟩ ag aB
 have e:¬a<0:=of_decide_eq_false e
 rw[if_neg e]
 refine aK ?_
 refine ah ?_
 refine ai (k:= .ptr) (b:=q) (off:=0) (x:=some ⟨i.p,0,none⟩) (by rw[af]) tk rfl ?_
 refine ai (k:= .int .i64) (b:=b1) (off:=1) (x:=a) (by rw[af]) tk rfl ?_
 refine ae (CY i x a hc ha) ag ?_
 rintro _ _ rfl
 try simp only[aq,al]
 exact aa (x:=((0:Int),(0:Int),())) rfl ⟨rfl,rfl⟩ ag aB
end Go.Proofs.YtfepdmpplahloaaGreat
namespace Go.Proofs.YtfepdmpplahloaaGreat
open Go Go.Gl
variable{ρ0 ρ:FR}{L L':List aA}{Post:Value→List aA→Prop}{T:Tree}
theorem xR(p hp:Nat)(rows:List (List Int))(i:Int)(h':Qu.has rows i=false):Gl.Spec ρ Tryz.prog 66 [.pointer (some ⟨p,0,none⟩),i64 i] [bP p hp rows] SE
  fun r M=>r=(⟨none,0,0⟩,2,())∧M=[bP p hp rows]:=by
 refine Gl.Spec.of (fun Q w h=>F.queue.bp.List.calls (some ⟨p,0,none⟩) i h) fun R=> ?_
 unfold F.queue.bp.List
 try simp only[aq,al]
 refine ae (oP p hp rows i) ag ?_
 rintro x' M ⟨rfl,rfl⟩
 try simp only[aq,al]
 refine aH (by rw[h'];rfl) ?_
 exact aa (x:=((⟨none,0,0⟩:ay),(2:Int),())) rfl ⟨rfl,rfl⟩ ag aB
theorem CJ(i:Pl)(q:Nat)(k a b c:Int)(x:Rt)(H:x.Ok):k7 ρ 54 i q k a b c x (Rx.eU x a):=by
 refine Gl.Spec.of (fun Q w hh=>F.rt.Runtime.eU.calls (some ⟨q,0,none⟩) (k,a,b,c,()) hh) fun R=> ?_
 unfold F.rt.Runtime.eU
 try simp only[aq,al]
 refine ax fun b1=> ?_
 refine cL.op (p:=i.r) (hp:=i.b) (rows:=x.rows) (n:=x.aU) tk fun qq=> ?_
 refine aK (aR [aw q [.pointer (some ⟨i.p,0,none⟩)],aw i.p (i.cs x),aw b1 [i64 k,i64 a,i64 b,i64 c],aw i.r [.pointer (some ⟨qq,0,none⟩),i64 x.aU]] ag ?_)
 refine ah (ar (k:= .ptr) (b:=q) (off:=0) (x:=some ⟨i.p,0,none⟩) (by rw[af]) tk rfl ?_)
 refine ah (ar (k:= .ptr) (b:=i.p) (off:=0) (x:=some ⟨i.r,0,none⟩) (by rw[af]) tk rfl ?_)
 refine ah (ar (k:= .ptr) (b:=i.r) (off:=0) (x:=some ⟨qq,0,none⟩) (by rw[af]) tk rfl ?_)
 refine ar (k:= .int .i64) (b:=b1) (off:=1) (x:=a) (by rw[af]) tk rfl ?_
 try simp only[aq,al]
 unfold Rx.eU
 have cl:∀{rows:List (List Int)} {S:aD} {T:Tree} {P:Value→List aA→Prop} {L L':List aA},aI L [aw i.r [.pointer (some ⟨qq,0,none⟩),i64 x.aU],bP qq i.b rows] L'→Tr ρ ρ (cL i.r i.b rows x.aU::L') T P→Tr ρ ρ L T P:=fun t h=>
  Tr.close t (cL.cl (p:=i.r) (q:=qq) (hp:=i.b) (n:=x.aU)) h
 cases hh:Qu.has x.rows a with
 |false=>
  refine ae (xR qq i.b x.rows a hh) ag ?_
  rintro x' M ⟨rfl,rfl⟩
  try simp only[aq,al]
  refine aH rfl ?_
  rw[if_pos trivial]
  refine cl (S:=x.S) ag ?_
  exact aa (x:=((0:Int),(2:Int),())) rfl ⟨rfl,rfl⟩ ag aB
 |true=>
  have hm:=jj hh
  have hlen:=H.rows.len _ hm
  refine ae (ui qq i.b x.S x.cs H.hw x.rows a hh (H.rows.lk _ hm) (by omega)) ag ?_
  rintro _ _ ⟨s,rfl,hs,rfl⟩
  try simp only[aq,al]
  rw[if_neg (by decide)]
  refine ak rfl ?_
  refine aj (fun e=> ?_) (fun e=> ?_)
  ·have e:((s.n:Nat):Int)=0:=by simpa using e
   rw[if_pos (List.eq_nil_of_length_eq_zero (by omega))]
   refine cl (S:=x.S) ag ?_
   exact aa (x:=((0:Int),(0:Int),())) rfl ⟨rfl,rfl⟩ ag aB
  have e:¬((s.n:Nat):Int)=0:=by simpa using e
  rw[if_neg (fun g=>by rw[g]at hs;exact e (by rw[hs];rfl))]
  refine ah ?_
  refine ai (k:= .ptr) (b:=q) (off:=0) (x:=some ⟨i.p,0,none⟩) (by rw[af]) tk rfl ?_
  refine ah ?_
  refine ai (k:= .ptr) (b:=i.p) (off:=1) (x:=some ⟨i.h,0,none⟩) (by rw[af]) tk rfl ?_
  refine my i x H.hs tk (fun e=> ?_) (fun r hr e=> ?_)
  ·rw[if_pos e]
   refine aH rfl ?_
   refine cl (S:=x.S) ag ?_
   exact aa (x:=((0:Int),(3:Int),())) rfl ⟨rfl,rfl⟩ ag aB
  rw[if_neg e]
  refine ak (by simpa using hr) ?_
  refine aK (aR [aw q [.pointer (some ⟨i.p,0,none⟩)],aw i.p (i.cs x),aw b1 [i64 k,i64 a,i64 b,i64 c],aw i.r [.pointer (some ⟨qq,0,none⟩),i64 x.aU]] ag ?_)
  refine ah (ar (k:= .ptr) (b:=q) (off:=0) (x:=some ⟨i.p,0,none⟩) (by rw[af]) tk rfl ?_)
  refine ah (ar (k:= .ptr) (b:=i.p) (off:=0) (x:=some ⟨i.r,0,none⟩) (by rw[af]) tk rfl ?_)
  refine ah (ar (k:= .ptr) (b:=i.r) (off:=0) (x:=some ⟨qq,0,none⟩) (by rw[af]) tk rfl ?_)
  refine ar (k:= .int .i64) (b:=b1) (off:=1) (x:=a) (by rw[af]) tk rfl ?_
  try simp only[aq,al]
  refine ae (tc qq i.b x.S x.cs H.hw x.rows H.rows.lk a) ag ?_
  rintro x' M ⟨rfl,rfl⟩
  try simp only[aq,al]
  refine cl (S:=x.S) ag ?_
  generalize Qu.hU x.rows a=y
  generalize Qu.cp x.S x.rows a=S'
  generalize Qu.dP x.rows a=rows'
  refine Tr.drop (A:=aE s 1 ((Qu.row x.rows a).map i64)) tk ?_
  refine aj (fun e5=> ?_) (fun e5=> ?_)
  ·have e5:y.2≠0:=by simpa using e5
   rw[if_pos e5]
   exact aa (x:=((0:Int),y.2,())) rfl ⟨rfl,rfl⟩ ag aB
  have e5:y.2=0:=by simpa using e5
  rw[if_neg (fun g=>g e5)]
  refine ae (iJ i q {x with S:=S',rows:=rows'} H.hs y.1) ag ?_
  rintro x' M ⟨rfl,rfl⟩
  try simp only[aq,al]
  exact aa (x:=((Rx.cW {x with S:=S',rows:=rows'} y.1).1,(Rx.cW {x with S:=S',rows:=rows'} y.1).2,())) rfl ⟨rfl,rfl⟩ ag aB
theorem Dn(i:Pl)(q:Nat)(k a b c:Int)(x:Rt)(H:x.Ok):k7 ρ 56 i q k a b c x (Rx.run x a b c):=by
 refine Gl.Spec.of (fun Q w hh=>F.rt.Runtime.run.calls (some ⟨q,0,none⟩) (k,a,b,c,()) hh) fun R=> ?_
 unfold F.rt.Runtime.run
 try simp only[aq,al]
 have hpe:=H.pe
 refine ax fun b1=> ?_
 refine aK (aR [aw q [.pointer (some ⟨i.p,0,none⟩)],aw i.p (i.cs x),aw b1 [i64 k,i64 a,i64 b,i64 c]] ag ?_)
 refine ah (ar (k:= .ptr) (b:=q) (off:=0) (x:=some ⟨i.p,0,none⟩) (by rw[af]) tk rfl ?_)
 refine ah (ar (k:= .ptr) (b:=i.p) (off:=2) (x:=some ⟨i.o,0,none⟩) (by rw[af]) tk rfl ?_)
 refine ar (k:= .int .i64) (b:=b1) (off:=3) (x:=c) (by rw[af]) tk rfl ?_
 try simp only[aq,al]
 refine ae (ra i.o x.ro H.ro c) ag ?_
 rintro x' M ⟨rfl,rfl⟩
 try simp only[aq,al]
 have main:(a<0∨a≥x.pe.length∨b<0∨b>2)→Rx.run x a b c=((0,1),x):=fun h=>if_pos h
 refine od (fun _ M=>Rx.run x a b c=(if(Fn.dT x.pe a).2≠0 then((0,(Fn.dT x.pe a).2),{x with pe:=Fn.dN x.pe a})else
   if b=1 then((0,Rx.pJ c (Fn.dT x.pe a).1),{x with pe:=Fn.dN x.pe a,ro:=Rx.cw x.ro c (Fn.dT x.pe a).1})else
   if b=2 then(Rx.cW {x with pe:=Fn.dN x.pe a} (Fn.dT x.pe a).1,Rx.dO {x with pe:=Fn.dN x.pe a} (Fn.dT x.pe a).1)else((0,0),{x with pe:=Fn.dN x.pe a}))∧
  M=aw b1 [i64 k,i64 a,i64 b,i64 c]::(i.Q q x++R)) ?_ ?_
 ·rintro _ _ ⟨e0,rfl⟩
  rw[e0]
  refine aK (aR [aw q [.pointer (some ⟨i.p,0,none⟩)],aw i.p (i.cs x),aw b1 [i64 k,i64 a,i64 b,i64 c]] ag ?_)
  refine ah (ar (k:= .ptr) (b:=q) (off:=0) (x:=some ⟨i.p,0,none⟩) (by rw[af]) tk rfl ?_)
  refine ah (ar (k:= .ptr) (b:=i.p) (off:=3) (x:=some ⟨i.f,0,none⟩) (by rw[af]) tk rfl ?_)
  refine ar (k:= .int .i64) (b:=b1) (off:=1) (x:=a) (by rw[af]) tk rfl ?_
  try simp only[aq,al]
  refine ae (tA i.f i.b x.wa x.pe (by omega) a) ag ?_
  rintro x' M ⟨rfl,rfl⟩
  try simp only[aq,al]
  generalize Fn.dT x.pe a=y
  generalize Fn.dN x.pe a=pe'
  refine aj (fun e=> ?_) (fun e=> ?_)
  ·have e:y.2≠0:=by simpa using e
   rw[if_pos e]
   exact aa (x:=((0:Int),y.2,())) rfl ⟨rfl,rfl⟩ ag aB
  have e:y.2=0:=by simpa using e
  rw[if_neg (fun g=>g e)]
  refine ai (k:= .int .i64) (b:=b1) (off:=2) (x:=b) (by rw[af]) tk rfl ?_
  refine aj (fun e=> ?_) (fun e=> ?_)
  ·have e:b=1:=by simpa using e
   rw[if_pos e]
   refine aK ?_
   refine ah ?_
   refine ai (k:= .ptr) (b:=q) (off:=0) (x:=some ⟨i.p,0,none⟩) (by rw[af]) tk rfl ?_
   refine ah ?_
   refine ai (k:= .ptr) (b:=i.p) (off:=2) (x:=some ⟨i.o,0,none⟩) (by rw[af]) tk rfl ?_
   refine ai (k:= .int .i64) (b:=b1) (off:=3) (x:=c) (by rw[af]) tk rfl ?_
   refine ae (pK i.o x.ro H.ro c y.1) ag ?_
   rintro x' M ⟨rfl,rfl⟩
   try simp only[aq,al]
   exact aa (x:=((0:Int),Rx.pJ c y.1,())) rfl ⟨rfl,rfl⟩ ag aB
  have e:b≠1:=by simpa using e
  rw[if_neg e]
  refine ai (k:= .int .i64) (b:=b1) (off:=2) (x:=b) (by rw[af]) tk rfl ?_
  refine aj (fun e=> ?_) (fun e=> ?_)
  ·have e:b=2:=by simpa using e
   rw[if_pos e]
   refine ae (iJ i q {x with pe:=pe'} H.hs y.1) ag ?_
   rintro x' M ⟨rfl,rfl⟩
   try simp only[aq,al]
   exact aa (x:=((Rx.cW {x with pe:=pe'} y.1).1,(Rx.cW {x with pe:=pe'} y.1).2,())) rfl ⟨rfl,rfl⟩ ag aB
  ·have e:b≠2:=by simpa using e
   rw[if_neg e]
   exact aa (x:=((0:Int),(0:Int),())) rfl ⟨rfl,rfl⟩ ag aB
 ·intro J hJ
  refine aK (aR [aw q [.pointer (some ⟨i.p,0,none⟩)],aw i.p (i.cs x),aw b1 [i64 k,i64 a,i64 b,i64 c]] ag ?_)
  refine ar (k:= .int .i64) (b:=b1) (off:=1) (x:=a) (by rw[af]) tk rfl ?_
  refine aj (fun e=> ?_) (fun e=> ?_)
  ·have e:a<0:=of_decide_eq_true e
   rw[main (.inl e)]
   refine iw [aw q [.pointer (some ⟨i.p,0,none⟩)],aw i.p (i.cs x),aw b1 [i64 k,i64 a,i64 b,i64 c]] ag (fun w h=>h) ?_
   exact aa (x:=((0:Int),(1:Int),())) rfl ⟨rfl,rfl⟩ ag aB
  have e1:¬a<0:=of_decide_eq_false e
  refine ar (k:= .int .i64) (b:=b1) (off:=1) (x:=a) (by rw[af]) tk rfl ?_
  refine ah (ar (k:= .ptr) (b:=q) (off:=0) (x:=some ⟨i.p,0,none⟩) (by rw[af]) tk rfl ?_)
  refine ah (ar (k:= .ptr) (b:=i.p) (off:=3) (x:=some ⟨i.f,0,none⟩) (by rw[af]) tk rfl ?_)
  try simp only[aq,al]
  refine ae (gW i.f i.b x.wa x.pe (by omega)) ag ?_
  rintro s _ ⟨hs,rfl⟩
  try simp only[aq,al]
  refine aN ag (iw [aw q [.pointer (some ⟨i.p,0,none⟩)],aw i.p (i.cs x),aw b1 [i64 k,i64 a,i64 b,i64 c]] ag (fun w h=>h) ?_)
  refine Tr.drop (A:=aE s 1 (x.pe.map i64)) tk ?_
  refine aj (fun e=> ?_) (fun e=> ?_)
  ·have e:a≥s.n:=of_decide_eq_true e
   rw[main (.inr (.inl (by omega)))]
   exact aa (x:=((0:Int),(1:Int),())) rfl ⟨rfl,rfl⟩ ag aB
  have e2:¬a≥s.n:=of_decide_eq_false e
  refine ar (k:= .int .i64) (b:=b1) (off:=2) (x:=b) (by rw[af]) tk rfl ?_
  refine aj (fun e=> ?_) (fun e=> ?_)
  ·have e:b<0:=of_decide_eq_true e
   rw[main (.inr (.inr (.inl e)))]
   exact aa (x:=((0:Int),(1:Int),())) rfl ⟨rfl,rfl⟩ ag aB
  have e3:¬b<0:=of_decide_eq_false e
  refine ar (k:= .int .i64) (b:=b1) (off:=2) (x:=b) (by rw[af]) tk rfl ?_
  refine aj (fun e=> ?_) (fun e=> ?_)
  ·have e:b>2:=of_decide_eq_true e
   rw[main (.inr (.inr (.inr e)))]
   exact aa (x:=((0:Int),(1:Int),())) rfl ⟨rfl,rfl⟩ ag aB
  have e4:¬b>2:=of_decide_eq_false e
  have m1:Rx.run x a b c=_:=if_neg (fun g=>by omega)
  refine ai (k:= .int .i64) (b:=b1) (off:=2) (x:=b) (by rw[af]) tk rfl ?_
  refine aj (fun e=> ?_) (fun e=> ?_)
  ·have e5:b=1:=by simpa using e
   refine aj (fun e=> ?_) (fun e=> ?_)
   ·have e:(Rx.fk x.ro c).2≠0:=by simpa using e
    rw[m1,if_pos ⟨e5,e⟩]
    exact aa (x:=((0:Int),(1:Int),())) rfl ⟨rfl,rfl⟩ ag aB
   have e:(Rx.fk x.ro c).2=0:=by simpa using e
   refine ai (k:= .int .i64) (b:=b1) (off:=2) (x:=b) (by rw[af]) tk rfl ?_
   refine ak (by simp[e5]) ?_
   exact Tr.perm (aI.perm (M:=aw b1 [i64 k,i64 a,i64 b,i64 c]::i.Q q x) ag) (hJ () _ ⟨by rw[m1,if_neg (fun g=>g.2 e),if_neg (fun g=>by omega)],rfl⟩)
  have e5:b≠1:=by simpa using e
  refine ai (k:= .int .i64) (b:=b1) (off:=2) (x:=b) (by rw[af]) tk rfl ?_
  refine aj (fun e=> ?_) (fun e=> ?_)
  ·have e6:b=2:=by simpa using e
   refine ah ?_
   refine ai (k:= .ptr) (b:=q) (off:=0) (x:=some ⟨i.p,0,none⟩) (by rw[af]) tk rfl ?_
   refine ah ?_
   refine ai (k:= .ptr) (b:=i.p) (off:=1) (x:=some ⟨i.h,0,none⟩) (by rw[af]) tk rfl ?_
   refine my i x H.hs tk (fun e=> ?_) (fun r hr e=> ?_)
   ·refine aH rfl ?_
    rw[m1,if_neg (fun g=>e5 g.1),if_pos ⟨e6,e⟩]
    exact aa (x:=((0:Int),(3:Int),())) rfl ⟨rfl,rfl⟩ ag aB
   ·refine ak (by simpa using hr) ?_
    exact Tr.perm (aI.perm (M:=aw b1 [i64 k,i64 a,i64 b,i64 c]::i.Q q x) ag) (hJ () _ ⟨by rw[m1,if_neg (fun g=>e5 g.1),if_neg (fun g=>e g.2)],rfl⟩)
  have e6:b≠2:=by simpa using e
  exact Tr.perm (aI.perm (M:=aw b1 [i64 k,i64 a,i64 b,i64 c]::i.Q q x) ag) (hJ () _ ⟨by rw[m1,if_neg (fun g=>e5 g.1),if_neg (fun g=>e6 g.1)],rfl⟩)
end Go.Proofs.YtfepdmpplahloaaGreat
namespace Go.Proofs.YtfepdmpplahloaaGreat
open Go Go.Gl
variable{ρ0 ρ:FR}{L L':List aA}{Post:Value→List aA→Prop}{T:Tree}
theorem tR{p:Nat}{S:aD}{cs:List aS}{f:Option Addr→Tree}{a:Addr}(ha:a=⟨p,0,none⟩)(t:Take L (au p S cs) L')
  (h:∀ps pt:Nat,Tr ρ0 ρ (aF ps S::aw p [.pointer (some ⟨ps,0,none⟩),.pointer (some ⟨pt,0,none⟩)]::bz pt cs::L') (f (some ⟨ps,0,none⟩)) Post):Tr ρ0 ρ L (ld (.l .ptr) a f) Post:=by
 subst ha
 refine au.op t fun ps pt=> ?_
 refine ai (k:= .ptr) (off:=0) (x:=some ⟨ps,0,none⟩) rfl tk rfl ?_
 exact Tr.take (A:=aF ps S) tk (h ps pt)
def Rt.fh(x x':Rt)(all:Bool):Prop:=∃(z1 z2:ay) (l:List bW) (m2 m3:List Bool),lD x.S x.cs (x.Bh z1 z2 all) x.roots x.wa l m2 m3∧
 x'=x.after (aT x.S m2 m3 l) (bG x.S m3 (aT x.S m2 m3 l)) (bA x.S m2 x.wa) (Mk.all m3)
theorem Rt.fh.inv{x x':Rt}{all:Bool}(h:x.fh x' all){N:Int}(I:x.Inv N):x'.Inv (N+1):=by
 obtain⟨z1,z2,l,m2,m3,hC,rfl⟩:=h
 exact I.after hC
theorem gZ(i:Pl)(x:Rt)(H:x.Fq)(all:Bool):Gl.Spec ρ Tryz.prog 68 [.pointer (some ⟨i.p,0,none⟩),.bool all] (i.A x) OE
  fun r M=>∃(s1 s2 s3 s4:ay) (A1 A2 A3 A4:aA) (x':Rt),r=((s1,s2,s3,s4,()),0,())∧x.fh x' all∧M=[A1,A2,A3,A4]++i.A x':=
 Spec.post (vC i x H all) fun r M ⟨z1,z2,s1,s2,s3,s4,l,m2,m3,hC,hr,hM⟩=>⟨s1,s2,s3,s4,_,_,_,_,_,hr,⟨z1,z2,l,m2,m3,hC,rfl⟩,hM⟩
namespace Rx
def cU(x:Rt)(a:Int)(y:bg):Prop:=if a≠0∧a≠1 then y=((0,1),x)else∃x',x.fh x' (a==1)∧y=(((((Sp.each x.S).length:Nat):Int)-(((Sp.each x'.S).length:Nat):Int),(0:Int)),x')
end Rx
theorem vw(i:Pl)(q:Nat)(k a b c:Int)(x:Rt){N:Int}(I:x.Inv N)(hN:N+1<2^50):
  Gl.Spec ρ Tryz.prog 57 [.pointer (some ⟨q,0,none⟩),uT k a b c] (i.Q q x) P2 fun r M=>∃y:bg,Rx.cU x a y∧r=(y.1.1,y.1.2,())∧M=i.Q q y.2:=by
 refine Gl.Spec.of (fun Q w hh=>F.rt.Runtime.collect.calls (some ⟨q,0,none⟩) (k,a,b,c,()) hh) fun R=> ?_
 unfold F.rt.Runtime.collect
 try simp only[aq,al]
 have H:=I.EP (by omega)
 refine ax fun b1=> ?_
 rw[AP]
 refine od (fun _ M=>¬(a≠0∧a≠1)∧M=aw b1 [i64 k,i64 a,i64 b,i64 c]::(i.Q q x++R)) ?_ ?_
 ·rintro _ _ ⟨ha,rfl⟩
  refine ah ?_
  refine ai (k:= .ptr) (b:=q) (off:=0) (x:=some ⟨i.p,0,none⟩) (by rw[af]) tk rfl ?_
  refine ah ?_
  refine ai (k:= .ptr) (b:=i.p) (off:=0) (x:=some ⟨i.r,0,none⟩) (by rw[af]) tk rfl ?_
  refine ah (fJ (p:=i.r) (hp:=i.b) (rows:=x.rows) (n:=x.aU) (by rw[af]) tk ?_)
  refine ah (tR (p:=i.b) (by rw[af]) tk fun ps pt=> ?_)
  refine ae (fx ps x.S H.hw.wf) ag ?_
  rintro s _ ⟨hs,rfl⟩
  try simp only[aq,al]
  refine Tr.close (M:=[aw i.b [.pointer (some ⟨ps,0,none⟩),.pointer (some ⟨pt,0,none⟩)],aF ps x.S,bz pt x.cs]) ag (au.cl (p:=i.b)) ?_
  refine Tr.drop (A:=aE s 1 ((Sp.each x.S).map i64)) tk ?_
  refine aK (aR [aw q [.pointer (some ⟨i.p,0,none⟩)],aw b1 [i64 k,i64 a,i64 b,i64 c]] ag ?_)
  refine ah (ar (k:= .ptr) (b:=q) (off:=0) (x:=some ⟨i.p,0,none⟩) (by rw[af]) tk rfl ?_)
  refine ar (k:= .int .i64) (b:=b1) (off:=1) (x:=a) (by rw[af]) tk rfl ?_
  try simp only[aq,al]
  have hel:=Sp.cV H.hw.wf
  have fin:∀(x':Rt) {LL RR:List aA},x.fh x' (a==1)→aI LL (i.Q q x') RR→RR=RR→
    Tr ρ ρ LL (nn (some ⟨q,0,none⟩) fun a21=>ld (.l .ptr) (fa a21 0) fun(x22:Option Addr)=>nn x22 fun a23=>ld (.l .ptr) (fa a23 0) fun(x24:Option Addr)=>nn x24 fun a25=>ld (.l .ptr) (fa a25 0) fun(x26:Option Addr)=>
     nn x26 fun a27=>ld (.l .ptr) (fa a27 0) fun(x28:Option Addr)=>nn x28 fun a29=>ld (.l .ptr) (fa a29 0) fun(x30:Option Addr)=>call Tryz.prog 60 [.pointer x30] (.one (.l .slice)) fun(r31:ay)=>
     ret (.tuple #[.int .i64 (IntKind.wrap .i64 ((s.n:Nat)-(r31.n:Nat))),.int .i64 0])) (SP P2 (fun r M=>∃y:bg,Rx.cU x a y∧r=(y.1.1,y.1.2,())∧M=i.Q q y.2) RR):=fun x' LL RR hC hp _=>by
   have I':=hC.inv I
   have hw':=I'.w.hw
   have hel':=Sp.cV hw'.wf
   refine Tr.perm hp.perm ?_
   try simp only[aq,al]
   refine ah ?_
   refine ai (k:= .ptr) (b:=q) (off:=0) (x:=some ⟨i.p,0,none⟩) (by rw[af]) tk rfl ?_
   refine ah ?_
   refine ai (k:= .ptr) (b:=i.p) (off:=0) (x:=some ⟨i.r,0,none⟩) (by rw[af]) tk rfl ?_
   refine ah (fJ (p:=i.r) (hp:=i.b) (rows:=x'.rows) (n:=x'.aU) (by rw[af]) tk ?_)
   refine ah (tR (p:=i.b) (by rw[af]) tk fun ps pt=> ?_)
   refine ae (fx ps x'.S hw'.wf) ag ?_
   rintro s' _ ⟨hs',rfl⟩
   try simp only[aq,al]
   refine Tr.close (M:=[aw i.b [.pointer (some ⟨ps,0,none⟩),.pointer (some ⟨pt,0,none⟩)],aF ps x'.S,bz pt x'.cs]) ag (au.cl (p:=i.b)) ?_
   refine Tr.drop (A:=aE s' 1 ((Sp.each x'.S).map i64)) tk ?_
   rw[wrap64 (by omega) (by omega),hs,hs']
   have hy:Rx.cU x a (((((Sp.each x.S).length:Nat):Int)-(((Sp.each x'.S).length:Nat):Int),(0:Int)),x'):=by unfold Rx.cU;rw[if_neg ha];exact⟨x',hC,rfl⟩
   exact aa (x:=((((Sp.each x.S).length:Nat):Int)-(((Sp.each x'.S).length:Nat):Int),(0:Int),())) rfl ⟨(((((Sp.each x.S).length:Nat):Int)-(((Sp.each x'.S).length:Nat):Int),(0:Int)),x'),hy,rfl,rfl⟩ ag aB
  refine fb ?_ ?_
  ·refine ae (gZ i x H (a==1)) ag ?_
   rintro _ _ ⟨s1,s2,s3,s4,A1,A2,A3,A4,x',rfl,hC,rfl⟩
   try simp only[aq,al]
   refine ax fun b20=> ?_
   refine aL (b:=b20) (off:=0) rfl tk (by simp) rfl ?_
   refine ak rfl ?_
   refine Tr.drop (A:=A1) tk (Tr.drop (A:=A2) tk (Tr.drop (A:=A3) tk (Tr.drop (A:=A4) tk ?_)))
   refine Tr.drop (A:=aw b20 (uF s1 s2 s3 s4)) tk (Tr.drop (A:=aw b1 [i64 k,i64 a,i64 b,i64 c]) tk ?_)
   exact fin x' hC ag rfl
  ·refine ax fun b20=>aN ag ?_
   refine ae (gZ i x H (a==1)) ag ?_
   rintro _ _ ⟨s1,s2,s3,s4,A1,A2,A3,A4,x',rfl,hC,rfl⟩
   try simp only[aq,al]
   refine aL (b:=b20) (off:=0) rfl tk (by simp) rfl ?_
   refine ak rfl ?_
   refine Tr.drop (A:=A1) tk (Tr.drop (A:=A2) tk (Tr.drop (A:=A3) tk (Tr.drop (A:=A4) tk ?_)))
   refine Tr.drop (A:=aw b20 (uF s1 s2 s3 s4)) tk (Tr.drop (A:=aw b1 [i64 k,i64 a,i64 b,i64 c]) tk ?_)
   exact fin x' hC ag rfl
 ·intro J hJ
  refine ai (k:= .int .i64) (b:=b1) (off:=1) (x:=a) (by rw[af]) tk rfl ?_
  refine aj (fun e=> ?_) (fun e=> ?_)
  ·have e1:a≠0:=by simpa using e
   refine ai (k:= .int .i64) (b:=b1) (off:=1) (x:=a) (by rw[af]) tk rfl ?_
   refine aj (fun e=> ?_) (fun e=> ?_)
   ·have e2:a≠1:=by simpa using e
    have hy:Rx.cU x a ((0,1),x):=by unfold Rx.cU;rw[if_pos ⟨e1,e2⟩]
    exact aa (x:=((0:Int),(1:Int),())) rfl ⟨((0,1),x),hy,rfl,rfl⟩ ag aB
   ·have e2:a=1:=by simpa using e
    exact hJ () _ ⟨fun g=>g.2 e2,rfl⟩
  ·have e1:a=0:=by simpa using e
   exact hJ () _ ⟨fun g=>g.1 e1,rfl⟩
theorem AM(i:Pl)(q:Nat)(k a b c:Int)(x:Rt)(H:x.Ok):k7 ρ 59 i q k a b c x (Rx.count x a):=by
 refine Gl.Spec.of (fun Q w hh=>F.rt.Runtime.count.calls (some ⟨q,0,none⟩) (k,a,b,c,()) hh) fun R=> ?_
 unfold F.rt.Runtime.count
 try simp only[aq,al]
 have hpe:=H.pe
 have hws:=H.ws
 have hul:=sD H.hw.wf
 refine ax fun b1=> ?_
 refine cL.op (p:=i.r) (hp:=i.b) (rows:=x.rows) (n:=x.aU) tk fun qq=> ?_
 refine bP.op (p:=qq) (hp:=i.b) (rows:=x.rows) tk fun z hz=> ?_
 refine au.op (p:=i.b) (S:=x.S) (cs:=x.cs) tk fun ps pt=> ?_
 refine ah ?_
 refine ai (k:= .ptr) (b:=q) (off:=0) (x:=some ⟨i.p,0,none⟩) (by rw[af]) tk rfl ?_
 refine ah ?_
 refine ai (k:= .ptr) (b:=i.p) (off:=0) (x:=some ⟨i.r,0,none⟩) (by rw[af]) tk rfl ?_
 refine ah (ai (k:= .ptr) (b:=i.r) (off:=0) (x:=some ⟨qq,0,none⟩) (by rw[af]) tk rfl ?_)
 refine ah (ai (k:= .ptr) (b:=qq) (off:=0) (x:=some ⟨i.b,0,none⟩) (by rw[af]) tk rfl ?_)
 refine ah (ai (k:= .ptr) (b:=i.b) (off:=0) (x:=some ⟨ps,0,none⟩) (by rw[af]) tk rfl ?_)
 refine ae (oZ ps x.S H.hw.wf) ag ?_
 rintro x' M ⟨rfl,rfl⟩
 try simp only[aq,al]
 refine aK (aR [aw q [.pointer (some ⟨i.p,0,none⟩)],aw i.p (i.cs x),aw i.r [.pointer (some ⟨qq,0,none⟩),i64 x.aU],aw qq [.pointer (some ⟨i.b,0,none⟩),.slice z.a z.n z.c],aw i.b [.pointer (some ⟨ps,0,none⟩),.pointer (some ⟨pt,0,none⟩)]] ag ?_)
 iterate 2
  try refine ah (ar (k:= .ptr) (b:=q) (off:=0) (x:=some ⟨i.p,0,none⟩) (by rw[af]) tk rfl ?_)
  try refine ah (ar (k:= .ptr) (b:=i.p) (off:=0) (x:=some ⟨i.r,0,none⟩) (by rw[af]) tk rfl ?_)
  try refine ah (ar (k:= .ptr) (b:=i.r) (off:=0) (x:=some ⟨qq,0,none⟩) (by rw[af]) tk rfl ?_)
  try refine ah (ar (k:= .ptr) (b:=qq) (off:=0) (x:=some ⟨i.b,0,none⟩) (by rw[af]) tk rfl ?_)
  try refine ah (ar (k:= .ptr) (b:=i.b) (off:=0) (x:=some ⟨ps,0,none⟩) (by rw[af]) tk rfl ?_)
  try refine ah (ar (k:= .ptr) (b:=q) (off:=0) (x:=some ⟨i.p,0,none⟩) (by rw[af]) tk rfl ?_)
  try refine ah (ar (k:= .ptr) (b:=i.p) (off:=3) (x:=some ⟨i.f,0,none⟩) (by rw[af]) tk rfl ?_)
 try simp only[aq,al]
 refine ae (qK ps x.S H.ws (by have:=H.hw.wf.len;have:=H.hw.wf.gv;omega)) ag ?_
 rintro x' M ⟨rfl,rfl⟩
 try simp only[aq,al]
 refine aN ag ?_
 refine ae (gW i.f i.b x.wa x.pe (by omega)) ag ?_
 rintro s _ ⟨hs,rfl⟩
 try simp only[aq,al]
 refine aN ag ?_
 refine ae (fx ps x.S H.hw.wf) ag ?_
 rintro s' _ ⟨hs',rfl⟩
 try simp only[aq,al]
 refine aN ag ?_
 refine ae (wR i x) ag ?_
 rintro x' M ⟨rfl,rfl⟩
 try simp only[aq,al]
 have hwl:=H.hw.wf.len
 have hwm:=H.hw.wf.gv
 refine ax fun b44=> ?_
 rw[wrap64 (n:=((x.S.ws.length-64:Nat):Int)-_) (by omega) (by omega),hs,hs']
 refine Tr.drop (A:=aE s 1 (x.pe.map i64)) tk (Tr.drop (A:=aE s' 1 ((Sp.each x.S).map i64)) tk ?_)
 refine Tr.close (M:=[aw i.b [.pointer (some ⟨ps,0,none⟩),.pointer (some ⟨pt,0,none⟩)],aF ps x.S,bz pt x.cs]) ag (au.cl (p:=i.b)) ?_
 refine Tr.close ag (bP.cl (p:=qq) (hp:=i.b) (rows:=x.rows) hz) ?_
 refine Tr.close ag (cL.cl (p:=i.r) (q:=qq) (hp:=i.b) (rows:=x.rows) (n:=x.aU)) ?_
 refine Tr.take (A:=aw b44 ((Rx.counts x).map i64)) tk ?_
 unfold Rx.count
 refine ai (k:= .int .i64) (b:=b1) (off:=1) (x:=a) (by rw[af]) tk rfl ?_
 refine aj (fun e=> ?_) (fun e=> ?_)
 ·have e:a<0:=of_decide_eq_true e
  rw[if_pos (.inl e)]
  exact aa (x:=((0:Int),(1:Int),())) rfl ⟨rfl,rfl⟩ ag aB
 have e1:¬a<0:=of_decide_eq_false e
 refine ai (k:= .int .i64) (b:=b1) (off:=1) (x:=a) (by rw[af]) tk rfl ?_
 refine aj (fun e=> ?_) (fun e=> ?_)
 ·have e:a≥5:=of_decide_eq_true e
  rw[if_pos (.inr e)]
  exact aa (x:=((0:Int),(1:Int),())) rfl ⟨rfl,rfl⟩ ag aB
 have e2:¬a≥5:=of_decide_eq_false e
 rw[if_neg (fun g=>g.elim e1 e2)]
 refine ai (k:= .int .i64) (b:=b1) (off:=1) (x:=a) (by rw[af]) tk rfl ?_
 refine iO (by omega) (by omega) ?_
 rw[af]
 refine ai (k:= .int .i64) (b:=b44) (off:=0+a.toNat*1) (x:=(Rx.counts x).getD a.toNat 0) rfl tk ?_ ?_
 ·rw[show 0+a.toNat*1=a.toNat by omega]
  exact getD_map (by show a.toNat<5;omega)
 exact aa (x:=((Rx.counts x).getD a.toNat 0,(0:Int),())) rfl ⟨rfl,rfl⟩ ag aB
end Go.Proofs.YtfepdmpplahloaaGreat
namespace Go.Proofs.YtfepdmpplahloaaGreat
open Go Go.Gl
variable{ρ0 ρ:FR}{L L':List aA}{Post:Value→List aA→Prop}{T:Tree}
namespace Rx
def Be(mk:Rt→bg)(x:Rt)(y:bg):Prop:=
 ((mk x).1.2≠3∧y=mk x)∨((mk x).1.2=3∧∃x1,(mk x).2.fh x1 false∧(((mk x1).1.2≠3∧y=mk x1)∨((mk x1).1.2=3∧∃x2,(mk x1).2.fh x2 true∧y=mk x2)))
def dU(mk:Rt→bg)(x:Rt)(y:bg):Prop:=if Hn.free x.hs=none then y=((0,3),x)else∃z,Be mk x z∧y=if z.1.2≠0 then((0,z.1.2),z.2)else(cW z.2 z.1.1,dO z.2 z.1.1)
theorem jd{x:Rt}{N:Int}(I:x.Inv N)(v:Int):(dO x v).Inv N:=by
 unfold dO
 split
 ·exact I
 ·exact{I with h:=I.h.hold v}
def Ey(mk:Rt→bg)(x:Rt)(j:Nat)(z:bg):Prop:=
 (j=0∧z=mk x)∨(j=1∧(mk x).1.2=3∧∃x1,(mk x).2.fh x1 false∧z=mk x1)∨(j=2∧(mk x).1.2=3∧∃x1,(mk x).2.fh x1 false∧(mk x1).1.2=3∧∃x2,(mk x1).2.fh x2 true∧z=mk x2)
theorem Ey.tries{mk:Rt→bg}{x:Rt}{j:Nat}{z:bg}(h:Ey mk x j z)(hz:z.1.2≠3∨j=2):Be mk x z:=by
 rcases h with ⟨rfl,rfl⟩|⟨rfl,h1,x1,h2,rfl⟩|⟨rfl,h1,x1,h2,h3,x2,h4,rfl⟩
 ·exact .inl ⟨hz.resolve_right (by decide),rfl⟩
 ·exact .inr ⟨h1,x1,h2,.inl ⟨hz.resolve_right (by decide),rfl⟩⟩
 ·exact .inr ⟨h1,x1,h2,.inr ⟨h3,x2,h4,rfl⟩⟩
theorem Ey.next{mk:Rt→bg}{x x':Rt}{j:Nat}{z:bg}(h:Ey mk x j z)(hz:z.1.2=3)(hj:j<2)(hc:z.2.fh x' (j==1)):Ey mk x (j+1) (mk x'):=by
 rcases h with ⟨rfl,rfl⟩|⟨rfl,h1,x1,h2,rfl⟩|⟨rfl,_⟩
 ·exact .inr (.inl ⟨rfl,hz,x',hc,rfl⟩)
 ·exact .inr (.inr ⟨rfl,h1,x1,h2,hz,x',hc,rfl⟩)
 ·omega
end Rx
theorem DY:∀{j:Nat},j<2→([.bool false,.bool true]:List Value)[j]? =some (LK.val .bool (j==1))
 |0,_=>rfl
 |1,_=>rfl
theorem AH(i:Pl)(q:Nat)(x:Rt)(C:aA)(mk:Rt→bg){N:Int}(hN:N+10<2^49)(z:bg)(e:Hn.free x.hs≠none){LL R:List aA}(ht:Rx.Be mk x z)(Iz:z.2.Inv (N+10))(hp:aI LL (C::i.Q q z.2) R):
  Tr ρ ρ LL (br ((z.1.2:Int) != 0) (ret (.tuple #[.int .i64 0,.int .i64 z.1.2])) (call Tryz.prog 80 [.pointer (some ⟨q,0,none⟩),.int .i64 z.1.1] (.many [.l (.int .i64),.l (.int .i64)]) fun(r12:KTs _)=>ret (.tuple #[.int .i64 r12.1,.int .i64 r12.2.1])))
   (SP P2 (fun r M=>∃y:bg,Rx.dU mk x y∧y.2.Inv (N+10)∧r=(y.1.1,y.1.2,())∧M=C::i.Q q y.2) R):=by
 refine Tr.perm hp.perm ?_
 try simp only[aq,al]
 refine aj (fun e1=> ?_) (fun e1=> ?_)
 ·have e1:z.1.2≠0:=by simpa using e1
  have hy:Rx.dU mk x ((0,z.1.2),z.2):=by unfold Rx.dU;rw[if_neg e];exact⟨z,ht,by rw[if_pos e1]⟩
  exact aa (x:=((0:Int),z.1.2,())) rfl ⟨((0,z.1.2),z.2),hy,Iz,rfl,rfl⟩ ag aB
 ·have e1:z.1.2=0:=by simpa using e1
  refine ae (iJ i q z.2 (Iz.h.ok (by omega)) z.1.1) ag ?_
  rintro x' M ⟨rfl,rfl⟩
  try simp only[aq,al]
  have hy:Rx.dU mk x (Rx.cW z.2 z.1.1,Rx.dO z.2 z.1.1):=by unfold Rx.dU;rw[if_neg e];exact⟨z,ht,by rw[if_neg (fun g=>g e1)]⟩
  exact aa (x:=((Rx.cW z.2 z.1.1).1,(Rx.cW z.2 z.1.1).2,())) rfl ⟨(Rx.cW z.2 z.1.1,Rx.dO z.2 z.1.1),hy,Rx.jd Iz _,rfl,rfl⟩ ag aB
theorem wM(i:Pl)(q:Nat)(x:Rt)(C:aA){f:FuncId}{fn:Func}{cv:Array Value}(hf:Tryz.prog.funcs[f]? =some fn)(hb:fn.body.isSome=true)(mk:Rt→bg){N:Int}(I:x.Inv N)(hN:N+10<2^49)
  (hm:∀(M:Int) (y:Rt),y.Inv M→M<2^49→Gl.Spec ρ Tryz.prog f ([]++cv.toList) (C::i.Q q y) P2 (fun r L=>r=((mk y).1.1,(mk y).1.2,())∧L=C::i.Q q (mk y).2)∧(mk y).2.Inv (M+1)):
  Gl.Spec ρ Tryz.prog 86 [.pointer (some ⟨q,0,none⟩),.func (.func f) #[] cv] (C::i.Q q x) P2
  fun r M=>∃y:bg,Rx.dU mk x y∧y.2.Inv (N+10)∧r=(y.1.1,y.1.2,())∧M=C::i.Q q y.2:=by
 refine Gl.Spec.of (fun Q w hh=>F.rt.Runtime.made.calls (some ⟨q,0,none⟩) (.func (.func f) #[] cv) hh) fun R=> ?_
 unfold F.rt.Runtime.made
 try simp only[aq,al]
 refine ah ?_
 refine ai (k:= .ptr) (b:=q) (off:=0) (x:=some ⟨i.p,0,none⟩) (by rw[af]) tk rfl ?_
 refine ah ?_
 refine ai (k:= .ptr) (b:=i.p) (off:=1) (x:=some ⟨i.h,0,none⟩) (by rw[af]) tk rfl ?_
 have hok:=I.h.ok (show N<2^50 by omega)
 refine my i x hok tk (fun e=> ?_) (fun r hr e=> ?_)
 ·refine aH rfl ?_
  have hy:Rx.dU mk x ((0,3),x):=by unfold Rx.dU;rw[if_pos e]
  exact aa (x:=((0:Int),(3:Int),())) rfl ⟨((0,3),x),hy,I.le (by omega),rfl,rfl⟩ ag aB
 refine ak (by simpa using hr) ?_
 obtain⟨s0,I0⟩:=hm N x I (by omega)
 refine iS hf hb s0 ag ?_
 rintro _ _ ⟨rfl,rfl⟩
 try simp only[aq,al]
 refine ax fun b7=> ?_
 have fin:=fun(z:bg) {LL:List aA} ht Iz hp=>AH (ρ:=ρ) (LL:=LL) (R:=R) i q x C mk hN z e ht Iz hp
 refine aP (I:=fun n u M=>∃(j:Nat) (z:bg),j≤2∧n=2-j∧u=(z.1.1,z.1.2,(j:Int),())∧Rx.Ey mk x j z∧z.2.Inv (N+2*j+1)∧M=aw b7 [.bool false,.bool true]::C::(i.Q q z.2++R)) 2 ⟨0,mk x,by omega,rfl,rfl,.inl ⟨rfl,rfl⟩,I0.le (by omega),rfl⟩ ?_
 rintro n _ _ ⟨j,z,hj,rfl,rfl,ht,Iz,rfl⟩ X hX
 try simp only[aq,al]
 refine aj (fun hc=> ?_) (fun hc=> ?_)
 ·have hj':j<2:=by have:(j:Int)<2:=of_decide_eq_true hc;omega
  refine iO (by omega) (by omega) ?_
  rw[af]
  refine ai (k:= .bool) (b:=b7) (off:=0+(j:Int).toNat*1) (x:=(j==1)) rfl tk ?_ ?_
  ·rw[show 0+(j:Int).toNat*1=j by omega]
   exact DY hj'
  refine aj (fun e1=> ?_) (fun e1=> ?_)
  ·have e1:z.1.2≠3:=by simpa using e1
   refine Tr.drop (A:=aw b7 [.bool false,.bool true]) tk ?_
   exact fin z (ht.tries (.inl e1)) (Iz.le (by omega)) ag
  ·have e1:z.1.2=3:=by simpa using e1
   refine ah ?_
   refine ai (k:= .ptr) (b:=q) (off:=0) (x:=some ⟨i.p,0,none⟩) (by rw[af]) tk rfl ?_
   refine ae (gZ i z.2 (Iz.EP (by omega)) (j==1)) ag ?_
   rintro _ _ ⟨s1,s2,s3,s4,A1,A2,A3,A4,x',rfl,hC,rfl⟩
   try simp only[aq,al]
   refine Tr.drop (A:=A1) tk (Tr.drop (A:=A2) tk (Tr.drop (A:=A3) tk (Tr.drop (A:=A4) tk ?_)))
   have Ix:=hC.inv Iz
   obtain⟨s1,I1⟩:=hm _ x' Ix (by omega)
   refine iS hf hb s1 ag ?_
   rintro _ _ ⟨rfl,rfl⟩
   try simp only[aq,al]
   rw[wrap64 (n:=(j:Int)+1) (by omega) (by omega)]
   exact Tr.perm (aI.perm (M:=aw b7 [.bool false,.bool true]::C::i.Q q (mk x').2) ag) (hX (2-(j+1)) _ _ (by omega) ⟨j+1,mk x',by omega,rfl,rfl,ht.next e1 hj' hC,I1.le (by omega),rfl⟩)
 ·have hj':j=2:=by have:¬(j:Int)<2:=of_decide_eq_false hc;omega
  refine Tr.drop (A:=aw b7 [.bool false,.bool true]) tk ?_
  exact fin z (ht.tries (.inr hj')) (Iz.le (by omega)) ag
def Rx.mk(h:Hd)(y:Rt):bg:=(((Ob.make y.S y.cs h).1,(Ob.make y.S y.cs h).2.1),{y with S:=(Ob.make y.S y.cs h).2.2})
theorem Tr.za{M:List aA}(t:Take L (star M) L')(h:Tr ρ0 ρ (M++L') T Post):Tr ρ0 ρ L T Post:=
 Tr.gh (M:=fun _:Unit=>M) (c:=fun _=>True) t (fun _ h=>⟨(),trivial,h⟩) (fun _ _=>h)
abbrev tY(b1 b2 q:Nat)(h:Hd):List aA:=[aw b1 [.pointer (some ⟨q,0,none⟩)],aw b2 [.int .i64 h.k,.int .i64 h.c,.int .i64 h.n,.bool h.f]]
theorem vS(i:Pl)(q b1 b2:Nat)(h:Hd)(y:Rt)(hw:aO y.S y.cs):Gl.Spec ρ Tryz.prog 119 [.pointer (some ⟨b1,0,none⟩),.pointer (some ⟨b2,0,none⟩)] (star (tY b1 b2 q h)::i.Q q y) P2
  fun r L=>r=((Rx.mk h y).1.1,(Rx.mk h y).1.2,())∧L=star (tY b1 b2 q h)::i.Q q (Rx.mk h y).2:=by
 refine Gl.Spec.of (fun Q w hh=>F.rt.Runtime.iQ.calls (some ⟨b1,0,none⟩) (some ⟨b2,0,none⟩) hh) fun R=> ?_
 unfold F.rt.Runtime.iQ
 try simp only[aq,al]
 refine Tr.za (M:=tY b1 b2 q h) tk ?_
 refine cL.op (p:=i.r) (hp:=i.b) (rows:=y.rows) (n:=y.aU) tk fun qq=> ?_
 refine bP.op (p:=qq) (hp:=i.b) (rows:=y.rows) tk fun z hz=> ?_
 refine aK (aR [aw b1 [.pointer (some ⟨q,0,none⟩)],aw b2 [.int .i64 h.k,.int .i64 h.c,.int .i64 h.n,.bool h.f],aw q [.pointer (some ⟨i.p,0,none⟩)],aw i.p (i.cs y),aw i.r [.pointer (some ⟨qq,0,none⟩),i64 y.aU],aw qq [.pointer (some ⟨i.b,0,none⟩),.slice z.a z.n z.c]] ag ?_)
 refine ah (ar (k:= .ptr) (b:=b1) (off:=0) (x:=some ⟨q,0,none⟩) rfl tk rfl ?_)
 refine ah (ar (k:= .ptr) (b:=q) (off:=0) (x:=some ⟨i.p,0,none⟩) (by rw[af]) tk rfl ?_)
 refine ah (ar (k:= .ptr) (b:=i.p) (off:=0) (x:=some ⟨i.r,0,none⟩) (by rw[af]) tk rfl ?_)
 refine ah (ar (k:= .ptr) (b:=i.r) (off:=0) (x:=some ⟨qq,0,none⟩) (by rw[af]) tk rfl ?_)
 refine ah (ar (k:= .ptr) (b:=qq) (off:=0) (x:=some ⟨i.b,0,none⟩) (by rw[af]) tk rfl ?_)
 refine ah (oz (b:=b2) (off:=0) (x:=(h.k,h.c,h.n,h.f,())) [] rfl tk rfl ?_)
 try simp only[aq,al]
 refine Tr.close (M:=[aw qq [.pointer (some ⟨i.b,0,none⟩),.slice z.a z.n z.c],aE z 2 (dW y.rows)]) ag (bP.cl (p:=qq) (hp:=i.b) (rows:=y.rows) hz) ?_
 refine Tr.close ag (cL.cl (p:=i.r) (q:=qq) (hp:=i.b) (rows:=y.rows) (n:=y.aU)) ?_
 refine Tr.close (M:=tY b1 b2 q h) (A:=star (tY b1 b2 q h)) ag (fun h H=>H) ?_
 refine ae (oc i.b y.S y.cs hw h) ag ?_
 rintro x' M ⟨rfl,rfl⟩
 try simp only[aq,al]
 exact aa (x:=((Ob.make y.S y.cs h).1,(Ob.make y.S y.cs h).2.1,())) rfl ⟨rfl,rfl⟩ ag aB
theorem nu(i:Pl)(q:Nat)(x:Rt)(h:Hd)(hk:h.k≠4){N:Int}(I:x.Inv N)(hN:N+10<2^49):Gl.Spec ρ Tryz.prog 76 [.pointer (some ⟨q,0,none⟩),lX h] (i.Q q x) P2
  fun r M=>∃y:bg,Rx.dU (Rx.mk h) x y∧y.2.Inv (N+10)∧r=(y.1.1,y.1.2,())∧M=i.Q q y.2:=by
 refine Gl.Spec.of (fun Q w hh=>F.rt.Runtime.object.calls (some ⟨q,0,none⟩) h.t hh) fun R=> ?_
 unfold F.rt.Runtime.object
 try simp only[aq,al]
 refine ax fun b1=>ax fun b2=> ?_
 refine ai (k:= .ptr) (b:=b1) (off:=0) (x:=some ⟨q,0,none⟩) rfl tk rfl ?_
 refine Tr.close (M:=[aw b1 [.pointer (some ⟨q,0,none⟩)],aw b2 [.int .i64 h.k,.int .i64 h.c,.int .i64 h.n,.bool h.f]]) (A:=star (tY b1 b2 q h)) ag (fun h H=>H) ?_
 refine ae (wM i q x (star (tY b1 b2 q h)) Tryz.func119 (by kernel_rfl) (Rx.mk h) I hN fun M y Iy hM=>⟨?_,?_⟩) ag ?_
 ·exact vS i q b1 b2 h y Iy.w.hw
 ·exact{Iy with w:=Iy.w.make hk,aU:=⟨Iy.aU.1,by have:=Iy.aU.2;show y.aU≤_;omega⟩,rn:=⟨Iy.rn.1,by have:=Iy.rn.2;show y.rn≤_;omega⟩,h:=Iy.h.le (by omega)}
 rintro _ _ ⟨y,hy,Iy,rfl,rfl⟩
 try simp only[aq,al]
 refine Tr.drop (A:=star (tY b1 b2 q h)) tk ?_
 exact aa (x:=(y.1.1,y.1.2,())) rfl ⟨y,hy,Iy,rfl,rfl⟩ ag aB
namespace Rx
def eM(x:Rt)(kind a:Int)(y:bg):Prop:=if a<0∨a>1023 then y=((0,1),x)else dU (mk ⟨kind,0,a,false⟩) x y
def fZ(x:Rt)(a:Int)(y:bg):Prop:=if 1≤a∧a≤x.cs.length then dU (mk ⟨1,a,(x.cs.getD (a-1).toNat (0,[])).1,false⟩) x y else y=((0,2),x)
end Rx
theorem Cx(i:Pl)(q b1 b2:Nat)(kind k a b c:Int)(x:Rt)(hk:kind≠4){N:Int}(I:x.Inv N)(hN:N+10<2^49):
  Gl.Spec ρ Tryz.prog 77 [uT k a b c,.pointer (some ⟨b1,0,none⟩),.pointer (some ⟨b2,0,none⟩)] (aw b1 [.pointer (some ⟨q,0,none⟩)]::aw b2 [i64 kind]::i.Q q x) P2
  fun r M=>∃y:bg,Rx.eM x kind a y∧y.2.Inv (N+10)∧r=(y.1.1,y.1.2,())∧M=aw b1 [.pointer (some ⟨q,0,none⟩)]::aw b2 [i64 kind]::i.Q q y.2:=by
 refine Gl.Spec.of (fun Q w hh=>F.rt.Runtime.rD.calls (k,a,b,c,()) (some ⟨b1,0,none⟩) (some ⟨b2,0,none⟩) hh) fun R=> ?_
 unfold F.rt.Runtime.rD
 try simp only[aq,al]
 refine ax fun b3=> ?_
 refine ai (k:= .int .i64) (b:=b3) (off:=1) (x:=a) (by rw[af]) tk rfl ?_
 have bad:(a<0∨a>1023)→Rx.eM x kind a ((0,1),x):=fun h=>by unfold Rx.eM;rw[if_pos h]
 refine aj (fun e=> ?_) (fun e=> ?_)
 ·have e:a<0:=of_decide_eq_true e
  exact aa (x:=((0:Int),(1:Int),())) rfl ⟨((0,1),x),bad (.inl e),I.le (by omega),rfl,rfl⟩ ag aB
 have e1:¬a<0:=of_decide_eq_false e
 refine ai (k:= .int .i64) (b:=b3) (off:=1) (x:=a) (by rw[af]) tk rfl ?_
 refine aj (fun e=> ?_) (fun e=> ?_)
 ·have e:a>1023:=of_decide_eq_true e
  exact aa (x:=((0:Int),(1:Int),())) rfl ⟨((0,1),x),bad (.inr e),I.le (by omega),rfl,rfl⟩ ag aB
 have e2:¬a>1023:=of_decide_eq_false e
 refine ah (ai (k:= .ptr) (b:=b1) (off:=0) (x:=some ⟨q,0,none⟩) rfl tk rfl ?_)
 refine ah (ai (k:= .int .i64) (b:=b2) (off:=0) (x:=kind) rfl tk rfl ?_)
 refine ai (k:= .int .i64) (b:=b3) (off:=1) (x:=a) (by rw[af]) tk rfl ?_
 refine ae (nu i q x ⟨kind,0,a,false⟩ hk I hN) ag ?_
 rintro _ _ ⟨y,hy,Iy,rfl,rfl⟩
 try simp only[aq,al]
 have hy':Rx.eM x kind a y:=by unfold Rx.eM;rw[if_neg (fun g=>g.elim e1 e2)];exact hy
 exact aa (x:=(y.1.1,y.1.2,())) rfl ⟨y,hy',Iy,rfl,rfl⟩ ag aB
theorem Ar(i:Pl)(q:Nat)(k a b c:Int)(x:Rt){N:Int}(I:x.Inv N)(hN:N+10<2^49):
  Gl.Spec ρ Tryz.prog 41 [.pointer (some ⟨q,0,none⟩),uT k a b c] (i.Q q x) P2
  fun r M=>∃y:bg,Rx.fZ x a y∧y.2.Inv (N+10)∧r=(y.1.1,y.1.2,())∧M=i.Q q y.2:=by
 refine Gl.Spec.of (fun Q w hh=>F.rt.Runtime.plain.calls (some ⟨q,0,none⟩) (k,a,b,c,()) hh) fun R=> ?_
 unfold F.rt.Runtime.plain
 try simp only[aq,al]
 refine ax fun b1=> ?_
 refine cL.op (p:=i.r) (hp:=i.b) (rows:=x.rows) (n:=x.aU) tk fun qq=> ?_
 refine bP.op (p:=qq) (hp:=i.b) (rows:=x.rows) tk fun z hz=> ?_
 refine au.op (p:=i.b) (S:=x.S) (cs:=x.cs) tk fun ps pt=> ?_
 refine aK (aR [aw b1 [i64 k,i64 a,i64 b,i64 c],aw q [.pointer (some ⟨i.p,0,none⟩)],aw i.p (i.cs x),aw i.r [.pointer (some ⟨qq,0,none⟩),i64 x.aU],aw qq [.pointer (some ⟨i.b,0,none⟩),.slice z.a z.n z.c],aw i.b [.pointer (some ⟨ps,0,none⟩),.pointer (some ⟨pt,0,none⟩)]] ag ?_)
 refine ah (ar (k:= .ptr) (b:=q) (off:=0) (x:=some ⟨i.p,0,none⟩) (by rw[af]) tk rfl ?_)
 refine ah (ar (k:= .ptr) (b:=i.p) (off:=0) (x:=some ⟨i.r,0,none⟩) (by rw[af]) tk rfl ?_)
 refine ah (ar (k:= .ptr) (b:=i.r) (off:=0) (x:=some ⟨qq,0,none⟩) (by rw[af]) tk rfl ?_)
 refine ah (ar (k:= .ptr) (b:=qq) (off:=0) (x:=some ⟨i.b,0,none⟩) (by rw[af]) tk rfl ?_)
 refine ah (ar (k:= .ptr) (b:=i.b) (off:=1) (x:=some ⟨pt,0,none⟩) (by rw[af]) tk rfl ?_)
 refine ar (k:= .int .i64) (b:=b1) (off:=1) (x:=a) (by rw[af]) tk rfl ?_
 try simp only[aq,al]
 have hz0:zc Tryz.prog 141=[.int .i64 0,.slice none 0 0]:=by kernel_rfl
 rw[hz0]
 have cl:∀{T:Tree} {P:Value→List aA→Prop} {L L':List aA},aI L [aw i.r [.pointer (some ⟨qq,0,none⟩),i64 x.aU],aw qq [.pointer (some ⟨i.b,0,none⟩),.slice z.a z.n z.c],aE z 2 (dW x.rows),aw i.b [.pointer (some ⟨ps,0,none⟩),.pointer (some ⟨pt,0,none⟩)],aF ps x.S,bz pt x.cs] L'→
   Tr ρ ρ (cL i.r i.b x.rows x.aU::au i.b x.S x.cs::L') T P→Tr ρ ρ L T P:=fun t h=>by
  refine Tr.perm t.perm ?_
  try simp only[aq,al]
  refine Tr.close (M:=[aw i.b [.pointer (some ⟨ps,0,none⟩),.pointer (some ⟨pt,0,none⟩)],aF ps x.S,bz pt x.cs]) ag (au.cl (p:=i.b)) ?_
  refine Tr.close (M:=[aw qq [.pointer (some ⟨i.b,0,none⟩),.slice z.a z.n z.c],aE z 2 (dW x.rows)]) ag (bP.cl (p:=qq) (hp:=i.b) (rows:=x.rows) hz) ?_
  refine Tr.close ag (cL.cl (p:=i.r) (q:=qq) (hp:=i.b) (rows:=x.rows) (n:=x.aU)) ?_
  exact h
 by_cases ha:1≤a∧a≤x.cs.length
 ·obtain⟨j,hj⟩:∃j:Nat,a=(j:Int)+1:=⟨(a-1).toNat,by omega⟩
  have hjl:j<x.cs.length:=by omega
  have hcj:x.cs[j]? =some (x.cs.getD j (0,[])):=by rw[List.getD_eq_getElem?_getD,List.getElem?_eq_getElem hjl];rfl
  have hcls:=fU (ρ:=ρ) pt x.cs j (x.cs.getD j (0,[])) hcj I.w.hw.cls (by
   have:=I.w.hw.refs (x.cs.getD j (0,[])) (by rw[List.getD_eq_getElem?_getD,List.getElem?_eq_getElem hjl];exact List.getElem_mem _)
   omega)
  have hya:∀y,Rx.dU (Rx.mk ⟨1,a,(x.cs.getD j (0,[])).1,false⟩) x y→Rx.fZ x a y:=fun y hy=>by
   unfold Rx.fZ;rw[if_pos ha,show(a-1).toNat=j by omega];exact hy
  rw[show a=(j:Int)+1 from hj]at*
  generalize x.cs.getD j (0,[])=cl0 at*
  refine fb ?_ ?_
  ·refine ae hcls ag ?_
   rintro _ _ ⟨v,rfl,hv,rfl⟩
   try simp only[aq,al]
   refine ax fun b15=> ?_
   refine aL (b:=b15) (off:=0) rfl tk (by simp) rfl ?_
   refine ak rfl ?_
   refine ai (k:= .int .i64) (b:=b1) (off:=1) (x:=((j:Int)+1)) (by rw[af]) tk rfl ?_
   refine ai (k:= .int .i64) (b:=b15) (off:=0) (x:=cl0.1) (by rw[af]) tk rfl ?_
   refine cl ag ?_
   refine ae (nu i q x ⟨1,(j:Int)+1,cl0.1,false⟩ (show(1:Int)≠4 by decide) I hN) ag ?_
   rintro _ _ ⟨y,hy,Iy,rfl,rfl⟩
   try simp only[aq,al]
   exact aa (x:=(y.1.1,y.1.2,())) rfl ⟨y,hya y hy,Iy,rfl,rfl⟩ ag aB
  ·refine ax fun b15=>aN ag ?_
   refine ae hcls ag ?_
   rintro _ _ ⟨v,rfl,hv,rfl⟩
   try simp only[aq,al]
   refine aL (b:=b15) (off:=0) rfl tk (by simp) rfl ?_
   refine ak rfl ?_
   refine ai (k:= .int .i64) (b:=b1) (off:=1) (x:=((j:Int)+1)) (by rw[af]) tk rfl ?_
   refine ai (k:= .int .i64) (b:=b15) (off:=0) (x:=cl0.1) (by rw[af]) tk rfl ?_
   refine cl ag ?_
   refine ae (nu i q x ⟨1,(j:Int)+1,cl0.1,false⟩ (show(1:Int)≠4 by decide) I hN) ag ?_
   rintro _ _ ⟨y,hy,Iy,rfl,rfl⟩
   try simp only[aq,al]
   exact aa (x:=(y.1.1,y.1.2,())) rfl ⟨y,hya y hy,Iy,rfl,rfl⟩ ag aB
 ·have hy:Rx.fZ x a ((0,2),x):=by unfold Rx.fZ;rw[if_neg ha]
  refine fb ?_ ?_
  ·refine ae (dG pt x.cs a ha) ag ?_
   rintro x' M ⟨rfl,rfl⟩
   try simp only[aq,al]
   refine ax fun b15=> ?_
   refine aL (b:=b15) (off:=0) rfl tk (by simp) rfl ?_
   refine aH rfl (cl ag ?_)
   exact aa (x:=((0:Int),(2:Int),())) rfl ⟨((0,2),x),hy,I.le (by omega),rfl,rfl⟩ ag aB
  ·refine ax fun b15=>aN ag ?_
   refine ae (dG pt x.cs a ha) ag ?_
   rintro x' M ⟨rfl,rfl⟩
   try simp only[aq,al]
   refine aL (b:=b15) (off:=0) rfl tk (by simp) rfl ?_
   refine aH rfl (cl ag ?_)
   exact aa (x:=((0:Int),(2:Int),())) rfl ⟨((0,2),x),hy,I.le (by omega),rfl,rfl⟩ ag aB
end Go.Proofs.YtfepdmpplahloaaGreat
