/- References. -/
import Derived.Test.YtfepdmpplahloaaGreatGsQue
set_option linter.unusedSimpArgs false
set_option linter.unusedVariables false
namespace Go.Proofs.YtfepdmpplahloaaGreat
open Go Go.Gl
variable{ρ0 ρ:FR}{L L':List aA}{Post:Value→List aA→Prop}{T:Tree}
def cL(p hp:Nat)(rows:List (List Int))(n:Int):aA:=fun h=>∃q:Nat,star [aw p [.pointer (some ⟨q,0,none⟩),i64 n],bP q hp rows] h
theorem cL.op{p hp:Nat}{rows:List (List Int)}{n:Int}(t:Take L (cL p hp rows n) L')(h:∀q:Nat,Tr ρ0 ρ (aw p [.pointer (some ⟨q,0,none⟩),i64 n]::bP q hp rows::L') T Post):Tr ρ0 ρ L T Post:=
 Tr.gh (M:=fun q:Nat=>[aw p [.pointer (some ⟨q,0,none⟩),i64 n],bP q hp rows]) (c:=fun _=>True) t (fun _ ⟨q,h⟩=>⟨q,trivial,h⟩) (fun q _=>h q)
theorem cL.cl{p q hp:Nat}{rows:List (List Int)}{n:Int}(h:HP)(H:star [aw p [.pointer (some ⟨q,0,none⟩),i64 n],bP q hp rows] h):cL p hp rows n h:=⟨q,H⟩
namespace Rf
def may(S:aD)(rows:List (List Int))(c o q:Int):Int:=
 if c<1 then 1 else if c>3 then 1 else if q< -1 then 2 else if q≥rows.length then 2 else if c=3∧q<0 then 1 else if(Ob.head S o).isNone then 2 else 0
def cR(S:aD)(a:Int):Nat→List Int→aD
 |_,[]=>S|i,x::xs=>cR (Ob.put S a i x).2 a (i+1) xs
def aY(S:aD)(cs:List aS)(rows:List (List Int))(n c o q t:Int):Int×Int×aD×Int:=
 if may S rows c o q≠0 then(0,may S rows c o q,S,n)else
 if(Ob.make S cs ⟨4,c,5,false⟩).2.1≠0 then(0,(Ob.make S cs ⟨4,c,5,false⟩).2.1,(Ob.make S cs ⟨4,c,5,false⟩).2.2,n)else
 ((Ob.make S cs ⟨4,c,5,false⟩).1,0,cR (Ob.make S cs ⟨4,c,5,false⟩).2.2 (Ob.make S cs ⟨4,c,5,false⟩).1 0 [o,q+1,0,t,n+1],n+1)
def str(S:aD)(a:Int):Int×Int:=match Ob.head S a with |some h=>if h.k=4 then(h.c,0)else(0,5)|none=>(0,5)
def eJ(S:aD)(l:List Int):aD:=l.foldl (fun S a=>(Ob.put S a 0 0).2) S
def clear(S:aD)(l:List Int):Int×aD:=if l.all (Qu.ba S)then(0,eJ S l)else(5,S)
def qn(S:aD)(a:Int):Int:=(Ob.get (Ob.put S a 0 0).2 a 1).1
def ct(S:aD)(rows:List (List Int))(a:Int):(Bool×Int)×aD×List (List Int):=
 if Qu.ba S a then
  (if qn S a<1 then((false,0),(Ob.put S a 0 0).2,rows)else
   if Qu.dp (Ob.put S a 0 0).2 rows (qn S a-1) a≠0 then((false,Qu.dp (Ob.put S a 0 0).2 rows (qn S a-1) a),Qu.bh (Ob.put S a 0 0).2 rows (qn S a-1) a,Qu.cE (Ob.put S a 0 0).2 rows (qn S a-1) a)else
   ((true,0),(Ob.put (Qu.bh (Ob.put S a 0 0).2 rows (qn S a-1) a) a 1 (-1)).2,Qu.cE (Ob.put S a 0 0).2 rows (qn S a-1) a))
 else((false,5),S,rows)
def aG(S:aD)(a t:Int):(Int×Int)×aD:=
 if(str S a).2≠0∨(str S a).1=3 then((0,(str S a).2),S)else
 (((Ob.get S a 0).1,0),if(str S a).1=1∧(Ob.get S a 0).1≠0 then(Ob.put S a 3 t).2 else S)
theorem uM{S:aD}{a:Int}:(str S a).2=if Qu.ba S a then 0 else 5:=by
 unfold str Qu.ba
 cases Ob.head S a with
 |none=>rfl
 |some h=>
  dsimp only
  by_cases g:h.k=4
  ·rw[if_pos g,if_pos (by simpa using g)]
  ·rw[if_neg g,if_neg (by simpa using g)]
end Rf
theorem BT(hp:Nat):Gl.Spec ρ Tryz.prog 36 [.pointer (some ⟨hp,0,none⟩)] [] (.one (.l .ptr)) fun r M=>∃p,r=some ⟨p,0,none⟩∧M=[cL p hp [] 0]:=by
 refine Gl.Spec.of (fun Q w h=>F.ref.dc.calls (some ⟨hp,0,none⟩) h) fun R=> ?_
 unfold F.ref.dc
 try simp only[aq,al]
 refine ae (Cf hp) ag ?_
 rintro _ _ ⟨q,rfl,rfl⟩
 try simp only[aq,al]
 refine ak rfl (ax fun b=> ?_)
 refine Tr.close ag (cL.cl (p:=b) (q:=q) (hp:=hp) (rows:=[]) (n:=0)) ?_
 exact aa (x:=some ⟨b,0,none⟩) rfl ⟨b,rfl,rfl⟩ ag aB
theorem dk{q hp:Nat}{rows:List (List Int)}{f:Option Addr→Tree}{a:Addr}(ha:a=⟨q,0,none⟩)(t:Take L (bP q hp rows) L')(h:Tr ρ0 ρ (bP q hp rows::L') (f (some ⟨hp,0,none⟩)) Post):Tr ρ0 ρ L (ld (.l .ptr) a f) Post:=by
 subst ha
 refine bP.op t fun s hs=> ?_
 try simp only[aq,al]
 refine ai (k:= .ptr) (off:=0) (x:=some ⟨hp,0,none⟩) rfl tk rfl ?_
 refine Tr.close ag (bP.cl (p:=q) (hp:=hp) (rows:=rows) hs) ?_
 exact h
theorem mD(p hp:Nat)(S:aD)(cs:List aS)(hw:aO S cs)(rows:List (List Int))(n a:Int):Gl.Spec ρ Tryz.prog 130 [.pointer (some ⟨p,0,none⟩),i64 a] [cL p hp rows n,au hp S cs] P2
  fun r M=>r=((Rf.str S a).1,(Rf.str S a).2,())∧M=[cL p hp rows n,au hp S cs]:=by
 refine Gl.Spec.of (fun Q w h=>F.ref.Refs.l7.calls (some ⟨p,0,none⟩) a h) fun R=> ?_
 unfold F.ref.Refs.l7
 refine ak rfl (ah (cL.op tk fun q=> ?_))
 refine ai (k:= .ptr) (off:=0) (x:=some ⟨q,0,none⟩) (by rw[af]) tk rfl (ah ?_)
 refine dk (by rw[af]) tk ?_
 refine Tr.close ag (cL.cl (p:=p) (q:=q) (hp:=hp) (rows:=rows) (n:=n)) ?_
 refine ae (bS hp S cs hw a) ag ?_
 rintro x' M ⟨rfl,rfl⟩
 try simp only[aq,al]
 refine ax fun b=> ?_
 rw[DK]
 refine aL (off:=0) rfl tk (by simp) (by cases Ob.head S a<;>rfl) ?_
 cases hh:Ob.head S a with
 |none=>
  refine aH rfl ?_
  have e1:Rf.str S a=(0,5):=by unfold Rf.str;rw[hh]
  rw[e1]
  exact aa (x:=((0:Int),(5:Int),())) rfl ⟨rfl,rfl⟩ ag aB
 |some hd=>
  refine ak rfl ?_
  have e:bN [i64 0,i64 0,i64 0,.bool false] 0 [.int .i64 (Ob.fg (some hd)).1.1,.int .i64 (Ob.fg (some hd)).1.2.1,.int .i64 (Ob.fg (some hd)).1.2.2.1,.bool (Ob.fg (some hd)).1.2.2.2.1]=hd.cs:=rfl
  rw[e]
  refine ai (k:= .int .i64) (off:=0) (x:=hd.k) (by rw[af]) tk rfl ?_
  refine aj (fun h4=> ?_) (fun h4=> ?_)
  ·have e1:Rf.str S a=(0,5):=by unfold Rf.str;rw[hh];exact if_neg (by simpa using h4)
   rw[e1]
   exact aa (x:=((0:Int),(5:Int),())) rfl ⟨rfl,rfl⟩ ag aB
  ·have e1:Rf.str S a=(hd.c,0):=by unfold Rf.str;rw[hh];exact if_pos (by simpa using h4)
   rw[e1]
   refine ai (k:= .int .i64) (off:=1) (x:=hd.c) (by rw[af]) tk rfl ?_
   exact aa (x:=(hd.c,(0:Int),())) rfl ⟨rfl,rfl⟩ ag aB
theorem BA(p hp:Nat)(S:aD)(cs:List aS)(hw:aO S cs)(rows:List (List Int))(n c o i:Int):Gl.Spec ρ Tryz.prog 129 [.pointer (some ⟨p,0,none⟩),i64 c,i64 o,i64 i] [cL p hp rows n,au hp S cs] R1
  fun r M=>r=Rf.may S rows c o i∧M=[cL p hp rows n,au hp S cs]:=by
 refine Gl.Spec.of (fun Q w h=>F.ref.Refs.may.calls (some ⟨p,0,none⟩) c o i h) fun R=> ?_
 unfold F.ref.Refs.may
 refine aj (fun h1=> ?_) (fun h1=> ?_)
 ·have e:Rf.may S rows c o i=1:=by unfold Rf.may;rw[if_pos (of_decide_eq_true h1)]
  rw[e]
  exact aa (x:=(1:Int)) rfl ⟨rfl,rfl⟩ ag aB
 have h1':¬c<1:=of_decide_eq_false h1
 refine aj (fun h2=> ?_) (fun h2=> ?_)
 ·have e:Rf.may S rows c o i=1:=by unfold Rf.may;rw[if_neg h1',if_pos (of_decide_eq_true h2)]
  rw[e]
  exact aa (x:=(1:Int)) rfl ⟨rfl,rfl⟩ ag aB
 have h2':¬c>3:=of_decide_eq_false h2
 refine aj (fun h3=> ?_) (fun h3=> ?_)
 ·have e:Rf.may S rows c o i=2:=by unfold Rf.may;rw[if_neg h1',if_neg h2',if_pos (of_decide_eq_true h3)]
  rw[e]
  exact aa (x:=(2:Int)) rfl ⟨rfl,rfl⟩ ag aB
 have h3':¬i< -1:=of_decide_eq_false h3
 refine ah (cL.op tk fun q=> ?_)
 refine ai (k:= .ptr) (off:=0) (x:=some ⟨q,0,none⟩) (by rw[af]) tk rfl ?_
 refine ae (iI q hp rows) ag ?_
 rintro x' M ⟨rfl,rfl⟩
 try simp only[aq,al]
 refine aj (fun h4=> ?_) (fun h4=> ?_)
 ·have e:Rf.may S rows c o i=2:=by unfold Rf.may;rw[if_neg h1',if_neg h2',if_neg h3',if_pos (of_decide_eq_true h4)]
  refine Tr.close ag (cL.cl (p:=p) (q:=q) (hp:=hp) (rows:=rows) (n:=n)) ?_
  rw[e]
  exact aa (x:=(2:Int)) rfl ⟨rfl,rfl⟩ ag aB
 have h4':¬i≥(rows.length:Nat):=of_decide_eq_false h4
 have key:∀(hc:¬(c=3∧i<0)),Tr ρ ρ (au hp S cs::cL p hp rows n::R) (call Tryz.prog 61 [.pointer (some ⟨hp,0,none⟩),i64 o] HE fun(r8:RT HE)=>
   nw 103 (zc Tryz.prog 103) fun b9=>st (⟨b9,0,none⟩) [.int .i64 r8.1.1,.int .i64 r8.1.2.1,.int .i64 r8.1.2.2.1,.bool r8.1.2.2.2.1]<|
   br ((r8.2.1:Int) != 0) (ret (.int .i64 2)) (ret (.int .i64 0))) (SP R1 (fun r M=>r=Rf.may S rows c o i∧M=[cL p hp rows n,au hp S cs]) R):=fun hc=>by
  refine ae (bS hp S cs hw o) ag ?_
  rintro x' M ⟨rfl,rfl⟩
  try simp only[aq,al]
  refine ax fun b=> ?_
  rw[DK]
  refine aL (off:=0) rfl tk (by simp) (by cases Ob.head S o<;>rfl) ?_
  cases hh:Ob.head S o with
  |none=>
   have e:Rf.may S rows c o i=2:=by unfold Rf.may;rw[if_neg h1',if_neg h2',if_neg h3',if_neg h4',if_neg hc,hh];rfl
   refine aH rfl ?_
   rw[e]
   exact aa (x:=(2:Int)) rfl ⟨rfl,rfl⟩ ag aB
  |some hd=>
   have e:Rf.may S rows c o i=0:=by unfold Rf.may;rw[if_neg h1',if_neg h2',if_neg h3',if_neg h4',if_neg hc,hh];rfl
   refine ak rfl ?_
   rw[e]
   exact aa (x:=(0:Int)) rfl ⟨rfl,rfl⟩ ag aB
 refine aj (fun h5=> ?_) (fun h5=> ?_)
 ·have h5':c=3:=by simpa using h5
  refine aj (fun h6=> ?_) (fun h6=> ?_)
  ·have e:Rf.may S rows c o i=1:=by unfold Rf.may;rw[if_neg h1',if_neg h2',if_neg h3',if_neg h4',if_pos ⟨h5',of_decide_eq_true h6⟩]
   refine Tr.close ag (cL.cl (p:=p) (q:=q) (hp:=hp) (rows:=rows) (n:=n)) ?_
   rw[e]
   exact aa (x:=(1:Int)) rfl ⟨rfl,rfl⟩ ag aB
  ·have h6':¬i<0:=of_decide_eq_false h6
   refine ah ?_
   refine ai (k:= .ptr) (off:=0) (x:=some ⟨q,0,none⟩) (by rw[af]) tk rfl (ah ?_)
   refine dk (by rw[af]) tk ?_
   refine Tr.close ag (cL.cl (p:=p) (q:=q) (hp:=hp) (rows:=rows) (n:=n)) ?_
   exact Tr.perm (aI.perm (M:=[au hp S cs,cL p hp rows n]) ag) (key (fun g=>h6' g.2))
 ·have h5':c≠3:=by simpa using h5
  refine ah ?_
  refine ai (k:= .ptr) (off:=0) (x:=some ⟨q,0,none⟩) (by rw[af]) tk rfl (ah ?_)
  refine dk (by rw[af]) tk ?_
  refine Tr.close ag (cL.cl (p:=p) (q:=q) (hp:=hp) (rows:=rows) (n:=n)) ?_
  exact Tr.perm (aI.perm (M:=[au hp S cs,cL p hp rows n]) ag) (key (fun g=>h5' g.1))
theorem aO.cR{cs:List aS}:∀{l:List Int} {S:aD} {a:Int} {i:Nat},aO S cs→aO (Rf.cR S a i l) cs
 |[],_,_,_,h=>h
 |x::l,S,a,i,h=>aO.cR (l:=l) (h.put a i x)
theorem qC:∀{l:List Int} {S:aD} {a:Int} {i:Nat} {x:Int},Rf.cR S a i (l++[x])=(Ob.put (Rf.cR S a i l) a ((i+l.length:Nat):Int) x).2
 |[],_,_,_,_=>rfl
 |y::l,S,a,i,x=>by
  show Rf.cR (Ob.put S a i y).2 a (i+1) (l++[x])=_
  rw[qC,List.length_cons,show i+(l.length+1)=i+1+l.length by omega];rfl
theorem yB(p hp:Nat)(S:aD)(cs:List aS)(hw:aO S cs)(rows:List (List Int))(n c o i t:Int)(hn:0≤n∧n<2^50)(hrl:rows.length≤8):
  Gl.Spec ρ Tryz.prog 88 [.pointer (some ⟨p,0,none⟩),i64 c,i64 o,i64 i,i64 t] [cL p hp rows n,au hp S cs] P2
  fun r M=>r=((Rf.aY S cs rows n c o i t).1,(Rf.aY S cs rows n c o i t).2.1,())∧M=[cL p hp rows (Rf.aY S cs rows n c o i t).2.2.2,au hp (Rf.aY S cs rows n c o i t).2.2.1 cs]:=by
 refine Gl.Spec.of (fun Q w h=>F.ref.Refs.qN.calls (some ⟨p,0,none⟩) c o i t h) fun R=> ?_
 unfold F.ref.Refs.qN
 refine ak rfl ?_
 refine ae (BA p hp S cs hw rows n c o i) ag ?_
 rintro x' M ⟨rfl,rfl⟩
 try simp only[aq,al]
 refine aj (fun h=> ?_) (fun h=> ?_)
 ·have h':Rf.may S rows c o i≠0:=by simpa using h
  have e:Rf.aY S cs rows n c o i t=(0,Rf.may S rows c o i,S,n):=by unfold Rf.aY;rw[if_pos h']
  rw[e]
  exact aa (x:=((0:Int),Rf.may S rows c o i,())) rfl ⟨rfl,rfl⟩ ag aB
 have h':Rf.may S rows c o i=0:=by simpa using h
 have hi: -1≤i∧i<rows.length:=by
  unfold Rf.may at h'
  split at h'
  ·cases h'
  ·split at h'
   ·cases h'
   ·split at h'
    ·cases h'
    ·split at h'
     ·cases h'
     ·omega
 refine ah (cL.op tk fun q=> ?_)
 refine ai (k:= .ptr) (off:=0) (x:=some ⟨q,0,none⟩) (by rw[af]) tk rfl (ah ?_)
 refine dk (by rw[af]) tk ?_
 refine ae (oc hp S cs hw ⟨4,c,5,false⟩) ag ?_
 rintro x' M ⟨rfl,rfl⟩
 try simp only[aq,al]
 refine aj (fun hm=> ?_) (fun hm=> ?_)
 ·have hm':(Ob.make S cs ⟨4,c,5,false⟩).2.1≠0:=by simpa using hm
  have e:Rf.aY S cs rows n c o i t=(0,(Ob.make S cs ⟨4,c,5,false⟩).2.1,(Ob.make S cs ⟨4,c,5,false⟩).2.2,n):=by unfold Rf.aY;rw[if_neg (fun g=>g h'),if_pos hm']
  refine Tr.close ag (cL.cl (p:=p) (q:=q) (hp:=hp) (rows:=rows) (n:=n)) ?_
  rw[e]
  exact aa (x:=((0:Int),(Ob.make S cs ⟨4,c,5,false⟩).2.1,())) rfl ⟨rfl,rfl⟩ ag aB
 have hm':(Ob.make S cs ⟨4,c,5,false⟩).2.1=0:=by simpa using hm
 have e:Rf.aY S cs rows n c o i t=((Ob.make S cs ⟨4,c,5,false⟩).1,0,Rf.cR (Ob.make S cs ⟨4,c,5,false⟩).2.2 (Ob.make S cs ⟨4,c,5,false⟩).1 0 [o,i+1,0,t,n+1],n+1):=by
  unfold Rf.aY;rw[if_neg (fun g=>g h'),if_neg (fun g=>g hm')]
 rw[e]
 have hw1:=hw.make ⟨4,c,5,false⟩
 generalize(Ob.make S cs ⟨4,c,5,false⟩).2.2=S1 at hw1⊢
 generalize(Ob.make S cs ⟨4,c,5,false⟩).1=a at*
 refine ah ?_
 refine ai (k:= .int .i64) (off:=1) (x:=n) (by rw[af]) tk rfl (ah ?_)
 refine aL (off:=1) (by rw[af]) tk (by simp) rfl (ah ?_)
 rw[wrap64 (n:=n+1) (by omega) (by omega),wrap64 (n:=i+1) (by omega) (by omega)]
 have e1:bN [.pointer (some ⟨q,0,none⟩),i64 n] 1 [.int .i64 (n+1)]=[.pointer (some ⟨q,0,none⟩),i64 (n+1)]:=rfl
 rw[e1]
 refine ai (k:= .int .i64) (off:=1) (x:=n+1) (by rw[af]) tk rfl ?_
 refine Tr.close ag (cL.cl (p:=p) (q:=q) (hp:=hp) (rows:=rows) (n:=n+1)) ?_
 refine aP (I:=fun m s M=>∃j:Nat,j≤5∧m=5-j∧s=((j:Int),())∧M=cL p hp rows (n+1)::au hp (Rf.cR S1 a 0 ([o,i+1,0,t,n+1].take j)) cs::R) 5 ⟨0,by omega,rfl,rfl,rfl⟩ ?_
 rintro m _ _ ⟨j,hj,rfl,rfl,rfl⟩ X hX
 try simp only[aq,al]
 refine aj (fun hc=> ?_) (fun hc=> ?_)
 ·have hj':(j:Int)<5:=of_decide_eq_true hc
  refine bu ⟨by omega,by omega⟩ (ah (cL.op tk fun q=> ?_))
  refine ai (k:= .ptr) (off:=0) (x:=some ⟨q,0,none⟩) (by rw[af]) tk rfl (ah ?_)
  refine dk (by rw[af]) tk ?_
  refine Tr.close ag (cL.cl (p:=p) (q:=q) (hp:=hp) (rows:=rows) (n:=n+1)) ?_
  refine ae (cM hp (Rf.cR S1 a 0 ([o,i+1,0,t,n+1].take j)) cs (aO.cR hw1) a j (List.getD [o,i+1,0,t,n+1] (j:Int).toNat 0)) ag ?_
  rintro x' M ⟨rfl,rfl⟩
  try simp only[aq,al]
  rw[wrap64 (n:=(j:Int)+1) (by omega) (by omega)]
  have hjl:j<[o,i+1,0,t,n+1].length:=by show j<5;omega
  have e2:[o,i+1,0,t,n+1].take (j+1)=[o,i+1,0,t,n+1].take j++[List.getD [o,i+1,0,t,n+1] (j:Int).toNat 0]:=by
   rw[List.take_add_one,List.getElem?_eq_getElem hjl,Int.toNat_natCast,List.getD_eq_getElem?_getD,List.getElem?_eq_getElem hjl];rfl
  have e3:(Ob.put (Rf.cR S1 a 0 ([o,i+1,0,t,n+1].take j)) a j (List.getD [o,i+1,0,t,n+1] (j:Int).toNat 0)).2=Rf.cR S1 a 0 ([o,i+1,0,t,n+1].take (j+1)):=by
   rw[e2,qC,List.length_take,Nat.zero_add,Nat.min_eq_left (by omega)]
  rw[e3]
  exact Tr.perm (aI.perm (M:=[cL p hp rows (n+1),au hp (Rf.cR S1 a 0 ([o,i+1,0,t,n+1].take (j+1))) cs]) ag) (hX (5-(j+1)) _ _ (by omega) ⟨j+1,by omega,rfl,rfl,rfl⟩)
 ·have hj':¬(j:Int)<5:=of_decide_eq_false hc
  have:j=5:=by omega
  subst this
  exact aa (x:=(a,(0:Int),())) rfl ⟨rfl,rfl⟩ ag aB
end Go.Proofs.YtfepdmpplahloaaGreat
