/- References. -/
import Derived.Test.YtfepdmpplahloaaGreatGsQue
set_option linter.unusedSimpArgs false
set_option linter.unusedVariables false
namespace Go.Proofs.YtfepdmpplahloaaGreat
open Go Go.Gl
variable{ρ0 ρ:FR}{L L':List Asn}{Post:Value→List Asn→Prop}{T:Tree}
def RfA(p hp:Nat)(rows:List (List Int))(n:Int):Asn:=fun h=>∃q:Nat,star [blk p [.pointer (some ⟨q,0,none⟩),i64 n],QueA q hp rows] h
theorem RfA.op{p hp:Nat}{rows:List (List Int)}{n:Int}(t:Take L (RfA p hp rows n) L')(h:∀q:Nat,Tr ρ0 ρ (blk p [.pointer (some ⟨q,0,none⟩),i64 n]::QueA q hp rows::L') T Post):Tr ρ0 ρ L T Post:=
 Tr.openL (M:=fun q:Nat=>[blk p [.pointer (some ⟨q,0,none⟩),i64 n],QueA q hp rows]) (c:=fun _=>True) t (fun _ ⟨q,h⟩=>⟨q,trivial,h⟩) (fun q _=>h q)
theorem RfA.cl{p q hp:Nat}{rows:List (List Int)}{n:Int}(h:HP)(H:star [blk p [.pointer (some ⟨q,0,none⟩),i64 n],QueA q hp rows] h):RfA p hp rows n h:=⟨q,H⟩
namespace Rf
def may(S:Spc)(rows:List (List Int))(c o q:Int):Int:=
 if c<1 then 1 else if c>3 then 1 else if q< -1 then 2 else if q≥rows.length then 2 else if c=3∧q<0 then 1 else if(Ob.head S o).isNone then 2 else 0
def puts(S:Spc)(a:Int):Nat→List Int→Spc
 |_,[]=>S|i,x::xs=>puts (Ob.put S a i x).2 a (i+1) xs
def refer(S:Spc)(cs:List Cls)(rows:List (List Int))(n c o q t:Int):Int×Int×Spc×Int:=
 if may S rows c o q≠0 then(0,may S rows c o q,S,n)else
 if(Ob.make S cs ⟨4,c,5,false⟩).2.1≠0 then(0,(Ob.make S cs ⟨4,c,5,false⟩).2.1,(Ob.make S cs ⟨4,c,5,false⟩).2.2,n)else
 ((Ob.make S cs ⟨4,c,5,false⟩).1,0,puts (Ob.make S cs ⟨4,c,5,false⟩).2.2 (Ob.make S cs ⟨4,c,5,false⟩).1 0 [o,q+1,0,t,n+1],n+1)
def str(S:Spc)(a:Int):Int×Int:=match Ob.head S a with |some h=>if h.k=4 then(h.c,0)else(0,5)|none=>(0,5)
def clr(S:Spc)(l:List Int):Spc:=l.foldl (fun S a=>(Ob.put S a 0 0).2) S
def clear(S:Spc)(l:List Int):Int×Spc:=if l.all (Qu.isR S)then(0,clr S l)else(5,S)
def qn(S:Spc)(a:Int):Int:=(Ob.get (Ob.put S a 0 0).2 a 1).1
def enq(S:Spc)(rows:List (List Int))(a:Int):(Bool×Int)×Spc×List (List Int):=
 if Qu.isR S a then
  (if qn S a<1 then((false,0),(Ob.put S a 0 0).2,rows)else
   if Qu.pushR (Ob.put S a 0 0).2 rows (qn S a-1) a≠0 then((false,Qu.pushR (Ob.put S a 0 0).2 rows (qn S a-1) a),Qu.pushS (Ob.put S a 0 0).2 rows (qn S a-1) a,Qu.pushQ (Ob.put S a 0 0).2 rows (qn S a-1) a)else
   ((true,0),(Ob.put (Qu.pushS (Ob.put S a 0 0).2 rows (qn S a-1) a) a 1 (-1)).2,Qu.pushQ (Ob.put S a 0 0).2 rows (qn S a-1) a))
 else((false,5),S,rows)
theorem str_is{S:Spc}{a:Int}:(str S a).2=if Qu.isR S a then 0 else 5:=by
 unfold str Qu.isR
 cases Ob.head S a with
 |none=>rfl
 |some h=>
  dsimp only
  by_cases g:h.k=4
  ·rw[if_pos g,if_pos (by simpa using g)]
  ·rw[if_neg g,if_neg (by simpa using g)]
end Rf
theorem rfs_new(hp:Nat):Gl.Spec ρ Tryz.prog 36 [.pointer (some ⟨hp,0,none⟩)] [] (.one (.l .ptr)) fun r M=>∃p,r=some ⟨p,0,none⟩∧M=[RfA p hp [] 0]:=by
 refine Gl.Spec.of (fun Q w h=>F.ref.New.calls (some ⟨hp,0,none⟩) h) fun R=> ?_
 unfold F.ref.New
 try simp only[lca,lna]
 refine en_call (que_new hp) tks ?_
 rintro _ _ ⟨q,rfl,rfl⟩
 try simp only[lca,lna]
 refine en_brf rfl (en_nw fun b=> ?_)
 refine Tr.close tks (RfA.cl (p:=b) (q:=q) (hp:=hp) (rows:=[]) (n:=0)) ?_
 exact en_rets (x:=some ⟨b,0,none⟩) rfl ⟨b,rfl,rfl⟩ tks ens
theorem que_heap{q hp:Nat}{rows:List (List Int)}{f:Option Addr→Tree}{a:Addr}(ha:a=⟨q,0,none⟩)(t:Take L (QueA q hp rows) L')(h:Tr ρ0 ρ (QueA q hp rows::L') (f (some ⟨hp,0,none⟩)) Post):Tr ρ0 ρ L (ld (.l .ptr) a f) Post:=by
 subst ha
 refine QueA.op t fun s hs=> ?_
 try simp only[lca,lna]
 refine en_ld (k:= .ptr) (off:=0) (x:=some ⟨hp,0,none⟩) rfl tk rfl ?_
 refine Tr.close tks (QueA.cl (p:=q) (hp:=hp) (rows:=rows) hs) ?_
 exact h
theorem rfs_strength(p hp:Nat)(S:Spc)(cs:List Cls)(hw:HWf S cs)(rows:List (List Int))(n a:Int):Gl.Spec ρ Tryz.prog 130 [.pointer (some ⟨p,0,none⟩),i64 a] [RfA p hp rows n,HeapA hp S cs] P2
  fun r M=>r=((Rf.str S a).1,(Rf.str S a).2,())∧M=[RfA p hp rows n,HeapA hp S cs]:=by
 refine Gl.Spec.of (fun Q w h=>F.ref.Refs.strength.calls (some ⟨p,0,none⟩) a h) fun R=> ?_
 unfold F.ref.Refs.strength
 refine en_brf rfl (en_nn (RfA.op tk fun q=> ?_))
 refine en_ld (k:= .ptr) (off:=0) (x:=some ⟨q,0,none⟩) (by rw[fa_mk]) tk rfl (en_nn ?_)
 refine que_heap (by rw[fa_mk]) tk ?_
 refine Tr.close tks (RfA.cl (p:=p) (q:=q) (hp:=hp) (rows:=rows) (n:=n)) ?_
 refine en_call (object_head hp S cs hw a) tks ?_
 rintro x' M ⟨rfl,rfl⟩
 try simp only[lca,lna]
 refine en_nw fun b=> ?_
 rw[zcHd]
 refine en_st (off:=0) rfl tk (by simp) (by cases Ob.head S a<;>rfl) ?_
 cases hh:Ob.head S a with
 |none=>
  refine en_brt rfl ?_
  have e1:Rf.str S a=(0,5):=by unfold Rf.str;rw[hh]
  rw[e1]
  exact en_rets (x:=((0:Int),(5:Int),())) rfl ⟨rfl,rfl⟩ tks ens
 |some hd=>
  refine en_brf rfl ?_
  have e:setL [i64 0,i64 0,i64 0,.bool false] 0 [.int .i64 (Ob.headR (some hd)).1.1,.int .i64 (Ob.headR (some hd)).1.2.1,.int .i64 (Ob.headR (some hd)).1.2.2.1,.bool (Ob.headR (some hd)).1.2.2.2.1]=hd.cs:=rfl
  rw[e]
  refine en_ld (k:= .int .i64) (off:=0) (x:=hd.k) (by rw[fa_mk]) tk rfl ?_
  refine en_br (fun h4=> ?_) (fun h4=> ?_)
  ·have e1:Rf.str S a=(0,5):=by unfold Rf.str;rw[hh];exact if_neg (by simpa using h4)
   rw[e1]
   exact en_rets (x:=((0:Int),(5:Int),())) rfl ⟨rfl,rfl⟩ tks ens
  ·have e1:Rf.str S a=(hd.c,0):=by unfold Rf.str;rw[hh];exact if_pos (by simpa using h4)
   rw[e1]
   refine en_ld (k:= .int .i64) (off:=1) (x:=hd.c) (by rw[fa_mk]) tk rfl ?_
   exact en_rets (x:=(hd.c,(0:Int),())) rfl ⟨rfl,rfl⟩ tks ens
theorem rfs_may(p hp:Nat)(S:Spc)(cs:List Cls)(hw:HWf S cs)(rows:List (List Int))(n c o i:Int):Gl.Spec ρ Tryz.prog 129 [.pointer (some ⟨p,0,none⟩),i64 c,i64 o,i64 i] [RfA p hp rows n,HeapA hp S cs] R1
  fun r M=>r=Rf.may S rows c o i∧M=[RfA p hp rows n,HeapA hp S cs]:=by
 refine Gl.Spec.of (fun Q w h=>F.ref.Refs.may.calls (some ⟨p,0,none⟩) c o i h) fun R=> ?_
 unfold F.ref.Refs.may
 refine en_br (fun h1=> ?_) (fun h1=> ?_)
 ·have e:Rf.may S rows c o i=1:=by unfold Rf.may;rw[if_pos (of_decide_eq_true h1)]
  rw[e]
  exact en_rets (x:=(1:Int)) rfl ⟨rfl,rfl⟩ tks ens
 have h1':¬c<1:=of_decide_eq_false h1
 refine en_br (fun h2=> ?_) (fun h2=> ?_)
 ·have e:Rf.may S rows c o i=1:=by unfold Rf.may;rw[if_neg h1',if_pos (of_decide_eq_true h2)]
  rw[e]
  exact en_rets (x:=(1:Int)) rfl ⟨rfl,rfl⟩ tks ens
 have h2':¬c>3:=of_decide_eq_false h2
 refine en_br (fun h3=> ?_) (fun h3=> ?_)
 ·have e:Rf.may S rows c o i=2:=by unfold Rf.may;rw[if_neg h1',if_neg h2',if_pos (of_decide_eq_true h3)]
  rw[e]
  exact en_rets (x:=(2:Int)) rfl ⟨rfl,rfl⟩ tks ens
 have h3':¬i< -1:=of_decide_eq_false h3
 refine en_nn (RfA.op tk fun q=> ?_)
 refine en_ld (k:= .ptr) (off:=0) (x:=some ⟨q,0,none⟩) (by rw[fa_mk]) tk rfl ?_
 refine en_call (que_count q hp rows) tks ?_
 rintro x' M ⟨rfl,rfl⟩
 try simp only[lca,lna]
 refine en_br (fun h4=> ?_) (fun h4=> ?_)
 ·have e:Rf.may S rows c o i=2:=by unfold Rf.may;rw[if_neg h1',if_neg h2',if_neg h3',if_pos (of_decide_eq_true h4)]
  refine Tr.close tks (RfA.cl (p:=p) (q:=q) (hp:=hp) (rows:=rows) (n:=n)) ?_
  rw[e]
  exact en_rets (x:=(2:Int)) rfl ⟨rfl,rfl⟩ tks ens
 have h4':¬i≥(rows.length:Nat):=of_decide_eq_false h4
 have key:∀(hc:¬(c=3∧i<0)),Tr ρ ρ (HeapA hp S cs::RfA p hp rows n::R) (call Tryz.prog 61 [.pointer (some ⟨hp,0,none⟩),i64 o] HE fun(r8:RT HE)=>
   nw 103 (zc Tryz.prog 103) fun b9=>st (⟨b9,0,none⟩) [.int .i64 r8.1.1,.int .i64 r8.1.2.1,.int .i64 r8.1.2.2.1,.bool r8.1.2.2.2.1]<|
   br ((r8.2.1:Int) != 0) (ret (.int .i64 2)) (ret (.int .i64 0))) (SP R1 (fun r M=>r=Rf.may S rows c o i∧M=[RfA p hp rows n,HeapA hp S cs]) R):=fun hc=>by
  refine en_call (object_head hp S cs hw o) tks ?_
  rintro x' M ⟨rfl,rfl⟩
  try simp only[lca,lna]
  refine en_nw fun b=> ?_
  rw[zcHd]
  refine en_st (off:=0) rfl tk (by simp) (by cases Ob.head S o<;>rfl) ?_
  cases hh:Ob.head S o with
  |none=>
   have e:Rf.may S rows c o i=2:=by unfold Rf.may;rw[if_neg h1',if_neg h2',if_neg h3',if_neg h4',if_neg hc,hh];rfl
   refine en_brt rfl ?_
   rw[e]
   exact en_rets (x:=(2:Int)) rfl ⟨rfl,rfl⟩ tks ens
  |some hd=>
   have e:Rf.may S rows c o i=0:=by unfold Rf.may;rw[if_neg h1',if_neg h2',if_neg h3',if_neg h4',if_neg hc,hh];rfl
   refine en_brf rfl ?_
   rw[e]
   exact en_rets (x:=(0:Int)) rfl ⟨rfl,rfl⟩ tks ens
 refine en_br (fun h5=> ?_) (fun h5=> ?_)
 ·have h5':c=3:=by simpa using h5
  refine en_br (fun h6=> ?_) (fun h6=> ?_)
  ·have e:Rf.may S rows c o i=1:=by unfold Rf.may;rw[if_neg h1',if_neg h2',if_neg h3',if_neg h4',if_pos ⟨h5',of_decide_eq_true h6⟩]
   refine Tr.close tks (RfA.cl (p:=p) (q:=q) (hp:=hp) (rows:=rows) (n:=n)) ?_
   rw[e]
   exact en_rets (x:=(1:Int)) rfl ⟨rfl,rfl⟩ tks ens
  ·have h6':¬i<0:=of_decide_eq_false h6
   refine en_nn ?_
   refine en_ld (k:= .ptr) (off:=0) (x:=some ⟨q,0,none⟩) (by rw[fa_mk]) tk rfl (en_nn ?_)
   refine que_heap (by rw[fa_mk]) tk ?_
   refine Tr.close tks (RfA.cl (p:=p) (q:=q) (hp:=hp) (rows:=rows) (n:=n)) ?_
   exact Tr.perm (Takes.perm (M:=[HeapA hp S cs,RfA p hp rows n]) tks) (key (fun g=>h6' g.2))
 ·have h5':c≠3:=by simpa using h5
  refine en_nn ?_
  refine en_ld (k:= .ptr) (off:=0) (x:=some ⟨q,0,none⟩) (by rw[fa_mk]) tk rfl (en_nn ?_)
  refine que_heap (by rw[fa_mk]) tk ?_
  refine Tr.close tks (RfA.cl (p:=p) (q:=q) (hp:=hp) (rows:=rows) (n:=n)) ?_
  exact Tr.perm (Takes.perm (M:=[HeapA hp S cs,RfA p hp rows n]) tks) (key (fun g=>h5' g.1))
theorem HWf.puts{cs:List Cls}:∀{l:List Int} {S:Spc} {a:Int} {i:Nat},HWf S cs→HWf (Rf.puts S a i l) cs
 |[],_,_,_,h=>h
 |x::l,S,a,i,h=>HWf.puts (l:=l) (h.put a i x)
theorem puts_snoc:∀{l:List Int} {S:Spc} {a:Int} {i:Nat} {x:Int},Rf.puts S a i (l++[x])=(Ob.put (Rf.puts S a i l) a ((i+l.length:Nat):Int) x).2
 |[],_,_,_,_=>rfl
 |y::l,S,a,i,x=>by
  show Rf.puts (Ob.put S a i y).2 a (i+1) (l++[x])=_
  rw[puts_snoc,List.length_cons,show i+(l.length+1)=i+1+l.length by omega];rfl
theorem rfs_refer(p hp:Nat)(S:Spc)(cs:List Cls)(hw:HWf S cs)(rows:List (List Int))(n c o i t:Int)(hn:0≤n∧n<2^50)(hrl:rows.length≤8):
  Gl.Spec ρ Tryz.prog 88 [.pointer (some ⟨p,0,none⟩),i64 c,i64 o,i64 i,i64 t] [RfA p hp rows n,HeapA hp S cs] P2
  fun r M=>r=((Rf.refer S cs rows n c o i t).1,(Rf.refer S cs rows n c o i t).2.1,())∧M=[RfA p hp rows (Rf.refer S cs rows n c o i t).2.2.2,HeapA hp (Rf.refer S cs rows n c o i t).2.2.1 cs]:=by
 refine Gl.Spec.of (fun Q w h=>F.ref.Refs.Refer.calls (some ⟨p,0,none⟩) c o i t h) fun R=> ?_
 unfold F.ref.Refs.Refer
 refine en_brf rfl ?_
 refine en_call (rfs_may p hp S cs hw rows n c o i) tks ?_
 rintro x' M ⟨rfl,rfl⟩
 try simp only[lca,lna]
 refine en_br (fun h=> ?_) (fun h=> ?_)
 ·have h':Rf.may S rows c o i≠0:=by simpa using h
  have e:Rf.refer S cs rows n c o i t=(0,Rf.may S rows c o i,S,n):=by unfold Rf.refer;rw[if_pos h']
  rw[e]
  exact en_rets (x:=((0:Int),Rf.may S rows c o i,())) rfl ⟨rfl,rfl⟩ tks ens
 have h':Rf.may S rows c o i=0:=by simpa using h
 have hi: -1≤i∧i<rows.length:=by
  unfold Rf.may at h'
  split at h'
  ·cases h'
  ·split at h'
   ·cases h'
   ·split at h'
    ·cases h'
    ·split at h'
     ·cases h'
     ·omega
 refine en_nn (RfA.op tk fun q=> ?_)
 refine en_ld (k:= .ptr) (off:=0) (x:=some ⟨q,0,none⟩) (by rw[fa_mk]) tk rfl (en_nn ?_)
 refine que_heap (by rw[fa_mk]) tk ?_
 refine en_call (object_make hp S cs hw ⟨4,c,5,false⟩) tks ?_
 rintro x' M ⟨rfl,rfl⟩
 try simp only[lca,lna]
 refine en_br (fun hm=> ?_) (fun hm=> ?_)
 ·have hm':(Ob.make S cs ⟨4,c,5,false⟩).2.1≠0:=by simpa using hm
  have e:Rf.refer S cs rows n c o i t=(0,(Ob.make S cs ⟨4,c,5,false⟩).2.1,(Ob.make S cs ⟨4,c,5,false⟩).2.2,n):=by unfold Rf.refer;rw[if_neg (fun g=>g h'),if_pos hm']
  refine Tr.close tks (RfA.cl (p:=p) (q:=q) (hp:=hp) (rows:=rows) (n:=n)) ?_
  rw[e]
  exact en_rets (x:=((0:Int),(Ob.make S cs ⟨4,c,5,false⟩).2.1,())) rfl ⟨rfl,rfl⟩ tks ens
 have hm':(Ob.make S cs ⟨4,c,5,false⟩).2.1=0:=by simpa using hm
 have e:Rf.refer S cs rows n c o i t=((Ob.make S cs ⟨4,c,5,false⟩).1,0,Rf.puts (Ob.make S cs ⟨4,c,5,false⟩).2.2 (Ob.make S cs ⟨4,c,5,false⟩).1 0 [o,i+1,0,t,n+1],n+1):=by
  unfold Rf.refer;rw[if_neg (fun g=>g h'),if_neg (fun g=>g hm')]
 rw[e]
 have hw1:=hw.make ⟨4,c,5,false⟩
 generalize(Ob.make S cs ⟨4,c,5,false⟩).2.2=S1 at hw1⊢
 generalize(Ob.make S cs ⟨4,c,5,false⟩).1=a at*
 refine en_nn ?_
 refine en_ld (k:= .int .i64) (off:=1) (x:=n) (by rw[fa_mk]) tk rfl (en_nn ?_)
 refine en_st (off:=1) (by rw[fa_mk]) tk (by simp) rfl (en_nn ?_)
 rw[wrap64 (n:=n+1) (by omega) (by omega),wrap64 (n:=i+1) (by omega) (by omega)]
 have e1:setL [.pointer (some ⟨q,0,none⟩),i64 n] 1 [.int .i64 (n+1)]=[.pointer (some ⟨q,0,none⟩),i64 (n+1)]:=rfl
 rw[e1]
 refine en_ld (k:= .int .i64) (off:=1) (x:=n+1) (by rw[fa_mk]) tk rfl ?_
 refine Tr.close tks (RfA.cl (p:=p) (q:=q) (hp:=hp) (rows:=rows) (n:=n+1)) ?_
 refine en_lp (I:=fun m s M=>∃j:Nat,j≤5∧m=5-j∧s=((j:Int),())∧M=RfA p hp rows (n+1)::HeapA hp (Rf.puts S1 a 0 ([o,i+1,0,t,n+1].take j)) cs::R) 5 ⟨0,by omega,rfl,rfl,rfl⟩ ?_
 rintro m _ _ ⟨j,hj,rfl,rfl,rfl⟩ X hX
 try simp only[lca,lna]
 refine en_br (fun hc=> ?_) (fun hc=> ?_)
 ·have hj':(j:Int)<5:=of_decide_eq_true hc
  refine en_need ⟨by omega,by omega⟩ (en_nn (RfA.op tk fun q=> ?_))
  refine en_ld (k:= .ptr) (off:=0) (x:=some ⟨q,0,none⟩) (by rw[fa_mk]) tk rfl (en_nn ?_)
  refine que_heap (by rw[fa_mk]) tk ?_
  refine Tr.close tks (RfA.cl (p:=p) (q:=q) (hp:=hp) (rows:=rows) (n:=n+1)) ?_
  refine en_call (object_put hp (Rf.puts S1 a 0 ([o,i+1,0,t,n+1].take j)) cs (HWf.puts hw1) a j (List.getD [o,i+1,0,t,n+1] (j:Int).toNat 0)) tks ?_
  rintro x' M ⟨rfl,rfl⟩
  try simp only[lca,lna]
  rw[wrap64 (n:=(j:Int)+1) (by omega) (by omega)]
  have hjl:j<[o,i+1,0,t,n+1].length:=by show j<5;omega
  have e2:[o,i+1,0,t,n+1].take (j+1)=[o,i+1,0,t,n+1].take j++[List.getD [o,i+1,0,t,n+1] (j:Int).toNat 0]:=by
   rw[List.take_add_one,List.getElem?_eq_getElem hjl,Int.toNat_natCast,List.getD_eq_getElem?_getD,List.getElem?_eq_getElem hjl];rfl
  have e3:(Ob.put (Rf.puts S1 a 0 ([o,i+1,0,t,n+1].take j)) a j (List.getD [o,i+1,0,t,n+1] (j:Int).toNat 0)).2=Rf.puts S1 a 0 ([o,i+1,0,t,n+1].take (j+1)):=by
   rw[e2,puts_snoc,List.length_take,Nat.zero_add,Nat.min_eq_left (by omega)]
  rw[e3]
  exact Tr.perm (Takes.perm (M:=[RfA p hp rows (n+1),HeapA hp (Rf.puts S1 a 0 ([o,i+1,0,t,n+1].take (j+1))) cs]) tks) (hX (5-(j+1)) _ _ (by omega) ⟨j+1,by omega,rfl,rfl,rfl⟩)
 ·have hj':¬(j:Int)<5:=of_decide_eq_false hc
  have:j=5:=by omega
  subst this
  exact en_rets (x:=(a,(0:Int),())) rfl ⟨rfl,rfl⟩ tks ens
end Go.Proofs.YtfepdmpplahloaaGreat
