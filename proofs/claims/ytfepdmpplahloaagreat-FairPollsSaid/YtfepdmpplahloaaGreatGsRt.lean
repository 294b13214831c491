/- The runtime plainly: handles, merging, queues. -/
import Derived.Test.YtfepdmpplahloaaGreatGsBx
set_option linter.unusedSimpArgs false
set_option linter.unusedVariables false
namespace Go.Proofs.YtfepdmpplahloaaGreat
open Go Go.Gl
variable{ρ0 ρ:FR}{L L':List aA}{Post:Value→List aA→Prop}{T:Tree}
namespace Hn
abbrev Slot:=Int×Int
def aQ(hs:List Slot)(i:Nat):Slot:=hs.getD i (0,0)
def told(hs:List Slot)(i:Nat):Int:=i+512*((aQ hs i).1+1)
def free(hs:List Slot):Option Nat:=(List.range hs.length).find? fun i=>(aQ hs i).2==0
def iR(hs:List Slot)(a:Int):Int×Int:=if a<1 then(0,1)else match free hs with |some i=>(told hs i,0)|none=>(0,3)
def du(hs:List Slot)(a:Int):List Slot:=if a<1 then hs else match free hs with |some i=>hs.set i ((aQ hs i).1,a)|none=>hs
def find(hs:List Slot)(x:Int):Option Nat:=if x<512 then none else if(aQ hs (x%512).toNat).2≠0∧told hs (x%512).toNat=x then some (x%512).toNat else none
def held(hs:List Slot)(x:Int):Int×Int:=match find hs x with |some i=>((aQ hs i).2,0)|none=>(0,6)
def mj(hs:List Slot)(x:Int):Int:=match find hs x with |some _=>0|none=>6
def gG(hs:List Slot)(x:Int):List Slot:=match find hs x with |some i=>hs.set i ((aQ hs i).1+1,0)|none=>hs
def jo(hs:List Slot)(i:Nat):List (Int×Int):=if(aQ hs i).2≠0 then[(told hs i,(aQ hs i).2)]else[]
def all(hs:List Slot):List (Int×Int):=(List.range hs.length).flatMap (jo hs)
structure Ok(hs:List Slot):Prop where
 len:hs.length=512
 ni:∀e∈hs,0≤e.1∧e.1<2^50
theorem Ok.get{hs:List Slot}(H:Ok hs)(i:Nat):0≤(aQ hs i).1∧(aQ hs i).1<2^50:=by
 unfold aQ
 rcases Nat.lt_or_ge i hs.length with h|h
 ·rw[List.getD_eq_getElem?_getD,List.getElem?_eq_getElem h];exact H.ni _ (List.getElem_mem h)
 ·rw[List.getD_eq_getElem?_getD,List.getElem?_eq_none h];decide
theorem nM{hs:List Slot}{i j:Nat}{e:Slot}(hi:i<hs.length):aQ (hs.set i e) j=if j=i then e else aQ hs j:=by
 unfold aQ
 rw[List.getD_eq_getElem?_getD,List.getElem?_set]
 by_cases h:i=j
 ·subst h;rw[if_pos rfl,if_pos hi,if_pos rfl];rfl
 ·rw[if_neg h,if_neg (fun g=>h g.symm),List.getD_eq_getElem?_getD]
theorem Ok.set{hs:List Slot}(H:Ok hs){i:Nat}{e:Slot}(he:0≤e.1∧e.1<2^50):Ok (hs.set i e):=by
 refine⟨by rw[List.length_set];exact H.len,fun x hx=> ?_⟩
 rcases List.mem_or_eq_of_mem_set hx with h|h
 ·exact H.ni x h
 ·rw[h];exact he
theorem eE{hs:List Slot}{i:Nat}(h:free hs=some i):i<hs.length∧(aQ hs i).2=0∧∀j,j<i→(aQ hs j).2≠0:=by
 unfold free at h
 rw[List.find?_range_eq_some]at h
 obtain⟨h1,h2,h3⟩:=h
 exact⟨List.mem_range.mp h2,by simpa using h1,fun j hj=>by simpa using h3 j hj⟩
theorem rb{hs:List Slot}(h:free hs=none):∀j,j<hs.length→(aQ hs j).2≠0:=fun j hj=>by
 unfold free at h
 rw[List.find?_eq_none]at h
 simpa using h j (List.mem_range.mpr hj)
theorem Cc{hs:List Slot}{i:Nat}(h1:i<hs.length)(h2:(aQ hs i).2=0)(h3:∀j,j<i→(aQ hs j).2≠0):free hs=some i:=by
 unfold free
 rw[List.find?_range_eq_some]
 exact⟨by simpa using h2,List.mem_range.mpr h1,fun j hj=>by simpa using h3 j hj⟩
theorem uA{hs:List Slot}(h3:∀j,j<hs.length→(aQ hs j).2≠0):free hs=none:=by
 unfold free
 rw[List.find?_eq_none]
 intro j hj
 simpa using h3 j (List.mem_range.mp hj)
theorem rZ{hs:List Slot}(H:Ok hs){i:Nat}(hi:i<512):512≤told hs i∧told hs i<2^60∧told hs i%512=i:=by
 have:=H.get i
 unfold told
 omega
theorem fF{hs:List Slot}(n:Nat):((List.range n).flatMap (jo hs)).length≤n:=by
 induction n with
 |zero=>simp
 |succ n ih=>
  rw[List.range_succ,List.flatMap_append,List.length_append]
  have:(List.flatMap (jo hs) [n]).length≤1:=by
   rw[List.flatMap_singleton];unfold jo;split<;>simp
  omega
end Hn
namespace Mg
def uG:List Int→Int→List Int
 |[],x=>[x]|y::l,x=>if y<x then y::uG l x else if y=x then y::l else x::y::l
def merge(ls:List (List Int)):List Int:=(ls.flatten.filter fun x=>decide (x>0)).foldl uG []
theorem rN:∀{l:List Int} {x a:Int},a∈uG l x↔(a∈l∨a=x)
 |[],x,a=>by simp[uG]
 |y::l,x,a=>by
  unfold uG
  split
  ·rw[List.mem_cons,rN,List.mem_cons,or_assoc]
  ·split
   ·rename_i h
    subst h
    constructor
    ·exact .inl
    ·rintro(h|rfl)
     ·exact h
     ·exact .head _
   ·rw[List.mem_cons (a:=a) (b:=x),or_comm]
theorem o7:∀{l:List Int} {x:Int},l.Pairwise (·<·)→(uG l x).Pairwise (·<·)
 |[],x,_=>by simp[uG]
 |y::l,x,h=>by
  rw[List.pairwise_cons]at h
  unfold uG
  split
  ·rename_i hx
   rw[List.pairwise_cons]
   refine⟨fun a ha=> ?_,o7 h.2⟩
   rcases rN.mp ha with ha|rfl
   ·exact h.1 a ha
   ·exact hx
  ·split
   ·rw[List.pairwise_cons];exact h
   ·rename_i h1 h2
    rw[List.pairwise_cons,List.pairwise_cons]
    refine⟨fun a ha=> ?_,h⟩
    rcases List.mem_cons.mp ha with rfl|ha
    ·omega
    ·have:=h.1 a ha;omega
theorem pL:∀(l w:List Int),w.Pairwise (·<·)→(l.foldl uG w).Pairwise (·<·)∧∀a,a∈l.foldl uG w↔(a∈w∨a∈l)
 |[],w,h=>⟨h,fun a=>by simp⟩
 |x::l,w,h=>by
  obtain⟨h1,h2⟩:=pL l (uG w x) (o7 h)
  refine⟨h1,fun a=> ?_⟩
  rw[List.foldl_cons,h2,rN,List.mem_cons,or_assoc]
theorem sn(ls:List (List Int)):(merge ls).Pairwise (·<·):=(pL _ [] .nil).1
theorem mem_merge{ls:List (List Int)}{a:Int}:a∈merge ls↔(0<a∧∃l∈ls,a∈l):=by
 unfold merge
 rw[(pL _ [] .nil).2,List.mem_filter,List.mem_flatten,decide_eq_true_iff]
 constructor
 ·rintro(h|⟨h1,h2⟩)
  ·cases h
  ·exact⟨h2,h1⟩
 ·rintro⟨h1,h2⟩
  exact .inr ⟨h2,h1⟩
theorem zp{ls:List (List Int)}{l:List Int}(hs:l.Pairwise (·<·))(h:∀a,a∈l↔(0<a∧∃r∈ls,a∈r)):l=merge ls:=
 o5 hs (sn ls) fun a=>by rw[h,mem_merge]
theorem wC:∀{l:List Int} {x:Int},(uG l x).length≤l.length+1
 |[],x=>by simp[uG]
 |y::l,x=>by
  have:=wC (l:=l) (x:=x)
  unfold uG
  split
  ·rw[List.length_cons,List.length_cons];omega
  ·split<;>simp
theorem yn(ls:List (List Int)):(merge ls).length≤ls.flatten.length:=by
 have:∀(l w:List Int),(l.foldl uG w).length≤w.length+l.length:=fun l=>by
  induction l with
  |nil=>intro w;simp
  |cons x l ih=>
   intro w
   rw[List.foldl_cons]
   have h1:=ih (uG w x)
   have h2:=wC (l:=w) (x:=x)
   rw[List.length_cons];omega
 unfold merge
 have h1:=this (ls.flatten.filter fun x=>decide (x>0)) []
 have h2:=List.length_filter_le (fun x:Int=>decide (x>0)) ls.flatten
 rw[List.length_nil,Nat.zero_add]at h1
 exact Nat.le_trans h1 h2
end Mg
namespace Qu
def has(rows:List (List Int))(i:Int):Bool:=decide (0≤i∧i<rows.length)
def row(rows:List (List Int))(i:Int):List Int:=rows.getD i.toNat []
def ba(S:aD)(a:Int):Bool:=match Ob.head S a with |some h=>h.k==4|none=>false
def ends(r:List Int):Int×Int:=(r.headD 0,r.getLastD 0)
def Lk(S:aD):List Int→Prop
 |[]=>True|a::r=>a≠0∧Ob.get S a 2=(r.headD 0,0)∧Lk S r
def bh(S:aD)(rows:List (List Int))(i a:Int):aD:=
 if has rows i&&ba S a then(if row rows i=[]then(Ob.put S a 2 0).2 else(Ob.put (Ob.put S a 2 0).2 ((row rows i).getLastD 0) 2 a).2)else S
def cE(S:aD)(rows:List (List Int))(i a:Int):List (List Int):=if has rows i&&ba S a then rows.set i.toNat (row rows i++[a])else rows
def hU(rows:List (List Int))(i:Int):Int×Int:=if has rows i then((row rows i).headD 0,0)else(0,2)
def cp(S:aD)(rows:List (List Int))(i:Int):aD:=if has rows i∧row rows i≠[]then(Ob.put S ((row rows i).headD 0) 2 0).2 else S
def dP(rows:List (List Int))(i:Int):List (List Int):=if has rows i then rows.set i.toNat (row rows i).tail else rows
end Qu
end Go.Proofs.YtfepdmpplahloaaGreat
