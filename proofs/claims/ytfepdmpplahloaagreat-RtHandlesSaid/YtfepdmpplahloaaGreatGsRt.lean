/- The runtime plainly: handles, merging, queues. -/
import Derived.Test.YtfepdmpplahloaaGreatGsBx
set_option linter.unusedSimpArgs false
set_option linter.unusedVariables false
namespace Go.Proofs.YtfepdmpplahloaaGreat
open Go Go.Gl
variable{ρ0 ρ:FR}{L L':List Asn}{Post:Value→List Asn→Prop}{T:Tree}
namespace Hn
abbrev Slot:=Int×Int
def at'(hs:List Slot)(i:Nat):Slot:=hs.getD i (0,0)
def told(hs:List Slot)(i:Nat):Int:=i+512*((at' hs i).1+1)
def free(hs:List Slot):Option Nat:=(List.range hs.length).find? fun i=>(at' hs i).2==0
def holdR(hs:List Slot)(a:Int):Int×Int:=if a<1 then(0,1)else match free hs with |some i=>(told hs i,0)|none=>(0,3)
def holdS(hs:List Slot)(a:Int):List Slot:=if a<1 then hs else match free hs with |some i=>hs.set i ((at' hs i).1,a)|none=>hs
def find(hs:List Slot)(x:Int):Option Nat:=if x<512 then none else if(at' hs (x%512).toNat).2≠0∧told hs (x%512).toNat=x then some (x%512).toNat else none
def held(hs:List Slot)(x:Int):Int×Int:=match find hs x with |some i=>((at' hs i).2,0)|none=>(0,6)
def dropE(hs:List Slot)(x:Int):Int:=match find hs x with |some _=>0|none=>6
def dropS(hs:List Slot)(x:Int):List Slot:=match find hs x with |some i=>hs.set i ((at' hs i).1+1,0)|none=>hs
def all1(hs:List Slot)(i:Nat):List (Int×Int):=if(at' hs i).2≠0 then[(told hs i,(at' hs i).2)]else[]
def all(hs:List Slot):List (Int×Int):=(List.range hs.length).flatMap (all1 hs)
structure Ok(hs:List Slot):Prop where
 len:hs.length=512
 turn:∀e∈hs,0≤e.1∧e.1<2^50
theorem Ok.get{hs:List Slot}(H:Ok hs)(i:Nat):0≤(at' hs i).1∧(at' hs i).1<2^50:=by
 unfold at'
 rcases Nat.lt_or_ge i hs.length with h|h
 ·rw[List.getD_eq_getElem?_getD,List.getElem?_eq_getElem h];exact H.turn _ (List.getElem_mem h)
 ·rw[List.getD_eq_getElem?_getD,List.getElem?_eq_none h];decide
theorem at_set{hs:List Slot}{i j:Nat}{e:Slot}(hi:i<hs.length):at' (hs.set i e) j=if j=i then e else at' hs j:=by
 unfold at'
 rw[List.getD_eq_getElem?_getD,List.getElem?_set]
 by_cases h:i=j
 ·subst h;rw[if_pos rfl,if_pos hi,if_pos rfl];rfl
 ·rw[if_neg h,if_neg (fun g=>h g.symm),List.getD_eq_getElem?_getD]
theorem Ok.set{hs:List Slot}(H:Ok hs){i:Nat}{e:Slot}(he:0≤e.1∧e.1<2^50):Ok (hs.set i e):=by
 refine⟨by rw[List.length_set];exact H.len,fun x hx=> ?_⟩
 rcases List.mem_or_eq_of_mem_set hx with h|h
 ·exact H.turn x h
 ·rw[h];exact he
theorem free_some{hs:List Slot}{i:Nat}(h:free hs=some i):i<hs.length∧(at' hs i).2=0∧∀j,j<i→(at' hs j).2≠0:=by
 unfold free at h
 rw[List.find?_range_eq_some]at h
 obtain⟨h1,h2,h3⟩:=h
 exact⟨List.mem_range.mp h2,by simpa using h1,fun j hj=>by simpa using h3 j hj⟩
theorem free_none{hs:List Slot}(h:free hs=none):∀j,j<hs.length→(at' hs j).2≠0:=fun j hj=>by
 unfold free at h
 rw[List.find?_eq_none]at h
 simpa using h j (List.mem_range.mpr hj)
theorem free_is{hs:List Slot}{i:Nat}(h1:i<hs.length)(h2:(at' hs i).2=0)(h3:∀j,j<i→(at' hs j).2≠0):free hs=some i:=by
 unfold free
 rw[List.find?_range_eq_some]
 exact⟨by simpa using h2,List.mem_range.mpr h1,fun j hj=>by simpa using h3 j hj⟩
theorem free_isN{hs:List Slot}(h3:∀j,j<hs.length→(at' hs j).2≠0):free hs=none:=by
 unfold free
 rw[List.find?_eq_none]
 intro j hj
 simpa using h3 j (List.mem_range.mp hj)
theorem all_len{hs:List Slot}(n:Nat):((List.range n).flatMap (all1 hs)).length≤n:=by
 induction n with
 |zero=>simp
 |succ n ih=>
  rw[List.range_succ,List.flatMap_append,List.length_append]
  have:(List.flatMap (all1 hs) [n]).length≤1:=by
   rw[List.flatMap_singleton];unfold all1;split<;>simp
  omega
end Hn
namespace Mg
def wth:List Int→Int→List Int
 |[],x=>[x]|y::l,x=>if y<x then y::wth l x else if y=x then y::l else x::y::l
def merge(ls:List (List Int)):List Int:=(ls.flatten.filter fun x=>decide (x>0)).foldl wth []
theorem mem_wth:∀{l:List Int} {x a:Int},a∈wth l x↔(a∈l∨a=x)
 |[],x,a=>by simp[wth]
 |y::l,x,a=>by
  unfold wth
  split
  ·rw[List.mem_cons,mem_wth,List.mem_cons,or_assoc]
  ·split
   ·rename_i h
    subst h
    constructor
    ·exact .inl
    ·rintro(h|rfl)
     ·exact h
     ·exact .head _
   ·rw[List.mem_cons (a:=a) (b:=x),or_comm]
theorem wth_sorted:∀{l:List Int} {x:Int},l.Pairwise (·<·)→(wth l x).Pairwise (·<·)
 |[],x,_=>by simp[wth]
 |y::l,x,h=>by
  rw[List.pairwise_cons]at h
  unfold wth
  split
  ·rename_i hx
   rw[List.pairwise_cons]
   refine⟨fun a ha=> ?_,wth_sorted h.2⟩
   rcases mem_wth.mp ha with ha|rfl
   ·exact h.1 a ha
   ·exact hx
  ·split
   ·rw[List.pairwise_cons];exact h
   ·rename_i h1 h2
    rw[List.pairwise_cons,List.pairwise_cons]
    refine⟨fun a ha=> ?_,h⟩
    rcases List.mem_cons.mp ha with rfl|ha
    ·omega
    ·have:=h.1 a ha;omega
theorem fold_wth:∀(l w:List Int),w.Pairwise (·<·)→(l.foldl wth w).Pairwise (·<·)∧∀a,a∈l.foldl wth w↔(a∈w∨a∈l)
 |[],w,h=>⟨h,fun a=>by simp⟩
 |x::l,w,h=>by
  obtain⟨h1,h2⟩:=fold_wth l (wth w x) (wth_sorted h)
  refine⟨h1,fun a=> ?_⟩
  rw[List.foldl_cons,h2,mem_wth,List.mem_cons,or_assoc]
theorem merge_sorted(ls:List (List Int)):(merge ls).Pairwise (·<·):=(fold_wth _ [] .nil).1
theorem mem_merge{ls:List (List Int)}{a:Int}:a∈merge ls↔(0<a∧∃l∈ls,a∈l):=by
 unfold merge
 rw[(fold_wth _ [] .nil).2,List.mem_filter,List.mem_flatten,decide_eq_true_iff]
 constructor
 ·rintro(h|⟨h1,h2⟩)
  ·cases h
  ·exact⟨h2,h1⟩
 ·rintro⟨h1,h2⟩
  exact .inr ⟨h2,h1⟩
theorem merge_is{ls:List (List Int)}{l:List Int}(hs:l.Pairwise (·<·))(h:∀a,a∈l↔(0<a∧∃r∈ls,a∈r)):l=merge ls:=
 sorted_ext hs (merge_sorted ls) fun a=>by rw[h,mem_merge]
theorem wth_len:∀{l:List Int} {x:Int},(wth l x).length≤l.length+1
 |[],x=>by simp[wth]
 |y::l,x=>by
  have:=wth_len (l:=l) (x:=x)
  unfold wth
  split
  ·rw[List.length_cons,List.length_cons];omega
  ·split<;>simp
theorem merge_len(ls:List (List Int)):(merge ls).length≤ls.flatten.length:=by
 have:∀(l w:List Int),(l.foldl wth w).length≤w.length+l.length:=fun l=>by
  induction l with
  |nil=>intro w;simp
  |cons x l ih=>
   intro w
   rw[List.foldl_cons]
   have h1:=ih (wth w x)
   have h2:=wth_len (l:=w) (x:=x)
   rw[List.length_cons];omega
 unfold merge
 have h1:=this (ls.flatten.filter fun x=>decide (x>0)) []
 have h2:=List.length_filter_le (fun x:Int=>decide (x>0)) ls.flatten
 rw[List.length_nil,Nat.zero_add]at h1
 exact Nat.le_trans h1 h2
end Mg
namespace Qu
def has(rows:List (List Int))(i:Int):Bool:=decide (0≤i∧i<rows.length)
def row(rows:List (List Int))(i:Int):List Int:=rows.getD i.toNat []
def isR(S:Spc)(a:Int):Bool:=match Ob.head S a with |some h=>h.k==4|none=>false
def ends(r:List Int):Int×Int:=(r.headD 0,r.getLastD 0)
def Lk(S:Spc):List Int→Prop
 |[]=>True|a::r=>a≠0∧Ob.get S a 2=(r.headD 0,0)∧Lk S r
def pushS(S:Spc)(rows:List (List Int))(i a:Int):Spc:=
 if has rows i&&isR S a then(if row rows i=[]then(Ob.put S a 2 0).2 else(Ob.put (Ob.put S a 2 0).2 ((row rows i).getLastD 0) 2 a).2)else S
def pushQ(S:Spc)(rows:List (List Int))(i a:Int):List (List Int):=if has rows i&&isR S a then rows.set i.toNat (row rows i++[a])else rows
def pollR(rows:List (List Int))(i:Int):Int×Int:=if has rows i then((row rows i).headD 0,0)else(0,2)
def pollS(S:Spc)(rows:List (List Int))(i:Int):Spc:=if has rows i∧row rows i≠[]then(Ob.put S ((row rows i).headD 0) 2 0).2 else S
def pollQ(rows:List (List Int))(i:Int):List (List Int):=if has rows i then rows.set i.toNat (row rows i).tail else rows
end Qu
end Go.Proofs.YtfepdmpplahloaaGreat
