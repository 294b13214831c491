/- Spc Sort Space Space2 Space3 Space4. -/
import Derived.Test.YtfepdmpplahloaaGreatGsClass
import Derived.Test.YtfepdmpplahloaaGreatGsLay
set_option linter.unusedSimpArgs false
set_option linter.unusedVariables false
namespace Go.Gl
open Go
section
variable{α:Type}
theorem aget_mem{k:Int}{a:α}:∀{l:List (Int×α)},(l.map (·.1)).Nodup→(aget k l=some a↔(k,a)∈l)
 |[],_=>by simp[aget]
 |x::l,hn=>by
  simp only[List.map_cons,List.nodup_cons]at hn
  unfold aget
  by_cases hx:x.1=k
  ·rw[if_pos hx]
   constructor
   ·intro h;injection h with h;subst hx;subst h;exact List.mem_cons_self
   ·intro h
    rcases List.mem_cons.mp h with h|h
    ·rw[←h]
    ·exact absurd (by rw[hx];exact List.mem_map_of_mem (f:=(·.1)) h) hn.1
  ·rw[if_neg hx,aget_mem hn.2]
   constructor
   ·exact List.mem_cons_of_mem _
   ·intro h
    rcases List.mem_cons.mp h with h|h
    ·exact absurd (by rw[←h]) hx
    ·exact h
theorem aget_none{k:Int}:∀{l:List (Int×α)},aget k l=none↔∀a,(k,a)∉l
 |[]=>by simp[aget]
 |x::l=>by
  unfold aget
  by_cases hx:x.1=k
  ·rw[if_pos hx]
   simp only[reduceCtorEq,false_iff]
   intro h;exact h x.2 (by rw[←hx];exact List.mem_cons_self)
  ·rw[if_neg hx,aget_none]
   constructor
   ·intro h a ha
    rcases List.mem_cons.mp ha with ha|ha
    ·exact hx (by rw[←ha])
    ·exact h a ha
   ·exact fun h a ha=>h a (List.mem_cons_of_mem _ ha)
theorem aset_mem{k i:Int}{a b:α}:∀{l:List (Int×α)},(l.map (·.1)).Nodup→((i,b)∈aset k a l↔(i=k∧b=a)∨(i≠k∧(i,b)∈l))
 |[],_=>by simp[aset]
 |x::l,hn=>by
  simp only[List.map_cons,List.nodup_cons]at hn
  unfold aset
  by_cases hx:x.1=k
  ·rw[if_pos hx]
   simp only[List.mem_cons,Prod.mk.injEq]
   constructor
   ·rintro(h|h)
    ·exact .inl h
    ·refine .inr ⟨?_,.inr h⟩
     rintro rfl
     exact hn.1 (by rw[hx];exact List.mem_map_of_mem (f:=(·.1)) h)
   ·rintro(h|⟨h1,h|h⟩)
    ·exact .inl h
    ·exact absurd (by rw[←hx,←h]) h1
    ·exact .inr h
  ·rw[if_neg hx,List.mem_cons,aset_mem hn.2,List.mem_cons]
   constructor
   ·rintro(h|h|h)
    ·refine .inr ⟨?_,.inl h⟩
     rintro rfl;exact hx (by rw[←h])
    ·exact .inl h
    ·exact .inr ⟨h.1,.inr h.2⟩
   ·rintro(h|⟨h1,h|h⟩)
    ·exact .inr (.inl h)
    ·exact .inl h
    ·exact .inr (.inr ⟨h1,h⟩)
theorem adel_mem{k i:Int}{b:α}:∀{l:List (Int×α)},(l.map (·.1)).Nodup→((i,b)∈adel k l↔i≠k∧(i,b)∈l)
 |[],_=>by simp[adel]
 |x::l,hn=>by
  simp only[List.map_cons,List.nodup_cons]at hn
  unfold adel
  by_cases hx:x.1=k
  ·rw[if_pos hx]
   constructor
   ·intro h
    refine⟨?_,List.mem_cons_of_mem _ h⟩
    rintro rfl
    exact hn.1 (by rw[hx];exact List.mem_map_of_mem (f:=(·.1)) h)
   ·rintro⟨h1,h⟩
    rcases List.mem_cons.mp h with h|h
    ·exact absurd (by rw[←hx,←h]) h1
    ·exact h
  ·rw[if_neg hx,List.mem_cons,adel_mem hn.2,List.mem_cons]
   constructor
   ·rintro(h|h)
    ·refine⟨?_,.inl h⟩
     rintro rfl;exact hx (by rw[←h])
    ·exact⟨h.1,.inr h.2⟩
   ·rintro⟨h1,h|h⟩
    ·exact .inl h
    ·exact .inr ⟨h1,h⟩
theorem aget_split{k:Int}{a:α}:∀{l:List (Int×α)},aget k l=some a→∃l1 l2,l=l1++(k,a)::l2∧(∀a',aset k a' l=l1++(k,a')::l2)∧adel k l=l1++l2
 |[],h=>by cases h
 |x::l,h=>by
  unfold aget at h
  by_cases hx:x.1=k
  ·rw[if_pos hx]at h
   injection h with h
   refine⟨[],l,by rw[←hx,←h];rfl,fun a'=>by simp[aset,hx],by simp[adel,hx]⟩
  ·rw[if_neg hx]at h
   obtain⟨l1,l2,h1,h2,h3⟩:=aget_split h
   exact⟨x::l1,l2,by rw[h1];rfl,fun a'=>by simp[aset,hx,h2 a'],by simp[adel,hx,h3]⟩
theorem aset_new{k:Int}{a:α}:∀{l:List (Int×α)},aget k l=none→aset k a l=l++[(k,a)]
 |[],_=>rfl
 |x::l,h=>by
  unfold aget at h
  by_cases hx:x.1=k
  ·rw[if_pos hx]at h;cases h
  ·rw[if_neg hx]at h
   simp[aset,hx,aset_new h]
end
variable{ρ0 ρ:FR}{L L':List Asn}{Post:Value→List Asn→Prop}
theorem Tr.keys{α:Type}{b:Nat}{f:α→Value}{l:List (Int×α)}{T:Tree}(t:Take L (IM b f l) L')(h:(l.map (·.1)).Nodup→Tr ρ0 ρ L T Post):Tr ρ0 ρ L T Post:=fun hle w hw=>by
 obtain⟨es,clock,he,_⟩:=(hw.perm t.perm).im
 exact h he.keys hle w hw
theorem IM.ghost{α β:Type}{b:Nat}{f:α→Value}{g:β→Value}{l:List (Int×α)}{l':List (Int×β)}(h:l.map (fun x=>(x.1,f x.2))=l'.map fun x=>(x.1,g x.2))(hp:HP)(H:IM b f l hp):IM b g l' hp:=by
 obtain⟨es,clock,⟨h1,h2,h3,h4⟩,hm⟩:=H
 refine⟨es,clock,⟨?_,h2,h3,?_⟩,hm⟩
 ·have:=congrArg (List.map fun x:Int×Value=>(Value.int .i64 x.1,x.2)) h
  simp only[List.map_map]at this
  rw[h1];exact this
 ·have:=congrArg (List.map fun x:Int×Value=>x.1) h
  simp only[List.map_map]at this
  have e:l.map (·.1)=l'.map (·.1):=this
  rw[←e];exact h4
end Go.Gl
namespace Go.Proofs.YtfepdmpplahloaaGreat
open Go Go.Gl
inductive Pg|res|free|small (c:Nat) (l:List Bool)|head (k:Nat)|tail
 deriving DecidableEq
def Pg.taken:Pg→Bool| .free=>false|_=>true
structure Spc where
 ws:List Int
 pg:List Pg
structure Wf(S:Spc):Prop where
 len:S.ws.length=64*S.pg.length
 most:S.pg.length≤256
 pos:1≤S.pg.length
 res:∀i:Nat,S.pg[i]? =some .res↔i=0
 small:∀(i c:Nat) (l:List Bool),S.pg[i]? =some (.small c l)→c<5∧l.length=64/Sp.sz c
 head:∀i k:Nat,S.pg[i]? =some (.head k)→1≤k∧k≤16∧i+k≤S.pg.length∧∀j:Nat,i<j→j<i+k→S.pg[j]? =some .tail
 tail:∀j:Nat,S.pg[j]? =some .tail→∃i k:Nat,S.pg[i]? =some (.head k)∧i<j∧j<i+k
def Sp.own(pg:List Pg)(p:Nat):Option (Nat×Nat):=(List.range pg.length).findSome? fun(j:Nat)=>match pg[j]? with |some (Pg.head k)=>if j≤p∧p<j+k then some (j,k)else none|_=>none
theorem Sp.own_is{pg:List Pg}{p j k:Nat}(h:Sp.own pg p=some (j,k)):pg[j]? =some (.head k)∧j≤p∧p<j+k:=by
 unfold Sp.own at h
 obtain⟨i,_,hi⟩:=List.exists_of_findSome?_eq_some h
 split at hi
 ·rename_i k' hk
  split at hi
  ·rename_i hc
   injection hi with hi
   injection hi with h1 h2
   subst h1;subst h2
   exact⟨hk,hc⟩
  ·cases hi
 ·cases hi
theorem Wf.uniq{S:Spc}(h:Wf S){i k i' k' p:Nat}(h1:S.pg[i]? =some (.head k))(h2:S.pg[i']? =some (.head k'))(g1:i≤p∧p<i+k)(g2:i'≤p∧p<i'+k'):i=i'∧k=k':=by
 have e:i=i':=by
  rcases Nat.lt_trichotomy i i' with c|c|c
  ·have:=(h.head i k h1).2.2.2 i' c (by omega)
   rw[h2]at this;cases this
  ·exact c
  ·have:=(h.head i' k' h2).2.2.2 i c (by omega)
   rw[h1]at this;cases this
 subst e
 rw[h1]at h2
 injection h2 with h2
 injection h2 with h2
 exact⟨rfl,h2⟩
theorem getElem?_lt{α:Type}{l:List α}{i:Nat}{x:α}(h:l[i]? =some x):i<l.length:=by
 rcases Nat.lt_or_ge i l.length with c|c
 ·exact c
 ·rw[List.getElem?_eq_none c]at h;cases h
theorem Sp.own_of{S:Spc}(hw:Wf S){p j k:Nat}(h:S.pg[j]? =some (.head k))(hp:j≤p∧p<j+k):Sp.own S.pg p=some (j,k):=by
 cases hn:Sp.own S.pg p with
 |none=>
  unfold Sp.own at hn
  rw[List.findSome?_eq_none_iff]at hn
  have:=hn j (by simp[getElem?_lt h])
  rw[h]at this
  simp[hp]at this
 |some x=>
  obtain⟨h1,h2⟩:=Sp.own_is (j:=x.1) (k:=x.2) hn
  obtain⟨e1,e2⟩:=hw.uniq h h1 hp h2
  rw[e1,e2]
theorem Sp.own_no{pg:List Pg}{p:Nat}(h:∀j k:Nat,pg[j]? =some (.head k)→¬(j≤p∧p<j+k)):Sp.own pg p=none:=by
 cases hn:Sp.own pg p with
 |none=>rfl
 |some x=>have:=Sp.own_is (j:=x.1) (k:=x.2) hn;exact absurd this.2 (h _ _ this.1)
def Sp.find(S:Spc)(a:Int):Option (Nat×Nat):=
 if 0≤a∧a<S.ws.length then
  match S.pg[a.toNat/64]? with
  |some (.small c l)=>if l.getD (a.toNat%64/Sp.sz c) false then some (a.toNat/64*64+a.toNat%64/Sp.sz c*Sp.sz c,Sp.sz c)else none
  |_=>(Sp.own S.pg (a.toNat/64)).map fun x=>(x.1*64,x.2*64)
 else none
def Sp.openP(pg:List Pg)(c:Nat):Option Nat:=(List.range pg.length).find? fun(p:Nat)=>match pg[p]? with |some (Pg.small c' l)=>c'==c&& !decide (l.count true=l.length)|_=>false
def Sp.putL(pg:List Pg)(p k:Nat):List Pg:=pg.mapIdx fun j x=>if j=p then .head k else if p<j∧j<p+k then .tail else x
def Sp.freeL(pg:List Pg)(p k:Nat):List Pg:=pg.mapIdx fun j x=>if p≤j∧j<p+k then .free else x
def Sp.placeS(pg:List Pg)(p c:Nat)(l:List Bool):Int×Int×List Pg:=
 ((p*64+(Sp.next l 0 false).toNat*Sp.sz c:Nat),0,pg.set p (.small c (l.set (Sp.next l 0 false).toNat true)))
def Sp.blocks(pg:List Pg)(p:Nat):List Bool:=match pg[p]? with |some (Pg.small _ l)=>l|_=>[]
def Sp.place(pg:List Pg)(w:Int):Int×Int×List Pg:=
 if Sp.cls w<0 then
  match Sp.run (pg.map Pg.taken) (Sp.pgs w).toNat with
  |some p=>((p*64:Nat),0,Sp.putL pg p (Sp.pgs w).toNat)
  |none=>(0,3,pg)
 else
  match Sp.openP pg (Sp.cls w).toNat with
  |some p=>Sp.placeS pg p (Sp.cls w).toNat (Sp.blocks pg p)
  |none=>(match Sp.run (pg.map Pg.taken) 1 with
   |some p=>Sp.placeS pg p (Sp.cls w).toNat (List.replicate (64/Sp.sz (Sp.cls w).toNat) false)
   |none=>(0,3,pg))
def Sp.alloc(S:Spc)(w:Int):Int×Int×Spc:=
 if Sp.blk w=0 then(0,1,S)
 else if(Sp.place S.pg w).2.1=0 then((Sp.place S.pg w).1,0,⟨Sp.clr S.ws (Sp.place S.pg w).1.toNat (Sp.blk w).toNat,(Sp.place S.pg w).2.2⟩)
 else(0,(Sp.place S.pg w).2.1,S)
def Sp.freeS(S:Spc)(a:Int):Int×Spc:=
 match Sp.find S a with
 |some (s,_)=>if(s:Int)=a then
   (match S.pg[a.toNat/64]? with
    |some (.small c l)=>(0,⟨S.ws,S.pg.set (a.toNat/64) (if(l.set (a.toNat%64/Sp.sz c) false).count true=0 then .free else .small c (l.set (a.toNat%64/Sp.sz c) false))⟩)
    |some (.head k)=>(0,⟨S.ws,Sp.freeL S.pg (a.toNat/64) k⟩)
    |_=>(0,S))
  else(2,S)
 |none=>(2,S)
def Sp.at1(p:Nat):Pg→List Int
 | .small c l=>(List.range l.length).filterMap fun i=>if l.getD i false then some ((p*64+i*Sp.sz c:Nat):Int)else none
 | .head _=>[((p*64:Nat):Int)]
 |_=>[]
def Sp.each(S:Spc):List Int:=(List.range S.pg.length).flatMap fun p=>Sp.at1 p (S.pg.getD p .free)
theorem Sp.find_small{S:Spc}{n c:Nat}{l:List Bool}(h0:n<S.ws.length)(hp:S.pg[n/64]? =some (.small c l)):
  Sp.find S n=if l.getD (n%64/Sp.sz c) false then some (n/64*64+n%64/Sp.sz c*Sp.sz c,Sp.sz c)else none:=by
 unfold Sp.find
 rw[if_pos ⟨by omega,by omega⟩,Int.toNat_natCast,hp]
theorem Sp.find_other{S:Spc}{n:Nat}(h0:n<S.ws.length)(hp:∀c l,S.pg[n/64]? ≠some (.small c l)):Sp.find S n=(Sp.own S.pg (n/64)).map fun x=>(x.1*64,x.2*64):=by
 unfold Sp.find
 rw[if_pos ⟨by omega,by omega⟩,Int.toNat_natCast]
 split
 ·rename_i c l h;exact absurd h (hp c l)
 ·rfl
theorem Sp.find_out{S:Spc}{a:Int}(h:¬(0≤a∧a<S.ws.length)):Sp.find S a=none:=by
 unfold Sp.find
 rw[if_neg h]
abbrev Ent:=Nat×Nat×List Bool
def Smalls(pg:List Pg)(ls:List (Int×Ent)):Prop:=∀(i:Int) (c:Nat) (l:List Bool),(∃q,(i,q,c,l)∈ls)↔(0≤i∧pg[i.toNat]? =some (.small c l))
def Larges(pg:List Pg)(ll:List (Int×Nat)):Prop:=∀(i:Int) (k:Nat),(i,k)∈ll↔(0≤i∧pg[i.toNat]? =some (.head k))
def fS(x:Ent):Value:= .pointer (some ⟨x.1,0,none⟩)
def fL(k:Nat):Value:=i64 k
theorem Smalls.get{pg:List Pg}{ls:List (Int×Ent)}(h:Smalls pg ls)(hn:(ls.map (·.1)).Nodup){p c:Nat}{l:List Bool}(hp:pg[p]? =some (.small c l)):∃q,aget (p:Int) ls=some (q,c,l):=by
 obtain⟨q,hq⟩:=(h p c l).mpr ⟨by omega,by simpa using hp⟩
 exact⟨q,(aget_mem hn).mpr hq⟩
theorem Smalls.none{pg:List Pg}{ls:List (Int×Ent)}(h:Smalls pg ls){p:Nat}(hp:∀c l,pg[p]? ≠some (.small c l)):aget (p:Int) ls=none:=by
 rw[aget_none]
 rintro⟨q,c,l⟩ hm
 have:=((h p c l).mp ⟨q,hm⟩).2
 exact hp c l (by simpa using this)
theorem Larges.get{pg:List Pg}{ll:List (Int×Nat)}(h:Larges pg ll)(hn:(ll.map (·.1)).Nodup){p k:Nat}(hp:pg[p]? =some (.head k)):aget (p:Int) ll=some k:=
 (aget_mem hn).mpr ((h p k).mpr ⟨by omega,by simpa using hp⟩)
theorem Smalls.set{pg:List Pg}{ls:List (Int×Ent)}(h:Smalls pg ls)(hn:(ls.map (·.1)).Nodup){p c q:Nat}{l:List Bool}(hp:p<pg.length):Smalls (pg.set p (.small c l)) (aset (p:Int) (q,c,l) ls):=by
 intro i c' l'
 by_cases hi:i=p
 ·subst hi
  simp only[Int.toNat_natCast,List.getElem?_set,hp]
  constructor
  ·rintro⟨q',hq⟩
   rw[aset_mem hn]at hq
   rcases hq with ⟨_,hq⟩|⟨hq,_⟩
   ·injection hq with h1 h2;injection h2 with h2 h3
    exact⟨by omega,by simp[h2,h3]⟩
   ·exact absurd rfl hq
  ·rintro⟨_,hq⟩
   simp at hq
   exact⟨q,(aset_mem hn).mpr (.inl ⟨rfl,by rw[hq.1,hq.2]⟩)⟩
 ·have:(∃q',(i,q',c',l')∈aset (p:Int) (q,c,l) ls)↔∃q',(i,q',c',l')∈ls:=by
   constructor
   ·rintro⟨q',hq⟩
    rw[aset_mem hn]at hq
    rcases hq with ⟨hq,_⟩|⟨_,hq⟩
    ·exact absurd hq hi
    ·exact⟨q',hq⟩
   ·rintro⟨q',hq⟩
    exact⟨q',(aset_mem hn).mpr (.inr ⟨hi,hq⟩)⟩
  rw[this,h i c' l']
  constructor
  ·rintro⟨h0,h1⟩
   exact⟨h0,by rw[List.getElem?_set_ne (by omega)];exact h1⟩
  ·rintro⟨h0,h1⟩
   exact⟨h0,by rw[List.getElem?_set_ne (by omega)]at h1;exact h1⟩
theorem Smalls.del{pg:List Pg}{ls:List (Int×Ent)}(h:Smalls pg ls)(hn:(ls.map (·.1)).Nodup){p:Nat}{x:Pg}(hx:∀c l,x≠.small c l):Smalls (pg.set p x) (adel (p:Int) ls):=by
 intro i c' l'
 have:(∃q',(i,q',c',l')∈adel (p:Int) ls)↔i≠p∧∃q',(i,q',c',l')∈ls:=by
  constructor
  ·rintro⟨q',hq⟩;rw[adel_mem hn]at hq;exact⟨hq.1,q',hq.2⟩
  ·rintro⟨h1,q',hq⟩;exact⟨q',(adel_mem hn).mpr ⟨h1,hq⟩⟩
 rw[this,h i c' l']
 by_cases hi:i=p
 ·subst hi
  simp only[ne_eq,not_true_eq_false,false_and,false_iff,Int.toNat_natCast,List.getElem?_set]
  rintro⟨_,h1⟩
  simp at h1
  exact hx _ _ h1.2
 ·constructor
  ·rintro⟨_,h0,h1⟩;exact⟨h0,by rw[List.getElem?_set_ne (by omega)];exact h1⟩
  ·rintro⟨h0,h1⟩;exact⟨hi,h0,by rw[List.getElem?_set_ne (by omega)]at h1;exact h1⟩
theorem Smalls.same{pg pg':List Pg}{ls:List (Int×Ent)}(h:Smalls pg ls)(e:∀(j:Nat) c l,pg[j]? =some (.small c l)↔pg'[j]? =some (.small c l)):Smalls pg' ls:=fun i c l=>by rw[h i c l,e]
theorem Larges.same{pg pg':List Pg}{ll:List (Int×Nat)}(h:Larges pg ll)(e:∀(j:Nat) k,pg[j]? =some (.head k)↔pg'[j]? =some (.head k)):Larges pg' ll:=fun i k=>by rw[h i k,e]
theorem Larges.set{pg pg':List Pg}{ll:List (Int×Nat)}(h:Larges pg ll)(hn:(ll.map (·.1)).Nodup){p k:Nat}(hp:pg'[p]? =some (.head k))(e:∀(j:Nat) k',j≠p→(pg[j]? =some (.head k')↔pg'[j]? =some (.head k'))):Larges pg' (aset (p:Int) k ll):=by
 intro i k'
 rw[aset_mem hn,h i k']
 by_cases hi:i=p
 ·subst hi
  rw[Int.toNat_natCast,hp]
  constructor
  ·rintro(⟨_,rfl⟩|⟨h1,_⟩)
   ·exact⟨by omega,rfl⟩
   ·exact absurd rfl h1
  ·rintro⟨_,h1⟩
   injection h1 with h1;injection h1 with h1
   exact .inl ⟨rfl,h1.symm⟩
 ·constructor
  ·rintro(⟨h1,_⟩|⟨_,h1,h2⟩)
   ·exact absurd h1 hi
   ·exact⟨h1,(e _ _ (by omega)).mp h2⟩
  ·rintro⟨h1,h2⟩
   exact .inr ⟨hi,h1,(e _ _ (by omega)).mpr h2⟩
theorem Larges.del{pg pg':List Pg}{ll:List (Int×Nat)}(h:Larges pg ll)(hn:(ll.map (·.1)).Nodup){p:Nat}(hp:∀k,pg'[p]? ≠some (.head k))(e:∀(j:Nat) k',j≠p→(pg[j]? =some (.head k')↔pg'[j]? =some (.head k'))):Larges pg' (adel (p:Int) ll):=by
 intro i k'
 rw[adel_mem hn,h i k']
 by_cases hi:i=p
 ·subst hi
  rw[Int.toNat_natCast]
  constructor
  ·rintro⟨h1,_⟩;exact absurd rfl h1
  ·rintro⟨_,h1⟩;exact absurd h1 (hp _)
 ·constructor
  ·rintro⟨_,h1,h2⟩;exact⟨h1,(e _ _ (by omega)).mp h2⟩
  ·rintro⟨h1,h2⟩;exact⟨hi,h1,(e _ _ (by omega)).mpr h2⟩
end Go.Proofs.YtfepdmpplahloaaGreat
namespace Go.Gl
open Go
variable{ρ0 ρ:FR}{L L':List Asn}{Post:Value→List Asn→Prop}
theorem Sat.later{L:List Asn}{w w':World}(h:∀(c:Nat) (o:Obj),w.heap[c]? =some o→w'.heap[c]? =some o)(hs:Sm w w')(H:Sat ρ L w):Sat ρ L w':=by
 obtain⟨⟨h0,hl,hh⟩,h3⟩:=H
 exact⟨⟨h0,hl,fun b o hb=>⟨h b o (hh b o hb).1,(hh b o hb).2⟩⟩,⟨fun b o hb=>h b o (h3 b o hb),h3.same.trans hs⟩⟩
theorem Sat.below{L:List Asn}{w w':World}(hb:RowKit.Below w.heap.size w w')(H:Sat ρ L w):Sat ρ L w':=
 Sat.later (fun c o h=>by
  have:c<w.heap.size:=by
   rcases Nat.lt_or_ge c w.heap.size with g|g
   ·exact g
   ·rw[Array.getElem?_eq_none g]at h;cases h
  rw[hb.block c this];exact h) ⟨hb.os,hb.tape,hb.output⟩ H
theorem Sat.fresh{L:List Asn}{w w':World}{g:Nat}{o:Obj}(hb:RowKit.Below w.heap.size w w')(hg:w.heap.size≤g)(ho:w'.heap[g]? =some o)(H:Sat ρ L w):Sat ρ (Gl.pt g o::L) w':=by
 have lt:∀b u,w.heap[b]? =some u→b<w.heap.size:=fun b u hb=>by
  rcases Nat.lt_or_ge b w.heap.size with h|h
  ·exact h
  ·rw[Array.getElem?_eq_none h]at hb;cases hb
 obtain⟨⟨h0,hl,hh⟩,h3⟩:=H
 refine⟨⟨fun c=>((fun c=>if c=g then some o else none) c).or (h0 c),⟨_,h0,fun c=> ?_,rfl,rfl,hl⟩,fun c u hu=> ?_⟩,⟨fun c u hu=> ?_,h3.same.trans ⟨hb.os,hb.tape,hb.output⟩⟩⟩
 ·by_cases hc:c=g
  ·subst hc;right
   cases hx:h0 c with
   |none=>rfl
   |some u=>have:=lt _ _ (hh _ _ hx).1;omega
  ·left;simp[hc]
 ·by_cases hc:c=g
  ·subst hc;simp at hu;subst hu
   refine⟨ho,?_⟩
   cases hx:ρ c with
   |none=>rfl
   |some u=>have:=lt _ _ (h3 _ _ hx);omega
  ·simp[hc]at hu
   have:=hh c u hu
   exact⟨by rw[hb.block c (lt _ _ this.1)];exact this.1,this.2⟩
 ·have:=h3 c u hu
  rw[hb.block c (lt _ _ this)];exact this
end Go.Gl
namespace Go.Proofs.YtfepdmpplahloaaGreat
open Go Go.Gl
variable{ρ:FR}
def Sp.sort(xs:List Int):List Int:=xs.mergeSort fun x y=>decide (x≤y)
theorem Sp.sort_len{xs:List Int}:(Sp.sort xs).length=xs.length:=by simp[Sp.sort]
theorem Sp.sort_perm{xs ys:List Int}(h:xs.Perm ys):Sp.sort xs=Sp.sort ys:=mergeSort_of_perm_i h
theorem Sp.sort_id{xs:List Int}(h:xs.Pairwise (·≤·)):Sp.sort xs=xs:=List.mergeSort_of_pairwise (by simpa using h)
theorem sort_ints(s:Slc)(xs:List Int)(hl:xs.length<2^40):Gl.Spec ρ Tryz.prog 102 [.slice s.a s.n s.c] [SLc s 1 (xs.map i64)] (.many [])
  fun _ M=>M=[SLc s 1 ((Sp.sort xs).map i64)]:=by
 intro R w hw
 rcases hw.sl with ⟨g1,g2,g3,g4,g5⟩|⟨b,off,pre,rest,g1,g2,g3,g4,g5,g6⟩
 ·have hx:xs=[]:=by simpa using g4
  subst hx
  rw[g1,g2,g3]
  refine(AnyM.slices_Sort_int_none Tryz.glSort none 0 w).mono ?_
  rintro e w' ⟨rfl,rfl⟩
  exact⟨(),_,rfl,rfl,by rw[show Sp.sort []=[]from by simp[Sp.sort]];exact hw⟩
 ·have hn:s.n=xs.length:=by simpa using g3.symm
  obtain⟨t,hb⟩:=g6.cl
  have hlt:b<w.heap.size:=(Array.getElem?_eq_some_iff.1 hb).1
  have hget:∀j,j<xs.length→(pre++(xs.map i64++rest))[off+j]? =(xs.map i64)[j]? :=fun j hj=>by rw[←g2];exact mid_get (by simpa using hj)
  have hH:Sort.Holds (Value.int .i64) w b off xs.toArray:=by
   intro j hj
   simp only[List.size_toArray]at hj
   refine⟨?_,by simp[World.frozen?,hb]⟩
   have e:(xs.toArray)[j]! =xs[j]:=by simp[hj]
   rw[e]
   refine cell_of hb ?_
   rw[List.getElem?_toArray,hget j hj];simp[hj]
  rw[g1,hn]
  refine(AnyM.slices_Sort_int Tryz.glSort b off s.c xs w hH hlt (by omega)).mono ?_
  rintro e w' ⟨rfl,n,os,rfl⟩
  refine⟨(),_,rfl,rfl,?_⟩
  have hcells:(Sort.putCells (Value.int .i64) off (Sp.sort xs).toArray (pre++(xs.map i64++rest)).toArray)=(pre++((Sp.sort xs).map i64++rest)).toArray:=by
   apply Array.ext_getElem?
   intro k
   simp only[Sort.putCells,Array.getElem?_mapIdx,List.getElem?_toArray,List.size_toArray]
   rcases Nat.lt_or_ge k off with c|c
   ·rw[List.getElem?_append_left (by omega),List.getElem?_append_left (by omega)]
    have:¬(off≤k∧k<off+(Sp.sort xs).length):=by omega
    simp[this]
   ·obtain⟨j,rfl⟩:∃j,k=off+j:=⟨k-off,by omega⟩
    rcases Nat.lt_or_ge j xs.length with c2|c2
    ·have h1:=hget j c2
     have h2:(pre++((Sp.sort xs).map i64++rest))[off+j]? =((Sp.sort xs).map i64)[j]? :=by rw[←g2];exact mid_get (by simpa[Sp.sort_len]using c2)
     rw[h1,h2]
     have h3:j<(Sp.sort xs).length:=by rw[Sp.sort_len];exact c2
     have:off≤off+j∧off+j<off+(Sp.sort xs).length:=by omega
     simp[c2,this,h3]
    ·have:¬(off≤off+j∧off+j<off+(Sp.sort xs).length):=by rw[Sp.sort_len];omega
     have h1:(pre++(xs.map i64++rest))[off+j]? =rest[j-xs.length]? :=by
      rw[←List.append_assoc,List.getElem?_append_right (by rw[List.length_append,List.length_map];omega)]
      congr 1;rw[List.length_append,List.length_map];omega
     have h2:(pre++((Sp.sort xs).map i64++rest))[off+j]? =rest[j-xs.length]? :=by
      rw[←List.append_assoc,List.getElem?_append_right (by rw[List.length_append,List.length_map,Sp.sort_len];omega)]
      congr 1;rw[List.length_append,List.length_map,Sp.sort_len];omega
     rw[h1,h2]
     have hj:¬j<xs.length:=by omega
     simp[hj,Sp.sort_len]
  have hset:Sat ρ (blk b (pre++((Sp.sort xs).map i64++rest))::R) (Sort.putRow (Value.int .i64) (Sort.ahead w n) b off (Sp.sort xs).toArray):=by
   obtain⟨⟨h,⟨h1,h2,hd,rfl,⟨t',ha⟩,hl⟩,hh⟩,h3⟩:=g6
   have ht:t'=t:=by
    have:=(hh b _ (by rw[ha];simp;rfl)).1
    rw[hb]at this;injection this with h;injection h with _ h;exact h.symm
   subst ht
   refine Sat.imp (fun _ h=>⟨t',h⟩) (Sat.set (o:= .cells (pre++(xs.map i64++rest)).toArray t' (0,0)) (w:=w) ⟨⟨_,⟨h1,h2,hd,rfl,ha,hl⟩,hh⟩,h3⟩ fun c=> ?_)
   show((Sort.ahead w n).heap.modify b (Sort.onCells _))[c]? =_
   rw[Array.getElem?_modify]
   by_cases hc:b=c
   ·subst hc
    simp only[if_true,Sort.ahead,hb,Option.map_some,Sort.onCells,hcells]
   ·simp only[hc,if_false,if_neg (Ne.symm hc),Sort.ahead]
  have hfin:Sat ρ (blk b (pre++((Sp.sort xs).map i64++rest))::R) (Sort.grow (Sort.putRow (Value.int .i64) (Sort.ahead w n) b off (Sp.sort xs).toArray) os):=by
   refine Sat.later (w:=Sort.putRow (Value.int .i64) (Sort.ahead w n) b off (Sp.sort xs).toArray) (fun c o h=> ?_) ⟨rfl,rfl,rfl⟩ hset
   show((Sort.putRow (Value.int .i64) (Sort.ahead w n) b off (Sp.sort xs).toArray).heap++os)[c]? =some o
   rw[Array.getElem?_append_left (Array.getElem?_eq_some_iff.1 h).1]
   exact h
  exact Sat.imp (fun h hh=> .inr ⟨b,off,pre,rest,g1,g2,by rw[List.length_map,Sp.sort_len];simpa using g3,g4,g5,hh⟩) hfin
theorem sortsIn(m:Nat):AnyZI.SortsIn Tryz.prog Tryz.glSorted_ren Fence.wide m:=
 ⟨fun blk off cap ss W hH hblk hsz=>callsIn_wide.2 (AnyM.slices_Sort_int Tryz.glSort blk off cap ss W hH hblk hsz),
  fun p cap W=>callsIn_wide.2 (AnyM.slices_Sort_int_none Tryz.glSort p cap W)⟩
abbrev keysFn:FuncId:=234
theorem maps_keys(b:Nat):Gl.Spec ρ Tryz.prog 230 [.map (some b)] [] (.one (.l .any))
  fun r M=>∃B,r= .func (.func keysFn) #[] #[.pointer (some ⟨B,0,none⟩)]∧M=[blk B [.map (some b)]]:=by
 intro R w hw
 refine(callsIn_wide.1 (AnyZI.keys_in Tryz.glKeys230 Fence.wide 5 trivial rfl (some b) w)).mono ?_
 rintro e w' ⟨rfl,rfl⟩
 refine⟨.func (.func keysFn) #[] #[.pointer (some ⟨w.heap.size,0,none⟩)],_,rfl,⟨w.heap.size,rfl,rfl⟩,?_⟩
 exact Sat.newCl (cs:=[.map (some b)]) hw
theorem maps_sorted{α:Type}(b B:Nat)(f:α→Value)(l:List (Int×α))(hk:∀x∈l,0≤x.1∧x.1<2^40)(hl:l.length≤2^20):Gl.Spec ρ Tryz.prog 229 [.func (.func keysFn) #[] #[.pointer (some ⟨B,0,none⟩)]] [blk B [.map (some b)],IM b f l] (.one (.l .slice))
  fun r M=>r.n=l.length∧M=[SLc r 1 ((Sp.sort (l.map (·.1))).map i64),IM b f l]:=by
 intro R w hw
 obtain⟨tB,hB⟩:=hw.cl
 have hBlt:B<w.heap.size:=(Array.getElem?_eq_some_iff.1 hB).1
 have hw2:Sat ρ (IM b f l::R) w:=hw.drop
 obtain⟨es,clock,he,hs⟩:=hw2.im
 have hb:=hs.pt
 let Rr:Value→Option (DataW Unit×List MemPlace):=fun _=>some (.nil,[])
 have hlen:es.length=l.length:=by have:=congrArg List.length he.kv;simpa using this
 have hkt:Tryz.prog.underlying 3=some (.int .i64):=by kernel_rfl
 have hrd:∀x∈es,∃y∈l,x.key= .int .i64 y.1:=fun x hx=>by
  have:(x.key,x.val)∈es.map fun e=>(e.key,e.val):=List.mem_map_of_mem (f:=fun e:MapEntry=>(e.key,e.val)) hx
  rw[he.kv,List.mem_map]at this
  obtain⟨y,hy,e⟩:=this
  injection e with e1 e2
  exact⟨y,hy,e1.symm⟩
 have hwf:∀y∈l,(Lit.int .i64 y.1).wf=true:=fun y hy=>by
  have:=hk y hy
  simp[Lit.wf,IntKind.min,IntKind.max,IntKind.signed,IntKind.bits]
  omega
 have hrdx:∀x∈es,∀y:Int×α,y∈l→x.key= .int .i64 y.1→WideElems.rd Tryz.prog 3 Rr x=some (.int .i64 y.1,.nil):=fun x hx y hy hxy=>by
  unfold WideElems.rd
  rw[hxy,Maps.keyOf_int_mk hkt (hwf y hy)];rfl
 have hown:w.ownsMap Tryz.prog 3 Rr b es.length (.map ((es.map (WideElems.rg Tryz.prog 3 Rr)).foldr DataW.insert [])):=by
  refine⟨es.toArray,clock,hb,⟨by show es.length≤2^63-1;omega,⟨by simpa using he.old,by simpa using he.nod,?_⟩,?_⟩,by simp,by simp⟩
  ·have e1:es.map (·.key)=l.map fun x=>Value.int .i64 x.1:=by
    have:=congrArg (List.map Prod.fst) he.kv
    simpa[Function.comp_def]using this
   have e2:l.map (fun x=>Value.int .i64 x.1)=(l.map (·.1)).map (Value.int .i64):=by simp
   simp only[List.toList_toArray]
   rw[e1,e2]
   exact List.Pairwise.map (S:=(·≠·)) _ (fun a b hne h=>hne (by injection h)) he.keys
  ·intro x hx
   simp only[List.toList_toArray]at hx
   obtain⟨y,hy,hxy⟩:=hrd x hx
   exact⟨_,hrdx x hx y hy hxy⟩
 have hperm:(intKeys (.map ((es.map (WideElems.rg Tryz.prog 3 Rr)).foldr DataW.insert []):DataW Unit)).Perm (l.map (·.1)):=by
  have h1:(intKeys (.map ((es.map (WideElems.rg Tryz.prog 3 Rr)).foldr DataW.insert []):DataW Unit)).Perm ((es.map (WideElems.rg Tryz.prog 3 Rr)).map fun p=>Go.intOf p.1):=(WideShapes.sorted_perm _).map _
  have h2:(es.map (WideElems.rg Tryz.prog 3 Rr)).map (fun p=>Go.intOf p.1)=l.map (·.1):=by
   have h3:(es.map (WideElems.rg Tryz.prog 3 Rr)).map (fun p=>Go.intOf p.1)=(es.map fun e=>(e.key,e.val)).map (fun p=>RowKit.intOf p.1):=by
    simp only[List.map_map]
    apply List.map_congr_left
    intro x hx
    obtain⟨y,hy,hxy⟩:=hrd x hx
    simp only[Function.comp,WideElems.rg,hrdx x hx y hy hxy,hxy]
    rfl
   rw[h3,he.kv]
   simp[RowKit.intOf]
  rw[h2]at h1;exact h1
 have hsize:Maps.size (.map ((es.map (WideElems.rg Tryz.prog 3 Rr)).foldr DataW.insert []):DataW Unit)=l.length:=by
  have:=hperm.length_eq
  simp only[intKeys,List.length_map]at this
  exact this
 have hseq:SeqGives Fence.wide 2 Tryz.prog keysFn #[.pointer (some ⟨B,0,none⟩)] encZ (fun ss=>ss.Perm (intKeys (.map ((es.map (WideElems.rg Tryz.prog 3 Rr)).foldr DataW.insert []):DataW Unit))) (Maps.size (.map ((es.map (WideElems.rg Tryz.prog 3 Rr)).foldr DataW.insert []):DataW Unit)) w:=
  AnyZI.keys_gives (ρ:=Tryz.glKeys230_ren) {Tryz.glKeys230 with} Fence.wide _ trivial rfl (by omega) B b es.length _ w hBlt (cell_of hB rfl) hown
 have cS:=AnyZI.sorted_in Tryz.glSorted Fence.wide 5 trivial trivial trivial trivial rfl (by omega) (sortsIn _) (enters_of Tryz.func102 (by kernel_rfl) rfl) keysFn #[.pointer (some ⟨B,0,none⟩)] trivial (enters_of Tryz.func234 (by kernel_rfl) rfl) _ _ (by rw[hsize];show l.length≤2^63-1;omega) (by rw[hsize];omega) w hseq
 refine(callsIn_wide.1 cS).mono ?_
 rintro e w' ⟨v,ss,rfl,hS,hrow,hnil,hbl⟩
 have hp:ss.Perm (l.map (·.1)):=hS.trans hperm
 have hsort:ss.mergeSort (fun x y=>decide (x≤y))=Sp.sort (l.map (·.1)):=Sp.sort_perm hp
 have hssl:ss.length=l.length:=by have:=hp.length_eq;simpa using this
 rw[hsort]at hrow
 rcases hrow.2 with ⟨rfl,hz⟩|⟨g,cap,cur,rfl,hg,hgb,r1,r2,r3,r4⟩
 ·refine⟨(⟨none,0,0⟩:Slc),_,rfl,⟨by rw[←hssl,hz],rfl⟩,?_⟩
  have hl0:l=[]:=List.eq_nil_of_length_eq_zero (by omega)
  subst hl0
  have:=Sat.below hbl hw2
  obtain⟨⟨h0,hl',hh⟩,h3⟩:=this
  have e0:Sp.sort (([]:List (Int×α)).map (·.1))=[]:=by simp[Sp.sort]
  rw[e0]
  exact⟨⟨h0,⟨fun _=>none,h0,fun _=> .inl rfl,by funext b;simp,SLc.nil 1 _ (fun _=>rfl),hl'⟩,hh⟩,h3⟩
 ·replace hgb:w'.heap[g]? =some (.cells cur 3 (0,0)):=hgb
  refine⟨(⟨some ⟨g,0,none⟩,ss.length,cap⟩:Slc),_,rfl,⟨hssl,rfl⟩,?_⟩
  refine Sat.imp (A:=Gl.pt g (.cells cur 3 (0,0))) (fun h hh=> .inr ⟨g,0,[],cur.toList.drop ss.length,rfl,rfl,?_,?_,r1,?_⟩) (Sat.fresh hbl hg hgb hw2)
  ·simp[Sp.sort_len,hssl]
  ·simp[r3]
  ·rw[Nat.mul_one]at r4
   refine⟨3,?_⟩
   have:([]:List Value)++((Sp.sort (l.map (·.1))).map i64++cur.toList.drop ss.length)=cur.toList:=by
    rw[List.nil_append,←r4,List.take_append_drop]
   rw[this]
   simpa using hh
end Go.Proofs.YtfepdmpplahloaaGreat
namespace Go.Proofs.YtfepdmpplahloaaGreat
open Go Go.Gl
variable{ρ0 ρ:FR}{L L':List Asn}{Post:Value→List Asn→Prop}{T:Tree}
def PgA(x:Int×Ent):Asn:=PageA x.2.1 x.2.2.2 (Sp.sz x.2.2.1)
theorem pg_close{l1 l2:List (Int×Ent)}(i:Int){q c:Nat}{l:List Bool}(h:HP)(H:star [PageA q l (Sp.sz c),star ((l1++l2).map PgA)] h):star ((l1++(i,q,c,l)::l2).map PgA) h:=
 star_mid' (P:=PgA) (x:=(i,q,c,l)) h H
structure SpI where
 pa:Nat
 pp:Nat
 ms:Nat
 ml:Nat
 ls:List (Int×Ent)
 ll:List (Int×Nat)
def SpaceA(p:Nat)(S:Spc):Asn:=fun h=>∃i:SpI,(Smalls S.pg i.ls∧Larges S.pg i.ll)∧
 star [blk p [.pointer (some ⟨i.pa,0,none⟩),.pointer (some ⟨i.pp,0,none⟩),.map (some i.ms),.map (some i.ml)],ArenaA i.pa S.ws,PagesA i.pp (S.pg.map Pg.taken),IM i.ms fS i.ls,IM i.ml fL i.ll,star (i.ls.map PgA)] h
theorem SpaceA.op{p:Nat}{S:Spc}(t:Take L (SpaceA p S) L') (h:∀(pa pp ms ml:Nat) (ls:List (Int×Ent)) (ll:List (Int×Nat)),Smalls S.pg ls→Larges S.pg ll→(ls.map (·.1)).Nodup→(ll.map (·.1)).Nodup→
  Tr ρ0 ρ (blk p [.pointer (some ⟨pa,0,none⟩),.pointer (some ⟨pp,0,none⟩),.map (some ms),.map (some ml)]::ArenaA pa S.ws::PagesA pp (S.pg.map Pg.taken)::IM ms fS ls::IM ml fL ll::star (ls.map PgA)::L') T Post):Tr ρ0 ρ L T Post:=
 Tr.openL (M:=fun i:SpI=>[blk p [.pointer (some ⟨i.pa,0,none⟩),.pointer (some ⟨i.pp,0,none⟩),.map (some i.ms),.map (some i.ml)],ArenaA i.pa S.ws,PagesA i.pp (S.pg.map Pg.taken),IM i.ms fS i.ls,IM i.ml fL i.ll,star (i.ls.map PgA)]) t (fun _ h=>h)
  fun i hi=>Tr.keys (b:=i.ms) (f:=fS) (l:=i.ls) tk fun n1=>Tr.keys (b:=i.ml) (f:=fL) (l:=i.ll) tk fun n2=>h i.pa i.pp i.ms i.ml i.ls i.ll hi.1 hi.2 n1 n2
theorem SpaceA.cl{p pa pp ms ml:Nat}{S:Spc}{ls:List (Int×Ent)}{ll:List (Int×Nat)}(h1:Smalls S.pg ls)(h2:Larges S.pg ll)(h:HP)
  (H:star [blk p [.pointer (some ⟨pa,0,none⟩),.pointer (some ⟨pp,0,none⟩),.map (some ms),.map (some ml)],ArenaA pa S.ws,PagesA pp (S.pg.map Pg.taken),IM ms fS ls,IM ml fL ll,star (ls.map PgA)] h):SpaceA p S h:=⟨⟨pa,pp,ms,ml,ls,ll⟩,⟨h1,h2⟩,H⟩
abbrev tMS:TypeId:=162
abbrev tML:TypeId:=163
theorem uMS:Tryz.prog.underlying tMS=some (.map 3 166):=by kernel_rfl
theorem uML:Tryz.prog.underlying tML=some (.map 3 3):=by kernel_rfl
theorem uI:Tryz.prog.underlying 3=some (.int .i64):=by kernel_rfl
theorem zPg:(Tryz.prog.info? 166).bind (·.zero)=some (LK.ptr.val none):=by kernel_rfl
theorem zI:(Tryz.prog.info? 3).bind (·.zero)=some ((LK.int .i64).val (0:Int)):=by kernel_rfl
def gS(x:Ent):LT .ptr:=some ⟨x.1,0,none⟩
def gL(k:Nat):LT (.int .i64):=(k:Int)
theorem hgS(x:Ent):fS x=LK.ptr.val (gS x):=rfl
theorem hgL(k:Nat):fL k=(LK.int .i64).val (gL k):=rfl
def Sp.newSpc(n:Nat):Spc:=⟨List.replicate (n*64) 0,.res::List.replicate (n-1) .free⟩
theorem Sp.newSpc_wf{n:Nat}(h0:1≤n)(h1:n≤256):Wf (Sp.newSpc n):=by
 have hg:∀i:Nat,(Sp.newSpc n).pg[i]? =if i=0 then some .res else if i<n then some .free else none:=by
  intro i
  unfold Sp.newSpc
  cases i with
  |zero=>rfl
  |succ i=>
   simp only[List.getElem?_cons_succ,List.getElem?_replicate]
   by_cases hi:i<n-1
   ·rw[if_pos hi,if_neg (by omega),if_pos (by omega)]
   ·rw[if_neg hi,if_neg (by omega),if_neg (by omega)]
 refine⟨by simp[Sp.newSpc];omega,by simp[Sp.newSpc];omega,by simp[Sp.newSpc],?_,?_,?_,?_⟩
 ·intro i;rw[hg];split
  ·simp[*]
  ·split<;>simp[*]
 ·intro i c l h;rw[hg]at h;split at h
  ·cases h
  ·split at h<;>cases h
 ·intro i k h;rw[hg]at h;split at h
  ·cases h
  ·split at h<;>cases h
 ·intro i h;rw[hg]at h;split at h
  ·cases h
  ·split at h<;>cases h
theorem space_new(n:Int)(h0:1≤n)(h1:n≤256):Gl.Spec ρ Tryz.prog 71 [i64 n] [] PE
  fun r M=>∃b,r=(some ⟨b,0,none⟩,0,())∧M=[SpaceA b (Sp.newSpc n.toNat)]:=by
 refine Spec.of (fun Q w h=>F.space.New.calls n h) fun R=> ?_
 unfold F.space.New
 try simp only[lca,lna]
 refine en_call (arena_new n h0 h1) tks ?_
 rintro x M ⟨pa,rfl,rfl⟩
 try simp only[lca,lna]
 refine en_brf rfl ?_
 refine en_call (pages_new n h0 h1) tks ?_
 rintro x M ⟨pp,rfl,rfl⟩
 try simp only[lca,lna]
 refine en_brf rfl (en_nwIM fS fun ms=>en_nwIM fL fun ml=>en_nw fun b=> ?_)
 have e:true::List.replicate (n.toNat-1) false=(Sp.newSpc n.toNat).pg.map Pg.taken:=by simp[Sp.newSpc,Pg.taken]
 rw[e]
 refine Tr.none ?_
 have hw:=Sp.newSpc_wf (n:=n.toNat) (by omega) (by omega)
 refine Tr.close (M:=[blk b [.pointer (some ⟨pa,0,none⟩),.pointer (some ⟨pp,0,none⟩),.map (some ms),.map (some ml)],ArenaA pa (Sp.newSpc n.toNat).ws,PagesA pp ((Sp.newSpc n.toNat).pg.map Pg.taken),IM ms fS [],IM ml fL [],star (([]:List (Int×Ent)).map PgA)]) tks (SpaceA.cl (S:=Sp.newSpc n.toNat) (p:=b) ?_ ?_) ?_
 ·intro i c l
  simp only[List.not_mem_nil,exists_false,false_iff,not_and]
  intro _ h
  unfold Sp.newSpc at h
  cases hi:i.toNat with
  |zero=>rw[hi]at h;cases h
  |succ j=>rw[hi]at h;simp[List.getElem?_replicate]at h
 ·intro i k
  simp only[List.not_mem_nil,false_iff,not_and]
  intro _ h
  unfold Sp.newSpc at h
  cases hi:i.toNat with
  |zero=>rw[hi]at h;cases h
  |succ j=>rw[hi]at h;simp[List.getElem?_replicate]at h
 exact en_rets (x:=(some ⟨b,0,none⟩,0,())) rfl ⟨b,rfl,rfl⟩ tks ens
theorem tdiv64(n:Nat):Int.tdiv (n:Int) 64=((n/64:Nat):Int):=rfl
theorem tmod64(n:Nat):Int.tmod (n:Int) 64=((n%64:Nat):Int):=rfl
theorem tdivN(n k:Nat):Int.tdiv (n:Int) (k:Int)=((n/k:Nat):Int):=rfl
abbrev P3:RK:= .many [.l (.int .i64),.l (.int .i64),.l .bool]
def Sp.found:Option (Nat×Nat)→RT P3
 |some (s,w)=>((s:Int),(w:Int),true,())|none=>((0:Int),(0:Int),false,())
theorem space_find(p:Nat)(S:Spc)(hw:Wf S)(a:Int):Gl.Spec ρ Tryz.prog 67 [.pointer (some ⟨p,0,none⟩),i64 a] [SpaceA p S] P3
  fun r M=>r=Sp.found (Sp.find S a)∧M=[SpaceA p S]:=by
 have hlen:=hw.len
 have hmost:=hw.most
 refine Spec.of (fun Q w h=>F.space.Space.Find.calls (some ⟨p,0,none⟩) a h) fun R=> ?_
 unfold F.space.Space.Find
 try simp only[lca,lna]
 refine en_brf rfl (en_br (fun h=> ?_) (fun h=> ?_))
 ·replace h:=of_decide_eq_true h
  rw[Sp.find_out (by omega)]
  exact en_rets (x:=Sp.found none) rfl ⟨rfl,rfl⟩ tks ens
 ·replace h:=of_decide_eq_false h
  obtain⟨n,rfl⟩:∃n:Nat,a=n:=⟨a.toNat,by omega⟩
  refine en_nn (SpaceA.op tk fun pa pp ms ml ls ll hS hL nS nL=> ?_)
  refine en_ld (k:= .ptr) (x:=some ⟨pa,0,none⟩) (by rw[fa_mk]) tk rfl ?_
  refine en_call (arena_len pa S.ws) tks ?_
  rintro x M ⟨rfl,rfl⟩
  try simp only[lca,lna]
  refine en_br (fun h2=> ?_) (fun h2=> ?_)
  ·replace h2:=of_decide_eq_true h2
   rw[Sp.find_out (by omega)]
   refine Tr.close tks (SpaceA.cl (p:=p) (pa:=pa) (pp:=pp) (ms:=ms) (ml:=ml) hS hL) ?_
   exact en_rets (x:=Sp.found none) rfl ⟨rfl,rfl⟩ tks ens
  ·replace h2:=of_decide_eq_false h2
   have hn:n<S.ws.length:=by omega
   have hp:n/64<S.pg.length:=by omega
   refine en_need (by decide) (en_nn ?_)
   refine en_ld (k:= .map) (x:=some ms) (by rw[fa_mk]) tk rfl ?_
   rw[tdiv64,wrap64 (n:=((n/64:Nat):Int)) (by omega) (by omega)]
   refine en_lkp2 (kd:= .ptr) (g:=gS) (z0:=none) uMS uI zPg hgS tk ?_
   by_cases hsm:∃c l,S.pg[n/64]? =some (.small c l)
   ·obtain⟨c,l,hsm⟩:=hsm
    obtain⟨hc,hll⟩:=hw.small _ _ _ hsm
    obtain⟨q,hq⟩:=hS.get nS hsm
    rw[hq,Sp.find_small hn hsm]
    obtain⟨l1,l2,rfl,_,_⟩:=aget_split hq
    refine en_brt rfl (en_need (by decide) ?_)
    refine Tr.mid (P:=PgA) tk ?_
    refine en_call (block_words q l (Sp.sz c)) (Takes.cons .here .nil) ?_
    rintro x M ⟨rfl,rfl⟩
    try simp only[lca,lna]
    have hz:=Sp.sz_cases hc
    refine en_need (by omega) (en_nn ?_)
    refine PageA.op tk fun b=> ?_
    refine en_ld (k:= .ptr) (b:=q) (x:=some ⟨b,0,none⟩) (by rw[fa_mk]) tk rfl ?_
    have hm:n%64/Sp.sz c*Sp.sz c≤n%64:=Nat.div_mul_le_self _ _
    have hd2:n%64/Sp.sz c≤n%64:=Nat.div_le_self _ _
    rw[tmod64,tdivN]
    generalize n%64/Sp.sz c=d at hm hd2⊢
    rw[wrap64 (n:=(d:Int)) (by omega) (by omega)]
    refine en_call (bits_has b l (d:Int)) tks ?_
    rintro x M ⟨rfl,rfl⟩
    try simp only[lca,lna]
    refine Tr.close (M:=[blk q [.pointer (some ⟨b,0,none⟩),i64 (Sp.sz c)],BitsA b l]) tks (PageA.cl (p:=q)) ?_
    have hh:Sp.has l (d:Int)=l.getD d false:=by simp[Sp.has]
    rw[hh]
    refine en_br (fun h3=> ?_) (fun h3=> ?_)
    ·rw[if_neg (by simpa using h3)]
     refine Tr.close (M:=[PageA q l (Sp.sz c),star ((l1++l2).map PgA)]) tks (pg_close ((n/64:Nat):Int) (q:=q) (c:=c) (l:=l)) ?_
     refine Tr.close tks (SpaceA.cl (p:=p) (pa:=pa) (pp:=pp) (ms:=ms) (ml:=ml) hS hL) ?_
     exact en_rets (x:=Sp.found none) rfl ⟨rfl,rfl⟩ tks ens
    ·rw[if_pos (by simpa using h3)]
     refine en_call (block_words q l (Sp.sz c)) tks ?_
     rintro x M ⟨rfl,rfl⟩
     try simp only[lca,lna]
     refine en_call (block_words q l (Sp.sz c)) tks ?_
     rintro x M ⟨rfl,rfl⟩
     try simp only[lca,lna]
     refine Tr.close (M:=[PageA q l (Sp.sz c),star ((l1++l2).map PgA)]) tks (pg_close ((n/64:Nat):Int) (q:=q) (c:=c) (l:=l)) ?_
     refine Tr.close tks (SpaceA.cl (p:=p) (pa:=pa) (pp:=pp) (ms:=ms) (ml:=ml) hS hL) ?_
     have e1:(d:Int)*(Sp.sz c:Int)=((d*Sp.sz c:Nat):Int):=by simp
     rw[e1]
     generalize d*Sp.sz c=dd at hm⊢
     rw[wrap64 (n:=(dd:Int)) (by omega) (by omega),wrap64 (n:=((n/64:Nat):Int)*64) (by omega) (by omega),wrap64 (by omega) (by omega)]
     refine en_rets (x:=Sp.found (some (n/64*64+dd,Sp.sz c))) ?_ ⟨rfl,rfl⟩ tks ens
     simp[Sp.found,RK.val,KD.val,LK.val,kvals]
   ·have hns:∀c l,S.pg[n/64]? ≠some (.small c l):=fun c l h=>hsm ⟨c,l,h⟩
    rw[hS.none hns,Sp.find_other hn hns]
    refine en_brf rfl (en_nn ?_)
    refine en_ld (k:= .map) (x:=some ml) (by rw[fa_mk]) tk rfl ?_
    refine en_rng uML tk fun r=> ?_
    refine en_lp (fun m _ M=>∃rem cur,m=rem.length∧M=MI ml r fL ll rem cur::ArenaA pa S.ws::blk p [.pointer (some ⟨pa,0,none⟩),.pointer (some ⟨pp,0,none⟩),.map (some ms),.map (some ml)]::PagesA pp (S.pg.map Pg.taken)::IM ms fS ls::star (ls.map PgA)::R∧
      (∀x∈rem,x∈ll)∧∀x∈ll,x∈rem∨¬(x.1≤((n/64:Nat):Int)∧((n/64:Nat):Int)<x.1+(x.2:Int))) ll.length ?_ ?_
    ·exact⟨ll,none,rfl,rfl,fun x hx=>hx,fun x hx=> .inl hx⟩
    ·rintro m ⟨⟩ M ⟨rem,cur,rfl,rfl,hsub,hrem⟩ X hX
     refine en_nxt (kv:= .int .i64) (g:=gL) hgL .here (fun h0=> ?_) (fun k v r1 r2 hr=> ?_)
     ·subst h0
      have hno:Sp.own S.pg (n/64)=none:=by
       refine Sp.own_no fun j k hj hjk=> ?_
       have:=hrem ((j:Int),k) ((hL j k).mpr ⟨by omega,by simpa using hj⟩)
       rcases this with h|h
       ·cases h
       ·exact h ⟨by dsimp only;omega,by dsimp only;omega⟩
      rw[hno]
      refine MI.over .here ?_
      refine Tr.close tks (SpaceA.cl (p:=p) (pa:=pa) (pp:=pp) (ms:=ms) (ml:=ml) hS hL) ?_
      exact en_rets (x:=Sp.found none) rfl ⟨rfl,rfl⟩ tks ens
     ·refine en_ent (kv:= .int .i64) (g:=gL) hgL .here ?_
      have hkv:(k,v)∈ll:=hsub _ (by rw[hr];simp)
      obtain⟨hk0,hkp⟩:=(hL k v).mp hkv
      obtain⟨j,rfl⟩:∃j:Nat,k=j:=⟨k.toNat,by omega⟩
      rw[Int.toNat_natCast]at hkp
      have next:¬((j:Int)≤((n/64:Nat):Int)∧((n/64:Nat):Int)<(j:Int)+(v:Int))→(∀x∈r1++r2,x∈ll)∧∀x∈ll,x∈r1++r2∨¬(x.1≤((n/64:Nat):Int)∧((n/64:Nat):Int)<x.1+(x.2:Int)):=by
       intro hno
       refine⟨fun x hx=>hsub x ?_,fun x hx=> ?_⟩
       ·rw[hr];simp at hx⊢;rcases hx with h|h<;>simp[h]
       ·rcases hrem x hx with h|h
        ·rw[hr]at h;simp at h
         rcases h with h|h|h
         ·exact .inl (by simp[h])
         ·right;rw[h];exact hno
         ·exact .inl (by simp[h])
        ·exact .inr h
      obtain⟨v1,v2,v3,_⟩:=hw.head _ _ hkp
      have w1:IntKind.wrap .i64 ((j:Int)+gL v)=(j:Int)+(v:Int):=wrap64 (by unfold gL;omega) (by unfold gL;omega)
      dsimp only
      rw[w1]
      refine en_br (fun h1=> ?_) (fun h1=> ?_)
      ·replace h1:=of_decide_eq_true h1
       refine en_br (fun h2=> ?_) (fun h2=> ?_)
       ·replace h2:=of_decide_eq_true h2
        have ho:Sp.own S.pg (n/64)=some (j,v):=Sp.own_of hw hkp ⟨by omega,by omega⟩
        rw[ho]
        refine MI.over .here ?_
        refine Tr.close tks (SpaceA.cl (p:=p) (pa:=pa) (pp:=pp) (ms:=ms) (ml:=ml) hS hL) ?_
        have w2:IntKind.wrap .i64 ((j:Int)*64)=(j:Int)*64:=wrap64 (by omega) (by omega)
        have w3:IntKind.wrap .i64 (gL v*64)=(v:Int)*64:=wrap64 (by unfold gL;omega) (by unfold gL;omega)
        rw[w2,w3]
        refine en_rets (x:=Sp.found (some (j*64,v*64))) ?_ ⟨rfl,rfl⟩ tks ens
        simp[Sp.found,RK.val,KD.val,LK.val,kvals]
       ·replace h2:=of_decide_eq_false h2
        exact hX (r1++r2).length _ _ (by rw[hr];simp) ⟨r1++r2,_,rfl,rfl,next (by omega)⟩
      ·replace h1:=of_decide_eq_false h1
       exact hX (r1++r2).length _ _ (by rw[hr];simp) ⟨r1++r2,_,rfl,rfl,next (by omega)⟩
end Go.Proofs.YtfepdmpplahloaaGreat
namespace Go.Proofs.YtfepdmpplahloaaGreat
open Go Go.Gl
variable{ρ0 ρ:FR}{L L':List Asn}{Post:Value→List Asn→Prop}{T:Tree}
def Pg.isS:Pg→Bool| .small _ _=>true|_=>false
def Sp.smallIx(pg:List Pg):List Nat:=(List.range pg.length).filter fun p=>(pg.getD p .free).isS
theorem Sp.mem_smallIx{pg:List Pg}{p:Nat}:p∈Sp.smallIx pg↔∃c l,pg[p]? =some (.small c l):=by
 unfold Sp.smallIx
 rw[List.mem_filter,List.mem_range]
 constructor
 ·rintro⟨h1,h2⟩
  rw[List.getD_eq_getElem?_getD,List.getElem?_eq_getElem h1]at h2
  rw[List.getElem?_eq_getElem h1]
  revert h2
  generalize pg[p]=x
  intro h2
  cases x with
  |small c l=>exact⟨c,l,rfl⟩
  |_=>cases h2
 ·rintro⟨c,l,h⟩
  exact⟨getElem?_lt h,by rw[List.getD_eq_getElem?_getD,h];rfl⟩
theorem Sp.smallIx_sorted(pg:List Pg):(Sp.smallIx pg).Pairwise (·<·):=List.Pairwise.filter _ List.pairwise_lt_range
theorem keys_perm{pg:List Pg}{ls:List (Int×Ent)}(hS:Smalls pg ls)(nS:(ls.map (·.1)).Nodup):(ls.map (·.1)).Perm ((Sp.smallIx pg).map fun p:Nat=>(p:Int)):=by
 rw[List.perm_ext_iff_of_nodup nS]
 ·intro i
  rw[List.mem_map,List.mem_map]
  constructor
  ·rintro⟨⟨i',q,c,l⟩,h1,rfl⟩
   obtain⟨h0,h2⟩:=(hS i' c l).mp ⟨q,h1⟩
   exact⟨i'.toNat,Sp.mem_smallIx.mpr ⟨c,l,h2⟩,by dsimp only;omega⟩
  ·rintro⟨p,hp,rfl⟩
   obtain⟨c,l,h⟩:=Sp.mem_smallIx.mp hp
   obtain⟨q,hq⟩:=(hS p c l).mpr ⟨by omega,by simpa using h⟩
   exact⟨_,hq,rfl⟩
 ·exact List.Pairwise.map (R:=(·<·)) (S:=(·≠·)) _ (fun a b h=>by omega) (Sp.smallIx_sorted pg)
theorem keys_sorted{pg:List Pg}{ls:List (Int×Ent)}(hS:Smalls pg ls)(nS:(ls.map (·.1)).Nodup):Sp.sort (ls.map (·.1))=(Sp.smallIx pg).map fun p:Nat=>(p:Int):=by
 rw[Sp.sort_perm (keys_perm hS nS)]
 exact Sp.sort_id (List.Pairwise.map (R:=(·<·)) (S:=(·≤·)) _ (fun a b h=>by omega) (Sp.smallIx_sorted pg))
theorem keys_len{pg:List Pg}{ls:List (Int×Ent)}(hS:Smalls pg ls)(nS:(ls.map (·.1)).Nodup):ls.length=(Sp.smallIx pg).length∧ls.length≤pg.length:=by
 have h:=(keys_perm hS nS).length_eq
 simp only[List.length_map]at h
 refine⟨h,?_⟩
 rw[h,Sp.smallIx]
 exact Nat.le_trans (List.length_filter_le _ _) (by simp)
def Sp.openQ(pg:List Pg)(c:Nat)(p:Nat):Bool:=match pg[p]? with |some (Pg.small c' l)=>c'==c&& !decide (l.count true=l.length)|_=>false
theorem Sp.openP_ix(pg:List Pg)(c:Nat):Sp.openP pg c=(Sp.smallIx pg).find? (Sp.openQ pg c):=by
 show _=((List.range pg.length).filter fun p=>(pg.getD p .free).isS).find? (Sp.openQ pg c)
 rw[List.find?_filter]
 unfold Sp.openP
 congr 1
 funext p
 change Sp.openQ pg c p=_
 cases h:Sp.openQ pg c p with
 |false=>simp
 |true=>
  have:(pg[p]?.getD .free).isS=true:=by
   unfold Sp.openQ at h
   split at h
   ·rename_i c' l hp;rw[hp];rfl
   ·cases h
  simp[this]
theorem sz_inj{c c':Nat}(h:c<5)(h':c'<5)(e:Sp.sz c=Sp.sz c'):c=c':=by
 have h1:=Sp.sz_cases h
 have h2:=Sp.sz_cases h'
 omega
theorem space_open(p:Nat)(S:Spc)(hw:Wf S)(c:Nat)(hc:c<5):Gl.Spec ρ Tryz.prog 225 [.pointer (some ⟨p,0,none⟩),i64 c] [SpaceA p S] IB
  fun r M=>r=(match Sp.openP S.pg c with |some i=>((i:Int),true,())|none=>((0:Int),false,()))∧M=[SpaceA p S]:=by
 have hmost:=hw.most
 refine Spec.of (fun Q w h=>F.space.Space.open.calls (some ⟨p,0,none⟩) c h) fun R=> ?_
 unfold F.space.Space.open
 try simp only[lca,lna]
 refine en_call (size_sizes) tks ?_
 rintro s M ⟨hs,rfl⟩
 try simp only[lca,lna]
 refine en_ixSL (s:=s) (xs:=Sp.sizes.map i64) tk (by omega) (by rw[hs];omega) fun a0 ha=> ?_
 refine en_ldSL (s:=s) (xs:=Sp.sizes.map i64) (j:=c) (x:=Sp.sizes.getD c 0) ha tk (by rintro b o rfl;simp[fa_mk]) (getD_map (by show _<5;omega)) ?_
 rw[Sp.sz_get hc]
 refine en_nn (SpaceA.op tk fun pa pp ms ml ls ll hS hL nS nL=> ?_)
 refine en_ld (k:= .map) (x:=some ms) (by rw[fa_mk]) tk rfl ?_
 refine en_call (maps_keys ms) tks ?_
 rintro x M ⟨B,rfl,rfl⟩
 try simp only[lca,lna]
 have hkl:=keys_len hS nS
 refine en_call (maps_sorted ms B fS ls (fun x hx=> ?_) (by omega)) tks ?_
 ·obtain⟨i,q,c',l⟩:=x
  obtain⟨h0,h1⟩:=(hS i c' l).mp ⟨q,hx⟩
  have:=getElem?_lt h1
  exact⟨h0,by dsimp only;omega⟩
 rintro r M ⟨hr,rfl⟩
 try simp only[lca,lna]
 rw[keys_sorted hS nS]
 refine Tr.keepSL (s:=r) tk fun ρ' hle hro=> ?_
 have hrn:r.n=(Sp.smallIx S.pg).length:=by rw[hr,hkl.1]
 have hix:(Sp.smallIx S.pg).length≤256:=by omega
 refine Tr.close tks (SpaceA.cl (p:=p) (pa:=pa) (pp:=pp) (ms:=ms) (ml:=ml) hS hL) ?_
 refine en_lp (fun n u M=>(fun j:Int=>M=SpaceA p S::SLc s 1 (Sp.sizes.map i64)::R∧
   0≤j∧j≤(Sp.smallIx S.pg).length∧n=(Sp.smallIx S.pg).length-j.toNat∧Sp.openP S.pg c=((Sp.smallIx S.pg).drop j.toNat).find? (Sp.openQ S.pg c)) u.1) (Sp.smallIx S.pg).length ?_ ?_
 ·exact⟨rfl,by simp,by simp,by simp,by simpa using Sp.openP_ix S.pg c⟩
 ·rintro n ⟨(j:Int),⟨⟩⟩ M ⟨rfl,h0,h1,rfl,hf⟩ X hX
  dsimp only at*
  refine en_br (fun h=> ?_) (fun h=> ?_)
  ·replace h:j<(r.n:Int):=of_decide_eq_true h
   rw[hrn]at h
   have hj:j.toNat<(Sp.smallIx S.pg).length:=by omega
   rw[drop_getD 0 hj]at hf
   obtain⟨k,hk⟩:∃k,(Sp.smallIx S.pg).getD j.toNat 0=k:=⟨_,rfl⟩
   rw[hk]at hf
   have hkm:k∈Sp.smallIx S.pg:=by
    rw[←hk,List.getD_eq_getElem?_getD,List.getElem?_eq_getElem hj];exact List.getElem_mem hj
   obtain⟨c',l,hpg⟩:=Sp.mem_smallIx.mp hkm
   obtain⟨hc',hll⟩:=hw.small _ _ _ hpg
   have hklt:=getElem?_lt hpg
   refine en_ixRo hro h0 (by rw[hrn];exact h) fun a0 ha=> ?_
   refine en_ldRo (j:=j.toNat) (x:=(k:Int)) ha hro (by rintro b o rfl;simp[fa_mk]) ?_ ?_
   ·rw[List.getD_eq_getElem?_getD,List.getElem?_eq_getElem hj]at hk
    simp only[Option.getD_some]at hk
    rw[List.getElem?_map,List.getElem?_map,List.getElem?_eq_getElem hj,hk];rfl
   clear hS hL nS nL hkl hr ls ll
   refine en_nn (SpaceA.op tk fun pa pp ms ml ls ll hS hL nS nL=> ?_)
   refine en_ld (k:= .map) (x:=some ms) (by rw[fa_mk]) tk rfl ?_
   refine en_lkp1 (kd:= .ptr) (g:=gS) (z0:=none) uMS uI zPg hgS tk ?_
   obtain⟨q,hq⟩:=hS.get nS hpg
   rw[hq]
   obtain⟨l1,l2,hl12,_,_⟩:=aget_split hq
   subst hl12
   refine Tr.mid (P:=PgA) tk ?_
   refine en_call (block_words q l (Sp.sz c')) (Takes.cons .here .nil) ?_
   rintro x M ⟨rfl,rfl⟩
   try simp only[lca,lna]
   have hz':=Sp.sz_cases hc'
   have hl32:l.length≤32:=by rw[hll];rcases hz' with ⟨_,e⟩|⟨_,e⟩|⟨_,e⟩|⟨_,e⟩|⟨_,e⟩<;>rw[e]<;>decide
   rw[List.find?_cons]at hf
   have hQ:Sp.openQ S.pg c k=(c'==c&& !decide (l.count true=l.length)):=by unfold Sp.openQ;rw[hpg]
   rw[hQ]at hf
   have w1:IntKind.wrap .i64 (j+1)=j+1:=wrap64 (by omega) (by omega)
   refine en_br (fun h2=> ?_) (fun h2=> ?_)
   ·replace h2:(Sp.sz c':Int)=Sp.sz c:=by simpa using h2
    have hcc:c'=c:=sz_inj hc' hc (by omega)
    refine en_call (block_full q l (Sp.sz c') hl32) (Takes.cons .here .nil) ?_
    rintro x M ⟨rfl,rfl⟩
    try simp only[lca,lna]
    refine Tr.close (M:=[PageA q l (Sp.sz c'),star ((l1++l2).map PgA)]) tks (pg_close (k:Int) (q:=q) (c:=c') (l:=l)) ?_
    refine en_br (fun h3=> ?_) (fun h3=> ?_)
    ·have h3:decide (l.count true=l.length)=false:=by simpa using h3
     rw[h3,hcc]at hf
     simp only[beq_self_eq_true,Bool.not_false,Bool.and_self]at hf
     rw[hf]
     refine Tr.close tks (SpaceA.cl (p:=p) (pa:=pa) (pp:=pp) (ms:=ms) (ml:=ml) hS hL) ?_
     exact en_rets (x:=((k:Int),true,())) rfl ⟨rfl,rfl⟩ tks ens
    ·have h3:decide (l.count true=l.length)=true:=by simpa using h3
     rw[h3]at hf
     simp only[Bool.not_true,Bool.and_false]at hf
     rw[w1]
     refine Tr.close tks (SpaceA.cl (p:=p) (pa:=pa) (pp:=pp) (ms:=ms) (ml:=ml) hS hL) ?_
     exact hX _ _ _ (by omega) ⟨rfl,by dsimp only;omega,by dsimp only;omega,rfl,by dsimp only;rw[hf,show(j+1).toNat=j.toNat+1 by omega]⟩
   ·replace h2:¬(Sp.sz c':Int)=Sp.sz c:=by simpa using h2
    have hcc:(c'==c)=false:=by rw[beq_eq_false_iff_ne];rintro rfl;exact h2 rfl
    rw[hcc]at hf
    simp only[Bool.false_and]at hf
    rw[w1]
    refine Tr.close (M:=[PageA q l (Sp.sz c'),star ((l1++l2).map PgA)]) tks (pg_close (k:Int) (q:=q) (c:=c') (l:=l)) ?_
    refine Tr.close tks (SpaceA.cl (p:=p) (pa:=pa) (pp:=pp) (ms:=ms) (ml:=ml) hS hL) ?_
    exact hX _ _ _ (by omega) ⟨rfl,by dsimp only;omega,by dsimp only;omega,rfl,by dsimp only;rw[hf,show(j+1).toNat=j.toNat+1 by omega]⟩
  ·replace h:¬j<(r.n:Int):=of_decide_eq_false h
   rw[List.drop_eq_nil_of_le (by omega)]at hf
   rw[hf]
   exact en_rets (x:=((0:Int),false,())) rfl ⟨rfl,rfl⟩ tks ens
end Go.Proofs.YtfepdmpplahloaaGreat
namespace Go.Proofs.YtfepdmpplahloaaGreat
open Go Go.Gl
variable{ρ0 ρ:FR}{L L':List Asn}{Post:Value→List Asn→Prop}{T:Tree}
theorem Sp.openP_is{pg:List Pg}{c p:Nat}(h:Sp.openP pg c=some p):∃l,pg[p]? =some (.small c l)∧l.count true≠l.length:=by
 have:=List.find?_some h
 change Sp.openQ pg c p=true at this
 unfold Sp.openQ at this
 split at this
 ·rename_i c' l hp
  simp at this
  exact⟨l,by rw[hp,this.1],by simpa using this.2⟩
 ·cases this
theorem bits_ext{a b:List Bool}(hl:a.length=b.length)(h:∀j,j<a.length→a.getD j false=b.getD j false):a=b:=by
 apply List.ext_getElem hl
 intro j h1 h2
 have:=h j h1
 rw[List.getD_eq_getElem?_getD,List.getD_eq_getElem?_getD,List.getElem?_eq_getElem h1,List.getElem?_eq_getElem h2]at this
 exact this
theorem taken_getD{pg:List Pg}{j:Nat}:(pg.map Pg.taken).getD j false=(pg.getD j .free).taken:=by
 rw[List.getD_eq_getElem?_getD,List.getD_eq_getElem?_getD,List.getElem?_map]
 cases pg[j]? <;>rfl
theorem run_free{pg:List Pg}{k i:Nat}(h:Sp.run (pg.map Pg.taken) k=some i):i+k≤pg.length∧∀j:Nat,i≤j→j<i+k→pg[j]? =some .free:=by
 obtain⟨h1,h2,_⟩:=Sp.run_is h
 rw[List.length_map]at h1
 refine⟨h1,fun j g1 g2=> ?_⟩
 have:=Sp.clearAt_iff.mp h2 j g1 g2
 rw[taken_getD,List.getD_eq_getElem?_getD]at this
 have hj:j<pg.length:=by omega
 rw[List.getElem?_eq_getElem hj]at this⊢
 simp only[Option.getD_some]at this
 revert this
 generalize pg[j]=x
 cases x<;>simp[Pg.taken]
theorem taken_set{pg:List Pg}{i:Nat}{x:Pg}(hi:i<pg.length):(pg.set i x).map Pg.taken=Sp.setR (pg.map Pg.taken) x.taken i 1:=by
 apply bits_ext
 ·rw[Sp.setR_len];simp
 ·intro j hj
  simp only[List.length_map,List.length_set]at hj
  rw[Sp.setR_get (by simpa using hj),taken_getD,taken_getD]
  by_cases hij:i=j
  ·subst hij
   rw[if_pos ⟨by omega,by omega⟩,List.getD_eq_getElem?_getD];simp[hi]
  ·rw[if_neg (by omega),List.getD_eq_getElem?_getD,List.getElem?_set_ne hij,List.getD_eq_getElem?_getD]
theorem putL_get{pg:List Pg}{i k j:Nat}:(Sp.putL pg i k)[j]? =if j<pg.length then some (if j=i then Pg.head k else if i<j∧j<i+k then .tail else pg.getD j .free)else none:=by
 unfold Sp.putL
 rw[List.getElem?_mapIdx]
 by_cases hj:j<pg.length
 ·rw[if_pos hj,List.getElem?_eq_getElem hj,List.getD_eq_getElem?_getD,List.getElem?_eq_getElem hj];rfl
 ·rw[if_neg hj,List.getElem?_eq_none (by omega)];rfl
theorem freeL_get{pg:List Pg}{i k j:Nat}:(Sp.freeL pg i k)[j]? =if j<pg.length then some (if i≤j∧j<i+k then Pg.free else pg.getD j .free)else none:=by
 unfold Sp.freeL
 rw[List.getElem?_mapIdx]
 by_cases hj:j<pg.length
 ·rw[if_pos hj,List.getElem?_eq_getElem hj,List.getD_eq_getElem?_getD,List.getElem?_eq_getElem hj];rfl
 ·rw[if_neg hj,List.getElem?_eq_none (by omega)];rfl
theorem putL_len{pg:List Pg}{i k:Nat}:(Sp.putL pg i k).length=pg.length:=by simp[Sp.putL]
theorem freeL_len{pg:List Pg}{i k:Nat}:(Sp.freeL pg i k).length=pg.length:=by simp[Sp.freeL]
theorem getD_of{pg:List Pg}{j:Nat}{x:Pg}(h:pg[j]? =some x):pg.getD j .free=x:=by rw[List.getD_eq_getElem?_getD,h];rfl
theorem of_getD{pg:List Pg}{j:Nat}(h:j<pg.length):pg[j]? =some (pg.getD j .free):=by rw[List.getD_eq_getElem?_getD,List.getElem?_eq_getElem h];rfl
theorem taken_putL{pg:List Pg}{i k:Nat}(hk:1≤k):(Sp.putL pg i k).map Pg.taken=Sp.setR (pg.map Pg.taken) true i k:=by
 apply bits_ext
 ·rw[Sp.setR_len];simp[Sp.putL]
 ·intro j hj
  have hj:j<pg.length:=by simpa[Sp.putL]using hj
  rw[Sp.setR_get (by simpa using hj),taken_getD,taken_getD]
  rw[List.getD_eq_getElem?_getD,putL_get,if_pos hj]
  by_cases h1:j=i
  ·subst h1;rw[if_pos rfl,if_pos ⟨by omega,by omega⟩];rfl
  ·rw[if_neg h1]
   by_cases h2:i<j∧j<i+k
   ·rw[if_pos h2,if_pos ⟨by omega,by omega⟩];rfl
   ·rw[if_neg h2,if_neg (by omega)];rfl
theorem taken_freeL{pg:List Pg}{i k:Nat}:(Sp.freeL pg i k).map Pg.taken=Sp.setR (pg.map Pg.taken) false i k:=by
 apply bits_ext
 ·rw[Sp.setR_len];simp[Sp.freeL]
 ·intro j hj
  have hj:j<pg.length:=by simpa[Sp.freeL]using hj
  rw[Sp.setR_get (by simpa using hj),taken_getD,taken_getD]
  rw[List.getD_eq_getElem?_getD,freeL_get,if_pos hj]
  by_cases h2:i≤j∧j<i+k
  ·rw[if_pos h2,if_pos h2];rfl
  ·rw[if_neg h2,if_neg h2];rfl
theorem heads_set{pg:List Pg}{i:Nat}{x:Pg}(h0:∀k,pg[i]? ≠some (.head k))(h1:∀k,x≠.head k)(j:Nat)(k:Nat):pg[j]? =some (.head k)↔(pg.set i x)[j]? =some (.head k):=by
 by_cases hij:i=j
 ·subst hij
  rw[List.getElem?_set]
  constructor
  ·intro h;exact absurd h (h0 k)
  ·intro h;simp at h;exact absurd h.2 (h1 k)
 ·rw[List.getElem?_set_ne hij]
theorem space_first(p:Nat)(S:Spc)(hw:Wf S)(c:Nat)(hc:c<5):Gl.Spec ρ Tryz.prog 217 [.pointer (some ⟨p,0,none⟩),i64 c] [SpaceA p S] P2
  fun r M=>(∃i,Sp.openP S.pg c=some i∧r=((i:Int),(0:Int),())∧M=[SpaceA p S])∨
   (∃i,Sp.openP S.pg c=none∧Sp.run (S.pg.map Pg.taken) 1=some i∧r=((i:Int),(0:Int),())∧M=[SpaceA p ⟨S.ws,S.pg.set i (.small c (List.replicate (64/Sp.sz c) false))⟩])∨
   (Sp.openP S.pg c=none∧Sp.run (S.pg.map Pg.taken) 1=none∧r=((0:Int),(3:Int),())∧M=[SpaceA p S]):=by
 have hmost:=hw.most
 refine Spec.of (fun Q w h=>F.space.Space.first.calls (some ⟨p,0,none⟩) c h) fun R=> ?_
 unfold F.space.Space.first
 try simp only[lca,lna]
 refine en_call (space_open p S hw c hc) tks ?_
 rintro x M ⟨rfl,rfl⟩
 try simp only[lca,lna]
 cases ho:Sp.openP S.pg c with
 |some i=>
  refine en_brt rfl ?_
  exact en_rets (x:=((i:Int),(0:Int),())) rfl (.inl ⟨i,rfl,rfl,rfl⟩) tks ens
 |none=>
  refine en_brf rfl (en_nn (SpaceA.op tk fun pa pp ms ml ls ll hS hL nS nL=> ?_))
  refine en_ld (k:= .ptr) (x:=some ⟨pp,0,none⟩) (by rw[fa_mk]) tk rfl ?_
  refine en_call (pages_take pp (S.pg.map Pg.taken) 1 (by omega) (by omega) (by simpa using hmost)) tks ?_
  rintro x M (⟨hr,rfl,rfl⟩|⟨i,hr,rfl,rfl⟩)
  ·try simp only[lca,lna]
   refine en_brt rfl ?_
   refine Tr.close tks (SpaceA.cl (p:=p) (pa:=pa) (pp:=pp) (ms:=ms) (ml:=ml) hS hL) ?_
   exact en_rets (x:=((0:Int),(3:Int),())) rfl (.inr (.inr ⟨by first |rfl|trivial,hr,rfl,rfl⟩)) tks ens
  ·try simp only[lca,lna]
   obtain⟨hi,hfree⟩:=run_free hr
   have hfi:=hfree i (by omega) (by omega)
   refine en_brf rfl ?_
   refine en_call (block_new c hc) tks ?_
   rintro x M ⟨q,rfl,rfl⟩
   try simp only[lca,lna]
   refine en_brf rfl (en_nn ?_)
   refine en_ld (k:= .map) (x:=some ms) (by rw[fa_mk]) tk rfl ?_
   refine en_upd (f:=fS) (a:=((q,c,List.replicate (64/Sp.sz c) false):Ent)) uMS uI rfl tk ?_
   have hnone:aget (i:Int) ls=none:=hS.none fun c' l' h=>by rw[hfi]at h;cases h
   have hset:=hS.set nS (p:=i) (c:=c) (q:=q) (l:=List.replicate (64/Sp.sz c) false) (by omega)
   rw[aset_new hnone]at hset⊢
   refine Tr.imp (A:=star (ls.map PgA)) (A':=star ((ls++([]:List (Int×Ent))).map PgA)) tk (by simp) ?_
   refine Tr.close (M:=[PageA q (List.replicate (64/Sp.sz c) false) (Sp.sz c),star ((ls++([]:List (Int×Ent))).map PgA)]) tks (pg_close (i:Int) (q:=q) (c:=c) (l:=List.replicate (64/Sp.sz c) false)) ?_
   rw[show Sp.setR (S.pg.map Pg.taken) true i 1=(S.pg.set i (.small c (List.replicate (64/Sp.sz c) false))).map Pg.taken from(taken_set (x:= .small c (List.replicate (64/Sp.sz c) false)) (by omega)).symm]
   have hL':Larges (S.pg.set i (.small c (List.replicate (64/Sp.sz c) false))) ll:=hL.same (heads_set (fun k h=>by rw[hfi]at h;cases h) (fun k h=>by cases h))
   refine Tr.close tks (SpaceA.cl (p:=p) (pa:=pa) (pp:=pp) (ms:=ms) (ml:=ml) (S:=⟨S.ws,S.pg.set i (.small c (List.replicate (64/Sp.sz c) false))⟩) hset hL') ?_
   exact en_rets (x:=((i:Int),(0:Int),())) rfl (.inr (.inl ⟨i,by first |rfl|trivial,hr,rfl,rfl⟩)) tks ens
end Go.Proofs.YtfepdmpplahloaaGreat
namespace Go.Proofs.YtfepdmpplahloaaGreat
open Go Go.Gl
variable{ρ0 ρ:FR}{L L':List Asn}{Post:Value→List Asn→Prop}{T:Tree}
theorem smalls_over{pg pg':List Pg}{i k:Nat}(hfree:∀j:Nat,i≤j→j<i+k→pg[j]? =some .free)(h1:∀j:Nat,¬(i≤j∧j<i+k)→pg'[j]? =pg[j]?)(h2:∀(j:Nat) c l,i≤j→j<i+k→pg'[j]? ≠some (.small c l))(j:Nat)(c:Nat)(l:List Bool):
  pg[j]? =some (.small c l)↔pg'[j]? =some (.small c l):=by
 by_cases hj:i≤j∧j<i+k
 ·rw[hfree j hj.1 hj.2]
  constructor
  ·intro h;cases h
  ·intro h;exact absurd h (h2 j c l hj.1 hj.2)
 ·rw[h1 j hj]
theorem putL_off{pg:List Pg}{i k j:Nat}(hk:1≤k)(hj:¬(i≤j∧j<i+k)):(Sp.putL pg i k)[j]? =pg[j]? :=by
 rw[putL_get]
 by_cases h:j<pg.length
 ·rw[if_pos h,if_neg (by omega),if_neg (by omega),of_getD h]
 ·rw[if_neg h,List.getElem?_eq_none (by omega)]
theorem freeL_off{pg:List Pg}{i k j:Nat}(hj:¬(i≤j∧j<i+k)):(Sp.freeL pg i k)[j]? =pg[j]? :=by
 rw[freeL_get]
 by_cases h:j<pg.length
 ·rw[if_pos h,if_neg hj,of_getD h]
 ·rw[if_neg h,List.getElem?_eq_none (by omega)]
theorem next_of_count{l:List Bool}(h:l.count true≠l.length):∃k:Nat,Sp.next l 0 false=k∧k<l.length∧l.getD k false=false:=by
 rcases Sp.next_spec l false 0 with ⟨g1,g2⟩|⟨k,g1,g2,g3,g4,g5⟩
 ·exfalso
  apply h
  rw[List.count_eq_length]
  intro b hb
  obtain⟨j,hj,e⟩:=List.getElem_of_mem hb
  have:=g2 j (by omega) hj
  rw[List.getD_eq_getElem?_getD,List.getElem?_eq_getElem hj,Option.getD_some,e]at this
  cases b with
  |true=>rfl
  |false=>exact absurd rfl this
 ·exact⟨k,by simpa using g1,g3,g4⟩
theorem next_rep{n:Nat}(h:0<n):∃k:Nat,Sp.next (List.replicate n false) 0 false=k∧k<(List.replicate n false).length∧(List.replicate n false).getD k false=false:=by
 apply next_of_count
 simp[List.count_replicate];omega
theorem Sp.pgs_pos{w:Int}(hb:Sp.blk w≠0)(hc:Sp.cls w<0):1≤Sp.pgs w∧Sp.pgs w≤16∧Sp.blk w=Sp.pgs w*64:=by
 have h:=hb
 unfold Sp.blk at h⊢
 rw[if_neg (by omega)]at h⊢
 have:Sp.pgs w≠0:=fun e=>h (by rw[e];rfl)
 unfold Sp.pgs at this⊢
 split at this
 ·exact absurd rfl this
 ·rename_i hn
  rw[if_neg hn]
  omega
theorem space_place(p:Nat)(S:Spc)(hw:Wf S)(w:Int)(hb:Sp.blk w≠0):Gl.Spec ρ Tryz.prog 195 [.pointer (some ⟨p,0,none⟩),i64 w] [SpaceA p S] P2
  fun r M=>r=((Sp.place S.pg w).1,(Sp.place S.pg w).2.1,())∧M=[SpaceA p ⟨S.ws,(Sp.place S.pg w).2.2⟩]:=by
 have hmost:=hw.most
 refine Spec.of (fun Q w' h=>F.space.Space.place.calls (some ⟨p,0,none⟩) w h) fun R=> ?_
 unfold F.space.Space.place
 try simp only[lca,lna]
 refine en_call (size_class w) tks ?_
 rintro x M ⟨rfl,rfl⟩
 try simp only[lca,lna]
 refine en_br (fun h=> ?_) (fun h=> ?_)
 ·replace h:Sp.cls w<0:=of_decide_eq_true h
  obtain⟨k1,k2,_⟩:=Sp.pgs_pos hb h
  refine en_call (size_pages w) tks ?_
  rintro x M ⟨rfl,rfl⟩
  try simp only[lca,lna]
  obtain⟨k,hk⟩:∃k:Nat,Sp.pgs w=k:=⟨(Sp.pgs w).toNat,by omega⟩
  have hpl:Sp.place S.pg w=(match Sp.run (S.pg.map Pg.taken) k with |some p=>(((p*64:Nat):Int),0,Sp.putL S.pg p k)|none=>(0,3,S.pg)):=by
   unfold Sp.place;(rw[if_pos h,hk,Int.toNat_natCast]<;>rfl)
  rw[hk]
  refine en_nn (SpaceA.op tk fun pa pp ms ml ls ll hS hL nS nL=> ?_)
  refine en_ld (k:= .ptr) (x:=some ⟨pp,0,none⟩) (by rw[fa_mk]) tk rfl ?_
  refine en_call (pages_take pp (S.pg.map Pg.taken) k (by omega) (by omega) (by simpa using hmost)) tks ?_
  rintro x M (⟨hr,rfl,rfl⟩|⟨i,hr,rfl,rfl⟩)
  ·try simp only[lca,lna]
   rw[hr]at hpl
   rw[hpl]
   refine en_brt rfl ?_
   refine Tr.close tks (SpaceA.cl (p:=p) (pa:=pa) (pp:=pp) (ms:=ms) (ml:=ml) (S:=⟨S.ws,S.pg⟩) hS hL) ?_
   exact en_rets (x:=((0:Int),(3:Int),())) rfl ⟨rfl,rfl⟩ tks ens
  ·try simp only[lca,lna]
   rw[hr]at hpl
   dsimp only at hpl
   rw[hpl]
   obtain⟨hi,hfree⟩:=run_free hr
   refine en_brf rfl (en_nn ?_)
   refine en_ld (k:= .map) (x:=some ml) (by rw[fa_mk]) tk rfl ?_
   refine en_upd (f:=fL) (a:=k) uML uI rfl tk ?_
   have hS':Smalls (Sp.putL S.pg i k) ls:=hS.same (smalls_over hfree (fun j hj=>putL_off (by omega) hj) (fun j c l g1 g2 h=>by
    rw[putL_get]at h
    split at h
    ·split at h
     ·cases h
     ·split at h
      ·cases h
      ·omega
    ·cases h))
   have hL':Larges (Sp.putL S.pg i k) (aset (i:Int) k ll):=hL.set nL (by rw[putL_get,if_pos (by omega),if_pos rfl]) (fun j k' hj=>by
    by_cases hjr:i≤j∧j<i+k
    ·rw[hfree j hjr.1 hjr.2,putL_get,if_pos (by omega),if_neg hj,if_pos ⟨by omega,by omega⟩]
     constructor<;>intro h<;>cases h
    ·rw[putL_off (by omega) hjr])
   rw[←taken_putL (by omega)]
   refine Tr.close tks (SpaceA.cl (p:=p) (pa:=pa) (pp:=pp) (ms:=ms) (ml:=ml) (S:=⟨S.ws,Sp.putL S.pg i k⟩) hS' hL') ?_
   rw[wrap64 (by omega) (by omega)]
   refine en_rets (x:=(((i*64:Nat):Int),(0:Int),())) ?_ ⟨rfl,rfl⟩ tks ens
   simp[RK.val,KD.val,LK.val,kvals]
 ·replace h:¬Sp.cls w<0:=of_decide_eq_false h
  have hcc:=Sp.cls_cases w
  obtain⟨c,hc⟩:∃c:Nat,Sp.cls w=c:=⟨(Sp.cls w).toNat,by omega⟩
  have hc5:c<5:=by omega
  have hz:=Sp.sz_cases hc5
  rw[hc]
  refine en_call (space_first p S hw c hc5) tks ?_
  intro x M hx
  have key:(x=((0:Int),(3:Int),())∧M=[SpaceA p S]∧Sp.place S.pg w=(0,3,S.pg))∨
    ∃(i:Nat) (l:List Bool) (S1:Spc) (k:Nat),x=((i:Int),(0:Int),())∧M=[SpaceA p S1]∧S1.pg[i]? =some (.small c l)∧S1.ws=S.ws∧i<S.pg.length∧l.length≤32∧l.length=64/Sp.sz c∧Sp.next l 0 false=k∧k<l.length∧
     S1.pg.length=S.pg.length∧(∀y,S1.pg.set i y=S.pg.set i y)∧Sp.place S.pg w=Sp.placeS S.pg i c l:=by
   have h32:64/Sp.sz c≤32∧0<64/Sp.sz c:=by rcases hz with ⟨_,e⟩|⟨_,e⟩|⟨_,e⟩|⟨_,e⟩|⟨_,e⟩<;>rw[e]<;>decide
   have hpl:Sp.place S.pg w=(match Sp.openP S.pg c with
    |some p=>Sp.placeS S.pg p c (Sp.blocks S.pg p)
    |none=>(match Sp.run (S.pg.map Pg.taken) 1 with
     |some p=>Sp.placeS S.pg p c (List.replicate (64/Sp.sz c) false)
     |none=>(0,3,S.pg))):=by unfold Sp.place;(rw[if_neg h,hc,Int.toNat_natCast]<;>rfl)
   rcases hx with ⟨i,ho,rfl,rfl⟩|⟨i,ho,hr,rfl,rfl⟩|⟨ho,hr,rfl,rfl⟩
   ·obtain⟨l,hp,hcnt⟩:=Sp.openP_is ho
    obtain⟨k,g1,g2,_⟩:=next_of_count hcnt
    have hll:=(hw.small _ _ _ hp).2
    refine .inr ⟨i,l,S,k,rfl,rfl,hp,rfl,getElem?_lt hp,by omega,hll,g1,g2,rfl,fun _=>rfl,?_⟩
    rw[hpl,ho]
    dsimp only
    congr 1
    unfold Sp.blocks
    rw[hp]
   ·obtain⟨hi,_⟩:=run_free hr
    obtain⟨k,g1,g2,_⟩:=next_rep (n:=64/Sp.sz c) h32.2
    refine .inr ⟨i,List.replicate (64/Sp.sz c) false,_,k,rfl,rfl,?_,rfl,by omega,by simpa using h32.1,by simp,g1,g2,by simp,fun y=>by simp,?_⟩
    ·show(S.pg.set i _)[i]? =_
     rw[List.getElem?_set,if_pos rfl,if_pos (by omega)]
    ·rw[hpl,ho,hr]
   ·exact .inl ⟨rfl,rfl,by rw[hpl,ho,hr]⟩
  rcases key with ⟨rfl,rfl,hpl⟩|⟨i,l,S1,k,rfl,rfl,hp,hws,hi,hl32,hll,g1,g2,hsl,hset,hpl⟩
  ·try simp only[lca,lna]
   rw[hpl]
   refine en_brt rfl ?_
   exact en_rets (x:=((0:Int),(3:Int),())) rfl ⟨rfl,rfl⟩ tks ens
  ·try simp only[lca,lna]
   rw[hpl]
   refine en_brf rfl (en_nn (SpaceA.op tk fun pa pp ms ml ls ll hS hL nS nL=> ?_))
   refine en_ld (k:= .map) (x:=some ms) (by rw[fa_mk]) tk rfl ?_
   refine en_lkp1 (kd:= .ptr) (g:=gS) (z0:=none) uMS uI zPg hgS tk ?_
   obtain⟨q,hq⟩:=hS.get nS hp
   rw[hq]
   have hS2:=hS.set nS (p:=i) (c:=c) (q:=q) (l:=l.set k true) (getElem?_lt hp)
   obtain⟨l1,l2,hl12,has,_⟩:=aget_split hq
   rw[has]at hS2
   subst hl12
   refine Tr.mid (P:=PgA) tk ?_
   refine en_call (block_take q l (Sp.sz c) hl32) (Takes.cons .here .nil) ?_
   rintro x M (⟨e1,_⟩|⟨k',e1,e2,rfl,rfl⟩)
   ·rw[g1]at e1;omega
   try simp only[lca,lna]
   have hkk:k'=k:=by rw[g1]at e1;omega
   subst hkk
   refine en_brf rfl (en_nn ?_)
   refine Tr.close (M:=[PageA q (l.set k' true) (Sp.sz c),star ((l1++l2).map PgA)]) tks (pg_close (i:Int) (q:=q) (c:=c) (l:=l.set k' true)) ?_
   refine Tr.imp (A:=IM ms fS (l1++((i:Int),q,c,l)::l2)) (A':=IM ms fS (l1++((i:Int),q,c,l.set k' true)::l2)) tk (IM.ghost (by simp[fS])) ?_
   refine en_ld (k:= .map) (x:=some ms) (by rw[fa_mk]) tk rfl ?_
   refine Tr.keys (b:=ms) (f:=fS) (l:=l1++((i:Int),q,c,l.set k' true)::l2) tk fun nS2=> ?_
   refine en_lkp1 (kd:= .ptr) (g:=gS) (z0:=none) (l:=l1++((i:Int),q,c,l.set k' true)::l2) uMS uI zPg hgS tk ?_
   have hq2:aget (i:Int) (l1++((i:Int),q,c,l.set k' true)::l2)=some (q,c,l.set k' true):=(aget_mem nS2).mpr (by simp)
   rw[hq2]
   refine Tr.mid (P:=PgA) tk ?_
   refine en_call (block_words q (l.set k' true) (Sp.sz c)) (Takes.cons .here .nil) ?_
   rintro x M ⟨rfl,rfl⟩
   try simp only[lca,lna]
   refine Tr.close (M:=[PageA q (l.set k' true) (Sp.sz c),star ((l1++l2).map PgA)]) tks (pg_close (i:Int) (q:=q) (c:=c) (l:=l.set k' true)) ?_
   have hL2:Larges (S1.pg.set i (.small c (l.set k' true))) ll:=hL.same (heads_set (fun k h=>by rw[hp]at h;cases h) (fun k h=>by cases h))
   rw[hset]at hS2 hL2
   have htk:S1.pg.map Pg.taken=(S.pg.set i (.small c (l.set k' true))).map Pg.taken:=by
    rw[←hset]
    apply List.ext_getElem?
    intro j
    rw[List.getElem?_map,List.getElem?_map,List.getElem?_set]
    by_cases hij:i=j
    ·subst hij;rw[hp,if_pos rfl,if_pos (getElem?_lt hp)];rfl
    ·rw[if_neg hij]
   rw[htk,hws]
   have epl:(Sp.placeS S.pg i c l).2.2=S.pg.set i (.small c (l.set k' true)):=by unfold Sp.placeS;rw[g1,Int.toNat_natCast]
   rw[epl]
   refine Tr.close tks (SpaceA.cl (p:=p) (pa:=pa) (pp:=pp) (ms:=ms) (ml:=ml) (S:=⟨S.ws,S.pg.set i (.small c (l.set k' true))⟩) hS2 hL2) ?_
   have e1:(k':Int)*(Sp.sz c:Int)=((k'*Sp.sz c:Nat):Int):=by simp
   have hb64:k'*Sp.sz c<64:=by
    have:k'<64/Sp.sz c:=by omega
    exact(Nat.lt_div_iff_mul_lt (by omega)).mp this|>fun h=>by omega
   rw[e1]
   have epl1:(Sp.placeS S.pg i c l).1=((i*64+k'*Sp.sz c:Nat):Int):=by unfold Sp.placeS;rw[g1,Int.toNat_natCast]
   generalize k'*Sp.sz c=dd at hb64 epl1⊢
   rw[wrap64 (n:=(dd:Int)) (by omega) (by omega),wrap64 (n:=(i:Int)*64) (by omega) (by omega),wrap64 (by omega) (by omega)]
   refine en_rets (x:=(((i*64+dd:Nat):Int),(0:Int),())) ?_ ⟨?_,rfl⟩ tks ens
   ·simp[RK.val,KD.val,LK.val,kvals]
   ·rw[epl1];rfl
end Go.Proofs.YtfepdmpplahloaaGreat
